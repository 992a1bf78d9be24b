/- The walks of the laws that compare with the reference: RunesDecodes, RunesEncodes. -/
import Derived.Test.YtmachjjnhphhbaaRunesG
import Derived.Test.YtmachjjnhphhbaaRunesQ
namespace Go.Proofs.Ytmachjjnhphhbaa
open Go.RowKit

set_option maxRecDepth 100000 in
set_option maxHeartbeats 1000000 in
theorem walkRunesDecodes (s : ByteArray) (_ : s.size ≤ maxLen) (_ : s.size ≤ 140737488351232) (w : World) : Calls Try.prog 4 #[.string s] w fun e w' => e = .returned (.bool true) ∧ Below w.heap.size w w' := by
  go_enter Try.func4, Try.ntmps4
  go_wp2_with (first | (go_at_call 19; refine (decode_any _ _).mono ?_; rintro e w1 ⟨rfl, rfl⟩) | (go_at_call 20; refine (refDecode_any _ _).mono ?_; rintro e w1 ⟨rfl, hb1⟩) | (go_at_call 12; refine (known_any _).mono ?_; rintro e w2 ⟨rfl, hb2⟩))
  go_ret
  exact ⟨rfl, hb1.trans (hb2.mono hb1.size)⟩

set_option maxRecDepth 100000 in
set_option maxHeartbeats 1000000 in
theorem walkRunesEncodes (r : Int) (_ : (Lit.int .i64 r).wf = true) (w : World) : Calls Try.prog 5 #[.int .i64 r] w fun e w' => e = .returned (.bool true) ∧ Below w.heap.size w w' := by
  go_enter Try.func5, Try.ntmps5
  go_wp2_with (first | (go_at_call 21; refine (encode_any _ _).mono ?_; rintro e w1 ⟨rfl, hb0⟩) | (go_at_call 22; refine (refEncode_any _ _).mono ?_; rintro e w1 ⟨rfl, hb1⟩) | (go_at_call 12; refine (known_any _).mono ?_; rintro e w2 ⟨rfl, hb2⟩))
  go_ret
  exact ⟨rfl, (hb0.trans (hb1.mono hb0.size)).trans (hb2.mono (Nat.le_trans hb0.size hb1.size))⟩

set_option maxRecDepth 100000 in
set_option maxHeartbeats 1000000 in
theorem walkRunesChecks (s : ByteArray) (n : Int) (hs : s.size ≤ maxLen) (_ : s.size ≤ 140737488351232) (_ : (Lit.int .i64 n).wf = true) (w : World) : Calls Try.prog 3 #[.string s, .int .i64 n] w fun e w' => e = .returned (.bool true) ∧ Below w.heap.size w w' := by
  by_cases hlong : (4096 : Int) < s.size
  · go_enter Try.func3, Try.ntmps3
    go_wp2_with (go_at_call 12; refine (known_any _).mono ?_; rintro e w2 ⟨rfl, hb2⟩)
    go_ret
    exact ⟨rfl, hb2⟩
  · have hshort : s.size ≤ 4096 := by omega
    clear hlong
    have Hm := Lib.hid hs; clear hs
    go_enter Try.func3, Try.ntmps3
    go_wp2_with (first | (go_at_call 13; refine (valid_any _ _).mono ?_; rintro e w1 ⟨rfl, rfl⟩) | (go_at_call 14; refine (refValid_any _ _ Hm.out).mono ?_; rintro e w1 ⟨rfl, hb1⟩) | (go_at_call 15; refine (count_any _ _ Hm.out).mono ?_; rintro e w3 ⟨rfl, rfl⟩) | (go_at_call 16; refine (refCount_any _ _ Hm.out).mono ?_; rintro e w3 ⟨rfl, rfl⟩) | (go_at_call 17; refine (boundary_any _ _ _).mono ?_; rintro e w3 ⟨rfl, rfl⟩) | (go_at_call 18; refine (refBoundary_any _ _ _).mono ?_; rintro e w3 ⟨rfl, rfl⟩))
    go_loopw [5] (fun i wr => ∃ k : Nat, i = .int .i64 ((k : Int) - 1) ∧ k ≤ s.size + 3 ∧ Below w.heap.size w wr) (fun i wr => s.size + 3 - (intOf i + 1).toNat)
    case atStart => exact ⟨0, rfl, by omega, hb1⟩
    case round =>
      obtain ⟨k, rfl, hk, hB⟩ := hrel
      by_cases hlt : k < s.size + 3
      · go_wp2_with (first | (go_at_call 17; refine (boundary_any _ _ _).mono ?_; rintro e w3 ⟨rfl, rfl⟩) | (go_at_call 18; refine (refBoundary_any _ _ _).mono ?_; rintro e w3 ⟨rfl, rfl⟩))
        go_roundw
        case rel => exact ⟨k + 1, int_eq (by omega), by omega, hB⟩
        case measure => simp [intOf]; omega
      · go_wp2_with (go_at_call 12; refine (known_any _).mono ?_; rintro e w2 ⟨rfl, hb2⟩)
        go_ret
        exact ⟨rfl, hB.trans (hb2.mono hB.size)⟩

set_option maxRecDepth 100000 in
set_option maxHeartbeats 1000000 in
theorem walkRunesSteps (s : ByteArray) (n : Int) (_ : s.size ≤ maxLen) (_ : s.size ≤ 140737488351232) (wn : (Lit.int .i64 n).wf = true) (w : World) : Calls Try.prog 6 #[.string s, .int .i64 n] w fun e w' => e = .returned (.bool true) ∧ Below w.heap.size w w' := by
  by_cases hlong : (4096 : Int) < s.size
  · go_enter Try.func6, Try.ntmps6
    go_wp2_with (go_at_call 12; refine (known_any _).mono ?_; rintro e w2 ⟨rfl, hb2⟩)
    go_ret
    exact ⟨rfl, hb2⟩
  · have hshort : s.size ≤ 4096 := by omega
    clear hlong
    have hn : n ≤ 9223372036854775807 := by simp [Lit.wf] at wn; omega
    have Hn := Lib.hid hn; clear hn
    go_enter Try.func6, Try.ntmps6
    go_wp2_with (first | (go_at_call 23; refine (next_any _ _ _ (by omega)).mono ?_; rintro e w1 ⟨rfl, hb1⟩) | (go_at_call 24; refine (refNext_any _ _ _ (by omega)).mono ?_; rintro e wx ⟨rfl, rfl⟩) | (go_at_call 25; refine (prev_any _ _ _ (by omega) Hn.out).mono ?_; rintro e w2 ⟨rfl, hb2⟩) | (go_at_call 26; refine (refPrev_any _ _ _ (by omega)).mono ?_; rintro e wx ⟨rfl, rfl⟩) | (go_at_call 27; refine (clip_any _ _ _ (by omega)).mono ?_; rintro e w3 ⟨rfl, hb3⟩) | (go_at_call 28; refine (refClip_any _ _ _ (by omega)).mono ?_; rintro e wx ⟨rfl, rfl⟩) | (go_at_call 12; refine (known_any _).mono ?_; rintro e w4 ⟨rfl, hb4⟩))
    go_ret
    exact ⟨rfl, ((hb1.trans (hb2.mono hb1.size)).trans (hb3.mono (Nat.le_trans hb1.size hb2.size))).trans (hb4.mono (Nat.le_trans (Nat.le_trans hb1.size hb2.size) hb3.size))⟩
end Go.Proofs.Ytmachjjnhphhbaa
