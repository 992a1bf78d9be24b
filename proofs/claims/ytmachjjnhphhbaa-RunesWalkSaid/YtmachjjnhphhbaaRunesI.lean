/- The walks of RunesRound, RunesParts, RunesOrder, RunesClips. -/
import Derived.Test.YtmachjjnhphhbaaRunesH
import Derived.Lib.SmallJoins
import Derived.StillTailTactics
namespace Go.Proofs.Ytmachjjnhphhbaa
open Go.RowKit

set_option maxRecDepth 100000 in
set_option maxHeartbeats 1000000 in
theorem walkRunesParts (a b : ByteArray) (n : Int) (wa : a.size ≤ maxLen) (_ : a.size ≤ 140737488351232) (wb : b.size ≤ maxLen) (_ : b.size ≤ 140737488351232) (_ : (Lit.int .i64 n).wf = true) (w : World) : Calls Try.prog 9 #[.string a, .string b, .int .i64 n] w fun e w' => e = .returned (.bool true) ∧ Below w.heap.size w w' := by
  have Wa := Lib.hid wa; clear wa
  have Wb := Lib.hid wb; clear wb
  have hV : validL a.data.toList = true → validL b.data.toList = true → validL (a.data.toList ++ b.data.toList) = true := fun h1 h2 => valid_append _ h2 _ _ (Nat.le_refl _) h1
  have hC : validL a.data.toList = true → 0 ≤ n → n ≤ (a.size : Int) → validL (List.take n.toNat a.data.toList) = bndB a.data.toList n ∧ validL (List.take (a.size - n.toNat) (List.drop n.toNat a.data.toList)) = bndB a.data.toList n := fun h1 h2 h3 => by
    have hl : a.data.toList.length = a.size := by simp
    have h := valid_cut _ _ (Nat.le_refl _) h1 n.toNat (by omega)
    rw [show ((n.toNat : Nat) : Int) = n from by omega] at h
    rw [List.take_of_length_le (l := List.drop n.toNat a.data.toList) (by rw [List.length_drop]; omega)]
    exact h
  have HV := Lib.hid hV; clear hV
  have HC := Lib.hid hC; clear hC
  go_enter Try.func9, Try.ntmps9
  go_wp2_with (first | (go_at_call 13; refine (valid_any _ _).mono ?_; rintro e w1 ⟨rfl, rfl⟩) | (go_at_call 17; refine (boundary_any _ _ _).mono ?_; rintro e w3 ⟨rfl, rfl⟩) | (go_at_call 12; refine (known_any _).mono ?_; rintro e w4 ⟨rfl, hb4⟩))
  all_goals first
    | (go_ret; exact ⟨rfl, hb4⟩)
    | (exfalso; have h1 := HV.out (by assumption) (by assumption); simp_all; done)
    | (exfalso; have h1 := HC.out (by assumption) (by omega) (by omega); simp_all; done)


theorem encE_rune {a : Int} (h : encE a = 0) : runeB a = true := by
  unfold encE at h
  cases hr : runeB a with
  | true => rfl
  | false => rw [hr] at h; cases h

set_option maxRecDepth 100000 in
set_option maxHeartbeats 1000000 in
theorem walkRunesOrder (a b : Int) (_ : (Lit.int .i64 a).wf = true) (_ : (Lit.int .i64 b).wf = true) (w : World) : Calls Try.prog 10 #[.int .i64 a, .int .i64 b] w fun e w' => e = .returned (.bool true) ∧ Below w.heap.size w w' := by
  by_cases ho : encE a = 0 ∧ encE b = 0 ∧ a ≠ b
  · obtain ⟨ha, hb, hab⟩ := ho
    have ra := encE_rune ha
    have rb := encE_rune hb
    have hl1 := encL_len a
    have hl2 := encL_len b
    have hn : ∀ n : Nat, (n = (encL a).length ∧ (encL a).length ≤ (encL b).length) ∨ (n = (encL b).length ∧ (encL b).length ≤ (encL a).length) → (((ByteArray.mk (encL a).toArray).extract 0 n).toList == ((ByteArray.mk (encL b).toArray).extract 0 n).toList) = false := fun n h => by
      have := enc_prefix ra rb hab (n := n) (by omega)
      rw [Lib.extract_toList, Lib.extract_toList]
      simpa using this
    have hLs : decide (a < b) = Op.bytesLess (encL a) (encL b) := by
      rcases Int.lt_or_gt_of_ne hab with h | h
      · rw [enc_less ra rb h]; simpa using h
      · rw [less_asymm _ _ (enc_less rb ra h)]; simp; omega
    have hL : (decide (a < b) == Op.bytesLess (encL a) (encL b)) = true := by rw [hLs]; simp
    have Hn := Lib.hid hn
    clear hn hl1 hl2 ra rb
    have hab' : (a == b) = false := by simpa using hab
    clear hab hLs
    go_enter Try.func10, Try.ntmps10
    go_wp2_with fail
    refine (encode_any _ _).mono ?_
    rw [ha]
    rintro e w1 ⟨rfl, hb1⟩
    go_wp2_with fail
    refine (encode_any _ _).mono ?_
    rw [hb]
    rintro e w2 ⟨rfl, hb2⟩
    go_wp2_with fail
    · have hq := Hn.out (encL b).length (by omega)
      have h1 : (encL b).length ≤ (encL a).length := by omega
      have h2 : (encL b).length ≤ (encL b).length := by omega
      clear h
      go_still_tail 16, (by kernel_rfl)
      obtain ⟨w3, hw3, hB3⟩ : ∃ w3, w3 = w2.drew ∧ Below w2.heap.size w2 w3 := ⟨_, rfl, (Below.refl _ _).drew⟩
      change wpList _ _ _ _ _ w2.drew
      rw [← hw3]
      clear hw3
      go_wp2_with (go_at_call 12; refine (known_any _).mono ?_; rintro e w4 ⟨rfl, hb4⟩)
      go_ret
      exact ⟨rfl, ((hb1.trans (hb2.mono hb1.size)).trans (hB3.mono (Nat.le_trans hb1.size hb2.size))).trans (hb4.mono (Nat.le_trans (Nat.le_trans hb1.size hb2.size) hB3.size))⟩
    · have hq := Hn.out (encL a).length (by omega)
      have h1 : (encL a).length ≤ (encL a).length := by omega
      have h2 : (encL a).length ≤ (encL b).length := by omega
      clear h
      go_still_tail 16, (by kernel_rfl)
      obtain ⟨w3, hw3, hB3⟩ : ∃ w3, w3 = w2.drew ∧ Below w2.heap.size w2 w3 := ⟨_, rfl, (Below.refl _ _).drew⟩
      change wpList _ _ _ _ _ w2.drew
      rw [← hw3]
      clear hw3
      go_wp2_with (go_at_call 12; refine (known_any _).mono ?_; rintro e w4 ⟨rfl, hb4⟩)
      go_ret
      exact ⟨rfl, ((hb1.trans (hb2.mono hb1.size)).trans (hB3.mono (Nat.le_trans hb1.size hb2.size))).trans (hb4.mono (Nat.le_trans (Nat.le_trans hb1.size hb2.size) hB3.size))⟩
  · have ho' : a = b → encL a = encL b := fun h => by rw [h]
    have Ho := Lib.hid ho; clear ho
    have Ho' := Lib.hid ho'; clear ho'
    go_enter Try.func10, Try.ntmps10
    go_wp2_with fail
    refine (encode_any _ _).mono ?_
    rintro e w1 ⟨rfl, hb1⟩
    go_wp2_with fail
    refine (encode_any _ _).mono ?_
    rintro e w2 ⟨rfl, hb2⟩
    by_cases hab : a = b
    · subst hab
      have hz : (a == a) = true := by simp
      go_wp2_with (go_at_call 12; refine (known_any _).mono ?_; rintro e w4 ⟨rfl, hb4⟩)
      all_goals
        go_ret
        exact ⟨rfl, (hb1.trans (hb2.mono hb1.size)).trans (hb4.mono (Nat.le_trans hb1.size hb2.size))⟩
    · have hz : (a == b) = false := by simpa using hab
      have hz' : (a != b) = true := by simpa using hab
      by_cases ha : encE a = 0
      · have hb : (encE b != 0) = true := by
          have h3 : encE b ≠ 0 := fun h => Ho.out ⟨ha, h, hab⟩
          simpa using h3
        have ha : (encE a != 0) = false := by simpa using ha
        go_wp2_with (go_at_call 12; refine (known_any _).mono ?_; rintro e w4 ⟨rfl, hb4⟩)
        go_ret
        exact ⟨rfl, (hb1.trans (hb2.mono hb1.size)).trans (hb4.mono (Nat.le_trans hb1.size hb2.size))⟩
      · have ha : (encE a != 0) = true := by simpa using ha
        go_wp2_with (go_at_call 12; refine (known_any _).mono ?_; rintro e w4 ⟨rfl, hb4⟩)
        go_ret
        exact ⟨rfl, (hb1.trans (hb2.mono hb1.size)).trans (hb4.mono (Nat.le_trans hb1.size hb2.size))⟩

theorem enc_u (r : Int) (w : World) {u : ByteArray} (h : encL r = u.data.toList) (h2 : encE r = 0) : Calls Try.prog 21 #[.int .i64 r] w fun e w' => e = .returned (.tuple #[.string u, .int .i64 0]) ∧ Below w.heap.size w w' :=
  (encode_any r w).mono fun e w' ⟨he, hw⟩ => ⟨by rw [he, h, h2], hw⟩
set_option maxRecDepth 100000 in
set_option maxHeartbeats 2000000 in
theorem walkRunesRound (r : Int) (t s : ByteArray) (_ : (Lit.int .i64 r).wf = true) (_ : t.size ≤ maxLen) (_ : t.size ≤ 140737488351232) (_ : s.size ≤ maxLen) (_ : s.size ≤ 140737488351232) (w : World) : Calls Try.prog 7 #[.int .i64 r, .string t, .string s] w fun e w' => e = .returned (.bool true) ∧ Below w.heap.size w w' := by
  by_cases h1 : encE r = 0
  · have hr := encE_rune h1
    have hlen := encL_len r
    have hbd := len_bd hr
    obtain ⟨hb1, hb4⟩ := hbd
    have hd : decL ((ByteArray.mk (encL r).toArray ++ t).data.toList) = (r, lenB r, 0) := by
      rw [Joins.data_append]
      exact dec_enc hr _
    have hv := valid_enc hr
    have Hd := Lib.hid hd; clear hd
    have Hv := Lib.hid hv; clear hv
    have hfit : ¬ 9223372036854775807 < (encL r).length + t.size := by omega
    clear hr
    by_cases h2 : (decL s.data.toList).2.2 = 0
    · obtain ⟨r2, n2, hd2⟩ : ∃ r2 n2, decL s.data.toList = (r2, n2, 0) := ⟨_, _, by rw [← h2]⟩
      have hbk := dec_back hd2
      have hl : s.data.toList.length = s.size := by simp
      rw [hl] at hbk
      obtain ⟨he2, he3, hn1, hn2, _⟩ := hbk
      have he4 : encL r2 = (s.extract 0 n2.toNat).data.toList := by rw [Lib.extract_data, List.drop_zero, Nat.sub_zero]; exact he2
      have He2 := Lib.hid (And.intro he4 he3)
      have Hd2 := Lib.hid hd2
      clear he2 he3 he4 hd2 h2 hl
      go_enter Try.func7, Try.ntmps7
      go_wp2_with fail
      refine (encode_any _ _).mono ?_
      rw [h1]
      rintro e w1 ⟨rfl, hw1⟩
      go_wp2_with fail
      refine (dec_k _ _ Hd.out).mono ?_
      rintro e w2 ⟨rfl, rfl⟩
      go_wp2_with fail
      refine (valid_k _ _ Hv.out).mono ?_
      rintro e w2 ⟨rfl, rfl⟩
      go_wp2_with fail
      refine (dec_k _ _ Hd2.out).mono ?_
      rintro e w2 ⟨rfl, rfl⟩
      go_wp2_with fail
      refine (enc_u _ _ He2.out.1 He2.out.2).mono ?_
      rintro e w3 ⟨rfl, hw3⟩
      go_wp2_with (go_at_call 12; refine (known_any _).mono ?_; rintro e w4 ⟨rfl, hb4⟩)
      go_ret
      exact ⟨rfl, (hw1.trans (hw3.mono hw1.size)).trans (hb4.mono (Nat.le_trans hw1.size hw3.size))⟩
    · have h3 : ((decL s.data.toList).2.2 == 0) = false := by simpa using h2
      clear h2
      go_enter Try.func7, Try.ntmps7
      go_wp2_with fail
      refine (encode_any _ _).mono ?_
      rw [h1]
      rintro e w1 ⟨rfl, hw1⟩
      go_wp2_with fail
      refine (dec_k _ _ Hd.out).mono ?_
      rintro e w2 ⟨rfl, rfl⟩
      go_wp2_with fail
      refine (valid_k _ _ Hv.out).mono ?_
      rintro e w2 ⟨rfl, rfl⟩
      go_wp2_with fail
      refine (decode_any _ _).mono ?_
      rintro e w2 ⟨rfl, rfl⟩
      go_wp2_with (go_at_call 12; refine (known_any _).mono ?_; rintro e w4 ⟨rfl, hb4⟩)
      go_ret
      exact ⟨rfl, hw1.trans (hb4.mono hw1.size)⟩
  · have h1' : (encE r == 0) = false := by simpa using h1
    clear h1
    by_cases h2 : (decL s.data.toList).2.2 = 0
    · obtain ⟨r2, n2, hd2⟩ : ∃ r2 n2, decL s.data.toList = (r2, n2, 0) := ⟨_, _, by rw [← h2]⟩
      have hbk := dec_back hd2
      have hl : s.data.toList.length = s.size := by simp
      rw [hl] at hbk
      obtain ⟨he2, he3, hn1, hn2, _⟩ := hbk
      have he4 : encL r2 = (s.extract 0 n2.toNat).data.toList := by rw [Lib.extract_data, List.drop_zero, Nat.sub_zero]; exact he2
      have He2 := Lib.hid (And.intro he4 he3)
      have Hd2 := Lib.hid hd2
      clear he2 he3 he4 hd2 h2 hl
      go_enter Try.func7, Try.ntmps7
      go_wp2_with fail
      refine (encode_any _ _).mono ?_
      rintro e w1 ⟨rfl, hw1⟩
      go_wp2_with fail
      refine (dec_k _ _ Hd2.out).mono ?_
      rintro e w2 ⟨rfl, rfl⟩
      go_wp2_with fail
      refine (enc_u _ _ He2.out.1 He2.out.2).mono ?_
      rintro e w3 ⟨rfl, hw3⟩
      go_wp2_with (go_at_call 12; refine (known_any _).mono ?_; rintro e w4 ⟨rfl, hb4⟩)
      go_ret
      exact ⟨rfl, (hw1.trans (hw3.mono hw1.size)).trans (hb4.mono (Nat.le_trans hw1.size hw3.size))⟩
    · have h3 : ((decL s.data.toList).2.2 == 0) = false := by simpa using h2
      clear h2
      go_enter Try.func7, Try.ntmps7
      go_wp2_with fail
      refine (encode_any _ _).mono ?_
      rintro e w1 ⟨rfl, hw1⟩
      go_wp2_with fail
      refine (decode_any _ _).mono ?_
      rintro e w2 ⟨rfl, rfl⟩
      go_wp2_with (go_at_call 12; refine (known_any _).mono ?_; rintro e w4 ⟨rfl, hb4⟩)
      go_ret
      exact ⟨rfl, hw1.trans (hb4.mono hw1.size)⟩

theorem clip_u (s : ByteArray) (n : Int) (w : World) {u : ByteArray} (hs : s.size ≤ 140737488355328) (h : clipL s.data.toList n = u.data.toList) : Calls Try.prog 27 #[.string s, .int .i64 n] w fun e w' => e = .returned (.string u) ∧ Below w.heap.size w w' :=
  (clip_any s n w hs).mono fun e w' ⟨he, hw⟩ => ⟨by rw [he, h], hw⟩
set_option maxRecDepth 100000 in
set_option maxHeartbeats 1000000 in
theorem walkRunesClips (s : ByteArray) (n : Int) (_ : s.size ≤ maxLen) (_ : s.size ≤ 140737488351232) (_ : (Lit.int .i64 n).wf = true) (w : World) : Calls Try.prog 11 #[.string s, .int .i64 n] w fun e w' => e = .returned (.bool true) ∧ Below w.heap.size w w' := by
  by_cases hlong : (4096 : Int) < s.size
  · go_enter Try.func11, Try.ntmps11
    go_wp2_with (go_at_call 12; refine (known_any _).mono ?_; rintro e w2 ⟨rfl, hb2⟩)
    go_ret
    exact ⟨rfl, hb2⟩
  · have hshort : s.size ≤ 4096 := by omega
    clear hlong
    obtain ⟨c, hc, f1, f2, f3, f4⟩ := clip_spec s.data.toList n
    have hl : s.data.toList.length = s.size := by simp
    rw [hl] at f1 f4
    have g1 : decide ((s.size : Int) < c.length) = false := by simp; omega
    have g2 : ((ByteArray.mk c.toArray).toList == (s.extract 0 c.length).toList) = true := by
      rw [Lib.extract_toList, List.drop_zero, Nat.sub_zero, ← f2, Lib.toList_data]; simp
    have g3 : (c == List.take c.length s.data.toList) = true := by rw [← f2]; simp
    have Hc := Lib.hid hc; clear hc
    clear f2 hl
    rcases f3 with f3 | ⟨f3, f5, f6⟩
    · obtain rfl : c = [] := List.eq_nil_of_length_eq_zero f3
      simp only [List.length_nil] at f4 g1
      have H4 := Lib.hid f4; clear f4 f1 g2 g3 f3
      go_enter Try.func11, Try.ntmps11
      go_wp2_with fail
      refine (clip_k _ _ _ (by omega) Hc.out).mono ?_
      rintro e w1 ⟨rfl, hb1⟩
      go_wp2
      go_loopw [6] (fun i wr => ∃ k : Nat, i = .int .i64 k ∧ 0 < k ∧ k ≤ s.size + 1 ∧ Below w.heap.size w wr) (fun i wr => s.size + 1 - (intOf i).toNat)
      case atStart => exact ⟨1, int_eq (by omega), by omega, by omega, hb1⟩
      case round =>
        obtain ⟨k, rfl, hk0, hk, hB⟩ := hrel
        by_cases hlt : k ≤ s.size
        · by_cases hkn : (k : Int) ≤ n
          · have hbk := H4.out k (by omega) (by omega) hkn
            go_wp2_with (go_at_call 17; refine (boundary_any _ _ _).mono ?_; rintro e w2 ⟨rfl, rfl⟩)
            go_roundw
            case rel => exact ⟨k + 1, by go_num, by omega, by omega, hB⟩
            case measure => simp [intOf]; omega
          · have hd : decide ((k : Int) ≤ n) = false := by simpa using hkn
            go_wp2_with (go_at_call 12; refine (known_any _).mono ?_; rintro e w2 ⟨rfl, hb2⟩)
            go_ret
            exact ⟨rfl, hB.trans (hb2.mono hB.size)⟩
        · go_wp2_with (go_at_call 12; refine (known_any _).mono ?_; rintro e w2 ⟨rfl, hb2⟩)
          go_ret
          exact ⟨rfl, hB.trans (hb2.mono hB.size)⟩
    · obtain ⟨u, hu⟩ : ∃ u : ByteArray, ByteArray.mk c.toArray = u := ⟨_, rfl⟩
      have hcu : clipL s.data.toList n = u.data.toList := by rw [Hc.out, ← hu]
      have hsz : c.length = u.size := by rw [← hu]; rfl
      rw [hu, hsz] at g2
      rw [hsz] at f1 f3 f4 f5 f6
      have H4 := Lib.hid f4
      have Hcu := Lib.hid hcu
      have d1 : decide (s.size < u.size) = false := by simp; omega
      have d2 : decide ((0 : Int) < u.size) = true := by simp; omega
      have d3 : decide (n < (u.size : Int)) = false := by simp; omega
      clear f4 hcu hsz hu g1 g3 Hc
      go_enter Try.func11, Try.ntmps11
      go_wp2_with fail
      refine (clip_u _ _ _ (by omega) Hcu.out).mono ?_
      rintro e w1 ⟨rfl, hb1⟩
      go_wp2_with (go_at_call 17; refine (boundary_any _ _ _).mono ?_; rintro e w2 ⟨rfl, rfl⟩)
      go_loopw [6] (fun i wr => ∃ k : Nat, i = .int .i64 k ∧ u.size < k ∧ k ≤ s.size + 1 ∧ Below w.heap.size w wr) (fun i wr => s.size + 1 - (intOf i).toNat)
      case atStart => exact ⟨u.size + 1, int_eq (by omega), by omega, by omega, hb1⟩
      case round =>
        obtain ⟨k, rfl, hk0, hk, hB⟩ := hrel
        by_cases hlt : k ≤ s.size
        · by_cases hkn : (k : Int) ≤ n
          · have hbk := H4.out k (by omega) (by omega) hkn
            go_wp2_with (go_at_call 17; refine (boundary_any _ _ _).mono ?_; rintro e w2 ⟨rfl, rfl⟩)
            go_roundw
            case rel => exact ⟨k + 1, by go_num, by omega, by omega, hB⟩
            case measure => simp [intOf]; omega
          · have hd : decide ((k : Int) ≤ n) = false := by simpa using hkn
            go_wp2_with (go_at_call 12; refine (known_any _).mono ?_; rintro e w2 ⟨rfl, hb2⟩)
            go_ret
            exact ⟨rfl, hB.trans (hb2.mono hB.size)⟩
        · go_wp2_with (go_at_call 12; refine (known_any _).mono ?_; rintro e w2 ⟨rfl, hb2⟩)
          go_ret
          exact ⟨rfl, hB.trans (hb2.mono hB.size)⟩
end Go.Proofs.Ytmachjjnhphhbaa
