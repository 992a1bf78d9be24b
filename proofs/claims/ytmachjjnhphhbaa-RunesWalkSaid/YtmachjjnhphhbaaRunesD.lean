/- The loops of runes and of its reference: Valid, Count, and Next, Prev, Clip of the reference. -/
import Derived.Test.YtmachjjnhphhbaaRunesC
namespace Go.Proofs.Ytmachjjnhphhbaa
open Go.RowKit

theorem ne_nil_of_pos {s : ByteArray} (h : 0 < s.size) : s.data.toList ≠ [] := by
  intro h2
  have h3 : s.data.toList.length = s.size := by simp
  rw [h2, List.length_nil] at h3
  omega
theorem int_eq {k : IntKind} {a b : Int} (h : a = b) : Value.int k a = .int k b := by rw [h]
theorem isEmpty_data (s : ByteArray) : s.toList.isEmpty = s.data.toList.isEmpty := by rw [Lib.toList_data]

set_option maxHeartbeats 1000000 in
theorem valid_any (s : ByteArray) (w : World) : Calls Try.prog 13 #[.string s] w fun e w' => e = .returned (.bool (validL s.data.toList)) ∧ w = w' := by
  go_enter Try.func13, Try.ntmps13
  go_wp2
  go_loop [0, 3, 4, 5] (fun t r n e => ∃ u : ByteArray, t = .string u ∧ validL u.data.toList = validL s.data.toList) (fun t r n e => match t with | .string u => u.size | _ => 0)
  case atStart => exact ⟨s, rfl, rfl⟩
  case round =>
    obtain ⟨u, rfl, hv⟩ := hrel
    have Hv := Lib.hid hv; clear hv
    by_cases hne : u.toList.isEmpty = true
    · have h1 : (!u.toList.isEmpty) = false := by simp [hne]
      go_wp2
      go_ret
      exact ⟨ret_bool (by rw [← Hv.out, size_zero_of hne]; rfl), rfl⟩
    · have hne : u.toList.isEmpty = false := by simpa using hne
      have hpos := size_pos_of_ne hne
      have hstep := validL_step (l := u.data.toList) (ne_nil_of_pos hpos)
      have Hs := Lib.hid hstep; clear hstep
      by_cases hd : (decL u.data.toList).2.2 = 0
      · have hp := dec_pos hd
        have hl : u.data.toList.length = u.size := by simp
        rw [hl] at hp
        obtain ⟨hp1, hp2⟩ := hp
        have hd' : ((decL u.data.toList).2.2 != 0) = false := by simp [hd]
        have Hd := Lib.hid hd; clear hd
        clear hl
        go_wp2_with (go_at_call 19; refine (decode_any _ _).mono ?_; rintro e w' ⟨rfl, rfl⟩)
        go_round
        case rel => exact ⟨_, rfl, by rw [Lib.extract_to_end, ← Hv.out, Hs.out, if_pos Hd.out]⟩
        case measure => simp; omega
      · have hd' : ((decL u.data.toList).2.2 != 0) = true := by simp [hd]
        have Hd := Lib.hid hd; clear hd
        go_wp2_with (go_at_call 19; refine (decode_any _ _).mono ?_; rintro e w' ⟨rfl, rfl⟩)
        go_ret
        exact ⟨ret_bool (by rw [← Hv.out, Hs.out, if_neg Hd.out]), rfl⟩

set_option maxHeartbeats 1000000 in
theorem refValid_any (s : ByteArray) (w : World) (hs : s.size ≤ maxLen) : Calls Try.prog 14 #[.string s] w fun e w' => e = .returned (.bool (validL s.data.toList)) ∧ Below w.heap.size w w' := by
  unfold maxLen at hs
  go_enter Try.func14, Try.ntmps14
  go_wp2
  go_loopw [3, 4, 5, 6] (fun t r n e wr => ∃ k : Nat, t = .int .i64 k ∧ k ≤ s.size ∧ validL (s.data.toList.drop k) = validL s.data.toList ∧ Below w.heap.size w wr) (fun t r n e wr => s.size - (intOf t).toNat)
  case atStart => exact ⟨0, rfl, by omega, rfl, Below.refl _ _⟩
  case round =>
    obtain ⟨k, rfl, hk, hv, hB⟩ := hrel
    have Hv := Lib.hid hv; clear hv
    have hl : s.data.toList.length = s.size := by simp
    have Hl := Lib.hid hl; clear hl
    by_cases hlt : k < s.size
    · have hstep := validL_step (l := s.data.toList.drop k) (by intro h; have h3 := congrArg List.length h; simp at h3; omega)
      have Hs := Lib.hid hstep; clear hstep
      have he : (s.extract k s.size).data.toList = s.data.toList.drop k := Lib.extract_to_end s k
      have He := Lib.hid he; clear he
      by_cases hd : (decL (s.data.toList.drop k)).2.2 = 0
      · have hp := dec_pos hd
        rw [List.length_drop, Hl.out] at hp
        obtain ⟨hp1, hp2⟩ := hp
        have hd' : ((decL (s.data.toList.drop k)).2.2 != 0) = false := by simp [hd]
        have Hd := Lib.hid hd; clear hd
        go_wp2_with (go_at_call 20; refine (refDecode_any _ _).mono ?_; rw [He.out]; rintro e w' ⟨rfl, hb'⟩)
        go_roundw
        case rel => exact ⟨k + (decL (s.data.toList.drop k)).2.1.toNat, int_eq (by omega), by omega, by rw [← List.drop_drop, ← Hv.out, Hs.out, if_pos Hd.out], hB.trans (hb'.mono hB.size)⟩
        case measure => simp [intOf]; omega
      · have hd' : ((decL (s.data.toList.drop k)).2.2 != 0) = true := by simp [hd]
        have Hd := Lib.hid hd; clear hd
        go_wp2_with (go_at_call 20; refine (refDecode_any _ _).mono ?_; rw [He.out]; rintro e w' ⟨rfl, hb'⟩)
        go_ret
        exact ⟨ret_bool (by rw [← Hv.out, Hs.out, if_neg Hd.out]), hB.trans (hb'.mono hB.size)⟩
    · go_wp2
      go_ret
      exact ⟨ret_bool (by rw [← Hv.out, List.drop_of_length_le (by rw [Hl.out]; omega)]; rfl), hB⟩

set_option maxHeartbeats 1000000 in
theorem count_any (s : ByteArray) (w : World) (hs : s.size ≤ maxLen) : Calls Try.prog 15 #[.string s] w fun e w' => e = .returned (.int .i64 (cntL s.data.toList)) ∧ w = w' := by
  unfold maxLen at hs
  go_enter Try.func15, Try.ntmps15
  go_wp2
  go_loop [3, 4, 7] (fun n u i => ∃ k : Nat, i = .int .i64 k ∧ k ≤ s.size ∧ n = .int .i64 (cntL (s.data.toList.take k))) (fun n u i => s.size - (intOf i).toNat)
  case atStart => exact ⟨0, rfl, by omega, rfl⟩
  case round =>
    obtain ⟨k, rfl, hk, rfl⟩ := hrel
    have hl : s.data.toList.length = s.size := by simp
    have Hl := Lib.hid hl; clear hl
    have hcl := cnt_le (s.data.toList.take k)
    have hcl2 : (s.data.toList.take k).length ≤ k := List.length_take_le _ _
    by_cases hlt : k < s.size
    · have hsn := cnt_snoc s.data.toList k (by rw [Hl.out]; exact hlt)
      have Hs := Lib.hid hsn; clear hsn
      have hb := byt_mk s k hlt
      go_wp2_with (go_at_call 29; refine (continues_any _ _).mono ?_; rintro e w' ⟨rfl, rfl⟩)
      all_goals
        go_round
        case rel => exact ⟨k + 1, by go_num, by omega, by rw [Hs.out]; simp_all⟩
        case measure => simp [intOf]; omega
    · go_wp2
      go_ret
      exact ⟨ret_int (by rw [List.take_of_length_le (by rw [Hl.out]; omega)]), rfl⟩

set_option maxHeartbeats 1000000 in
theorem refCount_any (s : ByteArray) (w : World) (hs : s.size ≤ maxLen) : Calls Try.prog 16 #[.string s] w fun e w' => e = .returned (.int .i64 (cntL s.data.toList)) ∧ w = w' := by
  unfold maxLen at hs
  go_enter Try.func16, Try.ntmps16
  go_wp2
  go_loop [3, 4] (fun n i => ∃ k : Nat, i = .int .i64 k ∧ k ≤ s.size ∧ n = .int .i64 (cntL (s.data.toList.take k))) (fun n i => s.size - (intOf i).toNat)
  case atStart => exact ⟨0, rfl, by omega, rfl⟩
  case round =>
    obtain ⟨k, rfl, hk, rfl⟩ := hrel
    have hl : s.data.toList.length = s.size := by simp
    have Hl := Lib.hid hl; clear hl
    have hcl := cnt_le (s.data.toList.take k)
    have hcl2 : (s.data.toList.take k).length ≤ k := List.length_take_le _ _
    by_cases hlt : k < s.size
    · have hsn := cnt_snoc s.data.toList k (by rw [Hl.out]; exact hlt)
      have Hs := Lib.hid hsn; clear hsn
      have hb := byt_mk s k hlt
      go_wp2_with (go_at_call 30; refine (refCont_any _ _).mono ?_; rintro e w' ⟨rfl, rfl⟩)
      all_goals
        go_round
        case rel => exact ⟨k + 1, by go_num, by omega, by rw [Hs.out]; simp_all⟩
        case measure => simp [intOf]; omega
    · go_wp2
      go_ret
      exact ⟨ret_int (by rw [List.take_of_length_le (by rw [Hl.out]; omega)]), rfl⟩

theorem ret_str {u : ByteArray} {l : List UInt8} (h : u.data.toList = l) : Ending.returned (.string u) = .returned (.string ⟨l.toArray⟩) := by
  subst h; rfl
theorem upF_step (l : List UInt8) (f : Nat) (n : Int) (h : 0 < f) : upF l f n = if bndB l n then (n, true) else upF l (f - 1) (n + 1) := by
  cases f with
  | zero => omega
  | succ f => rfl
theorem ret_two {a b : Int} {x y : Bool} (h : (a, x) = (b, y)) : Ending.returned (.tuple #[.int .i64 a, .bool x]) = .returned (.tuple #[.int .i64 b, .bool y]) := by
  injection h with h1 h2; rw [h1, h2]

set_option maxHeartbeats 1000000 in
theorem refNext_any (s : ByteArray) (n : Int) (w : World) (hs : s.size ≤ 140737488355328) : Calls Try.prog 24 #[.string s, .int .i64 n] w fun e w' => e = .returned (.tuple #[.int .i64 (nextL s.data.toList n).1, .bool (nextL s.data.toList n).2]) ∧ w = w' := by
  go_enter Try.func24, Try.ntmps24
  go_wp2
  go_loop [6] (fun i => ∃ k : Nat, i = .int .i64 k ∧ k ≤ s.size + 1 ∧ nextL s.data.toList n = upF s.data.toList (s.size + 1 - max k (max n (-1) + 1).toNat) (max (k : Int) (max n (-1) + 1))) (fun i => s.size + 1 - (intOf i).toNat)
  case atStart => exact ⟨0, rfl, by omega, by unfold nextL; simp; congr 1 <;> omega⟩
  case round =>
    obtain ⟨k, rfl, hk, hv⟩ := hrel
    have Hv := Lib.hid hv; clear hv
    by_cases hlt : k ≤ s.size
    · by_cases hn : n < k
      · have hst : nextL s.data.toList n = if bndB s.data.toList k then ((k : Int), true) else upF s.data.toList (s.size + 1 - (k + 1)) ((k : Int) + 1) := by
          rw [Hv.out, show s.size + 1 - max k (max n (-1) + 1).toNat = s.size - k + 1 from by omega, show max (k : Int) (max n (-1) + 1) = k from by omega, show s.size + 1 - (k + 1) = s.size - k from by omega]
          rfl
        have Hst := Lib.hid hst; clear hst
        by_cases hb : bndB s.data.toList k = true
        · go_wp2_with (go_at_call 18; refine (refBoundary_any _ _ _).mono ?_; rintro e w' ⟨rfl, rfl⟩)
          go_ret2
          exact ⟨ret_two (by rw [Hst.out, if_pos hb]), rfl⟩
        · have hb : bndB s.data.toList k = false := by simpa using hb
          go_wp2_with (go_at_call 18; refine (refBoundary_any _ _ _).mono ?_; rintro e w' ⟨rfl, rfl⟩)
          go_round
          case rel => exact ⟨k + 1, by go_num, by omega, by rw [Hst.out, if_neg (by simp [hb])]; congr 1 <;> omega⟩
          case measure => simp [intOf]; omega
      · have hd : decide (n < (k : Int)) = false := by simpa using hn
        go_wp2_with (go_at_call 18; refine (refBoundary_any _ _ _).mono ?_; rintro e w' ⟨rfl, rfl⟩)
        go_round
        case rel => exact ⟨k + 1, by go_num, by omega, by rw [Hv.out]; congr 1 <;> omega⟩
        case measure => simp [intOf]; omega
    · go_wp2
      go_ret2
      exact ⟨ret_two (by rw [Hv.out, show s.size + 1 - max k (max n (-1) + 1).toNat = 0 from by omega]; rfl), rfl⟩

set_option maxHeartbeats 1000000 in
theorem refPrev_any (s : ByteArray) (n : Int) (w : World) (hs : s.size ≤ 140737488355328) : Calls Try.prog 26 #[.string s, .int .i64 n] w fun e w' => e = .returned (.tuple #[.int .i64 (prevL s.data.toList n).1, .bool (prevL s.data.toList n).2]) ∧ w = w' := by
  go_enter Try.func26, Try.ntmps26
  go_wp2
  go_loop [6] (fun i => ∃ k : Nat, i = .int .i64 ((k : Int) - 1) ∧ k ≤ s.size + 1 ∧ prevL s.data.toList n = dnF s.data.toList (min n k).toNat) (fun i => (intOf i + 1).toNat)
  case atStart => exact ⟨s.size + 1, int_eq (by omega), by omega, by unfold prevL; simp⟩
  case round =>
    obtain ⟨k, rfl, hk, hv⟩ := hrel
    have Hv := Lib.hid hv; clear hv
    cases k with
    | zero =>
      go_wp2
      go_ret2
      exact ⟨ret_two (by rw [Hv.out, show (min n ((0 : Nat) : Int)).toNat = 0 from by omega]; rfl), rfl⟩
    | succ k =>
      rw [show ((k + 1 : Nat) : Int) - 1 = (k : Int) from by omega]
      by_cases hn : (k : Int) < n
      · have hst : prevL s.data.toList n = if bndB s.data.toList k then ((k : Int), true) else dnF s.data.toList k := by
          rw [Hv.out, show (min n ((k + 1 : Nat) : Int)).toNat = k + 1 from by omega]
          rfl
        have Hst := Lib.hid hst; clear hst
        by_cases hb : bndB s.data.toList k = true
        · go_wp2_with (go_at_call 18; refine (refBoundary_any _ _ _).mono ?_; rintro e w' ⟨rfl, rfl⟩)
          go_ret2
          exact ⟨ret_two (by rw [Hst.out, if_pos hb]), rfl⟩
        · have hb : bndB s.data.toList k = false := by simpa using hb
          go_wp2_with (go_at_call 18; refine (refBoundary_any _ _ _).mono ?_; rintro e w' ⟨rfl, rfl⟩)
          go_round
          case rel => exact ⟨k, rfl, by omega, by rw [Hst.out, if_neg (by simp [hb])]; congr 1; omega⟩
          case measure => simp [intOf]
      · have hd : decide ((k : Int) < n) = false := by simpa using hn
        go_wp2_with (go_at_call 18; refine (refBoundary_any _ _ _).mono ?_; rintro e w' ⟨rfl, rfl⟩)
        go_round
        case rel => exact ⟨k, rfl, by omega, by rw [Hv.out]; congr 1; omega⟩
        case measure => simp [intOf]

set_option maxHeartbeats 1000000 in
theorem refClip_any (s : ByteArray) (n : Int) (w : World) (hs : s.size ≤ 140737488355328) : Calls Try.prog 28 #[.string s, .int .i64 n] w fun e w' => e = .returned (.string ⟨(clipL s.data.toList n).toArray⟩) ∧ w = w' := by
  go_enter Try.func28, Try.ntmps28
  go_wp2
  go_loop [5, 6] (fun b i => ∃ k : Nat, i = .int .i64 k ∧ k ≤ s.size + 1 ∧ b = .int .i64 (dnF s.data.toList (min (n + 1) k).toNat).1) (fun b i => s.size + 1 - (intOf i).toNat)
  case atStart => exact ⟨0, rfl, by omega, by rw [show (min (n + 1) ((0 : Nat) : Int)).toNat = 0 from by omega]; rfl⟩
  case round =>
    obtain ⟨k, rfl, hk, rfl⟩ := hrel
    by_cases hlt : k ≤ s.size
    · by_cases hn : (k : Int) ≤ n
      · have hst : dnF s.data.toList (min (n + 1) ((k + 1 : Nat) : Int)).toNat = if bndB s.data.toList k then ((k : Int), true) else dnF s.data.toList (min (n + 1) (k : Int)).toNat := by
          rw [show (min (n + 1) ((k + 1 : Nat) : Int)).toNat = k + 1 from by omega, show (min (n + 1) (k : Int)).toNat = k from by omega]
          rfl
        have Hst := Lib.hid hst; clear hst
        by_cases hb : bndB s.data.toList k = true
        · go_wp2_with (go_at_call 18; refine (refBoundary_any _ _ _).mono ?_; rintro e w' ⟨rfl, rfl⟩)
          go_round
          case rel => exact ⟨k + 1, by go_num, by omega, by rw [Hst.out, if_pos hb]⟩
          case measure => simp [intOf]; omega
        · have hb : bndB s.data.toList k = false := by simpa using hb
          go_wp2_with (go_at_call 18; refine (refBoundary_any _ _ _).mono ?_; rintro e w' ⟨rfl, rfl⟩)
          go_round
          case rel => exact ⟨k + 1, by go_num, by omega, by rw [Hst.out, if_neg (by simp [hb])]⟩
          case measure => simp [intOf]; omega
      · have hd : decide ((k : Int) ≤ n) = false := by simpa using hn
        go_wp2_with (go_at_call 18; refine (refBoundary_any _ _ _).mono ?_; rintro e w' ⟨rfl, rfl⟩)
        go_round
        case rel => exact ⟨k + 1, by go_num, by omega, by rw [show (min (n + 1) ((k + 1 : Nat) : Int)).toNat = (min (n + 1) (k : Int)).toNat from by omega]⟩
        case measure => simp [intOf]; omega
    · have hd := dnF_bd s.data.toList (min (n + 1) (k : Int)).toNat
      have hd2 := dnF_le s.data.toList (min (n + 1) (k : Int)).toNat
      go_wp2
      go_ret
      refine ⟨ret_str ?_, rfl⟩
      rw [Lib.extract_data, List.drop_zero, Nat.sub_zero]
      unfold clipL prevL
      have hl : s.data.toList.length = s.size := by simp
      have e : (min (n + 1) (k : Int)).toNat = (min (n + 1) ((s.data.toList.length : Int) + 1)).toNat := by omega
      rw [e]

end Go.Proofs.Ytmachjjnhphhbaa
