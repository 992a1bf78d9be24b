/- number of handle and of its reference; digits of the reference. -/
import Derived.Test.YtipljlejhdggnaaDoorHanA
import Derived.Test.YtipljlejhdggnaaDoorHanP
import Derived.Laws.IdiomStrings
namespace Go.Proofs.YtipljlejhdggnaaDoor
open Go.RowKit

theorem ret_num {a a' : Int} {b b' c c' : Bool} (h : a = a') (h2 : b = b') (h3 : c = c') : Ending.returned (.tuple #[.int .u64 a, .bool b, .bool c]) = .returned (.tuple #[.int .u64 a', .bool b', .bool c']) := by rw [h, h2, h3]
theorem int_eq {k : IntKind} {a b : Int} (h : a = b) : Value.int k a = .int k b := by rw [h]
def PRel (s : ByteArray) (v g i : Value) : Prop := ∃ k : Nat, i = .int .i64 k ∧ k ≤ s.size ∧ allD s.data.toList k = true ∧ v = .int .u64 (pvN s.data.toList k).1 ∧ g = .bool (pvN s.data.toList k).2

theorem empty_of {s : ByteArray} (h : s.size = 0) : s = ByteArray.empty := by
  apply ByteArray.ext; apply Array.toList_inj.1; apply List.eq_nil_of_length_eq_zero; simpa using h
theorem isEmpty_of_pos {s : ByteArray} (h : 0 < s.size) : s.toList.isEmpty = false := by
  rw [← decide_eq_emptyBytes]
  simp
  rintro rfl
  simp at h
/-- The four ways of a number's head. -/
theorem head_ways (s : ByteArray) : s.size = 0 ∨ (20 < s.size ∧ headB s.data.toList = false) ∨ (1 < s.size ∧ s.size ≤ 20 ∧ byt s.data.toList 0 = 48 ∧ headB s.data.toList = false) ∨ (1 ≤ s.size ∧ s.size ≤ 20 ∧ (s.size = 1 ∨ byt s.data.toList 0 ≠ 48) ∧ headB s.data.toList = true) := by
  have hl : s.data.toList.length = s.size := by simp
  have e : headB s.data.toList = decide (1 ≤ s.size ∧ s.size ≤ 20 ∧ (s.size = 1 ∨ byt s.data.toList 0 ≠ 48)) := by unfold headB; rw [hl]
  by_cases h0 : s.size = 0
  · exact .inl h0
  by_cases h1 : 20 < s.size
  · exact .inr (.inl ⟨h1, by rw [e, decide_eq_false_iff_not]; omega⟩)
  by_cases h2 : s.size = 1 ∨ byt s.data.toList 0 ≠ 48
  · exact .inr (.inr (.inr ⟨by omega, by omega, h2, by rw [e, decide_eq_true_iff]; exact ⟨by omega, by omega, h2⟩⟩))
  · exact .inr (.inr (.inl ⟨by omega, by omega, by omega, by rw [e, decide_eq_false_iff_not]; rintro ⟨_, _, h⟩; exact h2 h⟩))
theorem num_no {l : List UInt8} (h : headB l = false) : numOk l = false := by unfold numOk; rw [h]; rfl
theorem num_yes {l : List UInt8} {n : Nat} (hn : l.length = n) (h : headB l = true) (h2 : allD l n = true) : numOk l = true := by unfold numOk; rw [h, hn, h2]; rfl
theorem num_cut {l : List UInt8} {n k : Nat} (hn : l.length = n) (hk : k < n) (h : digB (byt l k) = false) : numOk l = false := by unfold numOk; rw [hn, allD_cut hk h]; simp

set_option maxHeartbeats 1000000 in
theorem number_any (s : ByteArray) (hs : s.size ≤ maxLen) (w : World) : Calls Tryd.prog 27 #[.string s] w fun e w' => e = .returned (.tuple #[.int .u64 (numV s.data.toList), .bool (numG s.data.toList), .bool (numOk s.data.toList)]) ∧ w = w' := by
  unfold maxLen at hs
  have hl : s.data.toList.length = s.size := by simp
  have Hl := Lib.hid hl; clear hl
  rcases head_ways s with h0 | ⟨h0, hh⟩ | ⟨h0, h1, h2, hh⟩ | ⟨h0, h1, h2, hh⟩
  · have := empty_of h0
    subst this
    clear h0 Hl hs
    go_enter Tryd.func27, Tryd.ntmps27
    go_wp2
    go_returns
    exact ⟨rfl, rfl⟩
  · have hne := isEmpty_of_pos (s := s) (by omega)
    have d1 : decide ((s.size : Int) < 1) = false := by simp; omega
    have Hh := Lib.hid (num_no hh); clear hh
    go_enter Tryd.func27, Tryd.ntmps27
    go_wp2
    go_returns
    exact ⟨ret_num (numV_no Hh.out) (numG_no Hh.out) Hh.out.symm, rfl⟩
  · have hne := isEmpty_of_pos (s := s) (by omega)
    have hb0 := byt_mk s 0 (by omega)
    have hb1 : (byt s.data.toList 0 == 48) = true := by simp [h2]
    have d1 : decide ((s.size : Int) < 1) = false := by simp; omega
    have d20 : decide ((20 : Int) < s.size) = false := by simp; omega
    have Hh := Lib.hid (num_no hh); clear hh h2
    go_enter Tryd.func27, Tryd.ntmps27
    go_wp2
    go_returns
    exact ⟨ret_num (numV_no Hh.out) (numG_no Hh.out) Hh.out.symm, rfl⟩
  · have hne := isEmpty_of_pos (s := s) (by omega)
    have hb0 := byt_mk s 0 (by omega)
    have d0 : decide ((s.size : Int) < 1) = false := by simp; omega
    have d20 : decide ((20 : Int) < s.size) = false := by simp; omega
    have Hh := Lib.hid hh; clear hh
    have h3 : s.size = 1 ∨ (1 < s.size ∧ (byt s.data.toList 0 == 48) = false) := by
      rcases h2 with h2 | h2
      · exact .inl h2
      · by_cases e : s.size = 1
        · exact .inl e
        · exact .inr ⟨by omega, by simpa using h2⟩
    clear h2
    rcases h3 with h3 | ⟨h3, h4⟩
    · have d1 : decide ((1 : Int) < s.size) = false := by simp; omega
      have H3 := Lib.hid h3; clear h3
      go_enter Tryd.func27, Tryd.ntmps27
      go_wp2
      go_loop [2, 3, 5] (fun v g i => PRel s v g i) (fun v g i => s.size - (intOf i).toNat)
      case atStart => exact ⟨0, rfl, by omega, rfl, rfl, rfl⟩
      case round =>
        obtain ⟨k, rfl, hk, hd, rfl, rfl⟩ := hrel
        have hbd := val_bd hd
        obtain ⟨_, b1, b2, _, _, _, _⟩ := hbd
        have Hd := Lib.hid hd; clear hd
        by_cases hlt : k < s.size
        · have hbk := byt_mk s k hlt
          have lo := byt_lo s.data.toList k
          have hi := byt_hi s.data.toList k
          cases hdg : digB (byt s.data.toList k) with
          | false =>
            have hx := digB_not hdg
            have Hdg := Lib.hid hdg; clear hdg
            rcases hx with hx | hx
            · go_wp2
              go_returns
              exact ⟨ret_num (numV_no (num_cut Hl.out hlt Hdg.out)) (numG_no (num_cut Hl.out hlt Hdg.out)) (num_cut Hl.out hlt Hdg.out).symm, rfl⟩
            · go_wp2
              go_returns
              exact ⟨ret_num (numV_no (num_cut Hl.out hlt Hdg.out)) (numG_no (num_cut Hl.out hlt Hdg.out)) (num_cut Hl.out hlt Hdg.out).symm, rfl⟩
          | true =>
            have hx := digB_of hdg
            obtain ⟨hx1, hx2⟩ := hx
            have Hdg := Lib.hid hdg; clear hdg
            by_cases hbig : 4294967295 < (pvN s.data.toList k).1
            · have hst : pvN s.data.toList (k + 1) = ((pvN s.data.toList k).1, true) := by show (if _ then _ else _) = _; rw [if_pos hbig]
              have Hst := Lib.hid hst; clear hst
              go_wp2
              go_round
              case rel => exact ⟨k + 1, by go_num, by omega, by show (_ && _) = true; rw [Hd.out, Hdg.out]; rfl, by rw [Hst.out], by rw [Hst.out]⟩
              case measure => simp [intOf]; omega
            · have hst : pvN s.data.toList (k + 1) = ((pvN s.data.toList k).1 * 10 + (byt s.data.toList k - 48), (pvN s.data.toList k).2) := by show (if _ then _ else _) = _; rw [if_neg hbig]
              have Hst := Lib.hid hst; clear hst
              go_wp2
              go_round
              case rel => exact ⟨k + 1, by go_num, by omega, by show (_ && _) = true; rw [Hd.out, Hdg.out]; rfl, by rw [Hst.out], by rw [Hst.out]⟩
              case measure => simp [intOf]; omega
        · obtain rfl : k = s.size := by omega
          go_wp2
          go_returns
          exact ⟨ret_num (numV_yes Hl.out (num_yes Hl.out Hh.out Hd.out)) (numG_yes Hl.out (num_yes Hl.out Hh.out Hd.out)) (num_yes Hl.out Hh.out Hd.out).symm, rfl⟩
    · have d1 : decide ((1 : Int) < s.size) = true := by simp; omega
      go_enter Tryd.func27, Tryd.ntmps27
      go_wp2
      go_loop [2, 3, 5] (fun v g i => PRel s v g i) (fun v g i => s.size - (intOf i).toNat)
      case atStart => exact ⟨0, rfl, by omega, rfl, rfl, rfl⟩
      case round =>
        obtain ⟨k, rfl, hk, hd, rfl, rfl⟩ := hrel
        have hbd := val_bd hd
        obtain ⟨_, b1, b2, _, _, _, _⟩ := hbd
        have Hd := Lib.hid hd; clear hd
        by_cases hlt : k < s.size
        · have hbk := byt_mk s k hlt
          have lo := byt_lo s.data.toList k
          have hi := byt_hi s.data.toList k
          cases hdg : digB (byt s.data.toList k) with
          | false =>
            have hx := digB_not hdg
            have Hdg := Lib.hid hdg; clear hdg
            rcases hx with hx | hx
            · go_wp2
              go_returns
              exact ⟨ret_num (numV_no (num_cut Hl.out hlt Hdg.out)) (numG_no (num_cut Hl.out hlt Hdg.out)) (num_cut Hl.out hlt Hdg.out).symm, rfl⟩
            · go_wp2
              go_returns
              exact ⟨ret_num (numV_no (num_cut Hl.out hlt Hdg.out)) (numG_no (num_cut Hl.out hlt Hdg.out)) (num_cut Hl.out hlt Hdg.out).symm, rfl⟩
          | true =>
            have hx := digB_of hdg
            obtain ⟨hx1, hx2⟩ := hx
            have Hdg := Lib.hid hdg; clear hdg
            by_cases hbig : 4294967295 < (pvN s.data.toList k).1
            · have hst : pvN s.data.toList (k + 1) = ((pvN s.data.toList k).1, true) := by show (if _ then _ else _) = _; rw [if_pos hbig]
              have Hst := Lib.hid hst; clear hst
              go_wp2
              go_round
              case rel => exact ⟨k + 1, by go_num, by omega, by show (_ && _) = true; rw [Hd.out, Hdg.out]; rfl, by rw [Hst.out], by rw [Hst.out]⟩
              case measure => simp [intOf]; omega
            · have hst : pvN s.data.toList (k + 1) = ((pvN s.data.toList k).1 * 10 + (byt s.data.toList k - 48), (pvN s.data.toList k).2) := by show (if _ then _ else _) = _; rw [if_neg hbig]
              have Hst := Lib.hid hst; clear hst
              go_wp2
              go_round
              case rel => exact ⟨k + 1, by go_num, by omega, by show (_ && _) = true; rw [Hd.out, Hdg.out]; rfl, by rw [Hst.out], by rw [Hst.out]⟩
              case measure => simp [intOf]; omega
        · obtain rfl : k = s.size := by omega
          go_wp2
          go_returns
          exact ⟨ret_num (numV_yes Hl.out (num_yes Hl.out Hh.out Hd.out)) (numG_yes Hl.out (num_yes Hl.out Hh.out Hd.out)) (num_yes Hl.out Hh.out Hd.out).symm, rfl⟩

theorem ret_num2 {a a' : Int} {c c' : Bool} (h : a = a') (h3 : c = c') : Ending.returned (.tuple #[.int .u64 a, .bool c]) = .returned (.tuple #[.int .u64 a', .bool c']) := by rw [h, h3]
def RRel (s : ByteArray) (v i : Value) : Prop := ∃ k : Nat, i = .int .i64 k ∧ k ≤ s.size ∧ allD s.data.toList k = true ∧ v = .int .u64 (rvN s.data.toList k)

set_option maxHeartbeats 1000000 in
theorem refNumber_any (s : ByteArray) (hs : s.size ≤ maxLen) (w : World) : Calls Tryd.prog 28 #[.string s] w fun e w' => e = .returned (.tuple #[.int .u64 (numR s.data.toList), .bool (numOk s.data.toList)]) ∧ w = w' := by
  unfold maxLen at hs
  have hl : s.data.toList.length = s.size := by simp
  have Hl := Lib.hid hl; clear hl
  rcases head_ways s with h0 | ⟨h0, hh⟩ | ⟨h0, h1, h2, hh⟩ | ⟨h0, h1, h2, hh⟩
  · have := empty_of h0
    subst this
    clear h0 Hl hs
    go_enter Tryd.func28, Tryd.ntmps28
    go_wp2
    go_returns
    exact ⟨rfl, rfl⟩
  · have hne := isEmpty_of_pos (s := s) (by omega)
    have d1 : decide ((s.size : Int) < 1) = false := by simp; omega
    have Hh := Lib.hid (num_no hh); clear hh
    go_enter Tryd.func28, Tryd.ntmps28
    go_wp2
    go_returns
    exact ⟨ret_num2 (numR_no Hh.out) Hh.out.symm, rfl⟩
  · have hne := isEmpty_of_pos (s := s) (by omega)
    have hb0 := byt_mk s 0 (by omega)
    have hb1 : (byt s.data.toList 0 == 48) = true := by simp [h2]
    have d1 : decide ((s.size : Int) < 1) = false := by simp; omega
    have d20 : decide ((20 : Int) < s.size) = false := by simp; omega
    have Hh := Lib.hid (num_no hh); clear hh h2
    go_enter Tryd.func28, Tryd.ntmps28
    go_wp2
    go_returns
    exact ⟨ret_num2 (numR_no Hh.out) Hh.out.symm, rfl⟩
  · have hne := isEmpty_of_pos (s := s) (by omega)
    have hb0 := byt_mk s 0 (by omega)
    have d0 : decide ((s.size : Int) < 1) = false := by simp; omega
    have d20 : decide ((20 : Int) < s.size) = false := by simp; omega
    have Hh := Lib.hid hh; clear hh
    have h3 : s.size = 1 ∨ (1 < s.size ∧ (byt s.data.toList 0 == 48) = false) := by
      rcases h2 with h2 | h2
      · exact .inl h2
      · by_cases e : s.size = 1
        · exact .inl e
        · exact .inr ⟨by omega, by simpa using h2⟩
    clear h2
    rcases h3 with h3 | ⟨h3, h4⟩
    · have d1 : decide ((1 : Int) < s.size) = false := by simp; omega
      have H3 := Lib.hid h3; clear h3
      go_enter Tryd.func28, Tryd.ntmps28
      go_wp2
      go_loop [4, 5] (fun v i => RRel s v i) (fun v i => s.size - (intOf i).toNat)
      case atStart => exact ⟨0, rfl, by omega, rfl, rfl⟩
      case round =>
        obtain ⟨k, rfl, hk, hd, rfl⟩ := hrel
        have hbd := val_bd hd
        obtain ⟨_, _, _, b1, b2, _, _⟩ := hbd
        have Hd := Lib.hid hd; clear hd
        by_cases hlt : k < s.size
        · have hbk := byt_mk s k hlt
          have lo := byt_lo s.data.toList k
          have hi := byt_hi s.data.toList k
          cases hdg : digB (byt s.data.toList k) with
          | false =>
            have hx := digB_not hdg
            have Hdg := Lib.hid hdg; clear hdg
            rcases hx with hx | hx
            · go_wp2
              go_returns
              exact ⟨ret_num2 (numR_no (num_cut Hl.out hlt Hdg.out)) (num_cut Hl.out hlt Hdg.out).symm, rfl⟩
            · go_wp2
              go_returns
              exact ⟨ret_num2 (numR_no (num_cut Hl.out hlt Hdg.out)) (num_cut Hl.out hlt Hdg.out).symm, rfl⟩
          | true =>
            have hx := digB_of hdg
            obtain ⟨hx1, hx2⟩ := hx
            have Hdg := Lib.hid hdg; clear hdg
            by_cases hbig : rvN s.data.toList k < lim
            · have hst : rvN s.data.toList (k + 1) = 10 * rvN s.data.toList k + (byt s.data.toList k - 48) := by show (if _ then _ else _) = _; rw [if_pos hbig]
              have Hst := Lib.hid hst; clear hst
              have b3 : rvN s.data.toList k < 576460752303423488 := hbig
              clear hbig b2
              go_wp2
              go_round
              case rel => exact ⟨k + 1, by go_num, by omega, by show (_ && _) = true; rw [Hd.out, Hdg.out]; rfl, by rw [Hst.out]⟩
              case measure => simp [intOf]; omega
            · have hst : rvN s.data.toList (k + 1) = big := by show (if _ then _ else _) = _; rw [if_neg hbig]
              have Hst := Lib.hid hst; clear hst
              have b3 : 576460752303423488 ≤ rvN s.data.toList k := by unfold lim at hbig; omega
              clear hbig b2
              go_wp2
              go_round
              case rel => exact ⟨k + 1, by go_num, by omega, by show (_ && _) = true; rw [Hd.out, Hdg.out]; rfl, by rw [Hst.out]; rfl⟩
              case measure => simp [intOf]; omega
        · obtain rfl : k = s.size := by omega
          go_wp2
          go_returns
          exact ⟨ret_num2 (numR_yes Hl.out (num_yes Hl.out Hh.out Hd.out)) (num_yes Hl.out Hh.out Hd.out).symm, rfl⟩
    · have d1 : decide ((1 : Int) < s.size) = true := by simp; omega
      go_enter Tryd.func28, Tryd.ntmps28
      go_wp2
      go_loop [4, 5] (fun v i => RRel s v i) (fun v i => s.size - (intOf i).toNat)
      case atStart => exact ⟨0, rfl, by omega, rfl, rfl⟩
      case round =>
        obtain ⟨k, rfl, hk, hd, rfl⟩ := hrel
        have hbd := val_bd hd
        obtain ⟨_, _, _, b1, b2, _, _⟩ := hbd
        have Hd := Lib.hid hd; clear hd
        by_cases hlt : k < s.size
        · have hbk := byt_mk s k hlt
          have lo := byt_lo s.data.toList k
          have hi := byt_hi s.data.toList k
          cases hdg : digB (byt s.data.toList k) with
          | false =>
            have hx := digB_not hdg
            have Hdg := Lib.hid hdg; clear hdg
            rcases hx with hx | hx
            · go_wp2
              go_returns
              exact ⟨ret_num2 (numR_no (num_cut Hl.out hlt Hdg.out)) (num_cut Hl.out hlt Hdg.out).symm, rfl⟩
            · go_wp2
              go_returns
              exact ⟨ret_num2 (numR_no (num_cut Hl.out hlt Hdg.out)) (num_cut Hl.out hlt Hdg.out).symm, rfl⟩
          | true =>
            have hx := digB_of hdg
            obtain ⟨hx1, hx2⟩ := hx
            have Hdg := Lib.hid hdg; clear hdg
            by_cases hbig : rvN s.data.toList k < lim
            · have hst : rvN s.data.toList (k + 1) = 10 * rvN s.data.toList k + (byt s.data.toList k - 48) := by show (if _ then _ else _) = _; rw [if_pos hbig]
              have Hst := Lib.hid hst; clear hst
              have b3 : rvN s.data.toList k < 576460752303423488 := hbig
              clear hbig b2
              go_wp2
              go_round
              case rel => exact ⟨k + 1, by go_num, by omega, by show (_ && _) = true; rw [Hd.out, Hdg.out]; rfl, by rw [Hst.out]⟩
              case measure => simp [intOf]; omega
            · have hst : rvN s.data.toList (k + 1) = big := by show (if _ then _ else _) = _; rw [if_neg hbig]
              have Hst := Lib.hid hst; clear hst
              have b3 : 576460752303423488 ≤ rvN s.data.toList k := by unfold lim at hbig; omega
              clear hbig b2
              go_wp2
              go_round
              case rel => exact ⟨k + 1, by go_num, by omega, by show (_ && _) = true; rw [Hd.out, Hdg.out]; rfl, by rw [Hst.out]; rfl⟩
              case measure => simp [intOf]; omega
        · obtain rfl : k = s.size := by omega
          go_wp2
          go_returns
          exact ⟨ret_num2 (numR_yes Hl.out (num_yes Hl.out Hh.out Hd.out)) (num_yes Hl.out Hh.out Hd.out).symm, rfl⟩

end Go.Proofs.YtipljlejhdggnaaDoor
