/- The scalar functions of handle and of its reference: what each call returns. -/
import Derived.Test.YtipljlejhdggnaaDoorChecked
import Derived.WalkKit
import Derived.WalkSpells
import Derived.WalkLawsBesides
import Derived.Lib.Hide
import Derived.Handy
namespace Go.Proofs.YtipljlejhdggnaaDoor
open Go.RowKit

theorem ret_bool {a b : Bool} (h : a = b) : Ending.returned (.bool a) = .returned (.bool b) := by rw [h]
theorem ret_int {k : IntKind} {a b : Int} (h : a = b) : Ending.returned (.int k a) = .returned (.int k b) := by rw [h]
theorem ret_ie {k m : IntKind} {a b c d : Int} (h : a = b) (h2 : c = d) : Ending.returned (.tuple #[.int k a, .int m c]) = .returned (.tuple #[.int k b, .int m d]) := by rw [h, h2]

def makeOk (slot gen : Int) : Bool := decide (0 ≤ slot ∧ slot < 16384 ∧ 1 ≤ gen ∧ gen ≤ 4294967295)
def makeH (slot gen : Int) : Int := if makeOk slot gen then gen * 65536 + slot else 0
def makeE (slot gen : Int) : Int := if makeOk slot gen then 0 else 3
def slotOf (h : Int) : Int := h % 65536
def genOf (h : Int) : Int := h / 65536
def chkE (h : Int) : Int := if makeOk (slotOf h) (genOf h) then 0 else 2
theorem makeOk_yes {s g : Int} (h : 0 ≤ s ∧ s < 16384 ∧ 1 ≤ g ∧ g ≤ 4294967295) : makeOk s g = true := by unfold makeOk; simpa using h
theorem makeOk_no {s g : Int} (h : ¬ (0 ≤ s ∧ s < 16384 ∧ 1 ≤ g ∧ g ≤ 4294967295)) : makeOk s g = false := by unfold makeOk; simpa using h
theorem makeOk_of {s g : Int} (h : makeOk s g = true) : 0 ≤ s ∧ s < 16384 ∧ 1 ≤ g ∧ g ≤ 4294967295 := by unfold makeOk at h; simpa using h
theorem makeOk_not {s g : Int} (h : makeOk s g = false) : ¬ (0 ≤ s ∧ s < 16384 ∧ 1 ≤ g ∧ g ≤ 4294967295) := by unfold makeOk at h; simpa using h
theorem or_u64 (g s : Int) (hg : 0 ≤ g) (hg1 : g ≤ 4294967295) (hs : 0 ≤ s) (hs1 : s < 65536) : bits .or .u64 (g * 65536) s = g * 65536 + s := by
  obtain ⟨a, rfl⟩ := Int.eq_ofNat_of_zero_le hg
  obtain ⟨b, rfl⟩ := Int.eq_ofNat_of_zero_le hs
  have e : (a : Int) * 65536 = ((2 ^ 16 * a : Nat) : Int) := by omega
  have hx : 2 ^ 16 * a ||| b < 2 ^ 63 := Nat.or_lt_two_pow (by omega) (by omega)
  rw [e]
  show IntKind.u64.wrap ((BitVec.ofInt 64 ((2 ^ 16 * a : Nat) : Int) ||| BitVec.ofInt 64 (b : Int)).toNat : Int) = _
  rw [BitVec.toNat_or, BitVec.ofInt_natCast, BitVec.toNat_ofNat, BitVec.ofInt_natCast, BitVec.toNat_ofNat, Nat.mod_eq_of_lt (by omega), Nat.mod_eq_of_lt (by omega), ← Nat.two_pow_add_eq_or_of_lt (by omega), IntKind.wrap_u64]
  omega

theorem low_u64 (h : Int) (h0 : 0 ≤ h) (h1 : h < 18446744073709551616) : bits .and .u64 h 65535 = h % 65536 := by
  obtain ⟨n, rfl⟩ := Int.eq_ofNat_of_zero_le h0
  have e : (65535 : Int) = ((2 ^ 16 - 1 : Nat) : Int) := by omega
  have hx : n &&& (2 ^ 16 - 1) < 2 ^ 64 := Nat.and_lt_two_pow _ (by omega)
  rw [e]
  show IntKind.u64.wrap ((BitVec.ofInt 64 (n : Int) &&& BitVec.ofInt 64 ((2 ^ 16 - 1 : Nat) : Int)).toNat : Int) = _
  rw [BitVec.toNat_and, BitVec.ofInt_natCast, BitVec.toNat_ofNat, BitVec.ofInt_natCast, BitVec.toNat_ofNat, Nat.mod_eq_of_lt (by omega), Nat.mod_eq_of_lt (by omega), IntKind.wrap_u64, Nat.and_two_pow_sub_one_eq_mod]
  omega
set_option maxHeartbeats 400000 in
theorem make_any (s g : Int) (hg0 : 0 ≤ g) (w : World) : Calls Tryd.prog 12 #[.int .i64 s, .int .u64 g] w fun e w' => e = .returned (.tuple #[.int .u64 (makeH s g), .int .i64 (makeE s g)]) ∧ w = w' := by
  go_enter Tryd.func12, Tryd.ntmps12
  go_wp2
  all_goals go_ret2
  all_goals first
    | (refine ⟨ret_ie ?_ ?_, rfl⟩ <;> first | (unfold makeH; rw [makeOk_no (by omega)]; rfl) | (unfold makeE; rw [makeOk_no (by omega)]; rfl))
    | (refine ⟨ret_ie ?_ ?_, rfl⟩ <;> first | (unfold makeH; rw [makeOk_yes (by omega)]; exact or_u64 _ _ (by omega) (by omega) (by omega) (by omega)) | (unfold makeE; rw [makeOk_yes (by omega)]; rfl))
set_option maxHeartbeats 400000 in
theorem refMake_any (s g : Int) (hg0 : 0 ≤ g) (w : World) : Calls Tryd.prog 13 #[.int .i64 s, .int .u64 g] w fun e w' => e = .returned (.tuple #[.int .u64 (makeH s g), .int .i64 (makeE s g)]) ∧ w = w' := by
  go_enter Tryd.func13, Tryd.ntmps13
  go_wp2
  all_goals go_ret2
  all_goals first
    | (refine ⟨ret_ie ?_ ?_, rfl⟩ <;> first | (unfold makeH; rw [makeOk_no (by omega)]; rfl) | (unfold makeE; rw [makeOk_no (by omega)]; rfl))
    | (refine ⟨ret_ie ?_ ?_, rfl⟩ <;> first | (unfold makeH; rw [makeOk_yes (by omega)]; rfl) | (unfold makeE; rw [makeOk_yes (by omega)]; rfl))
set_option maxHeartbeats 400000 in
theorem parts_any (h : Int) (h0 : 0 ≤ h) (h1 : h < 18446744073709551616) (w : World) : Calls Tryd.prog 32 #[.int .u64 h] w fun e w' => e = .returned (.tuple #[.int .i64 (slotOf h), .int .u64 (genOf h)]) ∧ w = w' := by
  have el := low_u64 h h0 h1
  go_enter Tryd.func32, Tryd.ntmps32
  go_wp2
  go_ret2
  exact ⟨ret_ie (by unfold slotOf; omega) (by unfold genOf; omega), rfl⟩
set_option maxHeartbeats 400000 in
theorem check_any (h : Int) (h0 : 0 ≤ h) (h1 : h < 18446744073709551616) (w : World) : Calls Tryd.prog 22 #[.int .u64 h] w fun e w' => e = .returned (.int .i64 (chkE h)) ∧ w = w' := by
  have hs : 0 ≤ slotOf h ∧ slotOf h < 65536 := by unfold slotOf; omega
  have hg : 0 ≤ genOf h := by unfold genOf; omega
  go_enter Tryd.func22, Tryd.ntmps22
  go_wp2_with (go_at_call 32; refine (parts_any h h0 h1 _).mono ?_; rintro e w' ⟨rfl, rfl⟩)
  all_goals go_ret
  all_goals refine ⟨ret_int ?_, rfl⟩; unfold chkE; first | (rw [makeOk_no (by omega)]; rfl) | (rw [makeOk_yes (by omega)]; rfl)
set_option maxHeartbeats 400000 in
theorem refCheck_any (h : Int) (h0 : 0 ≤ h) (h1 : h < 18446744073709551616) (w : World) : Calls Tryd.prog 23 #[.int .u64 h] w fun e w' => e = .returned (.int .i64 (chkE h)) ∧ w = w' := by
  go_enter Tryd.func23, Tryd.ntmps23
  go_wp2
  all_goals go_ret
  all_goals refine ⟨ret_int ?_, rfl⟩; unfold chkE slotOf genOf; first | (rw [makeOk_no (by omega)]; rfl) | (rw [makeOk_yes (by omega)]; rfl)

/-- What Slot, Gen and Next return. -/
def slotR (h : Int) : Int := if chkE h = 0 then slotOf h else 0
def genR (h : Int) : Int := if chkE h = 0 then genOf h else 0
def nextH (h : Int) : Int := if chkE h = 0 then makeH (slotOf h) (genOf h + 1) else 0
def nextE (h : Int) : Int := if chkE h = 0 then makeE (slotOf h) (genOf h + 1) else 2
theorem chk_cases (h : Int) : (chkE h = 0 ∧ 0 ≤ slotOf h ∧ slotOf h < 16384 ∧ 1 ≤ genOf h ∧ genOf h ≤ 4294967295) ∨ chkE h = 2 := by
  unfold chkE
  cases hm : makeOk (slotOf h) (genOf h) with
  | true => exact .inl ⟨rfl, makeOk_of hm⟩
  | false => exact .inr rfl
theorem chk_ne {h : Int} (hc : chkE h = 2) : ¬ chkE h = 0 := by rw [hc]; decide
set_option maxHeartbeats 400000 in
theorem slot_any (h : Int) (h0 : 0 ≤ h) (h1 : h < 18446744073709551616) (w : World) : Calls Tryd.prog 14 #[.int .u64 h] w fun e w' => e = .returned (.tuple #[.int .i64 (slotR h), .int .i64 (chkE h)]) ∧ w = w' := by
  rcases chk_cases h with ⟨hc, hs0, hs1, hg0, hg1⟩ | hc
  · have Hc := Lib.hid hc; clear hc
    go_enter Tryd.func14, Tryd.ntmps14
    go_wp2_with (first | (go_at_call 22; refine (check_any h h0 h1 _).mono ?_; rw [Hc.out]; rintro e w' ⟨rfl, rfl⟩) | (go_at_call 32; refine (parts_any h h0 h1 _).mono ?_; rintro e w' ⟨rfl, rfl⟩))
    go_ret2
    exact ⟨ret_ie (by unfold slotR; rw [if_pos Hc.out]) Hc.out.symm, rfl⟩
  · have Hc := Lib.hid (chk_ne hc)
    have Hd := Lib.hid hc
    clear hc
    go_enter Tryd.func14, Tryd.ntmps14
    go_wp2_with (first | (go_at_call 22; refine (check_any h h0 h1 _).mono ?_; rw [Hd.out]; rintro e w' ⟨rfl, rfl⟩) | (go_at_call 32; refine (parts_any h h0 h1 _).mono ?_; rintro e w' ⟨rfl, rfl⟩))
    go_ret2
    exact ⟨ret_ie (by unfold slotR; rw [if_neg Hc.out]) Hd.out.symm, rfl⟩
set_option maxHeartbeats 400000 in
theorem gen_any (h : Int) (h0 : 0 ≤ h) (h1 : h < 18446744073709551616) (w : World) : Calls Tryd.prog 15 #[.int .u64 h] w fun e w' => e = .returned (.tuple #[.int .u64 (genR h), .int .i64 (chkE h)]) ∧ w = w' := by
  rcases chk_cases h with ⟨hc, hs0, hs1, hg0, hg1⟩ | hc
  · have Hc := Lib.hid hc; clear hc
    go_enter Tryd.func15, Tryd.ntmps15
    go_wp2_with (first | (go_at_call 22; refine (check_any h h0 h1 _).mono ?_; rw [Hc.out]; rintro e w' ⟨rfl, rfl⟩) | (go_at_call 32; refine (parts_any h h0 h1 _).mono ?_; rintro e w' ⟨rfl, rfl⟩))
    go_ret2
    exact ⟨ret_ie (by unfold genR; rw [if_pos Hc.out]) Hc.out.symm, rfl⟩
  · have Hc := Lib.hid (chk_ne hc)
    have Hd := Lib.hid hc
    clear hc
    go_enter Tryd.func15, Tryd.ntmps15
    go_wp2_with (first | (go_at_call 22; refine (check_any h h0 h1 _).mono ?_; rw [Hd.out]; rintro e w' ⟨rfl, rfl⟩) | (go_at_call 32; refine (parts_any h h0 h1 _).mono ?_; rintro e w' ⟨rfl, rfl⟩))
    go_ret2
    exact ⟨ret_ie (by unfold genR; rw [if_neg Hc.out]) Hd.out.symm, rfl⟩
set_option maxHeartbeats 400000 in
theorem next_any (h : Int) (h0 : 0 ≤ h) (h1 : h < 18446744073709551616) (w : World) : Calls Tryd.prog 16 #[.int .u64 h] w fun e w' => e = .returned (.tuple #[.int .u64 (nextH h), .int .i64 (nextE h)]) ∧ w = w' := by
  rcases chk_cases h with ⟨hc, hs0, hs1, hg0, hg1⟩ | hc
  · have Hc := Lib.hid hc; clear hc
    go_enter Tryd.func16, Tryd.ntmps16
    go_wp2_with (first | (go_at_call 22; refine (check_any h h0 h1 _).mono ?_; rw [Hc.out]; rintro e w' ⟨rfl, rfl⟩) | (go_at_call 32; refine (parts_any h h0 h1 _).mono ?_; rintro e w' ⟨rfl, rfl⟩) | (go_at_call 12; refine (make_any _ _ (by omega) _).mono ?_; rintro e w' ⟨rfl, rfl⟩))
    go_ret2
    exact ⟨ret_ie (by unfold nextH; rw [if_pos Hc.out]) (by unfold nextE; rw [if_pos Hc.out]), rfl⟩
  · have Hc := Lib.hid (chk_ne hc)
    have Hd := Lib.hid hc
    clear hc
    go_enter Tryd.func16, Tryd.ntmps16
    go_wp2_with (first | (go_at_call 22; refine (check_any h h0 h1 _).mono ?_; rw [Hd.out]; rintro e w' ⟨rfl, rfl⟩) | (go_at_call 32; refine (parts_any h h0 h1 _).mono ?_; rintro e w' ⟨rfl, rfl⟩) | (go_at_call 12; refine (make_any _ _ (by omega) _).mono ?_; rintro e w' ⟨rfl, rfl⟩))
    go_ret2
    exact ⟨ret_ie (by unfold nextH; rw [if_neg Hc.out]) (by unfold nextE; rw [if_neg Hc.out]), rfl⟩
set_option maxHeartbeats 400000 in
theorem refSlot_any (h : Int) (h0 : 0 ≤ h) (h1 : h < 18446744073709551616) (w : World) : Calls Tryd.prog 18 #[.int .u64 h] w fun e w' => e = .returned (.tuple #[.int .i64 (slotR h), .int .i64 (chkE h)]) ∧ w = w' := by
  rcases chk_cases h with ⟨hc, hs0, hs1, hg0, hg1⟩ | hc
  · have Hc := Lib.hid hc; clear hc
    go_enter Tryd.func18, Tryd.ntmps18
    go_wp2_with (first | (go_at_call 23; refine (refCheck_any h h0 h1 _).mono ?_; rw [Hc.out]; rintro e w' ⟨rfl, rfl⟩))
    go_ret2
    exact ⟨ret_ie (by unfold slotR slotOf; rw [if_pos Hc.out]; try omega) Hc.out.symm, rfl⟩
  · have Hc := Lib.hid (chk_ne hc)
    have Hd := Lib.hid hc
    clear hc
    go_enter Tryd.func18, Tryd.ntmps18
    go_wp2_with (first | (go_at_call 23; refine (refCheck_any h h0 h1 _).mono ?_; rw [Hd.out]; rintro e w' ⟨rfl, rfl⟩))
    go_ret2
    exact ⟨ret_ie (by unfold slotR; rw [if_neg Hc.out]) Hd.out.symm, rfl⟩
set_option maxHeartbeats 400000 in
theorem refGen_any (h : Int) (h0 : 0 ≤ h) (h1 : h < 18446744073709551616) (w : World) : Calls Tryd.prog 19 #[.int .u64 h] w fun e w' => e = .returned (.tuple #[.int .u64 (genR h), .int .i64 (chkE h)]) ∧ w = w' := by
  rcases chk_cases h with ⟨hc, hs0, hs1, hg0, hg1⟩ | hc
  · have Hc := Lib.hid hc; clear hc
    go_enter Tryd.func19, Tryd.ntmps19
    go_wp2_with (first | (go_at_call 23; refine (refCheck_any h h0 h1 _).mono ?_; rw [Hc.out]; rintro e w' ⟨rfl, rfl⟩))
    go_ret2
    exact ⟨ret_ie (by unfold genR genOf; rw [if_pos Hc.out]; try omega) Hc.out.symm, rfl⟩
  · have Hc := Lib.hid (chk_ne hc)
    have Hd := Lib.hid hc
    clear hc
    go_enter Tryd.func19, Tryd.ntmps19
    go_wp2_with (first | (go_at_call 23; refine (refCheck_any h h0 h1 _).mono ?_; rw [Hd.out]; rintro e w' ⟨rfl, rfl⟩))
    go_ret2
    exact ⟨ret_ie (by unfold genR; rw [if_neg Hc.out]) Hd.out.symm, rfl⟩
set_option maxHeartbeats 400000 in
theorem refNext_any (h : Int) (h0 : 0 ≤ h) (h1 : h < 18446744073709551616) (w : World) : Calls Tryd.prog 20 #[.int .u64 h] w fun e w' => e = .returned (.tuple #[.int .u64 (nextH h), .int .i64 (nextE h)]) ∧ w = w' := by
  rcases chk_cases h with ⟨hc, hs0, hs1, hg0, hg1⟩ | hc
  · have hsr : slotR h = slotOf h := by unfold slotR; rw [if_pos hc]
    have Hs := Lib.hid hsr; clear hsr
    have Hc := Lib.hid hc; clear hc
    go_enter Tryd.func20, Tryd.ntmps20
    go_wp2_with (first | (go_at_call 18; refine (refSlot_any h h0 h1 _).mono ?_; rw [Hc.out, Hs.out]; rintro e w' ⟨rfl, rfl⟩) | (go_at_call 13; refine (refMake_any _ _ (by omega) _).mono ?_; rintro e w' ⟨rfl, rfl⟩))
    go_ret2
    exact ⟨ret_ie (by unfold nextH; rw [if_pos Hc.out]; rfl) (by unfold nextE; rw [if_pos Hc.out]; rfl), rfl⟩
  · have Hc := Lib.hid (chk_ne hc)
    have Hd := Lib.hid hc
    clear hc
    go_enter Tryd.func20, Tryd.ntmps20
    go_wp2_with (first | (go_at_call 18; refine (refSlot_any h h0 h1 _).mono ?_; rw [Hd.out]; rintro e w' ⟨rfl, rfl⟩))
    go_ret2
    exact ⟨ret_ie (by unfold nextH; rw [if_neg Hc.out]) (by unfold nextE; rw [if_neg Hc.out]), rfl⟩
end Go.Proofs.YtipljlejhdggnaaDoor
