/- The texts MoH. -/
import Derived.Test.YtdeiocppghhfdaaGreatPua
import Derived.BigRegion
namespace Go.Proofs.YtdeiocppghhfdaaGreat
set_option linter.unusedVariables false
set_option linter.unusedSimpArgs false
set_option maxRecDepth 100000
set_option maxHeartbeats 8000000
open Go.RowKit
theorem te1 (t : ByteArray) : (t.toList = []) = (t.size = 0) := by
  rw [Lib.toList_data]
  apply propext
  constructor
  · intro h; have := congrArg List.length h; simpa using this
  · intro h; apply List.eq_nil_of_length_eq_zero; simpa using h
theorem te2 (t : ByteArray) : (t.toList.isEmpty = true) = (t.size = 0) := by rw [List.isEmpty_iff, te1]
theorem te3 (t : ByteArray) : (t.toList.isEmpty = false) = ¬(t.size = 0) := by rw [← te2]; simp
def opP (o : OpV) : Prop := 1 ≤ o.kind ∧ o.kind ≤ 16 ∧ 0 ≤ o.at_ ∧ 0 ≤ o.n ∧ 0 ≤ o.slot ∧ (6 ≤ o.kind ∧ o.kind ≤ 13 ∨ o.slot = 0) ∧ (o.kind = 1 ∨ o.kind = 2 ∨ o.kind = 3 ∨ o.kind = 7 ∨ o.kind = 11 ∨ o.at_ = 0) ∧
  (o.kind = 2 ∨ o.kind = 7 ∨ o.kind = 8 ∨ o.kind = 9 ∨ o.kind = 12 ∨ o.n = 0) ∧ ((o.kind = 3 ∨ o.kind = 4 ∨ o.kind = 10) ∧ o.id ≠ 0 ∨ ¬(o.kind = 3 ∨ o.kind = 4 ∨ o.kind = 10) ∧ o.id = 0) ∧
  (o.kind = 3 ∨ o.grav = 0) ∧ o.grav ≤ 1 ∧ (o.kind = 1 ∧ o.text.size ≠ 0 ∨ o.kind ≠ 1 ∧ o.text.size = 0) ∧ (o.kind = 2 → o.n ≠ 0)
instance (o : OpV) : Decidable (opP o) := by unfold opP; infer_instance
def opE (o : OpV) : Int := if opP o then (if o.text.size > 256 then 5 else if validL o.text.data.toList then 0 else 11) else 2
theorem opE_2 {o : OpV} (h : ¬opP o) : 2 = opE o := by unfold opE; rw [if_neg h]
theorem opE_5 {o : OpV} (h : opP o) (h2 : 256 < o.text.size) : 5 = opE o := by unfold opE; rw [if_pos h, if_pos h2]
theorem opE_11 {o : OpV} (h : opP o) (h2 : o.text.size ≤ 256) (h3 : (!validL o.text.data.toList) = true) : 11 = opE o := by unfold opE; rw [if_pos h, if_neg (by omega), if_neg (by simpa using h3)]
theorem opE_0 {o : OpV} (h : opP o) (h2 : o.text.size ≤ 256) (h3 : (!validL o.text.data.toList) = false) : 0 = opE o := by unfold opE; rw [if_pos h, if_neg (by omega), if_pos (by simpa using h3)]
theorem clientCheck_0 (o : OpV) (w : World) (hk : o.kind = 1 ∨ o.kind = 2 ∨ o.kind = 3) : Calls Tryz.prog 136 #[o.v] w fun e w' => e = .returned (.int .i64 (opE o)) ∧ Below w.heap.size w w' := by
  have hb := fun (o1 o2 : Obj) => ((Below.refl w.heap.size w).alloc (Nat.le_refl _) o1).alloc (by simp) o2
  obtain ⟨k, s, a, n, i, g, t⟩ := o
  unfold OpV.v
  rcases hk with hk | hk | hk
  all_goals (replace hk : k = _ := hk; subst hk)
  all_goals
    go_enter Tryz.func136, Tryz.ntmps136
    go_wp2_with fail
    try go_region
    all_goals go_wp2_with (go_at_call 135; refine (valid_any _ _).mono ?_; rintro e w' ⟨rfl, rfl⟩)
    all_goals (go_ret; refine ⟨ret_errno ?_, by first | exact hb _ _ | exact (hb _ _).drew⟩)
    all_goals ((try simp only [te1, te2, te3, beq_iff_eq] at *); first | exact opE_5 (by unfold opP; dsimp only; omega) (by dsimp only; omega) | exact opE_11 (by unfold opP; dsimp only; omega) (by dsimp only; omega) (by assumption) | exact opE_0 (by unfold opP; dsimp only; omega) (by dsimp only; omega) (by assumption) | exact opE_2 (by unfold opP; dsimp only; omega))
theorem clientCheck_1 (o : OpV) (w : World) (hk : o.kind = 4 ∨ o.kind = 5 ∨ o.kind = 6) : Calls Tryz.prog 136 #[o.v] w fun e w' => e = .returned (.int .i64 (opE o)) ∧ Below w.heap.size w w' := by
  have hb := fun (o1 o2 : Obj) => ((Below.refl w.heap.size w).alloc (Nat.le_refl _) o1).alloc (by simp) o2
  obtain ⟨k, s, a, n, i, g, t⟩ := o
  unfold OpV.v
  rcases hk with hk | hk | hk
  all_goals (replace hk : k = _ := hk; subst hk)
  all_goals
    go_enter Tryz.func136, Tryz.ntmps136
    go_wp2_with fail
    try go_region
    all_goals go_wp2_with (go_at_call 135; refine (valid_any _ _).mono ?_; rintro e w' ⟨rfl, rfl⟩)
    all_goals (go_ret; refine ⟨ret_errno ?_, by first | exact hb _ _ | exact (hb _ _).drew⟩)
    all_goals ((try simp only [te1, te2, te3, beq_iff_eq] at *); first | exact opE_5 (by unfold opP; dsimp only; omega) (by dsimp only; omega) | exact opE_11 (by unfold opP; dsimp only; omega) (by dsimp only; omega) (by assumption) | exact opE_0 (by unfold opP; dsimp only; omega) (by dsimp only; omega) (by assumption) | exact opE_2 (by unfold opP; dsimp only; omega))
theorem clientCheck_2 (o : OpV) (w : World) (hk : o.kind = 7 ∨ o.kind = 8 ∨ o.kind = 9) : Calls Tryz.prog 136 #[o.v] w fun e w' => e = .returned (.int .i64 (opE o)) ∧ Below w.heap.size w w' := by
  have hb := fun (o1 o2 : Obj) => ((Below.refl w.heap.size w).alloc (Nat.le_refl _) o1).alloc (by simp) o2
  obtain ⟨k, s, a, n, i, g, t⟩ := o
  unfold OpV.v
  rcases hk with hk | hk | hk
  all_goals (replace hk : k = _ := hk; subst hk)
  all_goals
    go_enter Tryz.func136, Tryz.ntmps136
    go_wp2_with fail
    try go_region
    all_goals go_wp2_with (go_at_call 135; refine (valid_any _ _).mono ?_; rintro e w' ⟨rfl, rfl⟩)
    all_goals (go_ret; refine ⟨ret_errno ?_, by first | exact hb _ _ | exact (hb _ _).drew⟩)
    all_goals ((try simp only [te1, te2, te3, beq_iff_eq] at *); first | exact opE_5 (by unfold opP; dsimp only; omega) (by dsimp only; omega) | exact opE_11 (by unfold opP; dsimp only; omega) (by dsimp only; omega) (by assumption) | exact opE_0 (by unfold opP; dsimp only; omega) (by dsimp only; omega) (by assumption) | exact opE_2 (by unfold opP; dsimp only; omega))
theorem clientCheck_3 (o : OpV) (w : World) (hk : o.kind = 10 ∨ o.kind = 11 ∨ o.kind = 12) : Calls Tryz.prog 136 #[o.v] w fun e w' => e = .returned (.int .i64 (opE o)) ∧ Below w.heap.size w w' := by
  have hb := fun (o1 o2 : Obj) => ((Below.refl w.heap.size w).alloc (Nat.le_refl _) o1).alloc (by simp) o2
  obtain ⟨k, s, a, n, i, g, t⟩ := o
  unfold OpV.v
  rcases hk with hk | hk | hk
  all_goals (replace hk : k = _ := hk; subst hk)
  all_goals
    go_enter Tryz.func136, Tryz.ntmps136
    go_wp2_with fail
    try go_region
    all_goals go_wp2_with (go_at_call 135; refine (valid_any _ _).mono ?_; rintro e w' ⟨rfl, rfl⟩)
    all_goals (go_ret; refine ⟨ret_errno ?_, by first | exact hb _ _ | exact (hb _ _).drew⟩)
    all_goals ((try simp only [te1, te2, te3, beq_iff_eq] at *); first | exact opE_5 (by unfold opP; dsimp only; omega) (by dsimp only; omega) | exact opE_11 (by unfold opP; dsimp only; omega) (by dsimp only; omega) (by assumption) | exact opE_0 (by unfold opP; dsimp only; omega) (by dsimp only; omega) (by assumption) | exact opE_2 (by unfold opP; dsimp only; omega))
theorem clientCheck_4 (o : OpV) (w : World) (hk : o.kind = 13 ∨ o.kind = 14 ∨ o.kind = 15 ∨ o.kind = 16) : Calls Tryz.prog 136 #[o.v] w fun e w' => e = .returned (.int .i64 (opE o)) ∧ Below w.heap.size w w' := by
  have hb := fun (o1 o2 : Obj) => ((Below.refl w.heap.size w).alloc (Nat.le_refl _) o1).alloc (by simp) o2
  obtain ⟨k, s, a, n, i, g, t⟩ := o
  unfold OpV.v
  rcases hk with hk | hk | hk | hk
  all_goals (replace hk : k = _ := hk; subst hk)
  all_goals
    go_enter Tryz.func136, Tryz.ntmps136
    go_wp2_with fail
    try go_region
    all_goals go_wp2_with (go_at_call 135; refine (valid_any _ _).mono ?_; rintro e w' ⟨rfl, rfl⟩)
    all_goals (go_ret; refine ⟨ret_errno ?_, by first | exact hb _ _ | exact (hb _ _).drew⟩)
    all_goals ((try simp only [te1, te2, te3, beq_iff_eq] at *); first | exact opE_5 (by unfold opP; dsimp only; omega) (by dsimp only; omega) | exact opE_11 (by unfold opP; dsimp only; omega) (by dsimp only; omega) (by assumption) | exact opE_0 (by unfold opP; dsimp only; omega) (by dsimp only; omega) (by assumption) | exact opE_2 (by unfold opP; dsimp only; omega))
theorem clientCheck_o (o : OpV) (w : World) (hk : ¬(1 ≤ o.kind ∧ o.kind ≤ 16)) : Calls Tryz.prog 136 #[o.v] w fun e w' => e = .returned (.int .i64 (opE o)) ∧ Below w.heap.size w w' := by
  have hb := fun (o1 o2 : Obj) => ((Below.refl w.heap.size w).alloc (Nat.le_refl _) o1).alloc (by simp) o2
  obtain ⟨k, s, a, n, i, g, t⟩ := o
  replace hk : ¬(1 ≤ k ∧ k ≤ 16) := hk
  have hne : ∀ j : Int, 1 ≤ j → j ≤ 16 → (k == j) = false := fun j h1 h2 => by simp; omega
  have n1 := hne 1 (by decide) (by decide)
  have n2 := hne 2 (by decide) (by decide)
  have n3 := hne 3 (by decide) (by decide)
  have n4 := hne 4 (by decide) (by decide)
  have n5 := hne 5 (by decide) (by decide)
  have n6 := hne 6 (by decide) (by decide)
  have n7 := hne 7 (by decide) (by decide)
  have n8 := hne 8 (by decide) (by decide)
  have n9 := hne 9 (by decide) (by decide)
  have n10 := hne 10 (by decide) (by decide)
  have n11 := hne 11 (by decide) (by decide)
  have n12 := hne 12 (by decide) (by decide)
  have n13 := hne 13 (by decide) (by decide)
  have n14 := hne 14 (by decide) (by decide)
  have n15 := hne 15 (by decide) (by decide)
  have n16 := hne 16 (by decide) (by decide)
  clear hne
  have hk := Lib.hid hk
  unfold OpV.v
  all_goals
    go_enter Tryz.func136, Tryz.ntmps136
    go_wp2_with fail
    try go_region
    all_goals go_wp2_with (go_at_call 135; refine (valid_any _ _).mono ?_; rintro e w' ⟨rfl, rfl⟩)
    all_goals (go_ret; refine ⟨ret_errno ?_, by first | exact hb _ _ | exact (hb _ _).drew⟩)
    all_goals (have hk := hk.out; (try simp only [te1, te2, te3, beq_iff_eq] at *); first | exact opE_5 (by unfold opP; dsimp only; omega) (by dsimp only; omega) | exact opE_11 (by unfold opP; dsimp only; omega) (by dsimp only; omega) (by assumption) | exact opE_0 (by unfold opP; dsimp only; omega) (by dsimp only; omega) (by assumption) | exact opE_2 (by unfold opP; dsimp only; omega))
theorem clientCheck_any (o : OpV) (w : World) : Calls Tryz.prog 136 #[o.v] w fun e w' => e = .returned (.int .i64 (opE o)) ∧ Below w.heap.size w w' := by
  by_cases h : 1 ≤ o.kind ∧ o.kind ≤ 16
  · by_cases h0 : o.kind ≤ 3
    · exact clientCheck_0 o w (by omega)
    by_cases h1 : o.kind ≤ 6
    · exact clientCheck_1 o w (by omega)
    by_cases h2 : o.kind ≤ 9
    · exact clientCheck_2 o w (by omega)
    by_cases h3 : o.kind ≤ 12
    · exact clientCheck_3 o w (by omega)
    · exact clientCheck_4 o w (by omega)
  · exact clientCheck_o o w h
end Go.Proofs.YtdeiocppghhfdaaGreat
