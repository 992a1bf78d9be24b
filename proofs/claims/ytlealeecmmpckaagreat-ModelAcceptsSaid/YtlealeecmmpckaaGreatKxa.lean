/- The texts RaK. -/
import Derived.Test.YtlealeecmmpckaaGreatKub
import Derived.Test.YtlealeecmmpckaaGreatKua
import Derived.Test.YtlealeecmmpckaaGreatKue
import Derived.BigRegion
namespace Go.Proofs.YtlealeecmmpckaaGreat
set_option linter.unusedVariables false
set_option linter.unusedSimpArgs false
set_option maxRecDepth 100000
set_option maxHeartbeats 8000000
open Go.RowKit
theorem te4 (t : ByteArray) : ((!t.toList.isEmpty) = false) = (t.size = 0) := by rw [← te2]; simp
theorem te5 (t : ByteArray) : ((!t.toList.isEmpty) = true) = ¬(t.size = 0) := by rw [← te2]; simp
theorem refOp_0 (o : OpV) (w : World) (hk : o.kind = 1 ∨ o.kind = 2 ∨ o.kind = 3) : Calls Tryz.prog 92 #[o.v] w fun e w' => e = .returned (.int .i64 (opE o)) ∧ Below w.heap.size w w' := by
  have hb1 := fun (o1 : Obj) => (Below.refl w.heap.size w).alloc (Nat.le_refl _) o1
  obtain ⟨k, s, a, n, i, g, t⟩ := o
  unfold OpV.v
  rcases hk with hk | hk | hk
  all_goals (replace hk : k = _ := hk; subst hk)
  all_goals
    go_enter Tryz.func92, Tryz.ntmps92
    go_wp2_with fail
    try go_region
    all_goals go_wp2_with (go_at_call 91; refine (refValid_any _ _ (by (try simp only [te4, te5, te1, te2, te3, beq_iff_eq, beq_eq_false_iff_ne, ne_eq] at *); unfold maxLen; omega)).mono ?_; rintro e w' ⟨rfl, hB1⟩)
    all_goals (go_ret; refine ⟨ret_errno ?_, by first | exact hb1 _ | exact (hb1 _).drew | exact (hb1 _).trans (hB1.mono (hb1 _).size)⟩)
    all_goals ((try simp only [te4, te5, te1, te2, te3, beq_iff_eq, beq_eq_false_iff_ne, ne_eq] at *); first | exact opE_5 (by unfold opP; dsimp only; omega) (by dsimp only; omega) | exact opE_11 (by unfold opP; dsimp only; omega) (by dsimp only; omega) (by assumption) | exact opE_0 (by unfold opP; dsimp only; omega) (by dsimp only; omega) (by assumption) | exact opE_2 (by unfold opP; dsimp only; omega))
theorem refOp_1 (o : OpV) (w : World) (hk : o.kind = 4 ∨ o.kind = 5 ∨ o.kind = 6) : Calls Tryz.prog 92 #[o.v] w fun e w' => e = .returned (.int .i64 (opE o)) ∧ Below w.heap.size w w' := by
  have hb1 := fun (o1 : Obj) => (Below.refl w.heap.size w).alloc (Nat.le_refl _) o1
  obtain ⟨k, s, a, n, i, g, t⟩ := o
  unfold OpV.v
  rcases hk with hk | hk | hk
  all_goals (replace hk : k = _ := hk; subst hk)
  all_goals
    go_enter Tryz.func92, Tryz.ntmps92
    go_wp2_with fail
    try go_region
    all_goals go_wp2_with (go_at_call 91; refine (refValid_any _ _ (by (try simp only [te4, te5, te1, te2, te3, beq_iff_eq, beq_eq_false_iff_ne, ne_eq] at *); unfold maxLen; omega)).mono ?_; rintro e w' ⟨rfl, hB1⟩)
    all_goals (go_ret; refine ⟨ret_errno ?_, by first | exact hb1 _ | exact (hb1 _).drew | exact (hb1 _).trans (hB1.mono (hb1 _).size)⟩)
    all_goals ((try simp only [te4, te5, te1, te2, te3, beq_iff_eq, beq_eq_false_iff_ne, ne_eq] at *); first | exact opE_5 (by unfold opP; dsimp only; omega) (by dsimp only; omega) | exact opE_11 (by unfold opP; dsimp only; omega) (by dsimp only; omega) (by assumption) | exact opE_0 (by unfold opP; dsimp only; omega) (by dsimp only; omega) (by assumption) | exact opE_2 (by unfold opP; dsimp only; omega))
theorem refOp_2 (o : OpV) (w : World) (hk : o.kind = 7 ∨ o.kind = 8 ∨ o.kind = 9) : Calls Tryz.prog 92 #[o.v] w fun e w' => e = .returned (.int .i64 (opE o)) ∧ Below w.heap.size w w' := by
  have hb1 := fun (o1 : Obj) => (Below.refl w.heap.size w).alloc (Nat.le_refl _) o1
  obtain ⟨k, s, a, n, i, g, t⟩ := o
  unfold OpV.v
  rcases hk with hk | hk | hk
  all_goals (replace hk : k = _ := hk; subst hk)
  all_goals
    go_enter Tryz.func92, Tryz.ntmps92
    go_wp2_with fail
    try go_region
    all_goals go_wp2_with (go_at_call 91; refine (refValid_any _ _ (by (try simp only [te4, te5, te1, te2, te3, beq_iff_eq, beq_eq_false_iff_ne, ne_eq] at *); unfold maxLen; omega)).mono ?_; rintro e w' ⟨rfl, hB1⟩)
    all_goals (go_ret; refine ⟨ret_errno ?_, by first | exact hb1 _ | exact (hb1 _).drew | exact (hb1 _).trans (hB1.mono (hb1 _).size)⟩)
    all_goals ((try simp only [te4, te5, te1, te2, te3, beq_iff_eq, beq_eq_false_iff_ne, ne_eq] at *); first | exact opE_5 (by unfold opP; dsimp only; omega) (by dsimp only; omega) | exact opE_11 (by unfold opP; dsimp only; omega) (by dsimp only; omega) (by assumption) | exact opE_0 (by unfold opP; dsimp only; omega) (by dsimp only; omega) (by assumption) | exact opE_2 (by unfold opP; dsimp only; omega))
theorem refOp_3 (o : OpV) (w : World) (hk : o.kind = 10 ∨ o.kind = 11 ∨ o.kind = 12) : Calls Tryz.prog 92 #[o.v] w fun e w' => e = .returned (.int .i64 (opE o)) ∧ Below w.heap.size w w' := by
  have hb1 := fun (o1 : Obj) => (Below.refl w.heap.size w).alloc (Nat.le_refl _) o1
  obtain ⟨k, s, a, n, i, g, t⟩ := o
  unfold OpV.v
  rcases hk with hk | hk | hk
  all_goals (replace hk : k = _ := hk; subst hk)
  all_goals
    go_enter Tryz.func92, Tryz.ntmps92
    go_wp2_with fail
    try go_region
    all_goals go_wp2_with (go_at_call 91; refine (refValid_any _ _ (by (try simp only [te4, te5, te1, te2, te3, beq_iff_eq, beq_eq_false_iff_ne, ne_eq] at *); unfold maxLen; omega)).mono ?_; rintro e w' ⟨rfl, hB1⟩)
    all_goals (go_ret; refine ⟨ret_errno ?_, by first | exact hb1 _ | exact (hb1 _).drew | exact (hb1 _).trans (hB1.mono (hb1 _).size)⟩)
    all_goals ((try simp only [te4, te5, te1, te2, te3, beq_iff_eq, beq_eq_false_iff_ne, ne_eq] at *); first | exact opE_5 (by unfold opP; dsimp only; omega) (by dsimp only; omega) | exact opE_11 (by unfold opP; dsimp only; omega) (by dsimp only; omega) (by assumption) | exact opE_0 (by unfold opP; dsimp only; omega) (by dsimp only; omega) (by assumption) | exact opE_2 (by unfold opP; dsimp only; omega))
theorem refOp_4 (o : OpV) (w : World) (hk : o.kind = 13 ∨ o.kind = 14 ∨ o.kind = 15 ∨ o.kind = 16) : Calls Tryz.prog 92 #[o.v] w fun e w' => e = .returned (.int .i64 (opE o)) ∧ Below w.heap.size w w' := by
  have hb1 := fun (o1 : Obj) => (Below.refl w.heap.size w).alloc (Nat.le_refl _) o1
  obtain ⟨k, s, a, n, i, g, t⟩ := o
  unfold OpV.v
  rcases hk with hk | hk | hk | hk
  all_goals (replace hk : k = _ := hk; subst hk)
  all_goals
    go_enter Tryz.func92, Tryz.ntmps92
    go_wp2_with fail
    try go_region
    all_goals go_wp2_with (go_at_call 91; refine (refValid_any _ _ (by (try simp only [te4, te5, te1, te2, te3, beq_iff_eq, beq_eq_false_iff_ne, ne_eq] at *); unfold maxLen; omega)).mono ?_; rintro e w' ⟨rfl, hB1⟩)
    all_goals (go_ret; refine ⟨ret_errno ?_, by first | exact hb1 _ | exact (hb1 _).drew | exact (hb1 _).trans (hB1.mono (hb1 _).size)⟩)
    all_goals ((try simp only [te4, te5, te1, te2, te3, beq_iff_eq, beq_eq_false_iff_ne, ne_eq] at *); first | exact opE_5 (by unfold opP; dsimp only; omega) (by dsimp only; omega) | exact opE_11 (by unfold opP; dsimp only; omega) (by dsimp only; omega) (by assumption) | exact opE_0 (by unfold opP; dsimp only; omega) (by dsimp only; omega) (by assumption) | exact opE_2 (by unfold opP; dsimp only; omega))
theorem refOp_o (o : OpV) (w : World) (hk : ¬(1 ≤ o.kind ∧ o.kind ≤ 16)) : Calls Tryz.prog 92 #[o.v] w fun e w' => e = .returned (.int .i64 (opE o)) ∧ Below w.heap.size w w' := by
  have hb1 := fun (o1 : Obj) => (Below.refl w.heap.size w).alloc (Nat.le_refl _) o1
  obtain ⟨k, s, a, n, i, g, t⟩ := o
  replace hk : ¬(1 ≤ k ∧ k ≤ 16) := hk
  have hne : ∀ j : Int, 1 ≤ j → j ≤ 16 → (k == j) = false := fun j h1 h2 => by simp; omega
  have n1 := hne 1 (by decide) (by decide)
  have n2 := hne 2 (by decide) (by decide)
  have n3 := hne 3 (by decide) (by decide)
  have n4 := hne 4 (by decide) (by decide)
  have n5 := hne 5 (by decide) (by decide)
  have n6 := hne 6 (by decide) (by decide)
  have n7 := hne 7 (by decide) (by decide)
  have n8 := hne 8 (by decide) (by decide)
  have n9 := hne 9 (by decide) (by decide)
  have n10 := hne 10 (by decide) (by decide)
  have n11 := hne 11 (by decide) (by decide)
  have n12 := hne 12 (by decide) (by decide)
  have n13 := hne 13 (by decide) (by decide)
  have n14 := hne 14 (by decide) (by decide)
  have n15 := hne 15 (by decide) (by decide)
  have n16 := hne 16 (by decide) (by decide)
  clear hne
  have hk := Lib.hid hk
  unfold OpV.v
  all_goals
    go_enter Tryz.func92, Tryz.ntmps92
    go_wp2_with fail
    try go_region
    all_goals go_wp2_with (go_at_call 91; refine (refValid_any _ _ (by (try simp only [te4, te5, te1, te2, te3, beq_iff_eq, beq_eq_false_iff_ne, ne_eq] at *); unfold maxLen; omega)).mono ?_; rintro e w' ⟨rfl, hB1⟩)
    all_goals (go_ret; refine ⟨ret_errno ?_, by first | exact hb1 _ | exact (hb1 _).drew | exact (hb1 _).trans (hB1.mono (hb1 _).size)⟩)
    all_goals (have hk := hk.out; (try simp only [te4, te5, te1, te2, te3, beq_iff_eq, beq_eq_false_iff_ne, ne_eq] at *); first | exact opE_5 (by unfold opP; dsimp only; omega) (by dsimp only; omega) | exact opE_11 (by unfold opP; dsimp only; omega) (by dsimp only; omega) (by assumption) | exact opE_0 (by unfold opP; dsimp only; omega) (by dsimp only; omega) (by assumption) | exact opE_2 (by unfold opP; dsimp only; omega))
theorem refOp_any (o : OpV) (w : World) : Calls Tryz.prog 92 #[o.v] w fun e w' => e = .returned (.int .i64 (opE o)) ∧ Below w.heap.size w w' := by
  by_cases h : 1 ≤ o.kind ∧ o.kind ≤ 16
  · by_cases h0 : o.kind ≤ 3
    · exact refOp_0 o w (by omega)
    by_cases h1 : o.kind ≤ 6
    · exact refOp_1 o w (by omega)
    by_cases h2 : o.kind ≤ 9
    · exact refOp_2 o w (by omega)
    by_cases h3 : o.kind ≤ 12
    · exact refOp_3 o w (by omega)
    · exact refOp_4 o w (by omega)
  · exact refOp_o o w h
end Go.Proofs.YtlealeecmmpckaaGreat
