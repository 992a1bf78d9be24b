/- formed and clash of history. -/
import Derived.Test.YtjinnlmmlbmodaaHisA
namespace Go.Proofs.Ytjinnlmmlbmodaa
open Go.RowKit
attribute [local go_sem, local simp] callL_0 callL_1 callL_2 callL_3 callL_4 callL_5 callL_6 callL_7 callL_8 callL_9 callL_10 callL_11 callL_12 callL_13 callL_14 callL_15 callL_16 callL_17 callL_18 callL_19 callL_20 callL_21 callL_22 callL_23 callL_24 callL_25 callL_26 resL_0 resL_1 resL_2 resL_3 resL_4 resL_5 resL_6 resL_7 resL_8 resL_9 resL_10 resL_11 resL_12 callG_0 callG_1 callG_2 callG_3 callG_4 callG_5 callG_6 callG_7 callG_8 callG_9 callG_10 callG_11 callG_12 callG_13 callG_14 callG_15 callG_16 callG_17 callG_18 callG_19 callG_20 callG_21 callG_22 callG_23 callG_24 callG_25 callG_26 resG_0 resG_1 resG_2 resG_3 resG_4 resG_5 resG_6 resG_7 resG_8 resG_9 resG_10 resG_11 resG_12 callL_len resL_len
attribute [local go_sem ↓] loadCall_eq loadRes_eq
attribute [local go_sem] ld_new ld_first ld_second ldr_new st_new

/-- What the walk must know of a call's numbers: that they are numbers of 64 bits. -/
structure CallV.Ok (c : CallV) : Prop where
  i0 : -9223372036854775808 ≤ c.invoked
  i1 : c.invoked ≤ 9223372036854775807
  a0 : -9223372036854775808 ≤ c.answered
  a1 : c.answered ≤ 9223372036854775807
  s0 : -9223372036854775808 ≤ c.steps
  s1 : c.steps ≤ 9223372036854775807
  t0 : -9223372036854775808 ≤ c.took
  t1 : c.took ≤ 9223372036854775807
  r0 : -9223372036854775808 ≤ c.rank
  r1 : c.rank ≤ 9223372036854775807

def formedB (c : CallV) : Bool :=
  decide (0 ≤ c.thread ∧ c.thread < 16 ∧ 0 ≤ c.index ∧ 0 ≤ c.invoked ∧ -1 ≤ c.took ∧ -1 ≤ c.answered ∧ 0 ≤ c.rank ∧ 0 ≤ c.steps ∧
    ((0 ≤ c.took ∧ c.invoked ≤ c.took) ∨ (c.took < 0 ∧ c.rank = 0 ∧ plainB c = true)) ∧
    ((c.answered < 0 ∧ c.steps = 0) ∨ (0 ≤ c.answered ∧ 0 ≤ c.took ∧ c.took ≤ c.answered ∧ c.invoked ≤ c.answered ∧ 1 ≤ c.steps ∧ c.steps - 1 ≤ c.answered - c.invoked ∧ (c.answered = c.invoked ∨ 2 ≤ c.steps))))

set_option maxRecDepth 100000 in
set_option maxHeartbeats 2000000 in
theorem formed_any (c : CallV) (hc : c.Ok) (w : World) : Calls Try.prog 38 #[.agg (callL c).toArray] w fun e w' => e = .returned (.bool (formedB c)) ∧ Below w.heap.size w w' := by
  obtain ⟨hi0, hi1, ha0, ha1, hs0, hs1, ht0, ht1, hr0, hr1⟩ := hc
  have cp := fun W => plain_any c W
  obtain ⟨p, hp⟩ : ∃ p, plainB c = p := ⟨_, rfl⟩
  rw [hp] at cp
  have Hp := Lib.hid hp
  clear hp
  go_enter Try.func38, Try.ntmps38
  go_wp2_with (go_at_call 48; refine (cp _).mono ?_; rintro e w1 ⟨rfl, hb1⟩; obtain ⟨hcl, hfz⟩ := bcell hb1)
  all_goals go_returns
  all_goals refine ⟨ret_bool ?_, by first | exact ((Below.refl _ _).alloc (Nat.le_refl _) _) | exact ((Below.refl _ _).alloc (Nat.le_refl _) _).trans (hb1.mono (by simp))⟩
  all_goals (have hp := Hp.out; clear Hp cp; unfold formedB; rw [hp]; clear hp; cases p <;> (rw [Bool.eq_iff_iff]; simp at *; try omega))

def clashB (c d : CallV) : Bool :=
  decide ((0 ≤ c.invoked ∧ (c.invoked = d.invoked ∨ c.invoked = d.answered)) ∨ (0 ≤ c.answered ∧ (c.answered = d.invoked ∨ c.answered = d.answered)) ∨
    (0 ≤ c.took ∧ c.took = d.took ∧ c.rank = d.rank) ∨
    (c.thread ≠ d.thread ∧ ((0 ≤ c.took ∧ (c.took = d.invoked ∨ c.took = d.answered)) ∨ (0 ≤ d.took ∧ (d.took = c.invoked ∨ d.took = c.answered)))))

set_option maxRecDepth 100000 in
set_option maxHeartbeats 4000000 in
theorem clash_any (c d : CallV) (w : World) : Calls Try.prog 39 #[.agg (callL c).toArray, .agg (callL d).toArray] w fun e w' => e = .returned (.bool (clashB c d)) ∧ Below w.heap.size w w' := by
  have i0 : ∀ w, (Instr.index 76 (.agg #[.int .i64 c.invoked, .int .i64 c.answered]) (.int .i64 0)).run Try.prog w = .ok (.int .i64 c.invoked) w := fun _ => by kernel_rfl
  have i1 : ∀ w, (Instr.index 76 (.agg #[.int .i64 c.invoked, .int .i64 c.answered]) (.int .i64 1)).run Try.prog w = .ok (.int .i64 c.answered) w := fun _ => by kernel_rfl
  go_enter Try.func39, Try.ntmps39
  go_wp2
  refine wp_loop_rounds 3 ?_
  rw [rounds_succ]
  go_wp2
  repeat any_goals (rw [rounds_succ]; go_wp2)
  all_goals go_returns
  all_goals refine ⟨ret_bool ?_, below2 _ _ _⟩
  all_goals (clear i0 i1; unfold clashB; rw [Bool.eq_iff_iff]; simp at *; try omega)
end Go.Proofs.Ytjinnlmmlbmodaa
