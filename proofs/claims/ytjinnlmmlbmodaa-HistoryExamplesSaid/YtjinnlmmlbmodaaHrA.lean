/- The reference of history: a call by itself, two calls. -/
import Derived.Test.YtjinnlmmlbmodaaHisEq
namespace Go.Proofs.Ytjinnlmmlbmodaa
open Go.RowKit Go.Lib Go.Shelf
open KitI (own_below)
attribute [local go_sem, local simp] callL_0 callL_1 callL_2 callL_3 callL_4 callL_5 callL_6 callL_7 callL_8 callL_9 callL_10 callL_11 callL_12 callL_13 callL_14 callL_15 callL_16 callL_17 callL_18 callL_19 callL_20 callL_21 callL_22 callL_23 callL_24 callL_25 callL_26 resL_0 resL_1 resL_2 resL_3 resL_4 resL_5 resL_6 resL_7 resL_8 resL_9 resL_10 resL_11 resL_12 callG_0 callG_1 callG_2 callG_3 callG_4 callG_5 callG_6 callG_7 callG_8 callG_9 callG_10 callG_11 callG_12 callG_13 callG_14 callG_15 callG_16 callG_17 callG_18 callG_19 callG_20 callG_21 callG_22 callG_23 callG_24 callG_25 callG_26 resG_0 resG_1 resG_2 resG_3 resG_4 resG_5 resG_6 resG_7 resG_8 resG_9 resG_10 resG_11 resG_12 callL_len resL_len
attribute [local go_sem ↓] loadCall_eq loadRes_eq
attribute [local go_sem] ld_new ld_first ld_second ldr_new st_new

attribute [local go_sem ↓] loadItem_eq
theorem eqp_nil (p : Option Addr) (n c : Nat) (w : World) (hn : n < 9223372036854775808) : Calls Try.prog 71 #[.slice p n c, .slice none 0 0] w fun e w' => e = .returned (.bool (decide (n = 0))) ∧ Below w.heap.size w w' := by
  by_cases h : n = 0
  · subst h
    go_enter Try.func71, Try.ntmps71
    go_wp2
    refine wp_loop_rounds 1 ?_
    rw [rounds_succ]
    go_wp2
    go_returns
    exact ⟨rfl, Below.refl _ _⟩
  · have d1 : ((n : Int) != 0) = true := by simpa using h
    have d2 : ((n : Int) == 0) = false := by simpa using h
    go_enter Try.func71, Try.ntmps71
    go_wp2
    go_returns
    exact ⟨ret_bool (decide_eq_false h).symm, Below.refl _ _⟩
def itemZ (c : CallV) : Bool := decide (c.ik = 0 ∧ c.ifrom = 0 ∧ c.ito = 0 ∧ c.ps.length = 0)
set_option maxRecDepth 100000 in
set_option maxHeartbeats 1000000 in
theorem eqitem_zero (c : CallV) (w : World) (hl : c.ps.length < 9223372036854775808) : Calls Try.prog 64 #[.agg (itemL c).toArray, .agg #[.int .u8 0, .int .i64 0, .int .i64 0, .slice none 0 0]] w fun e w' => e = .returned (.bool (itemZ c)) ∧ Below w.heap.size w w' := by
  have cl := fun W => eqp_nil c.da c.ps.length c.dc W hl
  have hbb := fun (o o' : Obj) => below2 w o o'
  unfold itemL
  have Cl := Lib.hid cl
  have Hbb := Lib.hid hbb
  clear cl hbb
  go_enter Try.func64, Try.ntmps64
  go_wp2_with (go_at_call 71; refine (Cl.out _).mono ?_; rintro e w3 ⟨rfl, hb⟩)
  all_goals go_returns
  all_goals refine ⟨ret_bool ?_, by first | exact Hbb.out _ _ | exact (Hbb.out _ _).trans (hb.mono (by simp; omega))⟩
  all_goals (clear Cl Hbb; (try clear hb); unfold itemZ; rw [Bool.eq_iff_iff]; simp_all)
def zeroC : CallV := { thread := 0, index := 0, okind := 0, oslot := 0, oat := 0, on := 0, oid := 0, ograv := 0, otext := ⟨#[]⟩, invoked := 0, took := 0, rank := 0, answered := 0, steps := 0, err := 0, rev := 0, rslot := 0, rat := 0, rgrav := 0, rtext := ⟨#[]⟩, mb := 0, mr := 0, ml := 0, ik := 0, ifrom := 0, ito := 0, ps := [], da := none, dc := 0 }
theorem zeroC_text : zeroC.rtext.toList = [] := by decide +kernel
set_option maxRecDepth 100000 in
set_option maxHeartbeats 2000000 in
theorem eqres_zero (c : CallV) (w : World) (hl : c.ps.length < 9223372036854775808) : Calls Try.prog 52 #[.agg (resL c).toArray, .agg (resL zeroC).toArray] w fun e w' => e = .returned (.bool (plainB c)) ∧ Below w.heap.size w w' := by
  have cl := fun W => eqitem_zero c W hl
  obtain ⟨q, hq⟩ : ∃ q, itemZ c = q := ⟨_, rfl⟩
  rw [hq] at cl
  have hbb := below2 w (.cells (resL c).toArray 32) (.cells (resL zeroC).toArray 32)
  have l1 := ld_item c (blk_old (blk_new w (resL c) 32) (.cells (resL zeroC).toArray 32))
  have l2 : (loadItem (.pointer (some ⟨w.heap.size + 1, 9, none⟩))).run Try.prog ((w.alloc (.cells (resL c).toArray 32)).alloc (.cells (resL zeroC).toArray 32)) = .ok (.agg #[.int .u8 0, .int .i64 0, .int .i64 0, .slice none 0 0]) ((w.alloc (.cells (resL c).toArray 32)).alloc (.cells (resL zeroC).toArray 32)) :=
    ld_item zeroC (by have := blk_new (w.alloc (.cells (resL c).toArray 32)) (resL zeroC) 32; rwa [World.size_alloc] at this)
  have hp : plainB c = (decide (c.err = 0 ∧ c.rev = 0 ∧ c.rslot = 0 ∧ c.rat = 0 ∧ c.rgrav = 0 ∧ c.rtext.toList = [] ∧ c.mb = 0 ∧ c.mr = 0 ∧ c.ml = 0) && q) := by
    rw [← hq]; unfold plainB itemZ; rw [Bool.eq_iff_iff]; simp only [Bool.and_eq_true, decide_eq_true_eq]
    constructor <;> (intro h; simp [h])
  rw [hp]
  have Cl := Lib.hid cl
  have Hbb := Lib.hid hbb
  clear cl hbb hp hq
  go_enter Try.func52, Try.ntmps52
  go_wp2_with (go_at_call 64; refine (Cl.out _).mono ?_; rintro e w3 ⟨rfl, hb⟩)
  all_goals go_returns
  all_goals refine ⟨ret_bool ?_, by first | exact Hbb.out | exact Hbb.out.trans (hb.mono (by simp; omega))⟩
  all_goals (clear Cl Hbb; (try clear hb); (try clear l1 l2); simp only [show zeroC.err = 0 from rfl, show zeroC.rev = 0 from rfl, show zeroC.rslot = 0 from rfl, show zeroC.rat = 0 from rfl, show zeroC.rgrav = 0 from rfl, show zeroC.mb = 0 from rfl, show zeroC.mr = 0 from rfl, show zeroC.ml = 0 from rfl, zeroC_text] at *; cases q <;> (rw [Bool.eq_iff_iff]; simp_all))

set_option maxRecDepth 100000 in
set_option maxHeartbeats 4000000 in
theorem alone_any (c : CallV) (hc : c.Ok) (hl : c.ps.length < 9223372036854775808) (w : World) : Calls Try.prog 44 #[.agg (callL c).toArray] w fun e w' => e = .returned (.bool (formedB c)) ∧ Below w.heap.size w w' := by
  obtain ⟨hi0, hi1, ha0, ha1, hs0, hs1, ht0, ht1, hr0, hr1⟩ := hc
  have cp := fun W => eqres_zero c W hl
  have hz : (resL zeroC).toArray = #[.int .i64 0, .int .i64 0, .int .i64 0, .int .i64 0, .int .u8 0, .string ⟨#[]⟩, .int .i64 0, .int .i64 0, .int .i64 0, .int .u8 0, .int .i64 0, .int .i64 0, .slice none 0 0] := rfl
  rw [hz] at cp
  obtain ⟨p, hp⟩ : ∃ p, plainB c = p := ⟨_, rfl⟩
  rw [hp] at cp
  have Hp := Lib.hid hp
  clear hp hz
  go_enter Try.func44, Try.ntmps44
  go_wp2_with (go_at_call 52; refine (cp _).mono ?_; rintro e w1 ⟨rfl, hb1⟩; obtain ⟨hcl, hfz⟩ := bcell hb1)
  all_goals go_returns
  all_goals refine ⟨ret_bool ?_, by first | exact ((Below.refl _ _).alloc (Nat.le_refl _) _) | exact ((Below.refl _ _).alloc (Nat.le_refl _) _).trans (hb1.mono (by simp))⟩
  all_goals (have hp := Hp.out; clear Hp cp; unfold formedB; rw [hp]; clear hp; cases p <;> (rw [Bool.eq_iff_iff]; simp at *; try omega))
def meetsB (s : Int) (c : CallV) : Bool := decide (0 ≤ s ∧ (s = c.invoked ∨ s = c.answered))
set_option maxRecDepth 100000 in
set_option maxHeartbeats 1000000 in
theorem meets_any (s : Int) (c : CallV) (w : World) : Calls Try.prog 65 #[.int .i64 s, .agg (callL c).toArray] w fun e w' => e = .returned (.bool (meetsB s c)) ∧ Below w.heap.size w w' := by
  go_enter Try.func65, Try.ntmps65
  go_wp2
  all_goals go_returns
  all_goals (refine ⟨ret_bool ?_, (Below.refl _ _).alloc (Nat.le_refl _) _⟩; unfold meetsB; rw [Bool.eq_iff_iff]; first | (simp_all; done) | (simp at *; omega))
end Go.Proofs.Ytjinnlmmlbmodaa
