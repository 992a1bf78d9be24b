/- What few gives: a row of calls; regions that make calls' blocks in any order. -/
import Derived.Test.YtjinnlmmlbmodaaHisU
namespace Go.Proofs.Ytjinnlmmlbmodaa
open Go.RowKit Go.Lib Go.Shelf
open KitI (own_below)
attribute [local go_sem, local simp] callL_0 callL_1 callL_2 callL_3 callL_4 callL_5 callL_6 callL_7 callL_8 callL_9 callL_10 callL_11 callL_12 callL_13 callL_14 callL_15 callL_16 callL_17 callL_18 callL_19 callL_20 callL_21 callL_22 callL_23 callL_24 callL_25 callL_26 resL_0 resL_1 resL_2 resL_3 resL_4 resL_5 resL_6 resL_7 resL_8 resL_9 resL_10 resL_11 resL_12 callG_0 callG_1 callG_2 callG_3 callG_4 callG_5 callG_6 callG_7 callG_8 callG_9 callG_10 callG_11 callG_12 callG_13 callG_14 callG_15 callG_16 callG_17 callG_18 callG_19 callG_20 callG_21 callG_22 callG_23 callG_24 callG_25 callG_26 resG_0 resG_1 resG_2 resG_3 resG_4 resG_5 resG_6 resG_7 resG_8 resG_9 resG_10 resG_11 resG_12 callL_len resL_len
attribute [local go_sem ↓] loadCall_eq loadRes_eq
attribute [local go_sem] ld_new ld_first ld_second ldr_new st_new

theorem pure_ok {c d : CallV} (h : c.pure = d.pure) (hd : d.Ok) : c.Ok := by
  have e1 : c.invoked = d.invoked := (congrArg CallV.invoked h : c.pure.invoked = d.pure.invoked)
  have e2 : c.answered = d.answered := (congrArg CallV.answered h : c.pure.answered = d.pure.answered)
  have e3 : c.steps = d.steps := (congrArg CallV.steps h : c.pure.steps = d.pure.steps)
  have e4 : c.took = d.took := (congrArg CallV.took h : c.pure.took = d.pure.took)
  have e5 : c.rank = d.rank := (congrArg CallV.rank h : c.pure.rank = d.pure.rank)
  obtain ⟨a1, a2, a3, a4, a5, a6, a7, a8, a9, a10⟩ := hd
  exact ⟨by omega, by omega, by omega, by omega, by omega, by omega, by omega, by omega, by omega, by omega⟩
/-- A row of calls as few, Of and Prefix give it. -/
structure HRow (W : World) (p : Option Addr) (cap : Nat) (cs : List CallV) : Prop where
  row : CRow W p cap cs
  dat : ∀ c ∈ cs, DAt W c
  ok : ∀ c ∈ cs, c.Ok
  len : cs.length ≤ 24
theorem HRow.on {W W' : World} {p : Option Addr} {cap : Nat} {cs : List CallV} (h : HRow W p cap cs) (hb : Below W.heap.size W W') : HRow W' p cap cs := ⟨h.row.on hb, fun c hc => (h.dat c hc).on hb, h.ok, h.len⟩
theorem crow_of_own {W : World} {base : Nat} {v : Value} {cs : List CallV} (h : W.ownsRow base 34 27 v cs.length (callsL cs)) : ∃ p cap, v = .slice p cs.length cap ∧ CRow W p cap cs := by
  rcases h.2 with ⟨h1, h2⟩ | ⟨g, cap, cur, rfl, h2, h3, h4, h5, h6, h7⟩
  · have : cs = [] := List.length_eq_zero_iff.1 h2
    subst this
    exact ⟨none, 0, h1, .inl ⟨rfl, rfl, rfl⟩⟩
  · refine ⟨_, _, rfl, .inr ⟨g, 0, rfl, h4, (Array.getElem?_eq_some_iff.1 h3).1, fun j u hj => ?_⟩⟩
    have hlt := (List.getElem?_eq_some_iff.1 hj).1
    rw [callsL_len] at hlt
    rw [Nat.zero_add, h.cellAt j hlt]
    exact hj
theorem hrow_of {w W : World} {base : Nat} {v : Value} {L : List CallV} (h : ORow w base W v L) (hok : ∀ c ∈ L, c.Ok) (hl : L.length ≤ 24) : ∃ p cap hs, v = .slice p hs.length cap ∧ hs.map CallV.pure = L ∧ HRow W p cap hs := by
  obtain ⟨cs, h1, h2, h3⟩ := h
  obtain ⟨p, cap, hv, hC⟩ := crow_of_own h2
  refine ⟨p, cap, cs, hv, h1, hC, fun c hc => (h3 c hc).at, fun c hc => ?_, by rw [← h1] at hl; simpa using hl⟩
  have hm : c.pure ∈ L := by rw [← h1]; exact List.mem_map_of_mem hc
  exact pure_ok (d := c.pure) rfl (hok _ hm)
theorem few_mem {cs : List CallV} {x : CallV} (h : x ∈ fewL cs) : ∃ c ∈ cs, x = (cut100 c).pure := by
  unfold fewL at h
  obtain ⟨c, hc, rfl⟩ := List.mem_map.1 h
  exact ⟨c, List.mem_of_mem_take hc, rfl⟩
theorem cut_ok {d : CallV} (h : d.Ok) : (cut100 d).pure.Ok := ⟨h.i0, h.i1, h.a0, h.a1, h.s0, h.s1, h.t0, h.t1, h.r0, h.r1⟩
theorem few_h (p : Option Addr) (cap : Nat) (cs : List CallV) (w : World) (hA : ArgRow w p cs) :
    Calls Try.prog 19 #[.slice p cs.length cap] w fun e w' => ∃ p' cap' hs, e = .returned (.slice p' hs.length cap') ∧ hs.map CallV.pure = fewL cs ∧ HRow w' p' cap' hs ∧ Below w.heap.size w w' := by
  refine (few_any p cap cs w hA).mono ?_
  rintro e w' ⟨v, rfl, hO, hB⟩
  obtain ⟨p', cap', hs, rfl, hm, hH⟩ := hrow_of hO (fun c hc => by
    obtain ⟨d, hd, rfl⟩ := few_mem hc
    rcases hA with rfl | ⟨_, _, _, _, _, _, h⟩
    · cases hd
    · exact cut_ok (h d hd).1) (few_len cs)
  exact ⟨p', cap', hs, rfl, hm, hH, hB⟩

/-! ### blocks that a drawn region makes in any order -/
/-- The blocks made so far: for each call its block, and whether it holds the call yet. -/
structure RI (N : Nat) (w0 : World) (cs : List CallV) (β : List (Option (Nat × Bool))) (W : World) : Prop where
  bl : Below N w0 W
  blk : ∀ (j g : Nat) (b : Bool), β[j]? = some (some (g, b)) → N ≤ g ∧ W.heap[g]? = some (.cells (if b then (callL (cs.getD j default)).toArray else #[.int .i64 0, .int .i64 0, .int .u8 0, .int .i64 0, .int .i64 0, .int .i64 0, .int .u32 0, .int .u8 0, .string ⟨#[]⟩, .int .i64 0, .int .i64 0, .int .i64 0, .int .i64 0, .int .i64 0, .int .i64 0, .int .i64 0, .int .i64 0, .int .i64 0, .int .u8 0, .string ⟨#[]⟩, .int .i64 0, .int .i64 0, .int .i64 0, .int .u8 0, .int .i64 0, .int .i64 0, .slice none 0 0]) 34 (0, 0))
  ne : ∀ (i j g h : Nat) (a b : Bool), β[i]? = some (some (g, a)) → β[j]? = some (some (h, b)) → i ≠ j → g ≠ h
theorem RI.start {w0 : World} {cs : List CallV} (n N : Nat) : RI N w0 cs (List.replicate n none) w0 := by
  have no : ∀ (j : Nat) (x : Nat × Bool), (List.replicate n (none : Option (Nat × Bool)))[j]? = some (some x) → False := by
    intro j x h
    rw [List.getElem?_replicate] at h
    split at h <;> simp at h
  exact ⟨Below.refl _ _, fun j g b h => (no _ _ h).elim, fun i j g h a b h1 => (no _ _ h1).elim⟩
theorem RI.alloc {N : Nat} {w0 W : World} {cs : List CallV} {β : List (Option (Nat × Bool))} (h : RI N w0 cs β W) (hN : N ≤ w0.heap.size) (j : Nat) : RI N w0 cs (β.set j (some (W.heap.size, false))) (W.alloc (.cells #[.int .i64 0, .int .i64 0, .int .u8 0, .int .i64 0, .int .i64 0, .int .i64 0, .int .u32 0, .int .u8 0, .string ⟨#[]⟩, .int .i64 0, .int .i64 0, .int .i64 0, .int .i64 0, .int .i64 0, .int .i64 0, .int .i64 0, .int .i64 0, .int .i64 0, .int .u8 0, .string ⟨#[]⟩, .int .i64 0, .int .i64 0, .int .i64 0, .int .u8 0, .int .i64 0, .int .i64 0, .slice none 0 0] 34)) := by
  have hsz : N ≤ W.heap.size := Nat.le_trans hN h.bl.size
  have old : ∀ {i : Nat} {g : Nat} {b : Bool}, β[i]? = some (some (g, b)) → g < W.heap.size := fun hi => (Array.getElem?_eq_some_iff.1 (h.blk _ _ _ hi).2).1
  refine ⟨h.bl.alloc hsz _, fun i g b hi => ?_, fun i k g g' a b h1 h2 hne => ?_⟩
  · rw [List.getElem?_set] at hi
    split at hi
    · split at hi
      · simp only [Option.some.injEq, Prod.mk.injEq] at hi
        obtain ⟨rfl, rfl⟩ := hi
        exact ⟨hsz, blk_new W _ _⟩
      · cases hi
    · obtain ⟨q1, q2⟩ := h.blk i g b hi
      exact ⟨q1, blk_old q2 _⟩
  · rw [List.getElem?_set] at h1 h2
    split at h1
    · rename_i e1
      split at h1
      · simp only [Option.some.injEq, Prod.mk.injEq] at h1
        obtain ⟨rfl, rfl⟩ := h1
        rw [if_neg (by omega)] at h2
        have := old h2
        omega
      · cases h1
    · split at h2
      · split at h2
        · simp only [Option.some.injEq, Prod.mk.injEq] at h2
          obtain ⟨rfl, rfl⟩ := h2
          have := old h1
          omega
        · cases h2
      · exact h.ne i k g g' a b h1 h2 hne
theorem RI.store {N : Nat} {w0 W : World} {cs : List CallV} {β : List (Option (Nat × Bool))} (h : RI N w0 cs β W) (j g : Nat) (c : CallV) (hj : β[j]? = some (some (g, false))) (hc : cs.getD j default = c) :
    (storeCells ⟨g, 0, none⟩ (callL c)).run Try.prog W = .ok () (W.setRow g (callL c).toArray) ∧ RI N w0 cs (β.set j (some (g, true))) (W.setRow g (callL c).toArray) := by
  subst hc
  obtain ⟨q1, q2⟩ := h.blk j g false hj
  refine ⟨st_old rfl q2 _, below_row h.bl q1 _, fun i g' b hi => ?_, fun i k g1 g2 a b h1 h2 hne => ?_⟩
  · rw [List.getElem?_set] at hi
    split at hi
    · rename_i e
      subst e
      split at hi
      · simp only [Option.some.injEq, Prod.mk.injEq] at hi
        obtain ⟨rfl, rfl⟩ := hi
        exact ⟨q1, setRow_heap _ _ _ _ _ _ q2⟩
      · cases hi
    · rename_i e
      obtain ⟨q3, q4⟩ := h.blk i g' b hi
      exact ⟨q3, by rw [setRow_other _ _ _ _ (h.ne i j g' g b false hi hj (by omega))]; exact q4⟩
  · have back : ∀ {i : Nat} {g' : Nat} {b : Bool}, (β.set j (some (g, true)))[i]? = some (some (g', b)) → ∃ b', β[i]? = some (some (g', b')) := by
      intro i g' b hi
      rw [List.getElem?_set] at hi
      split at hi
      · rename_i e
        subst e
        split at hi
        · simp only [Option.some.injEq, Prod.mk.injEq] at hi
          obtain ⟨rfl, rfl⟩ := hi
          exact ⟨_, hj⟩
        · cases hi
      · exact ⟨_, hi⟩
    obtain ⟨_, k1⟩ := back h1
    obtain ⟨_, k2⟩ := back h2
    exact h.ne i k g1 g2 _ _ k1 k2 hne
theorem RI.got {N : Nat} {w0 W : World} {cs : List CallV} {β : List (Option (Nat × Bool))} (h : RI N w0 cs β W) (j g : Nat) (c : CallV) (hj : β[j]? = some (some (g, true))) (hc : cs.getD j default = c) : N ≤ g ∧ CallBlk W g c := by
  subst hc
  exact h.blk j g true hj
end Go.Proofs.Ytjinnlmmlbmodaa
