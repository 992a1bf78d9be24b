/- The texts HsW HsX HsY. -/
import Derived.Test.YtdeiocppghhfdaaGreatPhf
import Derived.Test.YtdeiocppghhfdaaGreatPua
namespace Go.Proofs.YtdeiocppghhfdaaGreat.Hs
set_option linter.unusedVariables false
set_option linter.unusedSimpArgs false
set_option maxRecDepth 100000
set_option maxHeartbeats 8000000
open Go.RowKit Go.Lib Go.Shelf
open KitI (own_below)
attribute [local go_sem, local simp] callL_0 callL_1 callL_2 callL_3 callL_4 callL_5 callL_6 callL_7 callL_8 callL_9 callL_10 callL_11 callL_12 callL_13 callL_14 callL_15 callL_16 callL_17 callL_18 callL_19 callL_20 callL_21 callL_22 callL_23 callL_24 callL_25 callL_26 resL_0 resL_1 resL_2 resL_3 resL_4 resL_5 resL_6 resL_7 resL_8 resL_9 resL_10 resL_11 resL_12 callG_0 callG_1 callG_2 callG_3 callG_4 callG_5 callG_6 callG_7 callG_8 callG_9 callG_10 callG_11 callG_12 callG_13 callG_14 callG_15 callG_16 callG_17 callG_18 callG_19 callG_20 callG_21 callG_22 callG_23 callG_24 callG_25 callG_26 resG_0 resG_1 resG_2 resG_3 resG_4 resG_5 resG_6 resG_7 resG_8 resG_9 resG_10 resG_11 resG_12 callL_len resL_len
attribute [local go_sem ↓] loadCall_eq loadRes_eq
attribute [local go_sem] ld_new ld_first ld_second ldr_new st_new
theorem pure_ok {c d : CallV} (h : c.pure = d.pure) (hd : d.Ok) : c.Ok := by
  have e1 : c.invoked = d.invoked := (congrArg CallV.invoked h : c.pure.invoked = d.pure.invoked)
  have e2 : c.answered = d.answered := (congrArg CallV.answered h : c.pure.answered = d.pure.answered)
  have e3 : c.steps = d.steps := (congrArg CallV.steps h : c.pure.steps = d.pure.steps)
  have e4 : c.took = d.took := (congrArg CallV.took h : c.pure.took = d.pure.took)
  have e5 : c.rank = d.rank := (congrArg CallV.rank h : c.pure.rank = d.pure.rank)
  have e6 : c.okind = d.okind := (congrArg CallV.okind h : c.pure.okind = d.pure.okind)
  have e7 : c.oid = d.oid := (congrArg CallV.oid h : c.pure.oid = d.pure.oid)
  have e8 : c.ograv = d.ograv := (congrArg CallV.ograv h : c.pure.ograv = d.pure.ograv)
  have e9 : c.oslot = d.oslot := (congrArg CallV.oslot h : c.pure.oslot = d.pure.oslot)
  have f0 : c.oat = d.oat := (congrArg CallV.oat h : c.pure.oat = d.pure.oat)
  have f1 : c.on = d.on := (congrArg CallV.on h : c.pure.on = d.pure.on)
  obtain ⟨a1, a2, a3, a4, a5, a6, a7, a8, a9, a10, b1, b2, b3, b4, b5, b6⟩ := hd
  exact ⟨by omega, by omega, by omega, by omega, by omega, by omega, by omega, by omega, by omega, by omega, by omega, by omega, by omega, by omega, by omega, by omega⟩
structure HRow (W : World) (p : Option Addr) (cap : Nat) (cs : List CallV) : Prop where
  row : CRow W p cap cs
  dat : ∀ c ∈ cs, DAt W c
  ok : ∀ c ∈ cs, c.Ok
  len : cs.length ≤ 24
theorem HRow.on {W W' : World} {p : Option Addr} {cap : Nat} {cs : List CallV} (h : HRow W p cap cs) (hb : Below W.heap.size W W') : HRow W' p cap cs := ⟨h.row.on hb, fun c hc => (h.dat c hc).on hb, h.ok, h.len⟩
theorem crow_of_own {W : World} {base : Nat} {v : Value} {cs : List CallV} (h : W.ownsRow base 56 27 v cs.length (callsL cs)) : ∃ p cap, v = .slice p cs.length cap ∧ CRow W p cap cs := by
  rcases h.2 with ⟨h1, h2⟩ | ⟨g, cap, cur, rfl, h2, h3, h4, h5, h6, h7⟩
  · have : cs = [] := List.length_eq_zero_iff.1 h2
    subst this
    exact ⟨none, 0, h1, .inl ⟨rfl, rfl, rfl⟩⟩
  · refine ⟨_, _, rfl, .inr ⟨g, 0, rfl, h4, (Array.getElem?_eq_some_iff.1 h3).1, fun j u hj => ?_⟩⟩
    have hlt := (List.getElem?_eq_some_iff.1 hj).1
    rw [callsL_len] at hlt
    rw [Nat.zero_add, h.cellAt j hlt]
    exact hj
theorem hrow_of {w W : World} {base : Nat} {v : Value} {L : List CallV} (h : ORow w base W v L) (hok : ∀ c ∈ L, c.Ok) (hl : L.length ≤ 24) : ∃ p cap hs, v = .slice p hs.length cap ∧ hs.map CallV.pure = L ∧ HRow W p cap hs := by
  obtain ⟨cs, h1, h2, h3⟩ := h
  obtain ⟨p, cap, hv, hC⟩ := crow_of_own h2
  refine ⟨p, cap, cs, hv, h1, hC, fun c hc => (h3 c hc).at, fun c hc => ?_, by rw [← h1] at hl; simpa using hl⟩
  have hm : c.pure ∈ L := by rw [← h1]; exact List.mem_map_of_mem hc
  exact pure_ok (d := c.pure) rfl (hok _ hm)
theorem few_mem {cs : List CallV} {x : CallV} (h : x ∈ fewL cs) : ∃ c ∈ cs, x = (cut100 c).pure := by
  unfold fewL at h
  obtain ⟨c, hc, rfl⟩ := List.mem_map.1 h
  exact ⟨c, List.mem_of_mem_take hc, rfl⟩
theorem cut_ok {d : CallV} (h : d.Ok) : (cut100 d).pure.Ok := ⟨h.i0, h.i1, h.a0, h.a1, h.s0, h.s1, h.t0, h.t1, h.r0, h.r1, h.kd, h.id, h.gr, h.sl, h.at_, h.nn⟩
theorem few_h (p : Option Addr) (cap : Nat) (cs : List CallV) (w : World) (hA : ArgRow w p cs) :
    Calls Tryz.prog 35 #[.slice p cs.length cap] w fun e w' => ∃ p' cap' hs, e = .returned (.slice p' hs.length cap') ∧ hs.map CallV.pure = fewL cs ∧ HRow w' p' cap' hs ∧ Below w.heap.size w w' := by
  refine (few_any p cap cs w hA).mono ?_
  rintro e w' ⟨v, rfl, hO, hB⟩
  obtain ⟨p', cap', hs, rfl, hm, hH⟩ := hrow_of hO (fun c hc => by
    obtain ⟨d, hd, rfl⟩ := few_mem hc
    rcases hA with rfl | ⟨_, _, _, _, _, _, h⟩
    · cases hd
    · exact cut_ok (h d hd).1) (few_len cs)
  exact ⟨p', cap', hs, rfl, hm, hH, hB⟩
structure RI (N : Nat) (w0 : World) (cs : List CallV) (β : List (Option (Nat × Bool))) (W : World) : Prop where
  bl : Below N w0 W
  blk : ∀ (j g : Nat) (b : Bool), β[j]? = some (some (g, b)) → N ≤ g ∧ W.heap[g]? = some (.cells (if b then (callL (cs.getD j default)).toArray else #[.int .i64 0, .int .i64 0, .int .u8 0, .int .i64 0, .int .i64 0, .int .i64 0, .int .u32 0, .int .u8 0, .string ⟨#[]⟩, .int .i64 0, .int .i64 0, .int .i64 0, .int .i64 0, .int .i64 0, .int .i64 0, .int .i64 0, .int .i64 0, .int .i64 0, .int .u8 0, .string ⟨#[]⟩, .int .i64 0, .int .i64 0, .int .i64 0, .int .u8 0, .int .i64 0, .int .i64 0, .slice none 0 0]) 56 (0, 0))
  ne : ∀ (i j g h : Nat) (a b : Bool), β[i]? = some (some (g, a)) → β[j]? = some (some (h, b)) → i ≠ j → g ≠ h
theorem RI.start {w0 : World} {cs : List CallV} (n N : Nat) : RI N w0 cs (List.replicate n none) w0 := by
  have no : ∀ (j : Nat) (x : Nat × Bool), (List.replicate n (none : Option (Nat × Bool)))[j]? = some (some x) → False := by
    intro j x h
    rw [List.getElem?_replicate] at h
    split at h <;> simp at h
  exact ⟨Below.refl _ _, fun j g b h => (no _ _ h).elim, fun i j g h a b h1 => (no _ _ h1).elim⟩
theorem RI.alloc {N : Nat} {w0 W : World} {cs : List CallV} {β : List (Option (Nat × Bool))} (h : RI N w0 cs β W) (hN : N ≤ w0.heap.size) (j : Nat) : RI N w0 cs (β.set j (some (W.heap.size, false))) (W.alloc (.cells #[.int .i64 0, .int .i64 0, .int .u8 0, .int .i64 0, .int .i64 0, .int .i64 0, .int .u32 0, .int .u8 0, .string ⟨#[]⟩, .int .i64 0, .int .i64 0, .int .i64 0, .int .i64 0, .int .i64 0, .int .i64 0, .int .i64 0, .int .i64 0, .int .i64 0, .int .u8 0, .string ⟨#[]⟩, .int .i64 0, .int .i64 0, .int .i64 0, .int .u8 0, .int .i64 0, .int .i64 0, .slice none 0 0] 56)) := by
  have hsz : N ≤ W.heap.size := Nat.le_trans hN h.bl.size
  have old : ∀ {i : Nat} {g : Nat} {b : Bool}, β[i]? = some (some (g, b)) → g < W.heap.size := fun hi => (Array.getElem?_eq_some_iff.1 (h.blk _ _ _ hi).2).1
  refine ⟨h.bl.alloc hsz _, fun i g b hi => ?_, fun i k g g' a b h1 h2 hne => ?_⟩
  · rw [List.getElem?_set] at hi
    split at hi
    · split at hi
      · simp only [Option.some.injEq, Prod.mk.injEq] at hi
        obtain ⟨rfl, rfl⟩ := hi
        exact ⟨hsz, blk_new W _ _⟩
      · cases hi
    · obtain ⟨q1, q2⟩ := h.blk i g b hi
      exact ⟨q1, blk_old q2 _⟩
  · rw [List.getElem?_set] at h1 h2
    split at h1
    · rename_i e1
      split at h1
      · simp only [Option.some.injEq, Prod.mk.injEq] at h1
        obtain ⟨rfl, rfl⟩ := h1
        rw [if_neg (by omega)] at h2
        have := old h2
        omega
      · cases h1
    · split at h2
      · split at h2
        · simp only [Option.some.injEq, Prod.mk.injEq] at h2
          obtain ⟨rfl, rfl⟩ := h2
          have := old h1
          omega
        · cases h2
      · exact h.ne i k g g' a b h1 h2 hne
theorem RI.store {N : Nat} {w0 W : World} {cs : List CallV} {β : List (Option (Nat × Bool))} (h : RI N w0 cs β W) (j g : Nat) (c : CallV) (hj : β[j]? = some (some (g, false))) (hc : cs.getD j default = c) :
    (storeCells ⟨g, 0, none⟩ (callL c)).run Tryz.prog W = .ok () (W.setRow g (callL c).toArray) ∧ RI N w0 cs (β.set j (some (g, true))) (W.setRow g (callL c).toArray) := by
  subst hc
  obtain ⟨q1, q2⟩ := h.blk j g false hj
  refine ⟨st_old rfl q2 _, below_row h.bl q1 _, fun i g' b hi => ?_, fun i k g1 g2 a b h1 h2 hne => ?_⟩
  · rw [List.getElem?_set] at hi
    split at hi
    · rename_i e
      subst e
      split at hi
      · simp only [Option.some.injEq, Prod.mk.injEq] at hi
        obtain ⟨rfl, rfl⟩ := hi
        exact ⟨q1, setRow_heap _ _ _ _ _ _ q2⟩
      · cases hi
    · rename_i e
      obtain ⟨q3, q4⟩ := h.blk i g' b hi
      exact ⟨q3, by rw [setRow_other _ _ _ _ (h.ne i j g' g b false hi hj (by omega))]; exact q4⟩
  · have back : ∀ {i : Nat} {g' : Nat} {b : Bool}, (β.set j (some (g, true)))[i]? = some (some (g', b)) → ∃ b', β[i]? = some (some (g', b')) := by
      intro i g' b hi
      rw [List.getElem?_set] at hi
      split at hi
      · rename_i e
        subst e
        split at hi
        · simp only [Option.some.injEq, Prod.mk.injEq] at hi
          obtain ⟨rfl, rfl⟩ := hi
          exact ⟨_, hj⟩
        · cases hi
      · exact ⟨_, hi⟩
    obtain ⟨_, k1⟩ := back h1
    obtain ⟨_, k2⟩ := back h2
    exact h.ne i k g1 g2 _ _ k1 k2 hne
end Go.Proofs.YtdeiocppghhfdaaGreat.Hs
namespace Go.Proofs.YtdeiocppghhfdaaGreat.Hs
set_option linter.unusedVariables false
set_option linter.unusedSimpArgs false
set_option maxRecDepth 100000
set_option maxHeartbeats 8000000
open Go.RowKit Go.WideShapes Go.ChangeShapes Go.Deep
section
variable {H : Type} {enc : TypeId × Value → H} {w : World} {base : Nat} {spare : Nat → Bool} {held : Bool}
theorem piece_cells {fuel : Nat} {cs : List Value} {x : DataW H × List MemPlace} (h : DataW.trod enc Tryz.prog w base spare held fuel 94 cs = some x) : ∃ p : PieceV, cs = pieceL p := by
  have hlen : cs.length = 3 := by
    obtain ⟨_, _, _, _, hl, _⟩ := DataW.trod_struct Tryz.underlying94 h
    rw [hl]
    kernel_rfl
  obtain ⟨_, _, h0⟩ := field_of Tryz.underlying94 h 0 _ rfl
  obtain ⟨z0, x0, w0⟩ := int_cell Tryz.underlying5 h0
  obtain ⟨_, _, h1⟩ := field_of Tryz.underlying94 h 1 _ rfl
  obtain ⟨z1, x1, w1⟩ := int_cell Tryz.underlying3 h1
  obtain ⟨_, _, h2⟩ := field_of Tryz.underlying94 h 2 _ rfl
  obtain ⟨z2, x2⟩ := str_cell Tryz.underlying9 h2
  refine ⟨⟨z0, z1, z2⟩, ?_⟩
  apply List.ext_getElem?
  intro j
  match j with
  | 0 => exact x0
  | 1 => exact x1
  | 2 => exact x2
  | n + 3 => rw [List.getElem?_eq_none (by omega), List.getElem?_eq_none (by rw [pieceL_len]; omega)]
theorem slc_open {fuel k m : Nat} {cs : List Value} {x : DataW H × List MemPlace} (h : DataW.trod enc Tryz.prog w base spare held fuel 47 ((cs.drop k).take m) = some x) : ∃ (a : Option Addr) (n c : Nat) (ps : List PieceV), cs[k]? = some (.slice a n c) ∧ ps.length = n ∧
    ((ps = [] ∧ (a = none → c = 0)) ∨ ∃ b off, a = some ⟨b, off, none⟩ ∧ ps.length ≤ c ∧ ps.length < 9223372036854775808 ∧ b < w.heap.size ∧ ∀ j u, (piecesL ps)[j]? = some u → w.cell? ⟨b, off + j, none⟩ = some u) := by
  rcases open_slice Tryz.underlying47 h with ⟨h1, _⟩ | ⟨a, len, cap, q, n, D, Pl, h1, hb, hlc, hcap, hq, _, hel⟩
  · exact ⟨_, _, _, [], cell_of h1, rfl, .inl ⟨rfl, fun _ => rfl⟩⟩
  · have hc3 : Tryz.prog.cellsOf 94 = 3 := by kernel_rfl
    rw [hc3] at hel
    have hlq : len ≤ q := by rw [hq]; split <;> omega
    obtain ⟨ps, hl, _, hcell⟩ := rows_of (w := w) (base := base) pieceL 3 pieceL_len a (fun _ => True) len (fun i hi => by
      obtain ⟨cs', h1, h2⟩ := hel i (by omega)
      obtain ⟨p, rfl⟩ := piece_cells h2
      exact ⟨p, h1, trivial⟩)
    refine ⟨_, _, _, ps, cell_of h1, hl, ?_⟩
    by_cases h0 : ps = []
    · exact .inl ⟨h0, fun e => by cases e⟩
    · right
      obtain ⟨b, off, spot⟩ := a
      have hpos : 0 < ps.length := by
        rcases ps with _ | ⟨p, ps⟩
        · exact absurd rfl h0
        · simp
      obtain ⟨u, hu⟩ : ∃ u, (piecesL ps)[0]? = some u := ⟨_, List.getElem?_eq_getElem (by rw [piecesL_len]; omega)⟩
      have g0 := hcell 0 u hu
      have hspot : spot = none := by simpa [Addr.add] using World.cell?_spot g0
      subst hspot
      have hblk : b < w.heap.size := by
        have := cell_size g0
        simpa [Addr.add] using this
      have hml : maxLen < 9223372036854775808 := by unfold maxLen; omega
      exact ⟨b, off, rfl, by omega, by omega, hblk, fun j u hj => by have := hcell j u hj; rwa [add_plain] at this⟩
theorem call_open {fuel : Nat} {cs : List Value} {x : DataW H × List MemPlace} (h : DataW.trod enc Tryz.prog w base spare held fuel 56 cs = some x) : ∃ c : CallV, cs = callL c ∧ c.Ok ∧ DRaw w c := by
  have hlen : cs.length = 27 := by
    obtain ⟨_, _, _, _, hl, _⟩ := DataW.trod_struct Tryz.underlying56 h
    rw [hl]
    kernel_rfl
  obtain ⟨_, _, h_0⟩ := field_of Tryz.underlying56 h 0 _ rfl
  obtain ⟨z0, x0, w0⟩ := int_cell Tryz.underlying3 h_0
  obtain ⟨_, _, h_1⟩ := field_of Tryz.underlying56 h 1 _ rfl
  obtain ⟨z1, x1, w1⟩ := int_cell Tryz.underlying3 h_1
  obtain ⟨_, _, h_2⟩ := field_of Tryz.underlying56 h 2 _ rfl
  obtain ⟨_, _, h_2_0⟩ := field_of Tryz.underlying54 h_2 0 _ rfl
  obtain ⟨z2, x2, w2⟩ := int_cell Tryz.underlying5 h_2_0
  replace x2 := part_cell x2
  obtain ⟨_, _, h_2_1⟩ := field_of Tryz.underlying54 h_2 1 _ rfl
  obtain ⟨z3, x3, w3⟩ := int_cell Tryz.underlying3 h_2_1
  replace x3 := part_cell x3
  obtain ⟨_, _, h_2_2⟩ := field_of Tryz.underlying54 h_2 2 _ rfl
  obtain ⟨z4, x4, w4⟩ := int_cell Tryz.underlying3 h_2_2
  replace x4 := part_cell x4
  obtain ⟨_, _, h_2_3⟩ := field_of Tryz.underlying54 h_2 3 _ rfl
  obtain ⟨z5, x5, w5⟩ := int_cell Tryz.underlying3 h_2_3
  replace x5 := part_cell x5
  obtain ⟨_, _, h_2_4⟩ := field_of Tryz.underlying54 h_2 4 _ rfl
  obtain ⟨z6, x6, w6⟩ := int_cell Tryz.underlying52 h_2_4
  replace x6 := part_cell x6
  obtain ⟨_, _, h_2_5⟩ := field_of Tryz.underlying54 h_2 5 _ rfl
  obtain ⟨z7, x7, w7⟩ := int_cell Tryz.underlying5 h_2_5
  replace x7 := part_cell x7
  obtain ⟨_, _, h_2_6⟩ := field_of Tryz.underlying54 h_2 6 _ rfl
  obtain ⟨z8, x8⟩ := str_cell Tryz.underlying9 h_2_6
  replace x8 := part_cell x8
  obtain ⟨_, _, h_3⟩ := field_of Tryz.underlying56 h 3 _ rfl
  obtain ⟨z9, x9, w9⟩ := int_cell Tryz.underlying3 h_3
  obtain ⟨_, _, h_4⟩ := field_of Tryz.underlying56 h 4 _ rfl
  obtain ⟨z10, x10, w10⟩ := int_cell Tryz.underlying3 h_4
  obtain ⟨_, _, h_5⟩ := field_of Tryz.underlying56 h 5 _ rfl
  obtain ⟨z11, x11, w11⟩ := int_cell Tryz.underlying3 h_5
  obtain ⟨_, _, h_6⟩ := field_of Tryz.underlying56 h 6 _ rfl
  obtain ⟨z12, x12, w12⟩ := int_cell Tryz.underlying3 h_6
  obtain ⟨_, _, h_7⟩ := field_of Tryz.underlying56 h 7 _ rfl
  obtain ⟨z13, x13, w13⟩ := int_cell Tryz.underlying3 h_7
  obtain ⟨_, _, h_8⟩ := field_of Tryz.underlying56 h 8 _ rfl
  obtain ⟨_, _, h_8_0⟩ := field_of Tryz.underlying51 h_8 0 _ rfl
  obtain ⟨z14, x14, w14⟩ := int_cell Tryz.underlying29 h_8_0
  replace x14 := part_cell x14
  obtain ⟨_, _, h_8_1⟩ := field_of Tryz.underlying51 h_8 1 _ rfl
  obtain ⟨z15, x15, w15⟩ := int_cell Tryz.underlying3 h_8_1
  replace x15 := part_cell x15
  obtain ⟨_, _, h_8_2⟩ := field_of Tryz.underlying51 h_8 2 _ rfl
  obtain ⟨z16, x16, w16⟩ := int_cell Tryz.underlying3 h_8_2
  replace x16 := part_cell x16
  obtain ⟨_, _, h_8_3⟩ := field_of Tryz.underlying51 h_8 3 _ rfl
  obtain ⟨z17, x17, w17⟩ := int_cell Tryz.underlying3 h_8_3
  replace x17 := part_cell x17
  obtain ⟨_, _, h_8_4⟩ := field_of Tryz.underlying51 h_8 4 _ rfl
  obtain ⟨z18, x18, w18⟩ := int_cell Tryz.underlying5 h_8_4
  replace x18 := part_cell x18
  obtain ⟨_, _, h_8_5⟩ := field_of Tryz.underlying51 h_8 5 _ rfl
  obtain ⟨z19, x19⟩ := str_cell Tryz.underlying9 h_8_5
  replace x19 := part_cell x19
  obtain ⟨_, _, h_8_6⟩ := field_of Tryz.underlying51 h_8 6 _ rfl
  obtain ⟨_, _, h_8_6_0⟩ := field_of Tryz.underlying46 h_8_6 0 _ rfl
  obtain ⟨z20, x20, w20⟩ := int_cell Tryz.underlying3 h_8_6_0
  replace x20 := part_cell x20
  replace x20 := part_cell x20
  obtain ⟨_, _, h_8_6_1⟩ := field_of Tryz.underlying46 h_8_6 1 _ rfl
  obtain ⟨z21, x21, w21⟩ := int_cell Tryz.underlying3 h_8_6_1
  replace x21 := part_cell x21
  replace x21 := part_cell x21
  obtain ⟨_, _, h_8_6_2⟩ := field_of Tryz.underlying46 h_8_6 2 _ rfl
  obtain ⟨z22, x22, w22⟩ := int_cell Tryz.underlying3 h_8_6_2
  replace x22 := part_cell x22
  replace x22 := part_cell x22
  obtain ⟨_, _, h_8_7⟩ := field_of Tryz.underlying51 h_8 7 _ rfl
  obtain ⟨_, _, h_8_7_0⟩ := field_of Tryz.underlying49 h_8_7 0 _ rfl
  obtain ⟨z23, x23, w23⟩ := int_cell Tryz.underlying5 h_8_7_0
  replace x23 := part_cell x23
  replace x23 := part_cell x23
  obtain ⟨_, _, h_8_7_1⟩ := field_of Tryz.underlying49 h_8_7 1 _ rfl
  obtain ⟨z24, x24, w24⟩ := int_cell Tryz.underlying3 h_8_7_1
  replace x24 := part_cell x24
  replace x24 := part_cell x24
  obtain ⟨_, _, h_8_7_2⟩ := field_of Tryz.underlying49 h_8_7 2 _ rfl
  obtain ⟨z25, x25, w25⟩ := int_cell Tryz.underlying3 h_8_7_2
  replace x25 := part_cell x25
  replace x25 := part_cell x25
  obtain ⟨_, _, h_8_7_3⟩ := field_of Tryz.underlying49 h_8_7 3 _ rfl
  obtain ⟨da, ln, dc, ps, x26, hps, hraw⟩ := slc_open h_8_7_3
  replace x26 := part_cell x26
  replace x26 := part_cell x26
  refine ⟨{ thread := z0, index := z1, okind := z2, oslot := z3, oat := z4, on := z5, oid := z6, ograv := z7, otext := z8, invoked := z9, took := z10, rank := z11, answered := z12, steps := z13, err := z14, rev := z15, rslot := z16, rat := z17, rgrav := z18, rtext := z19, mb := z20, mr := z21, ml := z22, ik := z23, ifrom := z24, ito := z25, ps := ps, da := da, dc := dc }, ?_, ⟨(wf64 w9).1, (wf64 w9).2, (wf64 w12).1, (wf64 w12).2, (wf64 w13).1, (wf64 w13).2, (wf64 w10).1, (wf64 w10).2, (wf64 w11).1, (wf64 w11).2, wf8 w2, wf32 w6, (wf8 w7).1, wf64 w3, wf64 w4, wf64 w5⟩, hraw⟩
  apply List.ext_getElem?
  intro j
  match j with
  | 0 => exact x0
  | 1 => exact x1
  | 2 => exact x2
  | 3 => exact x3
  | 4 => exact x4
  | 5 => exact x5
  | 6 => exact x6
  | 7 => exact x7
  | 8 => exact x8
  | 9 => exact x9
  | 10 => exact x10
  | 11 => exact x11
  | 12 => exact x12
  | 13 => exact x13
  | 14 => exact x14
  | 15 => exact x15
  | 16 => exact x16
  | 17 => exact x17
  | 18 => exact x18
  | 19 => exact x19
  | 20 => exact x20
  | 21 => exact x21
  | 22 => exact x22
  | 23 => exact x23
  | 24 => exact x24
  | 25 => exact x25
  | 26 =>
    refine x26.trans ?_
    rw [callL_26]
    rw [hps]
  | n + 27 => rw [List.getElem?_eq_none (by omega), List.getElem?_eq_none (by rw [callL_len]; omega)]
theorem open_calls {b0 : Nat} {v : Value} {d : DataW H} {ps : List MemPlace} (hval : Value.okWide Tryz.prog w .any b0 25 v) (hd : DataW.Trod enc Tryz.prog w base spare held 25 v d ps) : ∃ (p : Option Addr) (cap : Nat) (cs : List CallV), v = .slice p cs.length cap ∧ ArgRow w p cs := by
  obtain ⟨fuel, hf⟩ := hd
  obtain ⟨a0, n0, c0, rfl⟩ := okWide_slice Tryz.underlying25 hval
  rcases open_slice Tryz.underlying25 hf with ⟨h1, _⟩ | ⟨a, len, cap, q, n, D, Pl, h1, hb, hlc, hcap, hq, _, hel⟩
  · simp [Value.cells] at h1
    obtain ⟨rfl, rfl, rfl⟩ := h1
    exact ⟨none, 0, [], rfl, .inl rfl⟩
  · simp [Value.cells] at h1
    obtain ⟨rfl, rfl, rfl⟩ := h1
    have hc27 : Tryz.prog.cellsOf 56 = 27 := by kernel_rfl
    rw [hc27] at hel
    have hlq : n0 ≤ q := by rw [hq]; split <;> omega
    obtain ⟨cs, hl, hQ, hcell⟩ := rows_of (w := w) (base := base) callL 27 callL_len a (fun c => c.Ok ∧ DRaw w c) n0 (fun i hi => by
      obtain ⟨cs', h1, h2⟩ := hel i (by omega)
      obtain ⟨c, rfl, hc⟩ := call_open h2
      exact ⟨c, h1, hc⟩)
    refine ⟨_, _, cs, by rw [hl], ?_⟩
    by_cases h0 : cs = []
    · exact .inl h0
    · right
      obtain ⟨b, off, spot⟩ := a
      have hpos : 0 < cs.length := by
        rcases cs with _ | ⟨p, cs⟩
        · exact absurd rfl h0
        · simp
      obtain ⟨u, hu⟩ : ∃ u, (callsL cs)[0]? = some u := ⟨_, List.getElem?_eq_getElem (by rw [callsL_len]; omega)⟩
      have g0 := hcell 0 u hu
      have hspot : spot = none := by simpa [Addr.add] using World.cell?_spot g0
      subst hspot
      have hblk : b < w.heap.size := by
        have := cell_size g0
        simpa [Addr.add] using this
      have hml : maxLen < 9223372036854775808 := by unfold maxLen; omega
      exact ⟨b, off, rfl, hblk, fun j u hj => by have := hcell j u hj; rwa [add_plain] at this, by omega, hQ⟩
end
end Go.Proofs.YtdeiocppghhfdaaGreat.Hs
namespace Go.Proofs.YtdeiocppghhfdaaGreat.Hs
set_option linter.unusedVariables false
set_option linter.unusedSimpArgs false
set_option maxRecDepth 100000
set_option maxHeartbeats 8000000
open Go.RowKit Go.Lib Go.Shelf
theorem ordE_zero {n : Nat} : ∀ (r seen : List Int), (∀ x ∈ r, 0 ≤ x ∧ x < (n : Int)) → (∀ x ∈ r, x ∉ seen) → r.Nodup → ordE n seen r = 0
  | [], _, _, _, _ => rfl
  | x :: r, seen, h1, h2, h3 => by
    have hx := h1 x (List.mem_cons_self ..)
    unfold ordE
    rw [if_neg (by omega), if_neg (h2 x (List.mem_cons_self ..))]
    obtain ⟨h4, h5⟩ := List.nodup_cons.1 h3
    refine ordE_zero r (seen ++ [x]) (fun y hy => h1 y (List.mem_cons_of_mem _ hy)) (fun y hy hm => ?_) h5
    rcases List.mem_append.1 hm with h | h
    · exact h2 y (List.mem_cons_of_mem _ hy) h
    · rw [List.mem_singleton.1 h] at hy; exact h4 hy
theorem places_nodup {q : CallV → Bool} {cs : List CallV} {k : Nat} : (places q cs k).Nodup := by
  refine List.Pairwise.imp ?_ (places_sorted (q := q) (cs := cs) (k := k))
  intro a b h; omega
theorem eff_nodup {cs : List CallV} {L : List Nat} (h : EffIs cs L) : L.Nodup := h.1.nodup_iff.2 places_nodup
theorem eff_mem {cs : List CallV} {L : List Nat} (h : EffIs cs L) {i : Nat} : i ∈ L ↔ ∃ c, cs[i]? = some c ∧ tookQ c = true := by
  rw [h.1.mem_iff]
  constructor
  · exact places_at
  · rintro ⟨c, hc, hq⟩
    have := places_mem (k := 0) hc hq
    rwa [Nat.zero_add] at this
theorem eff_len {cs : List CallV} {L : List Nat} (h : EffIs cs L) : L.length ≤ cs.length := by
  rw [h.1.length_eq]; exact places_len
theorem good_formed {cs : List CallV} (h0 : (checkP cs).2 = 0) {i : Nat} {c : CallV} (hc : cs[i]? = some c) : formedB c = true := acc_formed (check_ok h0 i c hc)
theorem formed_answered {c : CallV} (h : formedB c = true) (ha : 0 ≤ c.answered) : 0 ≤ c.took ∧ c.took ≤ c.answered ∧ c.invoked ≤ c.answered := by
  unfold formedB at h; simp at h; omega
theorem formed_took {c : CallV} (h : formedB c = true) (ha : 0 ≤ c.took) : c.invoked ≤ c.took := by
  unfold formedB at h; simp at h; omega
theorem formed_inv {c : CallV} (h : formedB c = true) : 0 ≤ c.invoked ∧ -1 ≤ c.took ∧ -1 ≤ c.answered := by
  unfold formedB at h; simp at h; omega
theorem tk_at {cs : List CallV} {i : Nat} {c : CallV} (h : cs[i]? = some c) : tk cs i = c.took ∧ rk cs i = c.rank := by
  unfold tk rk; rw [h]; exact ⟨rfl, rfl⟩
theorem bef_lex {cs : List CallV} (h0 : (checkP cs).2 = 0) {i j : Nat} {a b : CallV} (ha : cs[i]? = some a) (hb : cs[j]? = some b) (hq : tookQ b = true) (h : befB a b = true) : tookQ a = true ∧ tk cs i < tk cs j := by
  unfold befB at h
  simp only [Bool.and_eq_true, decide_eq_true_eq] at h
  have f1 := formed_answered (good_formed h0 ha) h.1
  have f2 := formed_took (good_formed h0 hb) (by simpa [tookQ] using hq)
  rw [(tk_at ha).1, (tk_at hb).1]
  exact ⟨by simp [tookQ]; omega, by omega⟩
theorem mem_cast {L : List Nat} {i : Nat} : ((i : Int) ∈ L.map fun (n : Nat) => (n : Int)) ↔ i ∈ L := by
  constructor
  · intro h
    obtain ⟨a, ha, he⟩ := List.mem_map.1 h
    have : a = i := by omega
    rwa [this] at ha
  · intro h; exact List.mem_map_of_mem h
theorem idx_cast {L : List Nat} {i : Nat} : (L.map fun (n : Nat) => (n : Int)).idxOf (i : Int) = L.idxOf i := by
  induction L with
  | nil => rfl
  | cons a L ih =>
    rw [List.map_cons, List.idxOf_cons, List.idxOf_cons, ih]
    by_cases h : a = i
    · subst h; simp
    · have h1 : (a == i) = false := by simpa using h
      have h2 : ((a : Int) == (i : Int)) = false := by rw [beq_eq_false_iff_ne]; omega
      rw [h1, h2]
theorem pair_at {R : Nat → Nat → Prop} {L : List Nat} (h : L.Pairwise R) {i j : Nat} (hi : i ∈ L) (hj : j ∈ L) (hlt : L.idxOf i < L.idxOf j) : R i j := by
  have a1 := List.idxOf_lt_length_iff.2 hi
  have a2 := List.idxOf_lt_length_iff.2 hj
  have := List.pairwise_iff_getElem.1 h (L.idxOf i) (L.idxOf j) a1 a2 hlt
  rwa [List.getElem_idxOf a1, List.getElem_idxOf a2] at this
theorem agrees_eff {cs : List CallV} {L : List Nat} (h0 : (checkP cs).2 = 0) (hL : EffIs cs L) : agreesP (L.map fun (n : Nat) => (n : Int)) cs = (true, 0) := by
  have hord : ordE cs.length [] (L.map fun (n : Nat) => (n : Int)) = 0 := by
    refine ordE_zero _ _ (fun x hx => ?_) (fun x _ h => by cases h) ?_
    · obtain ⟨i, hi, rfl⟩ := List.mem_map.1 hx
      obtain ⟨c, hc, _⟩ := (eff_mem hL).1 hi
      have := (List.getElem?_eq_some_iff.1 hc).1
      omega
    · refine List.Pairwise.map _ ?_ (eff_nodup hL)
      intro a b h; omega
  unfold agreesP
  rw [if_pos h0, if_pos hord]
  congr 1
  refine pairs_yes fun i j hi hj => ?_
  unfold pairB
  rw [List.getElem?_eq_getElem hi, List.getElem?_eq_getElem hj]
  simp only [Bool.not_eq_true', Bool.and_eq_false_iff, Bool.or_eq_false_iff, decide_eq_false_iff_not, Classical.not_not]
  by_cases hb : befB cs[i] cs[j] = true
  · by_cases hjz : plc (L.map fun (n : Nat) => (n : Int)) j = 0
    · exact .inl (.inl hjz)
    · right
      have hjm : j ∈ L := by
        rw [plc_zero, Classical.not_not] at hjz
        exact mem_cast.1 hjz
      obtain ⟨c, hc, hq⟩ := (eff_mem hL).1 hjm
      rw [List.getElem?_eq_getElem hj] at hc
      cases hc
      obtain ⟨hqa, hlt⟩ := bef_lex h0 (List.getElem?_eq_getElem hi) (List.getElem?_eq_getElem hj) hq hb
      have him : i ∈ L := (eff_mem hL).2 ⟨_, List.getElem?_eq_getElem hi, hqa⟩
      constructor
      · rw [plc_zero, mem_cast]; exact fun h => h him
      · unfold plc
        rw [if_pos (mem_cast.2 hjm), if_pos (mem_cast.2 him), idx_cast, idx_cast]
        intro hlt2
        have := pair_at hL.2 hjm him (by omega)
        unfold lexB at this
        simp at this
        omega
  · exact .inl (.inr (by simpa using hb))
def seenV (L : List Nat) (n : Nat) : List Value := (List.range n).map fun j => .bool (decide (j ∈ L))
end Go.Proofs.YtdeiocppghhfdaaGreat.Hs
