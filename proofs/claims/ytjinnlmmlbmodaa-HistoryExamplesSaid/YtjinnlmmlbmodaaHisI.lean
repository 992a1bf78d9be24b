/- copied, and the deltas of calls in memory. -/
import Derived.Test.YtjinnlmmlbmodaaHisH
import Derived.Test.YtjinnlmmlbmodaaSortShelf
import Derived.Laws.CopyRow
namespace Go.Proofs.Ytjinnlmmlbmodaa
open Go.RowKit Go.Lib Go.Shelf
open KitI (own_below)
attribute [local go_sem, local simp] callL_0 callL_1 callL_2 callL_3 callL_4 callL_5 callL_6 callL_7 callL_8 callL_9 callL_10 callL_11 callL_12 callL_13 callL_14 callL_15 callL_16 callL_17 callL_18 callL_19 callL_20 callL_21 callL_22 callL_23 callL_24 callL_25 callL_26 resL_0 resL_1 resL_2 resL_3 resL_4 resL_5 resL_6 resL_7 resL_8 resL_9 resL_10 resL_11 resL_12 callG_0 callG_1 callG_2 callG_3 callG_4 callG_5 callG_6 callG_7 callG_8 callG_9 callG_10 callG_11 callG_12 callG_13 callG_14 callG_15 callG_16 callG_17 callG_18 callG_19 callG_20 callG_21 callG_22 callG_23 callG_24 callG_25 callG_26 resG_0 resG_1 resG_2 resG_3 resG_4 resG_5 resG_6 resG_7 resG_8 resG_9 resG_10 resG_11 resG_12 callL_len resL_len
attribute [local go_sem ↓] loadCall_eq loadRes_eq
attribute [local go_sem] ld_new ld_first ld_second ldr_new st_new

/-! ### pieces -/
def piecesL (ps : List PieceV) : List Value := ps.flatMap pieceL
theorem pieceL_len (p : PieceV) : (pieceL p).length = 3 := rfl
theorem piecesL_len (ps : List PieceV) : (piecesL ps).length = ps.length * 3 := by
  induction ps with
  | nil => rfl
  | cons p ps ih => show (pieceL p ++ piecesL ps).length = _; rw [List.length_append, ih, pieceL_len, List.length_cons]; omega
theorem piecesL_ones (ps : List PieceV) : ∀ u ∈ piecesL ps, u.oneCell' = true := by
  intro u hu
  unfold piecesL at hu
  rw [List.mem_flatMap] at hu
  obtain ⟨p, _, hu⟩ := hu
  unfold pieceL at hu
  simp only [List.mem_cons, List.not_mem_nil, or_false] at hu
  rcases hu with rfl | rfl | rfl <;> rfl
theorem infoP : (Try.prog.info? 72).map (fun i => (i.zero, i.size, i.bytes)) = some (some (.agg #[.int .u8 0, .int .i64 0, .string ⟨#[]⟩]), 3, 32) := by kernel_rfl
theorem infoC : (Try.prog.info? 34).map (fun i => (i.zero, i.size, i.bytes)) = some (some (.agg #[.int .i64 0, .int .i64 0, .int .u8 0, .int .i64 0, .int .i64 0, .int .i64 0, .int .u32 0, .int .u8 0, .string ⟨#[]⟩, .int .i64 0, .int .i64 0, .int .i64 0, .int .i64 0, .int .i64 0, .int .i64 0, .int .i64 0, .int .i64 0, .int .i64 0, .int .u8 0, .string ⟨#[]⟩, .int .i64 0, .int .i64 0, .int .i64 0, .int .u8 0, .int .i64 0, .int .i64 0, .slice none 0 0]), 27, 240) := by kernel_rfl
/-- The delta of a call lies in memory. -/
def DAt (w : World) (c : CallV) : Prop := c.ps.length ≤ 1000000 ∧ ((c.da = none ∧ c.ps = [] ∧ c.dc = 0) ∨ ∃ b off, c.da = some ⟨b, off, none⟩ ∧ b < w.heap.size ∧ ∀ j u, (piecesL c.ps)[j]? = some u → w.cell? ⟨b, off + j, none⟩ = some u)
theorem DAt.on {w w' : World} {c : CallV} (h : DAt w c) (hb : Below w.heap.size w w') : DAt w' c := by
  rcases h with ⟨h0, h | ⟨b, off, h1, h2, h3⟩⟩
  · exact ⟨h0, .inl h⟩
  · exact ⟨h0, .inr ⟨b, off, h1, Nat.lt_of_lt_of_le h2 hb.size, fun j u hj => by rw [hb.cell (p := ⟨b, off + j, none⟩) h2]; exact h3 j u hj⟩⟩
/-- The delta lies in a block of its own, made after the world w. -/
def DOwn (w W : World) (c : CallV) : Prop := c.ps.length ≤ 1000000 ∧ ((c.da = none ∧ c.ps = [] ∧ c.dc = 0) ∨ ∃ (g : Nat) (cur : Array Value), c.da = some ⟨g, 0, none⟩ ∧ w.heap.size ≤ g ∧ W.heap[g]? = some (.cells cur 72 (0, 0)) ∧ ∀ (j : Nat) (u : Value), (piecesL c.ps)[j]? = some u → cur[j]? = some u)
theorem DOwn.at {w W : World} {c : CallV} (h : DOwn w W c) : DAt W c := by
  rcases h with ⟨h0, h | ⟨g, cur, h1, h2, h3, h4⟩⟩
  · exact ⟨h0, .inl h⟩
  · exact ⟨h0, .inr ⟨g, 0, h1, (Array.getElem?_eq_some_iff.1 h3).1, fun j u hj => by rw [Nat.zero_add, cell_of_row _ _ _ _ _ _ h3]; exact h4 j u hj⟩⟩
theorem DOwn.on {w W W' : World} {c : CallV} (h : DOwn w W c) (hb : Below W.heap.size W W') : DOwn w W' c := by
  rcases h with ⟨h0, h | ⟨g, cur, h1, h2, h3, h4⟩⟩
  · exact ⟨h0, .inl h⟩
  · exact ⟨h0, .inr ⟨g, cur, h1, h2, (hb.block _ (Array.getElem?_eq_some_iff.1 h3).1).trans h3, h4⟩⟩
/-- A row of calls that grows touches no delta. -/
theorem DOwn.grown {w W W' : World} {c : CallV} {base n : Nat} {v : Value} {xs : List Value} (h : DOwn w W c) (hrow : W.ownsRow base 34 27 v n xs) (hg : W.grownBy W' v.ownBlock) : DOwn w W' c := by
  rcases h with ⟨h0, h | ⟨g, cur, h1, h2, h3, h4⟩⟩
  · exact ⟨h0, .inl h⟩
  · refine ⟨h0, .inr ⟨g, cur, h1, h2, (hg.block g (Array.getElem?_eq_some_iff.1 h3).1 (fun e => ?_)).trans h3, h4⟩⟩
    rcases hrow.2 with ⟨h5, _⟩ | ⟨g', cap, cur', h5, _, h6, _⟩
    · rw [h5] at e; cases e
    · rw [h5] at e
      cases e
      rw [h6] at h3
      cases h3
theorem clone_pieces (b off c : Nat) (ps : List PieceV) (w : World) (hn : ps.length ≤ 1000000) (h : ∀ j u, (piecesL ps)[j]? = some u → w.cell? ⟨b, off + j, none⟩ = some u) :
    Calls Try.prog 51 #[.slice (some ⟨b, off, none⟩) ps.length c] w fun e w' => ∃ v', e = .returned v' ∧ w'.ownsRow w.heap.size 72 3 v' ps.length (piecesL ps) ∧ v' ≠ .slice none 0 0 ∧ Below w.heap.size w w' := by
  obtain ⟨i0, hi, hz0, hz1, hz2⟩ := info_parts infoP
  exact AnyE.slices_Clone Try.cloneL i0 (.agg #[.int .u8 0, .int .i64 0, .string ⟨#[]⟩]) 3 32 hi hz0 hz1 hz2 rfl (by decide) (fun w => Try.sizeOf72 w) b off ps.length c (piecesL ps) w (piecesL_len ps) (by unfold maxLen; omega) (by omega) h (piecesL_ones ps)
theorem clone_none (c : Nat) (w : World) : Calls Try.prog 51 #[.slice none 0 c] w fun e w' => e = .returned (.slice none 0 0) ∧ w' = w := AnyE.slices_Clone_nil Try.cloneL 0 c w

/-! ### writing calls -/
theorem call_set (c : CallV) (a : Option Addr) (n : Nat) : (callL c).toArray.setIfInBounds 26 (.slice a c.ps.length n) = (callL { c with da := a, dc := n }).toArray := rfl
theorem st_old {W : World} {g : Nat} {cur : Array Value} (hsz : cur.size = 27) (h : W.heap[g]? = some (.cells cur 34 (0, 0))) (c : CallV) : (storeCells ⟨g, 0, none⟩ (callL c)).run Try.prog W = .ok () (W.setRow g (callL c).toArray) := by
  have h := run_storeCells_at (P := Try.prog) g 0 34 (callL c) 0 cur W h (by rw [callL_len]; omega) (fun v hv => by have := callL_ones c; rw [Array.all_eq_true'] at this; exact this v (by simpa using hv))
  rw [h]
  congr 2
  rw [callL_len, List.drop_eq_nil_of_le (by simp [hsz])]
  simp
theorem below_row {B g : Nat} {w0 w : World} (hb : Below B w0 w) (hBg : B ≤ g) (cs : Array Value) : Below B w0 (w.setRow g cs) :=
  ⟨hb.os, hb.tape, hb.output, by rw [setRow_size]; exact hb.size, fun k hk => (setRow_other w g k cs (by omega)).trans (hb.block k hk)⟩

set_option maxRecDepth 100000 in
set_option maxHeartbeats 1000000 in
theorem copied_any (c : CallV) (w : World) (hd : DAt w c) : Calls Try.prog 42 #[.agg (callL c).toArray] w fun e w' => ∃ c', e = .returned (.agg (callL c').toArray) ∧ c'.pure = c.pure ∧ DOwn w w' c' ∧ Below w.heap.size w w' := by
  have hb0 := blk_old (blk_new w (callL c) 34) (.cells #[.int .i64 0, .int .i64 0, .int .u8 0, .int .i64 0, .int .i64 0, .int .i64 0, .int .u32 0, .int .u8 0, .string ⟨#[]⟩, .int .i64 0, .int .i64 0, .int .i64 0, .int .i64 0, .int .i64 0, .int .i64 0, .int .i64 0, .int .i64 0, .int .i64 0, .int .u8 0, .string ⟨#[]⟩, .int .i64 0, .int .i64 0, .int .i64 0, .int .u8 0, .int .i64 0, .int .i64 0, .slice none 0 0] 34)
  have hz0 := blk_new (w.alloc (.cells (callL c).toArray 34)) [.int .i64 0, .int .i64 0, .int .u8 0, .int .i64 0, .int .i64 0, .int .i64 0, .int .u32 0, .int .u8 0, .string ⟨#[]⟩, .int .i64 0, .int .i64 0, .int .i64 0, .int .i64 0, .int .i64 0, .int .i64 0, .int .i64 0, .int .i64 0, .int .i64 0, .int .u8 0, .string ⟨#[]⟩, .int .i64 0, .int .i64 0, .int .i64 0, .int .u8 0, .int .i64 0, .int .i64 0, .slice none 0 0] 34
  rw [World.size_alloc] at hz0
  have hBa : Below w.heap.size w ((w.alloc (.cells (callL c).toArray 34)).alloc (.cells #[.int .i64 0, .int .i64 0, .int .u8 0, .int .i64 0, .int .i64 0, .int .i64 0, .int .u32 0, .int .u8 0, .string ⟨#[]⟩, .int .i64 0, .int .i64 0, .int .i64 0, .int .i64 0, .int .i64 0, .int .i64 0, .int .i64 0, .int .i64 0, .int .i64 0, .int .u8 0, .string ⟨#[]⟩, .int .i64 0, .int .i64 0, .int .i64 0, .int .u8 0, .int .i64 0, .int .i64 0, .slice none 0 0] 34)) := ((Below.refl _ _).alloc (Nat.le_refl _) _).alloc (by simp) _
  have q26 := blk_cell hb0 26
  rw [callL_26] at q26
  -- what comes after the copy of the delta
  have after : ∀ (w3 : World) (a : Option Addr) (n : Nat), Below (w.heap.size + 2) ((w.alloc (.cells (callL c).toArray 34)).alloc (.cells #[.int .i64 0, .int .i64 0, .int .u8 0, .int .i64 0, .int .i64 0, .int .i64 0, .int .u32 0, .int .u8 0, .string ⟨#[]⟩, .int .i64 0, .int .i64 0, .int .i64 0, .int .i64 0, .int .i64 0, .int .i64 0, .int .i64 0, .int .i64 0, .int .i64 0, .int .u8 0, .string ⟨#[]⟩, .int .i64 0, .int .i64 0, .int .i64 0, .int .u8 0, .int .i64 0, .int .i64 0, .slice none 0 0] 34)) w3 →
      ∃ c' : CallV, (c'.pure = c.pure ∧ c'.ps = c.ps ∧ c'.da = a ∧ c'.dc = n) ∧ w3.cell? ⟨w.heap.size, 26, none⟩ = some (.slice c.da c.ps.length c.dc) ∧ w3.frozen? ⟨w.heap.size, 26, none⟩ = false ∧
      (loadCall (.pointer (some ⟨w.heap.size, 0, none⟩))).run Try.prog (w3.setCell ⟨w.heap.size, 26, none⟩ (.slice a c.ps.length n)) = .ok (.agg (callL c').toArray) (w3.setCell ⟨w.heap.size, 26, none⟩ (.slice a c.ps.length n)) ∧
      (storeCells ⟨w.heap.size + 1, 0, none⟩ (callL c')).run Try.prog (w3.setCell ⟨w.heap.size, 26, none⟩ (.slice a c.ps.length n)) = .ok () ((w3.setCell ⟨w.heap.size, 26, none⟩ (.slice a c.ps.length n)).setRow (w.heap.size + 1) (callL c').toArray) ∧
      ((w3.setCell ⟨w.heap.size, 26, none⟩ (.slice a c.ps.length n)).setRow (w.heap.size + 1) (callL c').toArray).heap[w.heap.size + 1]? = some (.cells (callL c').toArray 34 (0, 0)) ∧
      (∀ B, B ≤ w.heap.size → Below B w3 ((w3.setCell ⟨w.heap.size, 26, none⟩ (.slice a c.ps.length n)).setRow (w.heap.size + 1) (callL c').toArray)) ∧
      (∀ g, w.heap.size + 2 ≤ g → ((w3.setCell ⟨w.heap.size, 26, none⟩ (.slice a c.ps.length n)).setRow (w.heap.size + 1) (callL c').toArray).heap[g]? = w3.heap[g]?) := by
    intro w3 a n hB
    have h1 := blk_below hb0 hB (by omega)
    have h2 := blk_below hz0 hB (by omega)
    have e := setCell_eq_setRow w3 w.heap.size 26 _ _ _ (.slice a c.ps.length n) h1
    rw [call_set] at e
    have h3 : (w3.setCell ⟨w.heap.size, 26, none⟩ (.slice a c.ps.length n)).heap[w.heap.size]? = some (.cells (callL { c with da := a, dc := n }).toArray 34 (0, 0)) := by rw [e]; exact setRow_heap _ _ _ _ _ _ h1
    have h4 : (w3.setCell ⟨w.heap.size, 26, none⟩ (.slice a c.ps.length n)).heap[w.heap.size + 1]? = some (.cells #[.int .i64 0, .int .i64 0, .int .u8 0, .int .i64 0, .int .i64 0, .int .i64 0, .int .u32 0, .int .u8 0, .string ⟨#[]⟩, .int .i64 0, .int .i64 0, .int .i64 0, .int .i64 0, .int .i64 0, .int .i64 0, .int .i64 0, .int .i64 0, .int .i64 0, .int .u8 0, .string ⟨#[]⟩, .int .i64 0, .int .i64 0, .int .i64 0, .int .u8 0, .int .i64 0, .int .i64 0, .slice none 0 0] 34 (0, 0)) := by rw [e, setRow_other _ _ _ _ (by omega)]; exact h2
    refine ⟨{ c with da := a, dc := n }, ⟨rfl, rfl, rfl, rfl⟩, (blk_cell h1 26).trans (callL_26 c), blk_frozen h1 26, ld_call _ h3, st_old rfl h4 _, setRow_heap _ _ _ _ _ _ h4, fun B hB => ?_, fun g hg => ?_⟩
    · exact below_row ((Below.refl _ _).setCell (p := ⟨w.heap.size, 26, none⟩) hB _) (by omega) _
    · rw [setRow_other _ _ _ _ (by omega), Below.heap_setCell _ _ _ _ (by simp; omega)]
  have After := Lib.hid after
  clear after hz0
  have hdl := hd.1
  rcases hd.2 with ⟨h1, h2, h3⟩ | ⟨b, off, h1, h2, h3⟩
  · rw [h1, h2, h3] at q26
    rw [List.length_nil] at q26
    have cl : ∀ W, Calls Try.prog 51 #[.slice none 0 0] W fun e w' => e = .returned (.slice none 0 0) ∧ Below W.heap.size W w' := fun W => (clone_none 0 W).mono (by rintro e w' ⟨h, rfl⟩; exact ⟨h, Below.refl _ _⟩)
    have H1 := Lib.hid h1
    have H2 := Lib.hid h2
    have H3 := Lib.hid h3
    have HB := Lib.hid hBa
    clear h1 h2 h3 hd hb0 hBa
    go_enter Try.func42, Try.ntmps42
    go_wp2_with fail
    refine (cl _).mono ?_
    clear cl
    rintro e w3 ⟨rfl, hB3⟩
    have hs : ((w.alloc (.cells (callL c).toArray 34)).alloc (.cells #[.int .i64 0, .int .i64 0, .int .u8 0, .int .i64 0, .int .i64 0, .int .i64 0, .int .u32 0, .int .u8 0, .string ⟨#[]⟩, .int .i64 0, .int .i64 0, .int .i64 0, .int .i64 0, .int .i64 0, .int .i64 0, .int .i64 0, .int .i64 0, .int .i64 0, .int .u8 0, .string ⟨#[]⟩, .int .i64 0, .int .i64 0, .int .i64 0, .int .u8 0, .int .i64 0, .int .i64 0, .slice none 0 0] 34)).heap.size = w.heap.size + 2 := by simp
    rw [hs] at hB3
    obtain ⟨c', ⟨e1, e2, e3, e4⟩, q1, q2, q3, q4, q5, q6, q7⟩ := After.out w3 none 0 hB3
    have hB6 := (HB.out.trans (hB3.mono (by omega))).trans (q6 _ (Nat.le_refl _))
    have hfin : DOwn w ((w3.setCell ⟨w.heap.size, 26, none⟩ (.slice none c.ps.length 0)).setRow (w.heap.size + 1) (callL c').toArray) c' := ⟨by rw [e2]; exact hdl, .inl ⟨e3, e2.trans H2.out, e4⟩⟩
    rw [H2.out] at q1 q3 q4 q5 hfin hB6
    rw [H1.out, H3.out] at q1
    rw [List.length_nil] at q1 q3 q4 q5 hfin hB6
    have HF := Lib.hid (And.intro e1 (And.intro hfin hB6))
    have Hr := Lib.hid q5
    clear hfin hB6 e1 e2 e3 e4 q5 q6 q7 hB3 hs q26
    go_wp2
    exact ⟨rfl, _, results_cell_row rfl _ _ _ _ _ _ _ rfl Hr.out Try.underlying34 rfl (by kernel_rfl), c', rfl, HF.out.1, HF.out.2.1, HF.out.2.2⟩
  · have cl := clone_pieces b off c.dc c.ps _ hdl (fun j u hj => by rw [hBa.cell (p := ⟨b, off + j, none⟩) h2]; exact h3 j u hj)
    rw [h1] at q26
    have H1 := Lib.hid h1
    have HB := Lib.hid hBa
    clear h1 h2 h3 hd hb0 hBa
    go_enter Try.func42, Try.ntmps42
    go_wp2_with fail
    refine cl.mono ?_
    clear cl
    rintro e w3 ⟨v', rfl, hown, hne, hB3⟩
    have hs : ((w.alloc (.cells (callL c).toArray 34)).alloc (.cells #[.int .i64 0, .int .i64 0, .int .u8 0, .int .i64 0, .int .i64 0, .int .i64 0, .int .u32 0, .int .u8 0, .string ⟨#[]⟩, .int .i64 0, .int .i64 0, .int .i64 0, .int .i64 0, .int .i64 0, .int .i64 0, .int .i64 0, .int .i64 0, .int .i64 0, .int .u8 0, .string ⟨#[]⟩, .int .i64 0, .int .i64 0, .int .i64 0, .int .u8 0, .int .i64 0, .int .i64 0, .slice none 0 0] 34)).heap.size = w.heap.size + 2 := by simp
    rw [hs] at hB3 hown
    rcases hown.2 with ⟨h, _⟩ | ⟨g, cg, cur, rfl, hg, hgc, _⟩
    · exact absurd h hne
    · obtain ⟨c', ⟨e1, e2, e3, e4⟩, q1, q2, q3, q4, q5, q6, q7⟩ := After.out w3 (some ⟨g, 0, none⟩) cg hB3
      have hB6 := (HB.out.trans (hB3.mono (by omega))).trans (q6 _ (Nat.le_refl _))
      have hfin : DOwn w ((w3.setCell ⟨w.heap.size, 26, none⟩ (.slice (some ⟨g, 0, none⟩) c.ps.length cg)).setRow (w.heap.size + 1) (callL c').toArray) c' :=
        ⟨by rw [e2]; exact hdl, .inr ⟨g, cur, e3, by omega, (q7 g hg).trans hgc, fun j u hj => by
          rw [e2] at hj
          have hlt := (List.getElem?_eq_some_iff.1 hj).1
          rw [piecesL_len] at hlt
          have := hown.cellAt j hlt
          rw [cell_of_row _ _ _ _ _ _ hgc, hj] at this
          exact this⟩⟩
      have HF := Lib.hid (And.intro e1 (And.intro hfin hB6))
      rw [H1.out] at q1
      have Hr := Lib.hid q5
      clear hfin hB6 e1 e2 e3 e4 q5 q6 q7 hown hgc hB3 hs q26
      go_wp2
      exact ⟨rfl, _, results_cell_row rfl _ _ _ _ _ _ _ rfl Hr.out Try.underlying34 rfl (by kernel_rfl), c', rfl, HF.out.1, HF.out.2.1, HF.out.2.2⟩
end Go.Proofs.Ytjinnlmmlbmodaa
