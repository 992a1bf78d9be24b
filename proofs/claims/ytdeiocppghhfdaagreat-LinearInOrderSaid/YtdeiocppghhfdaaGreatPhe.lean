/- The texts HsI HsJ. -/
import Derived.Test.YtdeiocppghhfdaaGreatPhd
import Derived.Test.YtdeiocppghhfdaaGreatShelf2
import Derived.Laws.CopyRow
namespace Go.Proofs.YtdeiocppghhfdaaGreat.Hs
set_option linter.unusedVariables false
set_option linter.unusedSimpArgs false
set_option maxRecDepth 100000
set_option maxHeartbeats 8000000
open Go.RowKit Go.Lib Go.Shelf
open KitI (own_below)
attribute [local go_sem, local simp] callL_0 callL_1 callL_2 callL_3 callL_4 callL_5 callL_6 callL_7 callL_8 callL_9 callL_10 callL_11 callL_12 callL_13 callL_14 callL_15 callL_16 callL_17 callL_18 callL_19 callL_20 callL_21 callL_22 callL_23 callL_24 callL_25 callL_26 resL_0 resL_1 resL_2 resL_3 resL_4 resL_5 resL_6 resL_7 resL_8 resL_9 resL_10 resL_11 resL_12 callG_0 callG_1 callG_2 callG_3 callG_4 callG_5 callG_6 callG_7 callG_8 callG_9 callG_10 callG_11 callG_12 callG_13 callG_14 callG_15 callG_16 callG_17 callG_18 callG_19 callG_20 callG_21 callG_22 callG_23 callG_24 callG_25 callG_26 resG_0 resG_1 resG_2 resG_3 resG_4 resG_5 resG_6 resG_7 resG_8 resG_9 resG_10 resG_11 resG_12 callL_len resL_len
attribute [local go_sem ↓] loadCall_eq loadRes_eq
attribute [local go_sem] ld_new ld_first ld_second ldr_new st_new
def piecesL (ps : List PieceV) : List Value := ps.flatMap pieceL
theorem pieceL_len (p : PieceV) : (pieceL p).length = 3 := rfl
theorem piecesL_len (ps : List PieceV) : (piecesL ps).length = ps.length * 3 := by
  induction ps with
  | nil => rfl
  | cons p ps ih => show (pieceL p ++ piecesL ps).length = _; rw [List.length_append, ih, pieceL_len, List.length_cons]; omega
theorem piecesL_ones (ps : List PieceV) : ∀ u ∈ piecesL ps, u.oneCell' = true := by
  intro u hu
  unfold piecesL at hu
  rw [List.mem_flatMap] at hu
  obtain ⟨p, _, hu⟩ := hu
  unfold pieceL at hu
  simp only [List.mem_cons, List.not_mem_nil, or_false] at hu
  rcases hu with rfl | rfl | rfl <;> rfl
theorem infoP : (Tryz.prog.info? 94).map (fun i => (i.zero, i.size, i.bytes)) = some (some (.agg #[.int .u8 0, .int .i64 0, .string ⟨#[]⟩]), 3, 32) := by kernel_rfl
theorem infoC : (Tryz.prog.info? 56).map (fun i => (i.zero, i.size, i.bytes)) = some (some (.agg #[.int .i64 0, .int .i64 0, .int .u8 0, .int .i64 0, .int .i64 0, .int .i64 0, .int .u32 0, .int .u8 0, .string ⟨#[]⟩, .int .i64 0, .int .i64 0, .int .i64 0, .int .i64 0, .int .i64 0, .int .i64 0, .int .i64 0, .int .i64 0, .int .i64 0, .int .u8 0, .string ⟨#[]⟩, .int .i64 0, .int .i64 0, .int .i64 0, .int .u8 0, .int .i64 0, .int .i64 0, .slice none 0 0]), 27, 240) := by kernel_rfl
def DAt (w : World) (c : CallV) : Prop := c.ps.length ≤ 1000000 ∧ ((c.da = none ∧ c.ps = [] ∧ c.dc = 0) ∨ ∃ b off, c.da = some ⟨b, off, none⟩ ∧ b < w.heap.size ∧ ∀ j u, (piecesL c.ps)[j]? = some u → w.cell? ⟨b, off + j, none⟩ = some u)
theorem DAt.on {w w' : World} {c : CallV} (h : DAt w c) (hb : Below w.heap.size w w') : DAt w' c := by
  rcases h with ⟨h0, h | ⟨b, off, h1, h2, h3⟩⟩
  · exact ⟨h0, .inl h⟩
  · exact ⟨h0, .inr ⟨b, off, h1, Nat.lt_of_lt_of_le h2 hb.size, fun j u hj => by rw [hb.cell (p := ⟨b, off + j, none⟩) h2]; exact h3 j u hj⟩⟩
def DOwn (w W : World) (c : CallV) : Prop := c.ps.length ≤ 1000000 ∧ ((c.da = none ∧ c.ps = [] ∧ c.dc = 0) ∨ ∃ (g : Nat) (cur : Array Value), c.da = some ⟨g, 0, none⟩ ∧ w.heap.size ≤ g ∧ W.heap[g]? = some (.cells cur 94 (0, 0)) ∧ ∀ (j : Nat) (u : Value), (piecesL c.ps)[j]? = some u → cur[j]? = some u)
theorem DOwn.at {w W : World} {c : CallV} (h : DOwn w W c) : DAt W c := by
  rcases h with ⟨h0, h | ⟨g, cur, h1, h2, h3, h4⟩⟩
  · exact ⟨h0, .inl h⟩
  · exact ⟨h0, .inr ⟨g, 0, h1, (Array.getElem?_eq_some_iff.1 h3).1, fun j u hj => by rw [Nat.zero_add, cell_of_row _ _ _ _ _ _ h3]; exact h4 j u hj⟩⟩
theorem DOwn.on {w W W' : World} {c : CallV} (h : DOwn w W c) (hb : Below W.heap.size W W') : DOwn w W' c := by
  rcases h with ⟨h0, h | ⟨g, cur, h1, h2, h3, h4⟩⟩
  · exact ⟨h0, .inl h⟩
  · exact ⟨h0, .inr ⟨g, cur, h1, h2, (hb.block _ (Array.getElem?_eq_some_iff.1 h3).1).trans h3, h4⟩⟩
theorem DOwn.grown {w W W' : World} {c : CallV} {base n : Nat} {v : Value} {xs : List Value} (h : DOwn w W c) (hrow : W.ownsRow base 56 27 v n xs) (hg : W.grownBy W' v.ownBlock) : DOwn w W' c := by
  rcases h with ⟨h0, h | ⟨g, cur, h1, h2, h3, h4⟩⟩
  · exact ⟨h0, .inl h⟩
  · refine ⟨h0, .inr ⟨g, cur, h1, h2, (hg.block g (Array.getElem?_eq_some_iff.1 h3).1 (fun e => ?_)).trans h3, h4⟩⟩
    rcases hrow.2 with ⟨h5, _⟩ | ⟨g', cap, cur', h5, _, h6, _⟩
    · rw [h5] at e; cases e
    · rw [h5] at e
      cases e
      rw [h6] at h3
      cases h3
theorem clone_pieces (b off c : Nat) (ps : List PieceV) (w : World) (hn : ps.length ≤ 1000000) (h : ∀ j u, (piecesL ps)[j]? = some u → w.cell? ⟨b, off + j, none⟩ = some u) :
    Calls Tryz.prog 131 #[.slice (some ⟨b, off, none⟩) ps.length c] w fun e w' => ∃ v', e = .returned v' ∧ w'.ownsRow w.heap.size 94 3 v' ps.length (piecesL ps) ∧ v' ≠ .slice none 0 0 ∧ Below w.heap.size w w' := by
  obtain ⟨i0, hi, hz0, hz1, hz2⟩ := info_parts infoP
  exact AnyE.slices_Clone Tryz.cloneL i0 (.agg #[.int .u8 0, .int .i64 0, .string ⟨#[]⟩]) 3 32 hi hz0 hz1 hz2 rfl (by decide) (fun w => Tryz.sizeOf94 w) b off ps.length c (piecesL ps) w (piecesL_len ps) (by unfold maxLen; omega) (by omega) h (piecesL_ones ps)
theorem clone_none (c : Nat) (w : World) : Calls Tryz.prog 131 #[.slice none 0 c] w fun e w' => e = .returned (.slice none 0 0) ∧ w' = w := AnyE.slices_Clone_nil Tryz.cloneL 0 c w
theorem call_set (c : CallV) (a : Option Addr) (n : Nat) : (callL c).toArray.setIfInBounds 26 (.slice a c.ps.length n) = (callL { c with da := a, dc := n }).toArray := rfl
theorem st_old {W : World} {g : Nat} {cur : Array Value} (hsz : cur.size = 27) (h : W.heap[g]? = some (.cells cur 56 (0, 0))) (c : CallV) : (storeCells ⟨g, 0, none⟩ (callL c)).run Tryz.prog W = .ok () (W.setRow g (callL c).toArray) := by
  have h := run_storeCells_at (P := Tryz.prog) g 0 56 (callL c) 0 cur W h (by rw [callL_len]; omega) (fun v hv => by have := callL_ones c; rw [Array.all_eq_true'] at this; exact this v (by simpa using hv))
  rw [h]
  congr 2
  rw [callL_len, List.drop_eq_nil_of_le (by simp [hsz])]
  simp
theorem below_row {B g : Nat} {w0 w : World} (hb : Below B w0 w) (hBg : B ≤ g) (cs : Array Value) : Below B w0 (w.setRow g cs) :=
  ⟨hb.os, hb.tape, hb.output, by rw [setRow_size]; exact hb.size, fun k hk => (setRow_other w g k cs (by omega)).trans (hb.block k hk)⟩
theorem copied_any (c : CallV) (w : World) (hd : DAt w c) : Calls Tryz.prog 76 #[.agg (callL c).toArray] w fun e w' => ∃ c', e = .returned (.agg (callL c').toArray) ∧ c'.pure = c.pure ∧ DOwn w w' c' ∧ Below w.heap.size w w' := by
  have hb0 := blk_old (blk_new w (callL c) 56) (.cells #[.int .i64 0, .int .i64 0, .int .u8 0, .int .i64 0, .int .i64 0, .int .i64 0, .int .u32 0, .int .u8 0, .string ⟨#[]⟩, .int .i64 0, .int .i64 0, .int .i64 0, .int .i64 0, .int .i64 0, .int .i64 0, .int .i64 0, .int .i64 0, .int .i64 0, .int .u8 0, .string ⟨#[]⟩, .int .i64 0, .int .i64 0, .int .i64 0, .int .u8 0, .int .i64 0, .int .i64 0, .slice none 0 0] 56)
  have hz0 := blk_new (w.alloc (.cells (callL c).toArray 56)) [.int .i64 0, .int .i64 0, .int .u8 0, .int .i64 0, .int .i64 0, .int .i64 0, .int .u32 0, .int .u8 0, .string ⟨#[]⟩, .int .i64 0, .int .i64 0, .int .i64 0, .int .i64 0, .int .i64 0, .int .i64 0, .int .i64 0, .int .i64 0, .int .i64 0, .int .u8 0, .string ⟨#[]⟩, .int .i64 0, .int .i64 0, .int .i64 0, .int .u8 0, .int .i64 0, .int .i64 0, .slice none 0 0] 56
  rw [World.size_alloc] at hz0
  have hBa : Below w.heap.size w ((w.alloc (.cells (callL c).toArray 56)).alloc (.cells #[.int .i64 0, .int .i64 0, .int .u8 0, .int .i64 0, .int .i64 0, .int .i64 0, .int .u32 0, .int .u8 0, .string ⟨#[]⟩, .int .i64 0, .int .i64 0, .int .i64 0, .int .i64 0, .int .i64 0, .int .i64 0, .int .i64 0, .int .i64 0, .int .i64 0, .int .u8 0, .string ⟨#[]⟩, .int .i64 0, .int .i64 0, .int .i64 0, .int .u8 0, .int .i64 0, .int .i64 0, .slice none 0 0] 56)) := ((Below.refl _ _).alloc (Nat.le_refl _) _).alloc (by simp) _
  have q26 := blk_cell hb0 26
  rw [callL_26] at q26
  -- what comes after the copy of the delta
  have after : ∀ (w3 : World) (a : Option Addr) (n : Nat), Below (w.heap.size + 2) ((w.alloc (.cells (callL c).toArray 56)).alloc (.cells #[.int .i64 0, .int .i64 0, .int .u8 0, .int .i64 0, .int .i64 0, .int .i64 0, .int .u32 0, .int .u8 0, .string ⟨#[]⟩, .int .i64 0, .int .i64 0, .int .i64 0, .int .i64 0, .int .i64 0, .int .i64 0, .int .i64 0, .int .i64 0, .int .i64 0, .int .u8 0, .string ⟨#[]⟩, .int .i64 0, .int .i64 0, .int .i64 0, .int .u8 0, .int .i64 0, .int .i64 0, .slice none 0 0] 56)) w3 →
      ∃ c' : CallV, (c'.pure = c.pure ∧ c'.ps = c.ps ∧ c'.da = a ∧ c'.dc = n) ∧ w3.cell? ⟨w.heap.size, 26, none⟩ = some (.slice c.da c.ps.length c.dc) ∧ w3.frozen? ⟨w.heap.size, 26, none⟩ = false ∧
      (loadCall (.pointer (some ⟨w.heap.size, 0, none⟩))).run Tryz.prog (w3.setCell ⟨w.heap.size, 26, none⟩ (.slice a c.ps.length n)) = .ok (.agg (callL c').toArray) (w3.setCell ⟨w.heap.size, 26, none⟩ (.slice a c.ps.length n)) ∧
      (storeCells ⟨w.heap.size + 1, 0, none⟩ (callL c')).run Tryz.prog (w3.setCell ⟨w.heap.size, 26, none⟩ (.slice a c.ps.length n)) = .ok () ((w3.setCell ⟨w.heap.size, 26, none⟩ (.slice a c.ps.length n)).setRow (w.heap.size + 1) (callL c').toArray) ∧
      ((w3.setCell ⟨w.heap.size, 26, none⟩ (.slice a c.ps.length n)).setRow (w.heap.size + 1) (callL c').toArray).heap[w.heap.size + 1]? = some (.cells (callL c').toArray 56 (0, 0)) ∧
      (∀ B, B ≤ w.heap.size → Below B w3 ((w3.setCell ⟨w.heap.size, 26, none⟩ (.slice a c.ps.length n)).setRow (w.heap.size + 1) (callL c').toArray)) ∧
      (∀ g, w.heap.size + 2 ≤ g → ((w3.setCell ⟨w.heap.size, 26, none⟩ (.slice a c.ps.length n)).setRow (w.heap.size + 1) (callL c').toArray).heap[g]? = w3.heap[g]?) := by
    intro w3 a n hB
    have h1 := blk_below hb0 hB (by omega)
    have h2 := blk_below hz0 hB (by omega)
    have e := setCell_eq_setRow w3 w.heap.size 26 _ _ _ (.slice a c.ps.length n) h1
    rw [call_set] at e
    have h3 : (w3.setCell ⟨w.heap.size, 26, none⟩ (.slice a c.ps.length n)).heap[w.heap.size]? = some (.cells (callL { c with da := a, dc := n }).toArray 56 (0, 0)) := by rw [e]; exact setRow_heap _ _ _ _ _ _ h1
    have h4 : (w3.setCell ⟨w.heap.size, 26, none⟩ (.slice a c.ps.length n)).heap[w.heap.size + 1]? = some (.cells #[.int .i64 0, .int .i64 0, .int .u8 0, .int .i64 0, .int .i64 0, .int .i64 0, .int .u32 0, .int .u8 0, .string ⟨#[]⟩, .int .i64 0, .int .i64 0, .int .i64 0, .int .i64 0, .int .i64 0, .int .i64 0, .int .i64 0, .int .i64 0, .int .i64 0, .int .u8 0, .string ⟨#[]⟩, .int .i64 0, .int .i64 0, .int .i64 0, .int .u8 0, .int .i64 0, .int .i64 0, .slice none 0 0] 56 (0, 0)) := by rw [e, setRow_other _ _ _ _ (by omega)]; exact h2
    refine ⟨{ c with da := a, dc := n }, ⟨rfl, rfl, rfl, rfl⟩, (blk_cell h1 26).trans (callL_26 c), blk_frozen h1 26, ld_call _ h3, st_old rfl h4 _, setRow_heap _ _ _ _ _ _ h4, fun B hB => ?_, fun g hg => ?_⟩
    · exact below_row ((Below.refl _ _).setCell (p := ⟨w.heap.size, 26, none⟩) hB _) (by omega) _
    · rw [setRow_other _ _ _ _ (by omega), Below.heap_setCell _ _ _ _ (by simp; omega)]
  have After := Lib.hid after
  clear after hz0
  have hdl := hd.1
  rcases hd.2 with ⟨h1, h2, h3⟩ | ⟨b, off, h1, h2, h3⟩
  · rw [h1, h2, h3] at q26
    rw [List.length_nil] at q26
    have cl : ∀ W, Calls Tryz.prog 131 #[.slice none 0 0] W fun e w' => e = .returned (.slice none 0 0) ∧ Below W.heap.size W w' := fun W => (clone_none 0 W).mono (by rintro e w' ⟨h, rfl⟩; exact ⟨h, Below.refl _ _⟩)
    have H1 := Lib.hid h1
    have H2 := Lib.hid h2
    have H3 := Lib.hid h3
    have HB := Lib.hid hBa
    clear h1 h2 h3 hd hb0 hBa
    go_enter Tryz.func76, Tryz.ntmps76
    go_wp2_with fail
    refine (cl _).mono ?_
    clear cl
    rintro e w3 ⟨rfl, hB3⟩
    have hs : ((w.alloc (.cells (callL c).toArray 56)).alloc (.cells #[.int .i64 0, .int .i64 0, .int .u8 0, .int .i64 0, .int .i64 0, .int .i64 0, .int .u32 0, .int .u8 0, .string ⟨#[]⟩, .int .i64 0, .int .i64 0, .int .i64 0, .int .i64 0, .int .i64 0, .int .i64 0, .int .i64 0, .int .i64 0, .int .i64 0, .int .u8 0, .string ⟨#[]⟩, .int .i64 0, .int .i64 0, .int .i64 0, .int .u8 0, .int .i64 0, .int .i64 0, .slice none 0 0] 56)).heap.size = w.heap.size + 2 := by simp
    rw [hs] at hB3
    obtain ⟨c', ⟨e1, e2, e3, e4⟩, q1, q2, q3, q4, q5, q6, q7⟩ := After.out w3 none 0 hB3
    have hB6 := (HB.out.trans (hB3.mono (by omega))).trans (q6 _ (Nat.le_refl _))
    have hfin : DOwn w ((w3.setCell ⟨w.heap.size, 26, none⟩ (.slice none c.ps.length 0)).setRow (w.heap.size + 1) (callL c').toArray) c' := ⟨by rw [e2]; exact hdl, .inl ⟨e3, e2.trans H2.out, e4⟩⟩
    rw [H2.out] at q1 q3 q4 q5 hfin hB6
    rw [H1.out, H3.out] at q1
    rw [List.length_nil] at q1 q3 q4 q5 hfin hB6
    have HF := Lib.hid (And.intro e1 (And.intro hfin hB6))
    have Hr := Lib.hid q5
    clear hfin hB6 e1 e2 e3 e4 q5 q6 q7 hB3 hs q26
    go_wp2
    exact ⟨rfl, _, results_cell_row rfl _ _ _ _ _ _ _ rfl Hr.out Tryz.underlying56 rfl (by kernel_rfl), c', rfl, HF.out.1, HF.out.2.1, HF.out.2.2⟩
  · have cl := clone_pieces b off c.dc c.ps _ hdl (fun j u hj => by rw [hBa.cell (p := ⟨b, off + j, none⟩) h2]; exact h3 j u hj)
    rw [h1] at q26
    have H1 := Lib.hid h1
    have HB := Lib.hid hBa
    clear h1 h2 h3 hd hb0 hBa
    go_enter Tryz.func76, Tryz.ntmps76
    go_wp2_with fail
    refine cl.mono ?_
    clear cl
    rintro e w3 ⟨v', rfl, hown, hne, hB3⟩
    have hs : ((w.alloc (.cells (callL c).toArray 56)).alloc (.cells #[.int .i64 0, .int .i64 0, .int .u8 0, .int .i64 0, .int .i64 0, .int .i64 0, .int .u32 0, .int .u8 0, .string ⟨#[]⟩, .int .i64 0, .int .i64 0, .int .i64 0, .int .i64 0, .int .i64 0, .int .i64 0, .int .i64 0, .int .i64 0, .int .i64 0, .int .u8 0, .string ⟨#[]⟩, .int .i64 0, .int .i64 0, .int .i64 0, .int .u8 0, .int .i64 0, .int .i64 0, .slice none 0 0] 56)).heap.size = w.heap.size + 2 := by simp
    rw [hs] at hB3 hown
    rcases hown.2 with ⟨h, _⟩ | ⟨g, cg, cur, rfl, hg, hgc, _⟩
    · exact absurd h hne
    · obtain ⟨c', ⟨e1, e2, e3, e4⟩, q1, q2, q3, q4, q5, q6, q7⟩ := After.out w3 (some ⟨g, 0, none⟩) cg hB3
      have hB6 := (HB.out.trans (hB3.mono (by omega))).trans (q6 _ (Nat.le_refl _))
      have hfin : DOwn w ((w3.setCell ⟨w.heap.size, 26, none⟩ (.slice (some ⟨g, 0, none⟩) c.ps.length cg)).setRow (w.heap.size + 1) (callL c').toArray) c' :=
        ⟨by rw [e2]; exact hdl, .inr ⟨g, cur, e3, by omega, (q7 g hg).trans hgc, fun j u hj => by
          rw [e2] at hj
          have hlt := (List.getElem?_eq_some_iff.1 hj).1
          rw [piecesL_len] at hlt
          have := hown.cellAt j hlt
          rw [cell_of_row _ _ _ _ _ _ hgc, hj] at this
          exact this⟩⟩
      have HF := Lib.hid (And.intro e1 (And.intro hfin hB6))
      rw [H1.out] at q1
      have Hr := Lib.hid q5
      clear hfin hB6 e1 e2 e3 e4 q5 q6 q7 hown hgc hB3 hs q26
      go_wp2
      exact ⟨rfl, _, results_cell_row rfl _ _ _ _ _ _ _ rfl Hr.out Tryz.underlying56 rfl (by kernel_rfl), c', rfl, HF.out.1, HF.out.2.1, HF.out.2.2⟩
end Go.Proofs.YtdeiocppghhfdaaGreat.Hs
namespace Go.Proofs.YtdeiocppghhfdaaGreat.Hs
set_option linter.unusedVariables false
set_option linter.unusedSimpArgs false
set_option maxRecDepth 100000
set_option maxHeartbeats 8000000
open Go.RowKit Go.Lib Go.Shelf
open KitI (own_below)
attribute [local go_sem, local simp] callL_0 callL_1 callL_2 callL_3 callL_4 callL_5 callL_6 callL_7 callL_8 callL_9 callL_10 callL_11 callL_12 callL_13 callL_14 callL_15 callL_16 callL_17 callL_18 callL_19 callL_20 callL_21 callL_22 callL_23 callL_24 callL_25 callL_26 resL_0 resL_1 resL_2 resL_3 resL_4 resL_5 resL_6 resL_7 resL_8 resL_9 resL_10 resL_11 resL_12 callG_0 callG_1 callG_2 callG_3 callG_4 callG_5 callG_6 callG_7 callG_8 callG_9 callG_10 callG_11 callG_12 callG_13 callG_14 callG_15 callG_16 callG_17 callG_18 callG_19 callG_20 callG_21 callG_22 callG_23 callG_24 callG_25 callG_26 resG_0 resG_1 resG_2 resG_3 resG_4 resG_5 resG_6 resG_7 resG_8 resG_9 resG_10 resG_11 resG_12 callL_len resL_len
attribute [local go_sem ↓] loadCall_eq loadRes_eq
attribute [local go_sem] ld_new ld_first ld_second ldr_new st_new
def clrV (c : CallV) : CallV := { c with err := 0, rev := 0, rslot := 0, rat := 0, rgrav := 0, rtext := ⟨#[]⟩, mb := 0, mr := 0, ml := 0, ik := 0, ifrom := 0, ito := 0, ps := [], da := none, dc := 0 }
def cutA (c : CallV) : CallV := { c with answered := -1, steps := 0 }
def cutT (c : CallV) : CallV := clrV { c with took := -1, rank := 0 }
def cutV (s : Int) (c : CallV) : CallV := if s < c.took then cutT (if s < c.answered then cutA c else c) else (if s < c.answered then cutA c else c)
theorem cut_pure' (s : Int) (c : CallV) : (cutV s c).pure = cutV s c.pure := by
  unfold cutV
  show _ = if s < c.took then cutT (if s < c.answered then cutA c.pure else c.pure) else (if s < c.answered then cutA c.pure else c.pure)
  split <;> split <;> rfl
theorem cut_pure {s : Int} {c c' : CallV} (h : c'.pure = c.pure) : (cutV s c').pure = (cutV s c).pure := by rw [cut_pure', cut_pure', h]
def prefS (s : Int) (cs : List CallV) : List CallV := (cs.filter fun c => decide (c.invoked ≤ s)).map fun c => (cutV s c).pure
theorem pref_step {s : Int} {cs : List CallV} {k : Nat} {c : CallV} (h : cs[k]? = some c) : prefS s (cs.take (k + 1)) = prefS s (cs.take k) ++ if c.invoked ≤ s then [(cutV s c).pure] else [] := by
  rw [List.take_add_one, h, Option.toList_some]
  unfold prefS
  rw [List.filter_append, List.map_append]
  congr 1
  by_cases hq : c.invoked ≤ s <;> simp [hq]
theorem cut_own {w W : World} {s : Int} {c : CallV} (h : DOwn w W c) : DOwn w W (cutV s c) := by
  unfold cutV
  split
  · exact ⟨by simp [cutT, clrV], .inl ⟨rfl, rfl, rfl⟩⟩
  · split
    · exact h
    · exact h
theorem callsL_snoc (cs : List CallV) (c : CallV) : callsL (cs ++ [c]) = callsL cs ++ callL c := by unfold callsL; simp
theorem callS_10 (c : CallV) (x : Int) : (callL c).set 10 (.int .i64 x) = callL { c with took := x } := rfl
theorem callS_11 (c : CallV) (x : Int) : (callL c).set 11 (.int .i64 x) = callL { c with rank := x } := rfl
theorem callS_12 (c : CallV) (x : Int) : (callL c).set 12 (.int .i64 x) = callL { c with answered := x } := rfl
theorem callS_14 (c : CallV) (x : Int) : (callL c).set 14 (.int .i64 x) = callL { c with err := x } := rfl
theorem callS_15 (c : CallV) (x : Int) : (callL c).set 15 (.int .i64 x) = callL { c with rev := x } := rfl
theorem callS_16 (c : CallV) (x : Int) : (callL c).set 16 (.int .i64 x) = callL { c with rslot := x } := rfl
theorem callS_17 (c : CallV) (x : Int) : (callL c).set 17 (.int .i64 x) = callL { c with rat := x } := rfl
theorem callS_18 (c : CallV) (x : Int) : (callL c).set 18 (.int .u8 x) = callL { c with rgrav := x } := rfl
theorem callS_19 (c : CallV) (x : ByteArray) : (callL c).set 19 (.string x) = callL { c with rtext := x } := rfl
theorem callS_20 (c : CallV) (x : Int) : (callL c).set 20 (.int .i64 x) = callL { c with mb := x } := rfl
theorem callS_21 (c : CallV) (x : Int) : (callL c).set 21 (.int .i64 x) = callL { c with mr := x } := rfl
theorem callS_22 (c : CallV) (x : Int) : (callL c).set 22 (.int .i64 x) = callL { c with ml := x } := rfl
theorem callS_23 (c : CallV) (x : Int) : (callL c).set 23 (.int .u8 x) = callL { c with ik := x } := rfl
theorem callS_24 (c : CallV) (x : Int) : (callL c).set 24 (.int .i64 x) = callL { c with ifrom := x } := rfl
theorem callS_25 (c : CallV) (x : Int) : (callL c).set 25 (.int .i64 x) = callL { c with ito := x } := rfl
theorem callS_26 (c : CallV) : (callL c).set 26 (.slice none 0 0) = callL { c with ps := [], da := none, dc := 0 } := rfl
theorem callS_13 (c : CallV) (x : Int) : (callL c).set 13 (.int .i64 x) = callL { c with steps := x } := rfl
theorem DOwn.mono {w v W : World} {c : CallV} (h : DOwn v W c) (hs : w.heap.size ≤ v.heap.size) : DOwn w W c := by
  rcases h with ⟨h0, h | ⟨g, cur, h1, h2, h3, h4⟩⟩
  · exact ⟨h0, .inl h⟩
  · exact ⟨h0, .inr ⟨g, cur, h1, by omega, h3, h4⟩⟩
theorem cells_new1 (W : World) (o : Obj) (L : List Value) (T : TypeId) : ∀ (j : Nat) (u : Value), L[j]? = some u → ((W.alloc o).alloc (.cells L.toArray T)).cell? ((⟨W.heap.size + 1, 0, none⟩ : Addr).add j) = some u := by
  intro j u h
  have h2 := blk_cell (blk_new (W.alloc o) L T) j
  rw [World.size_alloc] at h2
  rw [Addr.add_mid, Nat.zero_add, h2, h]
theorem fold_call (c : CallV) : List.foldl (fun (cs : Array Value) (x : Value × Nat) => cs.setIfInBounds x.snd x.fst) #[.int .i64 0, .int .i64 0, .int .u8 0, .int .i64 0, .int .i64 0, .int .i64 0, .int .u32 0, .int .u8 0, .string ⟨#[]⟩, .int .i64 0, .int .i64 0, .int .i64 0, .int .i64 0, .int .i64 0, .int .i64 0, .int .i64 0, .int .i64 0, .int .i64 0, .int .u8 0, .string ⟨#[]⟩, .int .i64 0, .int .i64 0, .int .i64 0, .int .u8 0, .int .i64 0, .int .i64 0, .slice none 0 0] (callL c).zipIdx = (callL c).toArray := by kernel_rfl
theorem ones_call (c : CallV) : ∀ u ∈ callL c, u.oneCell' = true := by have := callL_ones c; rw [Array.all_eq_true'] at this; intro v hv; exact this v (by simpa using hv)
def ORow (w : World) (base : Nat) (W : World) (v : Value) (L : List CallV) : Prop := ∃ cs : List CallV, cs.map CallV.pure = L ∧ W.ownsRow base 56 27 v cs.length (callsL cs) ∧ ∀ c ∈ cs, DOwn w W c
theorem ORow.nil (w : World) (base : Nat) (W : World) : ORow w base W (.slice none 0 0) [] := ⟨[], rfl, World.ownsRow_nil _ _ _ _, fun c h => by cases h⟩
theorem ORow.on {w : World} {base : Nat} {W W' : World} {v : Value} {L : List CallV} (h : ORow w base W v L) (hb : Below W.heap.size W W') : ORow w base W' v L := by
  obtain ⟨cs, h1, h2, h3⟩ := h
  exact ⟨cs, h1, own_below h2 hb, fun c hc => (h3 c hc).on hb⟩
theorem ORow.len {w : World} {base : Nat} {W : World} {v : Value} {L : List CallV} (h : ORow w base W v L) : ∃ p cap, v = .slice p L.length cap := by
  obtain ⟨cs, h1, h2, h3⟩ := h
  have hl : L.length = cs.length := by rw [← h1]; simp
  rw [hl]
  rcases h2.2 with ⟨h4, h5⟩ | ⟨g, cap, cur, h4, _⟩
  · exact ⟨none, 0, by rw [h5]; exact h4⟩
  · exact ⟨_, _, h4⟩
def PfRel (w : World) (base : Nat) (s : Int) (cs : List CallV) (o i : Value) (wr : World) : Prop :=
  ∃ k : Nat, i = .int .i64 k ∧ k ≤ cs.length ∧ ORow w base wr o (prefS s (cs.take k)) ∧ Below w.heap.size w wr
def PrefPost (w : World) (s : Int) (cs : List CallV) (e : Ending) (w' : World) : Prop :=
  ((checkP cs).2 = 22 ∧ e = .returned (.tuple #[.slice none 0 0, .int .i64 22]) ∧ Below w.heap.size w w') ∨
  ((checkP cs).2 = 0 ∧ s < -1 ∧ e = .returned (.tuple #[.slice none 0 0, .int .i64 3]) ∧ Below w.heap.size w w') ∨
  ((checkP cs).2 = 0 ∧ -1 ≤ s ∧ ∃ v, e = .returned (.tuple #[v, .int .i64 0]) ∧ ORow w w.heap.size w' v (prefS s cs) ∧ Below w.heap.size w w')
theorem pref_len (s : Int) (cs : List CallV) : (prefS s cs).length ≤ cs.length := by unfold prefS; rw [List.length_map]; exact List.length_filter_le _ _
attribute [local go_sem, local simp] fold_call callS_10 callS_11 callS_12 callS_13 callS_14 callS_15 callS_16 callS_17 callS_18 callS_19 callS_20 callS_21 callS_22 callS_23 callS_24 callS_25 callS_26
set_option linter.unusedSimpArgs false in
theorem prefix_some (b off cap : Nat) (s : Int) (cs : List CallV) (w : World) (hcap : cs.length ≤ cap) (hb : b < w.heap.size) (hC : CAt w b off cs) (hs : cs.length ≤ 1000000) (hok : ∀ c ∈ cs, c.Ok) (hd : ∀ c ∈ cs, DAt w c) :
    Calls Tryz.prog 33 #[.int .i64 s, .slice (some ⟨b, off, none⟩) cs.length cap] w (PrefPost w s cs) := by
  obtain ⟨i0, hi, hz0, hz1, hz2⟩ := info_parts infoC
  have ck := check_any (some ⟨b, off, none⟩) cap cs w (.inr ⟨b, off, rfl, hcap, by omega, hC⟩) hs hok
  obtain ⟨k1, hk1⟩ : ∃ k1, (checkP cs).1 = k1 := ⟨_, rfl⟩
  rw [hk1] at ck
  rcases check_two cs with h0 | h22
  · rw [h0] at ck
    have H0 := Lib.hid h0
    clear h0 hk1
    go_enter Tryz.func33, Tryz.ntmps33
    go_wp2_with fail
    refine ck.mono ?_
    clear ck
    rintro e w1 ⟨rfl, hB1⟩
    by_cases hsm : s < -1
    · go_wp2
      go_returns
      exact .inr (.inl ⟨H0.out, hsm, rfl, hB1⟩)
    · have hs1 : -1 ≤ s := by omega
      have Hs1 := Lib.hid hs1
      clear hs1
      go_wp2
      go_loopw [8, 24] (fun o i wr => PfRel w w.heap.size s cs o i wr) (fun o i wr => cs.length - (intOf i).toNat)
      case atStart => exact ⟨0, rfl, by omega, ORow.nil _ _ _, hB1⟩
      case round =>
        clear hB1
        obtain ⟨k, rfl, hk, hR, hB⟩ := hrel
        by_cases hlt : k < cs.length
        · obtain ⟨c, hc⟩ : ∃ c, cs[k]? = some c := ⟨_, List.getElem?_eq_getElem hlt⟩
          have hld := (hC.below hB hb).load hc
          have hst := pref_step (s := s) hc
          have hle := pref_len s (cs.take k)
          rw [List.length_take, Nat.min_eq_left hk] at hle
          have hdc := (hd c (List.mem_of_getElem? hc))
          generalize prefS s (cs.take k) = L at *
          have Hst := Lib.hid hst
          clear hst hc
          have hBa : Below wr.heap.size wr (wr.alloc (.cells (callL c).toArray 56)) := (Below.refl _ _).alloc (Nat.le_refl _) _
          by_cases hq : s < c.invoked
          · have hR2 := hR.on hBa
            have hq2 : ¬ c.invoked ≤ s := by omega
            have Hq := Lib.hid hq2
            clear hq2
            go_wp2
            go_roundw
            case rel => exact ⟨k + 1, by go_num, by omega, by rw [Hst.out, if_neg Hq.out, List.append_nil]; exact hR2, hB.trans (hBa.mono hB.size)⟩
            case measure => simp [intOf]; omega
          · have hq2 : c.invoked ≤ s := by omega
            have Hq := Lib.hid hq2
            clear hq2
            have cp := copied_any c (wr.alloc (.cells (callL c).toArray 56)) ((hdc.on hB).on hBa)
            have hB5 := hB.trans (hBa.mono hB.size)
            have hR2 := hR.on hBa
            clear hdc hR hB
            go_wp2_with fail
            refine cp.mono ?_
            clear cp
            rintro e w2 ⟨c', rfl, hpu, hDc, hB2⟩
            have hsz : w.heap.size ≤ w2.heap.size := Nat.le_trans hB5.size hB2.size
            have hBw := hB5.trans (hB2.mono hB5.size)
            have hDw := hDc.mono hB5.size
            have hR3 := hR2.on hB2
            have hld2 := ld_new w2 c'
            clear hR2 hB2 hB5 hDc hBa hld
            obtain ⟨cs', hm, hown2, hD2⟩ := hR3
            have hlen : cs'.length ≤ cs.length := by rw [← List.length_map (f := CallV.pure), hm]; omega
            have Hlen := Lib.hid hlen
            clear hlen
            by_cases ha : s < c'.answered
            · by_cases ht : s < c'.took
              · have hcut : cutV s c' = cutT (cutA c') := by unfold cutV; rw [if_pos ht, if_pos ha]
                simp only [cutT, cutA, clrV] at hcut
                have Hcut := Lib.hid hcut
                clear hcut
                have hcw := cut_own (s := s) hDw
                have hcp := cut_pure (s := s) hpu
                go_wp2_with (at_builtin; (try simp only [fold_call]); rw [← Hcut.out]; clear ha ht; generalize cutV s c' = cN at *; have hl1 := callL_len cN; have ho1 := ones_call cN; have hn1 := cells_new1 w2 (.cells (callL cN).toArray 56) (callL cN) 56; refine wpList_append_own _ rfl _ _ 25 rfl w.heap.size 56 i0 _ 27 240 Tryz.underlying25 hi hz0 hz1 hz2 rfl (by decide) _ _ _ rfl ((hown2.alloc _).alloc _) ⟨_, 0, none⟩ 1 1 (callL cN) rfl (by rw [hl1]) hn1 ho1 (by have := Hlen.out; unfold maxLen; omega) (by have := Hlen.out; omega) (by simp; omega) ?_; intro v' w3 hown' hgrow _)
                have hB3 := ((hBw.alloc hsz _).alloc (by simp; omega) _).grown hgrow (by simp; omega) fun k hk => (hown2.lt k hk).1
                go_roundw
                case rel => exact ⟨k + 1, by go_num, by omega, ⟨cs' ++ [cN], by rw [List.map_append, hm, Hst.out, if_pos Hq.out, List.map_singleton, hcp], by rw [callsL_snoc, List.length_append]; exact hown', fun c hc => by
                    rcases List.mem_append.1 hc with hc | hc
                    · exact (((hD2 c hc).on ((Below.refl _ _).alloc (Nat.le_refl _) _)).on ((Below.refl _ _).alloc (Nat.le_refl _) _)).grown ((hown2.alloc _).alloc _) hgrow
                    · rw [List.mem_singleton.1 hc]; exact ((hcw.on ((Below.refl _ _).alloc (Nat.le_refl _) _)).on ((Below.refl _ _).alloc (Nat.le_refl _) _)).grown ((hown2.alloc _).alloc _) hgrow⟩, hB3⟩
                case measure => simp [intOf]; omega
              · have hcut : cutV s c' = cutA c' := by unfold cutV; rw [if_neg ht, if_pos ha]
                simp only [cutT, cutA, clrV] at hcut
                have Hcut := Lib.hid hcut
                clear hcut
                have hcw := cut_own (s := s) hDw
                have hcp := cut_pure (s := s) hpu
                go_wp2_with (at_builtin; (try simp only [fold_call]); rw [← Hcut.out]; clear ha ht; generalize cutV s c' = cN at *; have hl1 := callL_len cN; have ho1 := ones_call cN; have hn1 := cells_new1 w2 (.cells (callL cN).toArray 56) (callL cN) 56; refine wpList_append_own _ rfl _ _ 25 rfl w.heap.size 56 i0 _ 27 240 Tryz.underlying25 hi hz0 hz1 hz2 rfl (by decide) _ _ _ rfl ((hown2.alloc _).alloc _) ⟨_, 0, none⟩ 1 1 (callL cN) rfl (by rw [hl1]) hn1 ho1 (by have := Hlen.out; unfold maxLen; omega) (by have := Hlen.out; omega) (by simp; omega) ?_; intro v' w3 hown' hgrow _)
                have hB3 := ((hBw.alloc hsz _).alloc (by simp; omega) _).grown hgrow (by simp; omega) fun k hk => (hown2.lt k hk).1
                go_roundw
                case rel => exact ⟨k + 1, by go_num, by omega, ⟨cs' ++ [cN], by rw [List.map_append, hm, Hst.out, if_pos Hq.out, List.map_singleton, hcp], by rw [callsL_snoc, List.length_append]; exact hown', fun c hc => by
                    rcases List.mem_append.1 hc with hc | hc
                    · exact (((hD2 c hc).on ((Below.refl _ _).alloc (Nat.le_refl _) _)).on ((Below.refl _ _).alloc (Nat.le_refl _) _)).grown ((hown2.alloc _).alloc _) hgrow
                    · rw [List.mem_singleton.1 hc]; exact ((hcw.on ((Below.refl _ _).alloc (Nat.le_refl _) _)).on ((Below.refl _ _).alloc (Nat.le_refl _) _)).grown ((hown2.alloc _).alloc _) hgrow⟩, hB3⟩
                case measure => simp [intOf]; omega
            · by_cases ht : s < c'.took
              · have hcut : cutV s c' = cutT c' := by unfold cutV; rw [if_pos ht, if_neg ha]
                simp only [cutT, cutA, clrV] at hcut
                have Hcut := Lib.hid hcut
                clear hcut
                have hcw := cut_own (s := s) hDw
                have hcp := cut_pure (s := s) hpu
                go_wp2_with (at_builtin; (try simp only [fold_call]); rw [← Hcut.out]; clear ha ht; generalize cutV s c' = cN at *; have hl1 := callL_len cN; have ho1 := ones_call cN; have hn1 := cells_new1 w2 (.cells (callL cN).toArray 56) (callL cN) 56; refine wpList_append_own _ rfl _ _ 25 rfl w.heap.size 56 i0 _ 27 240 Tryz.underlying25 hi hz0 hz1 hz2 rfl (by decide) _ _ _ rfl ((hown2.alloc _).alloc _) ⟨_, 0, none⟩ 1 1 (callL cN) rfl (by rw [hl1]) hn1 ho1 (by have := Hlen.out; unfold maxLen; omega) (by have := Hlen.out; omega) (by simp; omega) ?_; intro v' w3 hown' hgrow _)
                have hB3 := ((hBw.alloc hsz _).alloc (by simp; omega) _).grown hgrow (by simp; omega) fun k hk => (hown2.lt k hk).1
                go_roundw
                case rel => exact ⟨k + 1, by go_num, by omega, ⟨cs' ++ [cN], by rw [List.map_append, hm, Hst.out, if_pos Hq.out, List.map_singleton, hcp], by rw [callsL_snoc, List.length_append]; exact hown', fun c hc => by
                    rcases List.mem_append.1 hc with hc | hc
                    · exact (((hD2 c hc).on ((Below.refl _ _).alloc (Nat.le_refl _) _)).on ((Below.refl _ _).alloc (Nat.le_refl _) _)).grown ((hown2.alloc _).alloc _) hgrow
                    · rw [List.mem_singleton.1 hc]; exact ((hcw.on ((Below.refl _ _).alloc (Nat.le_refl _) _)).on ((Below.refl _ _).alloc (Nat.le_refl _) _)).grown ((hown2.alloc _).alloc _) hgrow⟩, hB3⟩
                case measure => simp [intOf]; omega
              · have hcut : cutV s c' = c' := by unfold cutV; rw [if_neg ht, if_neg ha]
                have Hcut := Lib.hid hcut
                clear hcut
                have hcw := cut_own (s := s) hDw
                have hcp := cut_pure (s := s) hpu
                go_wp2_with (at_builtin; (try simp only [fold_call]); rw [← Hcut.out]; clear ha ht; generalize cutV s c' = cN at *; have hl1 := callL_len cN; have ho1 := ones_call cN; have hn1 := cells_new1 w2 (.cells (callL cN).toArray 56) (callL cN) 56; refine wpList_append_own _ rfl _ _ 25 rfl w.heap.size 56 i0 _ 27 240 Tryz.underlying25 hi hz0 hz1 hz2 rfl (by decide) _ _ _ rfl ((hown2.alloc _).alloc _) ⟨_, 0, none⟩ 1 1 (callL cN) rfl (by rw [hl1]) hn1 ho1 (by have := Hlen.out; unfold maxLen; omega) (by have := Hlen.out; omega) (by simp; omega) ?_; intro v' w3 hown' hgrow _)
                have hB3 := ((hBw.alloc hsz _).alloc (by simp; omega) _).grown hgrow (by simp; omega) fun k hk => (hown2.lt k hk).1
                go_roundw
                case rel => exact ⟨k + 1, by go_num, by omega, ⟨cs' ++ [cN], by rw [List.map_append, hm, Hst.out, if_pos Hq.out, List.map_singleton, hcp], by rw [callsL_snoc, List.length_append]; exact hown', fun c hc => by
                    rcases List.mem_append.1 hc with hc | hc
                    · exact (((hD2 c hc).on ((Below.refl _ _).alloc (Nat.le_refl _) _)).on ((Below.refl _ _).alloc (Nat.le_refl _) _)).grown ((hown2.alloc _).alloc _) hgrow
                    · rw [List.mem_singleton.1 hc]; exact ((hcw.on ((Below.refl _ _).alloc (Nat.le_refl _) _)).on ((Below.refl _ _).alloc (Nat.le_refl _) _)).grown ((hown2.alloc _).alloc _) hgrow⟩, hB3⟩
                case measure => simp [intOf]; omega
        · have hkk : k = cs.length := by omega
          rw [hkk, List.take_length] at hR
          clear hkk
          go_wp2
          go_returns
          exact .inr (.inr ⟨H0.out, Hs1.out, _, rfl, hR, hB⟩)
  · rw [h22] at ck
    have H0 := Lib.hid h22
    clear h22 hk1
    go_enter Tryz.func33, Tryz.ntmps33
    go_wp2_with fail
    refine ck.mono ?_
    clear ck
    rintro e w1 ⟨rfl, hB1⟩
    go_wp2
    go_returns
    exact .inl ⟨H0.out, rfl, hB1⟩
theorem prefix_nil (s : Int) (w : World) : Calls Tryz.prog 33 #[.int .i64 s, .slice none 0 0] w (PrefPost w s []) := by
  have ck := check_nil w
  rw [check_nilP] at ck
  by_cases hsm : s < -1
  · go_enter Tryz.func33, Tryz.ntmps33
    go_wp2_with fail
    refine ck.mono ?_
    rintro e w1 ⟨rfl, hB1⟩
    go_wp2
    go_returns
    exact .inr (.inl ⟨rfl, hsm, rfl, hB1⟩)
  · have hs1 : -1 ≤ s := by omega
    have Hs1 := Lib.hid hs1
    clear hs1
    go_enter Tryz.func33, Tryz.ntmps33
    go_wp2_with fail
    refine ck.mono ?_
    rintro e w1 ⟨rfl, hB1⟩
    go_wp2
    refine wp_loop_rounds 1 ?_
    rw [rounds_succ]
    go_wp2
    go_returns
    exact .inr (.inr ⟨rfl, Hs1.out, _, rfl, ORow.nil _ _ _, hB1⟩)
theorem prefix_any (p : Option Addr) (cap : Nat) (s : Int) (cs : List CallV) (w : World) (hC : CRow w p cap cs) (hs : cs.length ≤ 1000000) (hok : ∀ c ∈ cs, c.Ok) (hd : ∀ c ∈ cs, DAt w c) :
    Calls Tryz.prog 33 #[.int .i64 s, .slice p cs.length cap] w (PrefPost w s cs) := by
  rcases hC with ⟨rfl, rfl, rfl⟩ | ⟨b, off, rfl, h1, h2, h3⟩
  · exact prefix_nil s w
  · exact prefix_some b off cap s cs w h1 h2 h3 hs hok hd
end Go.Proofs.YtdeiocppghhfdaaGreat.Hs
