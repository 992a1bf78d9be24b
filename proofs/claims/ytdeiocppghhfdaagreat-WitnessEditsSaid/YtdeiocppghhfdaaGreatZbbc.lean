/- Texts, one behind another. -/
import Derived.Test.YtdeiocppghhfdaaGreatZbae
set_option linter.unusedVariables false
set_option linter.unusedSimpArgs false
set_option maxRecDepth 100000
set_option maxHeartbeats 8000000
namespace Go.Proofs.YtdeiocppghhfdaaGreat.Hs
open Go.RowKit Go.Lib Go.Shelf
open KitI (own_below)
attribute [local go_sem, local simp] callL_0 callL_1 callL_2 callL_3 callL_4 callL_5 callL_6 callL_7 callL_8 callL_9 callL_10 callL_11 callL_12 callL_13 callL_14 callL_15 callL_16 callL_17 callL_18 callL_19 callL_20 callL_21 callL_22 callL_23 callL_24 callL_25 callL_26 resL_0 resL_1 resL_2 resL_3 resL_4 resL_5 resL_6 resL_7 resL_8 resL_9 resL_10 resL_11 resL_12 callG_0 callG_1 callG_2 callG_3 callG_4 callG_5 callG_6 callG_7 callG_8 callG_9 callG_10 callG_11 callG_12 callG_13 callG_14 callG_15 callG_16 callG_17 callG_18 callG_19 callG_20 callG_21 callG_22 callG_23 callG_24 callG_25 callG_26 resG_0 resG_1 resG_2 resG_3 resG_4 resG_5 resG_6 resG_7 resG_8 resG_9 resG_10 resG_11 resG_12 callL_len resL_len
attribute [local go_sem ↓] loadCall_eq loadRes_eq
attribute [local go_sem] ld_new ld_first ld_second ldr_new st_new
theorem copyp_nil (p : Option Addr) (cap : Nat) (w : World) : Calls Tryz.prog 116 #[.slice p 0 cap] w fun e w' => e = .returned (.slice none 0 0) ∧ Below w.heap.size w w' := by
 go_enter Tryz.func116, Tryz.ntmps116
 go_wp2
 refine wp_loop_rounds 1 ?_
 rw [rounds_succ]
 go_wp2
 go_returns
 exact ⟨rfl, Below.refl _ _⟩
theorem copycall_any (c : CallV) (w : World) (hd : c.ps = [] ∨ DAt w c) : Calls Tryz.prog 60 #[.agg (callL c).toArray] w fun e w' => ∃ c', e = .returned (.agg (callL c').toArray) ∧ c'.pure = c.pure ∧ DOwn w w' c' ∧ Below w.heap.size w w' := by
 have hb0 := blk_old (blk_new w (callL c) 56) (.cells #[.int .i64 0, .int .i64 0, .int .u8 0, .int .i64 0, .int .i64 0, .int .i64 0, .int .u32 0, .int .u8 0, .string ⟨#[]⟩, .int .i64 0, .int .i64 0, .int .i64 0, .int .i64 0, .int .i64 0, .int .i64 0, .int .i64 0, .int .i64 0, .int .i64 0, .int .u8 0, .string ⟨#[]⟩, .int .i64 0, .int .i64 0, .int .i64 0, .int .u8 0, .int .i64 0, .int .i64 0, .slice none 0 0] 56)
 have hz0 := blk_new (w.alloc (.cells (callL c).toArray 56)) [.int .i64 0, .int .i64 0, .int .u8 0, .int .i64 0, .int .i64 0, .int .i64 0, .int .u32 0, .int .u8 0, .string ⟨#[]⟩, .int .i64 0, .int .i64 0, .int .i64 0, .int .i64 0, .int .i64 0, .int .i64 0, .int .i64 0, .int .i64 0, .int .i64 0, .int .u8 0, .string ⟨#[]⟩, .int .i64 0, .int .i64 0, .int .i64 0, .int .u8 0, .int .i64 0, .int .i64 0, .slice none 0 0] 56
 rw [World.size_alloc] at hz0
 have hBa : Below w.heap.size w ((w.alloc (.cells (callL c).toArray 56)).alloc (.cells #[.int .i64 0, .int .i64 0, .int .u8 0, .int .i64 0, .int .i64 0, .int .i64 0, .int .u32 0, .int .u8 0, .string ⟨#[]⟩, .int .i64 0, .int .i64 0, .int .i64 0, .int .i64 0, .int .i64 0, .int .i64 0, .int .i64 0, .int .i64 0, .int .i64 0, .int .u8 0, .string ⟨#[]⟩, .int .i64 0, .int .i64 0, .int .i64 0, .int .u8 0, .int .i64 0, .int .i64 0, .slice none 0 0] 56)) := ((Below.refl _ _).alloc (Nat.le_refl _) _).alloc (by simp) _
 have q26 := blk_cell hb0 26
 rw [callL_26] at q26
 -- what comes after the copy of the delta
 have after : ∀ (w3 : World) (a : Option Addr) (n : Nat), Below (w.heap.size + 2) ((w.alloc (.cells (callL c).toArray 56)).alloc (.cells #[.int .i64 0, .int .i64 0, .int .u8 0, .int .i64 0, .int .i64 0, .int .i64 0, .int .u32 0, .int .u8 0, .string ⟨#[]⟩, .int .i64 0, .int .i64 0, .int .i64 0, .int .i64 0, .int .i64 0, .int .i64 0, .int .i64 0, .int .i64 0, .int .i64 0, .int .u8 0, .string ⟨#[]⟩, .int .i64 0, .int .i64 0, .int .i64 0, .int .u8 0, .int .i64 0, .int .i64 0, .slice none 0 0] 56)) w3 →
   ∃ c' : CallV, (c'.pure = c.pure ∧ c'.ps = c.ps ∧ c'.da = a ∧ c'.dc = n) ∧ w3.cell? ⟨w.heap.size, 26, none⟩ = some (.slice c.da c.ps.length c.dc) ∧ w3.frozen? ⟨w.heap.size, 26, none⟩ = false ∧
   (loadCall (.pointer (some ⟨w.heap.size, 0, none⟩))).run Tryz.prog (w3.setCell ⟨w.heap.size, 26, none⟩ (.slice a c.ps.length n)) = .ok (.agg (callL c').toArray) (w3.setCell ⟨w.heap.size, 26, none⟩ (.slice a c.ps.length n)) ∧
   (storeCells ⟨w.heap.size + 1, 0, none⟩ (callL c')).run Tryz.prog (w3.setCell ⟨w.heap.size, 26, none⟩ (.slice a c.ps.length n)) = .ok () ((w3.setCell ⟨w.heap.size, 26, none⟩ (.slice a c.ps.length n)).setRow (w.heap.size + 1) (callL c').toArray) ∧
   ((w3.setCell ⟨w.heap.size, 26, none⟩ (.slice a c.ps.length n)).setRow (w.heap.size + 1) (callL c').toArray).heap[w.heap.size + 1]? = some (.cells (callL c').toArray 56 (0, 0)) ∧
   (∀ B, B ≤ w.heap.size → Below B w3 ((w3.setCell ⟨w.heap.size, 26, none⟩ (.slice a c.ps.length n)).setRow (w.heap.size + 1) (callL c').toArray)) ∧
   (∀ g, w.heap.size + 2 ≤ g → ((w3.setCell ⟨w.heap.size, 26, none⟩ (.slice a c.ps.length n)).setRow (w.heap.size + 1) (callL c').toArray).heap[g]? = w3.heap[g]?) := by
  intro w3 a n hB
  have h1 := blk_below hb0 hB (by omega)
  have h2 := blk_below hz0 hB (by omega)
  have e := setCell_eq_setRow w3 w.heap.size 26 _ _ _ (.slice a c.ps.length n) h1
  rw [call_set] at e
  have h3 : (w3.setCell ⟨w.heap.size, 26, none⟩ (.slice a c.ps.length n)).heap[w.heap.size]? = some (.cells (callL { c with da := a, dc := n }).toArray 56 (0, 0)) := by rw [e]; exact setRow_heap _ _ _ _ _ _ h1
  have h4 : (w3.setCell ⟨w.heap.size, 26, none⟩ (.slice a c.ps.length n)).heap[w.heap.size + 1]? = some (.cells #[.int .i64 0, .int .i64 0, .int .u8 0, .int .i64 0, .int .i64 0, .int .i64 0, .int .u32 0, .int .u8 0, .string ⟨#[]⟩, .int .i64 0, .int .i64 0, .int .i64 0, .int .i64 0, .int .i64 0, .int .i64 0, .int .i64 0, .int .i64 0, .int .i64 0, .int .u8 0, .string ⟨#[]⟩, .int .i64 0, .int .i64 0, .int .i64 0, .int .u8 0, .int .i64 0, .int .i64 0, .slice none 0 0] 56 (0, 0)) := by rw [e, setRow_other _ _ _ _ (by omega)]; exact h2
  refine ⟨{ c with da := a, dc := n }, ⟨rfl, rfl, rfl, rfl⟩, (blk_cell h1 26).trans (callL_26 c), blk_frozen h1 26, ld_call _ h3, st_old rfl h4 _, setRow_heap _ _ _ _ _ _ h4, fun B hB => ?_, fun g hg => ?_⟩
  ·exact below_row ((Below.refl _ _).setCell (p := ⟨w.heap.size, 26, none⟩) hB _) (by omega) _
  ·rw [setRow_other _ _ _ _ (by omega), Below.heap_setCell _ _ _ _ (by simp; omega)]
 have After := Lib.hid after
 clear after hz0
 replace hd : c.ps = [] ∨ (c.ps.length ≤ 1000000 ∧ ∃ b off, c.da = some ⟨b, off, none⟩ ∧ b < w.heap.size ∧ ∀ j u, (piecesL c.ps)[j]? = some u → w.cell? ⟨b, off + j, none⟩ = some u) := by
  rcases hd with h | ⟨h0, ⟨_, h, _⟩ | h⟩
  ·exact .inl h
  ·exact .inl h
  ·exact .inr ⟨h0, h⟩
 rcases hd with h2 | ⟨hdl, b, off, h1, h2, h3⟩
 ·have hdl : c.ps.length ≤ 1000000 := by rw [h2]; simp
  rw [h2] at q26
  rw [List.length_nil] at q26
  have cl : ∀ W, Calls Tryz.prog 116 #[.slice c.da 0 c.dc] W fun e w' => e = .returned (.slice none 0 0) ∧ Below W.heap.size W w' := fun W => copyp_nil _ _ W
  have H2 := Lib.hid h2
  have HB := Lib.hid hBa
  clear h2 hb0 hBa
  go_enter Tryz.func60, Tryz.ntmps60
  go_wp2_with fail
  refine (cl _).mono ?_
  clear cl
  rintro e w3 ⟨rfl, hB3⟩
  have hs : ((w.alloc (.cells (callL c).toArray 56)).alloc (.cells #[.int .i64 0, .int .i64 0, .int .u8 0, .int .i64 0, .int .i64 0, .int .i64 0, .int .u32 0, .int .u8 0, .string ⟨#[]⟩, .int .i64 0, .int .i64 0, .int .i64 0, .int .i64 0, .int .i64 0, .int .i64 0, .int .i64 0, .int .i64 0, .int .i64 0, .int .u8 0, .string ⟨#[]⟩, .int .i64 0, .int .i64 0, .int .i64 0, .int .u8 0, .int .i64 0, .int .i64 0, .slice none 0 0] 56)).heap.size = w.heap.size + 2 := by simp
  rw [hs] at hB3
  obtain ⟨c', ⟨e1, e2, e3, e4⟩, q1, q2, q3, q4, q5, q6, q7⟩ := After.out w3 none 0 hB3
  have hB6 := (HB.out.trans (hB3.mono (by omega))).trans (q6 _ (Nat.le_refl _))
  have hfin : DOwn w ((w3.setCell ⟨w.heap.size, 26, none⟩ (.slice none c.ps.length 0)).setRow (w.heap.size + 1) (callL c').toArray) c' := ⟨by rw [e2]; exact hdl, .inl ⟨e3, e2.trans H2.out, e4⟩⟩
  rw [H2.out] at q1 q3 q4 q5 hfin hB6
  rw [List.length_nil] at q1 q3 q4 q5 hfin hB6
  have HF := Lib.hid (And.intro e1 (And.intro hfin hB6))
  have Hr := Lib.hid q5
  clear hfin hB6 e1 e2 e3 e4 q5 q6 q7 hB3 hs q26
  go_wp2
  exact ⟨rfl, _, results_cell_row rfl _ _ _ _ _ _ _ rfl Hr.out Tryz.underlying56 rfl (by kernel_rfl), c', rfl, HF.out.1, HF.out.2.1, HF.out.2.2⟩
 ·have cl := copyp_some b off c.dc c.ps _ (Nat.lt_of_lt_of_le h2 hBa.size) hdl (fun j u hj => by rw [hBa.cell (p := ⟨b, off + j, none⟩) h2]; exact h3 j u hj)
  rw [h1] at q26
  have H1 := Lib.hid h1
  have HB := Lib.hid hBa
  clear h1 h2 h3 hb0 hBa
  go_enter Tryz.func60, Tryz.ntmps60
  go_wp2_with fail
  refine cl.mono ?_
  clear cl
  rintro e w3 ⟨v', rfl, hown, hB3⟩
  have hs : ((w.alloc (.cells (callL c).toArray 56)).alloc (.cells #[.int .i64 0, .int .i64 0, .int .u8 0, .int .i64 0, .int .i64 0, .int .i64 0, .int .u32 0, .int .u8 0, .string ⟨#[]⟩, .int .i64 0, .int .i64 0, .int .i64 0, .int .i64 0, .int .i64 0, .int .i64 0, .int .i64 0, .int .i64 0, .int .i64 0, .int .u8 0, .string ⟨#[]⟩, .int .i64 0, .int .i64 0, .int .i64 0, .int .u8 0, .int .i64 0, .int .i64 0, .slice none 0 0] 56)).heap.size = w.heap.size + 2 := by simp
  rw [hs] at hB3 hown
  rcases hown.2 with ⟨rfl, hn0⟩ | ⟨g, cg, cur, rfl, hg, hgc, _⟩
  ·have hps : c.ps = [] := List.length_eq_zero_iff.1 hn0
   obtain ⟨c', ⟨e1, e2, e3, e4⟩, q1, q2, q3, q4, q5, q6, q7⟩ := After.out w3 none 0 hB3
   have hB6 := (HB.out.trans (hB3.mono (by omega))).trans (q6 _ (Nat.le_refl _))
   have hfin : DOwn w ((w3.setCell ⟨w.heap.size, 26, none⟩ (.slice none c.ps.length 0)).setRow (w.heap.size + 1) (callL c').toArray) c' := ⟨by rw [e2]; exact hdl, .inl ⟨e3, e2.trans hps, e4⟩⟩
   rw [hn0] at q3 q4 q5 hfin hB6
   rw [H1.out] at q1
   have HF := Lib.hid (And.intro e1 (And.intro hfin hB6))
   have Hr := Lib.hid q5
   clear hfin hB6 e1 e2 e3 e4 q5 q6 q7 hB3 hs q26 hown
   go_wp2
   exact ⟨rfl, _, results_cell_row rfl _ _ _ _ _ _ _ rfl Hr.out Tryz.underlying56 rfl (by kernel_rfl), c', rfl, HF.out.1, HF.out.2.1, HF.out.2.2⟩
  ·obtain ⟨c', ⟨e1, e2, e3, e4⟩, q1, q2, q3, q4, q5, q6, q7⟩ := After.out w3 (some ⟨g, 0, none⟩) cg hB3
   have hB6 := (HB.out.trans (hB3.mono (by omega))).trans (q6 _ (Nat.le_refl _))
   have hfin : DOwn w ((w3.setCell ⟨w.heap.size, 26, none⟩ (.slice (some ⟨g, 0, none⟩) c.ps.length cg)).setRow (w.heap.size + 1) (callL c').toArray) c' :=
    ⟨by rw [e2]; exact hdl, .inr ⟨g, cur, e3, by omega, (q7 g hg).trans hgc, fun j u hj => by
     rw [e2] at hj
     have hlt := (List.getElem?_eq_some_iff.1 hj).1
     rw [piecesL_len] at hlt
     have := hown.cellAt j hlt
     rw [cell_of_row _ _ _ _ _ _ hgc, hj] at this
     exact this⟩⟩
   have HF := Lib.hid (And.intro e1 (And.intro hfin hB6))
   rw [H1.out] at q1
   have Hr := Lib.hid q5
   clear hfin hB6 e1 e2 e3 e4 q5 q6 q7 hown hgc hB3 hs q26
   go_wp2
   exact ⟨rfl, _, results_cell_row rfl _ _ _ _ _ _ _ rfl Hr.out Tryz.underlying56 rfl (by kernel_rfl), c', rfl, HF.out.1, HF.out.2.1, HF.out.2.2⟩
end Go.Proofs.YtdeiocppghhfdaaGreat.Hs
namespace Go.Proofs.YtdeiocppghhfdaaGreat.Hs
open Go.RowKit Go.Lib Go.Shelf
def cut100 (c : CallV) : CallV := { c with ps := c.ps.take 100 }
theorem cut100_len (c : CallV) : (cut100 c).ps.length ≤ 100 := by unfold cut100; simp; omega
def fewL (cs : List CallV) : List CallV := (cs.take 24).map fun c => (cut100 c).pure
theorem few_len (cs : List CallV) : (fewL cs).length ≤ 24 := by unfold fewL; simp; omega
theorem few_step {cs : List CallV} {k : Nat} {c : CallV} (h : cs[k]? = some c) (hk : k < 24) : fewL (cs.take (k + 1)) = fewL (cs.take k) ++ [(cut100 c).pure] := by
 unfold fewL
 rw [List.take_take, List.take_take, Nat.min_eq_right (by omega), Nat.min_eq_right (by omega), List.take_add_one, h, Option.toList_some, List.map_append]
 rfl
end Go.Proofs.YtdeiocppghhfdaaGreat.Hs
namespace Go.Proofs.YtdeiocppghhfdaaGreat.Hs
open Go.RowKit Go.Lib Go.Shelf
open KitI (own_below)
attribute [local go_sem, local simp] callL_0 callL_1 callL_2 callL_3 callL_4 callL_5 callL_6 callL_7 callL_8 callL_9 callL_10 callL_11 callL_12 callL_13 callL_14 callL_15 callL_16 callL_17 callL_18 callL_19 callL_20 callL_21 callL_22 callL_23 callL_24 callL_25 callL_26 resL_0 resL_1 resL_2 resL_3 resL_4 resL_5 resL_6 resL_7 resL_8 resL_9 resL_10 resL_11 resL_12 callG_0 callG_1 callG_2 callG_3 callG_4 callG_5 callG_6 callG_7 callG_8 callG_9 callG_10 callG_11 callG_12 callG_13 callG_14 callG_15 callG_16 callG_17 callG_18 callG_19 callG_20 callG_21 callG_22 callG_23 callG_24 callG_25 callG_26 resG_0 resG_1 resG_2 resG_3 resG_4 resG_5 resG_6 resG_7 resG_8 resG_9 resG_10 resG_11 resG_12 callL_len resL_len
attribute [local go_sem ↓] loadCall_eq loadRes_eq
attribute [local go_sem] ld_new ld_first ld_second ldr_new st_new
def DRaw (w : World) (c : CallV) : Prop := (c.ps = [] ∧ (c.da = none → c.dc = 0)) ∨ ∃ b off, c.da = some ⟨b, off, none⟩ ∧ c.ps.length ≤ c.dc ∧ c.ps.length < 9223372036854775808 ∧ b < w.heap.size ∧ ∀ j u, (piecesL c.ps)[j]? = some u → w.cell? ⟨b, off + j, none⟩ = some u
theorem piecesL_pre (ps : List PieceV) (n j : Nat) (u : Value) (h : (piecesL (ps.take n))[j]? = some u) : (piecesL ps)[j]? = some u := by
 have e : piecesL ps = piecesL (ps.take n) ++ piecesL (ps.drop n) := by
  unfold piecesL
  rw [← List.flatMap_append, List.take_append_drop]
 rw [e, List.getElem?_append_left (List.getElem?_eq_some_iff.1 h).1]
 exact h
theorem DRaw.cut {w : World} {c : CallV} (h : DRaw w c) : (cut100 c).ps = [] ∨ DAt w (cut100 c) := by
 rcases h with ⟨h1, h2⟩ | ⟨b, off, h1, _, _, h2, h3⟩
 ·exact .inl (by unfold cut100; rw [h1]; rfl)
 ·exact .inr ⟨Nat.le_trans (cut100_len c) (by omega), .inr ⟨b, off, h1, h2, fun j u hj => h3 j u (piecesL_pre c.ps 100 j u hj)⟩⟩
theorem DRaw.on {w w' : World} {c : CallV} (h : DRaw w c) (hb : Below w.heap.size w w') : DRaw w' c := by
 rcases h with h | ⟨b, off, h1, h4, h5, h2, h3⟩
 ·exact .inl h
 ·exact .inr ⟨b, off, h1, h4, h5, Nat.lt_of_lt_of_le h2 hb.size, fun j u hj => by rw [hb.cell (p := ⟨b, off + j, none⟩) h2]; exact h3 j u hj⟩
theorem DRaw.of {w : World} {c : CallV} (h : DAt w c) (hc : c.ps.length ≤ c.dc) : DRaw w c := by
 rcases h with ⟨h0, ⟨h1, h2, h3⟩ | ⟨b, off, h1, h2, h3⟩⟩
 ·exact .inl ⟨h2, fun _ => h3⟩
 ·exact .inr ⟨b, off, h1, hc, by omega, h2, h3⟩
theorem call_cut (c : CallV) (n : Nat) (h : n = (c.ps.take 100).length) : (callL c).set 26 (.slice c.da n c.dc) = callL (cut100 c) := by subst h; rfl
def FewRel (w : World) (cs : List CallV) (o i : Value) (wr : World) : Prop :=
 ∃ k : Nat, i = .int .i64 k ∧ k ≤ 24 ∧ k ≤ cs.length ∧ ORow w w.heap.size wr o (fewL (cs.take k)) ∧ Below w.heap.size w wr
attribute [local go_sem, local simp] fold_call
theorem few_some (b off cap : Nat) (cs : List CallV) (w : World) (hb : b < w.heap.size) (hC : CAt w b off cs) (hs : cs.length < 9223372036854775808) (hd : ∀ c ∈ cs, DRaw w c) :
  Calls Tryz.prog 35 #[.slice (some ⟨b, off, none⟩) cs.length cap] w fun e w' => ∃ v, e = .returned v ∧ ORow w w.heap.size w' v (fewL cs) ∧ Below w.heap.size w w' := by
 obtain ⟨i0, hi, hz0, hz1, hz2⟩ := info_parts infoC
 go_enter Tryz.func35, Tryz.ntmps35
 go_wp2
 go_loopw [3, 4] (fun o i wr => FewRel w cs o i wr) (fun o i wr => cs.length - (intOf i).toNat)
 case atStart => exact ⟨0, rfl, by omega, by omega, ORow.nil _ _ _, Below.refl _ _⟩
 case round =>
  obtain ⟨k, rfl, hk, hk2, hR, hB⟩ := hrel
  by_cases hlt : k < cs.length
  ·by_cases h24 : k < 24
   ·obtain ⟨c, hc⟩ : ∃ c, cs[k]? = some c := ⟨_, List.getElem?_eq_getElem hlt⟩
    have hld := (hC.below hB hb).load hc
    have hst := few_step hc h24
    have hle := few_len (cs.take k)
    have hdc := (hd c (List.mem_of_getElem? hc)).on hB
    generalize fewL (cs.take k) = L at *
    have Hst := Lib.hid hst
    clear hst hc
    have hBa : Below wr.heap.size wr (wr.alloc (.cells (callL c).toArray 56)) := (Below.refl _ _).alloc (Nat.le_refl _) _
    have hBa2 : Below wr.heap.size wr (wr.alloc (.cells (callL (cut100 c)).toArray 56)) := (Below.refl _ _).alloc (Nat.le_refl _) _
    have cp := copycall_any (cut100 c) (wr.alloc (.cells (callL (cut100 c)).toArray 56)) ((hdc.on hBa2).cut)
    have hB5 := hB.trans (hBa2.mono hB.size)
    have hR2 := hR.on hBa2
    have hld2 := ld_new wr (cut100 c)
    clear hR
    rcases hdc with ⟨h2, h3⟩ | ⟨b', off', h1, h4, h5, h2, h3⟩
    ·have hset := call_cut c (min (0 : Int) 100).toNat (by rw [h2]; rfl)
     have q26 := callL_26 c
     have g26 := callG_26 c
     rw [h2, List.length_nil] at q26 g26
     cases hda : c.da with
     | none =>
      rw [hda] at q26 g26 hset
      rw [h3 hda] at q26 g26 hset
      clear h2 h3 hda
      go_wp2_with fail
      refine cp.mono ?_
      clear cp hset q26 g26 hld2
      rintro e w2 ⟨c', rfl, hpu, hDc, hB2⟩
      have hsz : w.heap.size ≤ w2.heap.size := Nat.le_trans hB5.size hB2.size
      have hBw := hB5.trans (hB2.mono hB5.size)
      have hDw := hDc.mono hB5.size
      have hR3 := hR2.on hB2
      clear hR2 hB2 hB5 hDc hBa hBa2 hld
      obtain ⟨cs', hm, hown2, hD2⟩ := hR3
      have hlen : cs'.length ≤ 24 := by rw [← List.length_map (f := CallV.pure), hm]; exact hle
      have Hlen := Lib.hid hlen
      have hl1 := callL_len c'
      have ho1 := ones_call c'
      have hn1 := pieces_new w2 (callL c') 56
      clear hlen
      go_wp2_with (at_builtin; (try simp only [fold_call]); refine wpList_append_own _ rfl _ _ 25 rfl w.heap.size 56 i0 _ 27 240 Tryz.underlying25 hi hz0 hz1 hz2 rfl (by decide) _ _ _ rfl (hown2.alloc _) ⟨_, 0, none⟩ 1 1 (callL c') rfl (by rw [hl1]) hn1 ho1 (by have := Hlen.out; unfold maxLen; omega) (by have := Hlen.out; omega) (by simp; omega) ?_; intro v' w3 hown' hgrow _)
      have hB3 := (hBw.alloc hsz _).grown hgrow (by simp; omega) fun k hk => (hown2.lt k hk).1
      go_roundw
      case rel => exact ⟨k + 1, by go_num, by omega, by omega, ⟨cs' ++ [c'], by rw [List.map_append, hm, Hst.out, List.map_singleton, hpu], by rw [callsL_snoc, List.length_append]; exact hown', fun c hc => by
        rcases List.mem_append.1 hc with hc | hc
        ·exact ((hD2 c hc).on ((Below.refl _ _).alloc (Nat.le_refl _) _)).grown (hown2.alloc _) hgrow
        ·rw [List.mem_singleton.1 hc]; exact (hDw.on ((Below.refl _ _).alloc (Nat.le_refl _) _)).grown (hown2.alloc _) hgrow⟩, hB3⟩
      case measure => simp [intOf]; omega
     | some ad =>
      rw [hda] at q26 g26 hset
      clear h2 h3 hda
      go_wp2_with fail
      refine cp.mono ?_
      clear cp hset q26 g26 hld2
      rintro e w2 ⟨c', rfl, hpu, hDc, hB2⟩
      have hsz : w.heap.size ≤ w2.heap.size := Nat.le_trans hB5.size hB2.size
      have hBw := hB5.trans (hB2.mono hB5.size)
      have hDw := hDc.mono hB5.size
      have hR3 := hR2.on hB2
      clear hR2 hB2 hB5 hDc hBa hBa2 hld
      obtain ⟨cs', hm, hown2, hD2⟩ := hR3
      have hlen : cs'.length ≤ 24 := by rw [← List.length_map (f := CallV.pure), hm]; exact hle
      have Hlen := Lib.hid hlen
      have hl1 := callL_len c'
      have ho1 := ones_call c'
      have hn1 := pieces_new w2 (callL c') 56
      clear hlen
      go_wp2_with (at_builtin; (try simp only [fold_call]); refine wpList_append_own _ rfl _ _ 25 rfl w.heap.size 56 i0 _ 27 240 Tryz.underlying25 hi hz0 hz1 hz2 rfl (by decide) _ _ _ rfl (hown2.alloc _) ⟨_, 0, none⟩ 1 1 (callL c') rfl (by rw [hl1]) hn1 ho1 (by have := Hlen.out; unfold maxLen; omega) (by have := Hlen.out; omega) (by simp; omega) ?_; intro v' w3 hown' hgrow _)
      have hB3 := (hBw.alloc hsz _).grown hgrow (by simp; omega) fun k hk => (hown2.lt k hk).1
      go_roundw
      case rel => exact ⟨k + 1, by go_num, by omega, by omega, ⟨cs' ++ [c'], by rw [List.map_append, hm, Hst.out, List.map_singleton, hpu], by rw [callsL_snoc, List.length_append]; exact hown', fun c hc => by
        rcases List.mem_append.1 hc with hc | hc
        ·exact ((hD2 c hc).on ((Below.refl _ _).alloc (Nat.le_refl _) _)).grown (hown2.alloc _) hgrow
        ·rw [List.mem_singleton.1 hc]; exact (hDw.on ((Below.refl _ _).alloc (Nat.le_refl _) _)).grown (hown2.alloc _) hgrow⟩, hB3⟩
      case measure => simp [intOf]; omega
    ·clear h3
     have hset := call_cut c (min (c.ps.length : Int) 100).toNat (by rw [List.length_take]; omega)
     have q26 := callL_26 c
     have g26 := callG_26 c
     rw [h1] at q26 g26 hset
     have hm1 : min (c.ps.length : Int) 100 ≤ (c.dc : Int) := by omega
     have hm0 : 0 ≤ min (c.ps.length : Int) 100 := by omega
     clear h1 h2
     go_wp2_with fail
     refine cp.mono ?_
     clear cp hset q26 g26 hld2
     rintro e w2 ⟨c', rfl, hpu, hDc, hB2⟩
     have hsz : w.heap.size ≤ w2.heap.size := Nat.le_trans hB5.size hB2.size
     have hBw := hB5.trans (hB2.mono hB5.size)
     have hDw := hDc.mono hB5.size
     have hR3 := hR2.on hB2
     clear hR2 hB2 hB5 hDc hBa hBa2 hld
     obtain ⟨cs', hm, hown2, hD2⟩ := hR3
     have hlen : cs'.length ≤ 24 := by rw [← List.length_map (f := CallV.pure), hm]; exact hle
     have Hlen := Lib.hid hlen
     have hl1 := callL_len c'
     have ho1 := ones_call c'
     have hn1 := pieces_new w2 (callL c') 56
     clear hlen
     go_wp2_with (at_builtin; (try simp only [fold_call]); refine wpList_append_own _ rfl _ _ 25 rfl w.heap.size 56 i0 _ 27 240 Tryz.underlying25 hi hz0 hz1 hz2 rfl (by decide) _ _ _ rfl (hown2.alloc _) ⟨_, 0, none⟩ 1 1 (callL c') rfl (by rw [hl1]) hn1 ho1 (by have := Hlen.out; unfold maxLen; omega) (by have := Hlen.out; omega) (by simp; omega) ?_; intro v' w3 hown' hgrow _)
     have hB3 := (hBw.alloc hsz _).grown hgrow (by simp; omega) fun k hk => (hown2.lt k hk).1
     go_roundw
     case rel => exact ⟨k + 1, by go_num, by omega, by omega, ⟨cs' ++ [c'], by rw [List.map_append, hm, Hst.out, List.map_singleton, hpu], by rw [callsL_snoc, List.length_append]; exact hown', fun c hc => by
       rcases List.mem_append.1 hc with hc | hc
       ·exact ((hD2 c hc).on ((Below.refl _ _).alloc (Nat.le_refl _) _)).grown (hown2.alloc _) hgrow
       ·rw [List.mem_singleton.1 hc]; exact (hDw.on ((Below.refl _ _).alloc (Nat.le_refl _) _)).grown (hown2.alloc _) hgrow⟩, hB3⟩
     case measure => simp [intOf]; omega
   ·have hkk : k = 24 := by omega
    subst hkk
    go_wp2
    go_returns
    have e : fewL cs = fewL (cs.take 24) := by unfold fewL; rw [List.take_take, Nat.min_self]
    exact ⟨_, rfl, by rw [e]; exact hR, hB⟩
  ·have hkk : k = cs.length := by omega
   subst hkk
   rw [List.take_length] at hR
   go_wp2
   go_returns
   exact ⟨_, rfl, hR, hB⟩
theorem few_nil (p : Option Addr) (cap : Nat) (w : World) : Calls Tryz.prog 35 #[.slice p 0 cap] w fun e w' => ∃ v, e = .returned v ∧ ORow w w.heap.size w' v (fewL []) ∧ Below w.heap.size w w' := by
 go_enter Tryz.func35, Tryz.ntmps35
 go_wp2
 refine wp_loop_rounds 1 ?_
 rw [rounds_succ]
 go_wp2
 go_returns
 exact ⟨_, rfl, ORow.nil _ _ _, Below.refl _ _⟩
def ArgRow (w : World) (p : Option Addr) (cs : List CallV) : Prop := cs = [] ∨ ∃ b off, p = some ⟨b, off, none⟩ ∧ b < w.heap.size ∧ CAt w b off cs ∧ cs.length < 9223372036854775808 ∧ ∀ c ∈ cs, c.Ok ∧ DRaw w c
theorem ArgRow.on {w w' : World} {p : Option Addr} {cs : List CallV} (h : ArgRow w p cs) (hb : Below w.heap.size w w') : ArgRow w' p cs := by
 rcases h with h | ⟨b, off, h1, h2, h3, h4, h5⟩
 ·exact .inl h
 ·exact .inr ⟨b, off, h1, Nat.lt_of_lt_of_le h2 hb.size, h3.on hb, h4, fun c hc => ⟨(h5 c hc).1, (h5 c hc).2.on hb⟩⟩
theorem few_any (p : Option Addr) (cap : Nat) (cs : List CallV) (w : World) (hA : ArgRow w p cs) : Calls Tryz.prog 35 #[.slice p cs.length cap] w fun e w' => ∃ v, e = .returned v ∧ ORow w w.heap.size w' v (fewL cs) ∧ Below w.heap.size w w' := by
 rcases hA with rfl | ⟨b, off, rfl, h2, h3, h4, h5⟩
 ·exact few_nil p cap w
 ·exact few_some b off cap cs w h2 h3 h4 fun c hc => (h5 c hc).2
end Go.Proofs.YtdeiocppghhfdaaGreat.Hs
namespace Go.Proofs.YtdeiocppghhfdaaGreat.Hs
open Go.RowKit Go.Lib Go.Shelf
open KitI (own_below)
attribute [local go_sem, local simp] callL_0 callL_1 callL_2 callL_3 callL_4 callL_5 callL_6 callL_7 callL_8 callL_9 callL_10 callL_11 callL_12 callL_13 callL_14 callL_15 callL_16 callL_17 callL_18 callL_19 callL_20 callL_21 callL_22 callL_23 callL_24 callL_25 callL_26 resL_0 resL_1 resL_2 resL_3 resL_4 resL_5 resL_6 resL_7 resL_8 resL_9 resL_10 resL_11 resL_12 callG_0 callG_1 callG_2 callG_3 callG_4 callG_5 callG_6 callG_7 callG_8 callG_9 callG_10 callG_11 callG_12 callG_13 callG_14 callG_15 callG_16 callG_17 callG_18 callG_19 callG_20 callG_21 callG_22 callG_23 callG_24 callG_25 callG_26 resG_0 resG_1 resG_2 resG_3 resG_4 resG_5 resG_6 resG_7 resG_8 resG_9 resG_10 resG_11 resG_12 callL_len resL_len
attribute [local go_sem ↓] loadCall_eq loadRes_eq
attribute [local go_sem] ld_new ld_first ld_second ldr_new st_new
theorem pure_ok {c d : CallV} (h : c.pure = d.pure) (hd : d.Ok) : c.Ok := by
 have e1 : c.invoked = d.invoked := (congrArg CallV.invoked h : c.pure.invoked = d.pure.invoked)
 have e2 : c.answered = d.answered := (congrArg CallV.answered h : c.pure.answered = d.pure.answered)
 have e3 : c.steps = d.steps := (congrArg CallV.steps h : c.pure.steps = d.pure.steps)
 have e4 : c.took = d.took := (congrArg CallV.took h : c.pure.took = d.pure.took)
 have e5 : c.rank = d.rank := (congrArg CallV.rank h : c.pure.rank = d.pure.rank)
 have e6 : c.okind = d.okind := (congrArg CallV.okind h : c.pure.okind = d.pure.okind)
 have e7 : c.oid = d.oid := (congrArg CallV.oid h : c.pure.oid = d.pure.oid)
 have e8 : c.ograv = d.ograv := (congrArg CallV.ograv h : c.pure.ograv = d.pure.ograv)
 have e9 : c.oslot = d.oslot := (congrArg CallV.oslot h : c.pure.oslot = d.pure.oslot)
 have f0 : c.oat = d.oat := (congrArg CallV.oat h : c.pure.oat = d.pure.oat)
 have f1 : c.on = d.on := (congrArg CallV.on h : c.pure.on = d.pure.on)
 obtain ⟨a1, a2, a3, a4, a5, a6, a7, a8, a9, a10, b1, b2, b3, b4, b5, b6⟩ := hd
 exact ⟨by omega, by omega, by omega, by omega, by omega, by omega, by omega, by omega, by omega, by omega, by omega, by omega, by omega, by omega, by omega, by omega⟩
structure HRow (W : World) (p : Option Addr) (cap : Nat) (cs : List CallV) : Prop where
 row : CRow W p cap cs
 dat : ∀ c ∈ cs, DAt W c
 ok : ∀ c ∈ cs, c.Ok
 len : cs.length ≤ 24
theorem HRow.on {W W' : World} {p : Option Addr} {cap : Nat} {cs : List CallV} (h : HRow W p cap cs) (hb : Below W.heap.size W W') : HRow W' p cap cs := ⟨h.row.on hb, fun c hc => (h.dat c hc).on hb, h.ok, h.len⟩
theorem few_mem {cs : List CallV} {x : CallV} (h : x ∈ fewL cs) : ∃ c ∈ cs, x = (cut100 c).pure := by
 unfold fewL at h
 obtain ⟨c, hc, rfl⟩ := List.mem_map.1 h
 exact ⟨c, List.mem_of_mem_take hc, rfl⟩
theorem cut_ok {d : CallV} (h : d.Ok) : (cut100 d).pure.Ok := ⟨h.i0, h.i1, h.a0, h.a1, h.s0, h.s1, h.t0, h.t1, h.r0, h.r1, h.kd, h.id, h.gr, h.sl, h.at_, h.nn⟩
end Go.Proofs.YtdeiocppghhfdaaGreat.Hs
namespace Go.Proofs.YtdeiocppghhfdaaGreat.Hs
open Go.RowKit Go.Lib Go.Shelf
theorem eff_mem {cs : List CallV} {L : List Nat} (h : EffIs cs L) {i : Nat} : i ∈ L ↔ ∃ c, cs[i]? = some c ∧ tookQ c = true := by
 rw [h.1.mem_iff]
 constructor
 ·exact places_at
 ·rintro ⟨c, hc, hq⟩
  have := places_mem (k := 0) hc hq
  rwa [Nat.zero_add] at this
theorem eff_len {cs : List CallV} {L : List Nat} (h : EffIs cs L) : L.length ≤ cs.length := by
 rw [h.1.length_eq]; exact places_len
theorem tk_at {cs : List CallV} {i : Nat} {c : CallV} (h : cs[i]? = some c) : tk cs i = c.took ∧ rk cs i = c.rank := by
 unfold tk rk; rw [h]; exact ⟨rfl, rfl⟩
theorem pair_at {R : Nat → Nat → Prop} {L : List Nat} (h : L.Pairwise R) {i j : Nat} (hi : i ∈ L) (hj : j ∈ L) (hlt : L.idxOf i < L.idxOf j) : R i j := by
 have a1 := List.idxOf_lt_length_iff.2 hi
 have a2 := List.idxOf_lt_length_iff.2 hj
 have := List.pairwise_iff_getElem.1 h (L.idxOf i) (L.idxOf j) a1 a2 hlt
 rwa [List.getElem_idxOf a1, List.getElem_idxOf a2] at this
end Go.Proofs.YtdeiocppghhfdaaGreat.Hs
