/- WitnessPrefixes: the law returns true for every input, and leaves its arguments as they were. -/
import Derived.Test.YtdeiocppghhfdaaGreatZbaa
import Derived.Test.YtdeiocppghhfdaaGreatZbha
import Derived.Test.YtdeiocppghhfdaaGreatZbab
import Derived.Test.YtdeiocppghhfdaaGreatZbac
import Derived.Test.YtdeiocppghhfdaaGreatZbad
import Derived.Test.YtdeiocppghhfdaaGreatZbae
import Derived.Test.YtdeiocppghhfdaaGreatZbaf
import Derived.Test.YtdeiocppghhfdaaGreatZbag
import Derived.Test.YtdeiocppghhfdaaGreatZbah
import Derived.Test.YtdeiocppghhfdaaGreatZbai
import Derived.Test.YtdeiocppghhfdaaGreatZbaj
import Derived.Test.YtdeiocppghhfdaaGreatZbak
import Derived.Test.YtdeiocppghhfdaaGreatZbal
import Derived.Test.YtdeiocppghhfdaaGreatZbam
import Derived.Test.YtdeiocppghhfdaaGreatZban
import Derived.Test.YtdeiocppghhfdaaGreatZbao
import Derived.Test.YtdeiocppghhfdaaGreatZbap
import Derived.Test.YtdeiocppghhfdaaGreatZbaq
import Derived.Test.YtdeiocppghhfdaaGreatZbar
import Derived.Test.YtdeiocppghhfdaaGreatZbas
import Derived.Test.YtdeiocppghhfdaaGreatZbat
import Derived.Test.YtdeiocppghhfdaaGreatZbau
import Derived.Test.YtdeiocppghhfdaaGreatZbav
import Derived.Test.YtdeiocppghhfdaaGreatZbaw
import Derived.Test.YtdeiocppghhfdaaGreatZbax
import Derived.Test.YtdeiocppghhfdaaGreatZbay
import Derived.Test.YtdeiocppghhfdaaGreatZbaz
import Derived.Test.YtdeiocppghhfdaaGreatZbba
import Derived.Test.YtdeiocppghhfdaaGreatZbbb
import Derived.Test.YtdeiocppghhfdaaGreatZbbc
import Derived.Test.YtdeiocppghhfdaaGreatZbbd
import Derived.Test.YtdeiocppghhfdaaGreatZbbe
import Derived.Test.YtdeiocppghhfdaaGreatZbbf
import Derived.Test.YtdeiocppghhfdaaGreatZbbg
import Derived.Test.YtdeiocppghhfdaaGreatZbbh
import Derived.Test.YtdeiocppghhfdaaGreatZbbi
import Derived.Test.YtdeiocppghhfdaaGreatZbbj
import Derived.Test.YtdeiocppghhfdaaGreatZbbk
import Derived.Test.YtdeiocppghhfdaaGreatZbbl
import Derived.Test.YtdeiocppghhfdaaGreatZbbm
import Derived.Test.YtdeiocppghhfdaaGreatZbbn
import Derived.Test.YtdeiocppghhfdaaGreatZbbo
import Derived.Test.YtdeiocppghhfdaaGreatZbbp
import Derived.Test.YtdeiocppghhfdaaGreatZbbq
import Derived.Test.YtdeiocppghhfdaaGreatZbbr
import Derived.Test.YtdeiocppghhfdaaGreatZbbs
import Derived.Test.YtdeiocppghhfdaaGreatZbbt
import Derived.Test.YtdeiocppghhfdaaGreatZbbu
import Derived.Test.YtdeiocppghhfdaaGreatZbbv
import Derived.Test.YtdeiocppghhfdaaGreatZbbw
import Derived.Below
import Derived.ChangeSame
import Derived.WalkKit
import Derived.ProofKit
import Derived.OpenShut
import Derived.ShutString
import Derived.SizedLaws
import Derived.Laws.CopyRow
import Derived.Deep.RegionHeld3
import Derived.Deep.LoopGhost
import Derived.IntWalk
import Derived.WalkSpells
import Derived.WalkLawsBesides
import Derived.Lib.Hide
import Derived.Handy
import Derived.Deep.QuietTactic
import Derived.BigQuiet
import Derived.Deep.MidRow
import Derived.Deep.WholeRow
import Derived.RangeFuncNested
import Derived.RangeFuncBound
import Derived.RangeFuncCalls
import Derived.RangeFuncLeaves
import Derived.RangeFuncFrom
import Derived.Shelf.Abstract
import Derived.Shelf.RegionOpen
import Derived.OwnWalkIn
import Derived.TacticsInMore
import Derived.LoopNIn
import Derived.LoopIn
import Derived.Deep.AppendLies
import Derived.RangeFuncBox
import Derived.Maps.AppendAt
import Derived.Shelf.SlSortCmp.Whole1
import Derived.Sort.OwnSortedInts
import Derived.Lib.RowBridge
import Derived.OrdersIn
import Derived.BigRegion
import Derived.Lib.Strings
import Derived.Lib.IndexBytes
import Derived.Laws.IdiomStrings
import Derived.OwnWalk
import Derived.Deep.RegionLaw
import Derived.Laws.AppendOwn
import Derived.Shelf.Strings.BuilderK
import Derived.Shelf.Spec.SlicesInsertGrow
import Derived.Lib.AppendZerosOnto
import Derived.Lib.Overlaps
import Derived.Laws.Externs
import Derived.ArgAppend
import Derived.Shelf.SlicesQ.IndexFunc
import Derived.Shelf.SlSorted.Search
import Derived.Laws.OwnMore
import Derived.WideMake
import Derived.Deep.Slices
import Derived.Laws.EntriesVeiled
import Derived.Carry
import Derived.DeepKeys4
import Derived.Maps.Own
import Derived.Maps.OwnOps
import Derived.Laws.BytesString
import Derived.Lib.AppendStr
import Derived.WalkMore
import Derived.Scope
import Derived.OrdersHeld
set_option linter.unusedVariables false
set_option linter.unusedSimpArgs false
set_option maxRecDepth 100000
set_option maxHeartbeats 8000000
namespace Go.Proofs.YtdeiocppghhfdaaGreat
open Go.RowKit Go.WideShapes Go.ChangeShapes
section
variable {H : Type} {enc : TypeId × Value → H} {P : Program}
theorem post_of_below {f : Func} {s : ChangeSpec} {apart fresh handsOn again : Bool} {W W' : World} {args : Array Value} {v : Value} {ds gs : List (DataW H)} {before pa pv : List MemPlace}
  (hW : DataW.Whole enc P f.params.toList s.vars apart W args.toList ds gs before)
  (hres : ∀ (b : Nat) (sp : Nat → Bool) (hd : Bool), DataW.TrodAll enc P W' b sp hd f.resultTypes.toList (v.resultList f.resultTypes.size) (s.fn H (ds ++ gs)).results [])
  (hargs : ∀ sp : Nat → Bool, (∀ p ∈ before, sp p.block = true) → DataW.TrodAll enc P W' 0 sp true f.params.toList args.toList (s.fn H (ds ++ gs)).args pa)
  (hvars : ∀ sp : Nat → Bool, (∀ p ∈ before, sp p.block = true) → DataW.TrodVars enc P W' sp s.vars (s.fn H (ds ++ gs)).vars pv)
  (hps : before = pa ++ pv) (hb : Below W.heap.size W W')
  (hok : ∀ (j : Nat) (t : TypeId) (r : Value), f.resultTypes[j]? = some t → (v.resultList f.resultTypes.size)[j]? = some r → Value.okWide P W' .any 0 t r) :
  s.post enc P f apart fresh handsOn again W args v W' := by
 have hlt : ∀ p ∈ before, p.block < W.heap.size := fun p hp => hW.lt p hp
 have hold : ∀ p ∈ before, (fun b => decide (b < W.heap.size)) p.block = true := fun p hp => by simpa using hlt p hp
 refine ⟨ds, gs, before, [], pa, pv, hW, hres _ _ _, hargs _ hold, hvars _ hold, World.keptBut_mono (fun p hp => ⟨hp, ?_⟩) (hb.frame (· ∈ before)), fun _ => ?_⟩
 ·rw [hps, List.mem_append] at hp
  exact Or.inr hp
 ·obtain ⟨_, _, _, _, _, hz, hn⟩ := hW
  refine ⟨hok, _, _, ([] ++ pa) ++ pv, ⟨[] ++ pa, pv, trodAll_append (hargs _ (fun _ _ => rfl)) (hres _ _ _), hvars _ (fun _ _ => rfl), rfl, ?_, ?_⟩, ?_⟩
  ·intro b off hp
   have hin : MemPlace.cell b off ∈ before := by rw [hps]; simpa using hp
   rw [hb.frozen (hlt _ hin)]
   exact hz b off hin
  ·intro ha
   have := hn ha
   rw [hps] at this
   simpa using this
  ·intro p hp _
   rw [hps]
   simpa using hp
end
end Go.Proofs.YtdeiocppghhfdaaGreat
namespace Go.Proofs.YtdeiocppghhfdaaGreat.Lin
section
variable {α : Type} (n : Nat) (next : α → Nat → Option α) (rdy : Nat → Nat → Bool) (fl : Nat → Bool)
def C (s : α) (u : Nat) : Nat := ct n next rdy fl (fr n u) s u
end
section
variable {α : Type} {n : Nat} {next : α → Nat → Option α} {rdy : Nat → Nat → Bool} {fl : Nat → Bool}
end
end Go.Proofs.YtdeiocppghhfdaaGreat.Lin
namespace Go.Proofs.YtdeiocppghhfdaaGreat.Hs
open Go.RowKit Go.Lib Go.Shelf
open KitI (own_below)
attribute [local go_sem, local simp] callL_0 callL_1 callL_2 callL_3 callL_4 callL_5 callL_6 callL_7 callL_8 callL_9 callL_10 callL_11 callL_12 callL_13 callL_14 callL_15 callL_16 callL_17 callL_18 callL_19 callL_20 callL_21 callL_22 callL_23 callL_24 callL_25 callL_26 resL_0 resL_1 resL_2 resL_3 resL_4 resL_5 resL_6 resL_7 resL_8 resL_9 resL_10 resL_11 resL_12 callG_0 callG_1 callG_2 callG_3 callG_4 callG_5 callG_6 callG_7 callG_8 callG_9 callG_10 callG_11 callG_12 callG_13 callG_14 callG_15 callG_16 callG_17 callG_18 callG_19 callG_20 callG_21 callG_22 callG_23 callG_24 callG_25 callG_26 resG_0 resG_1 resG_2 resG_3 resG_4 resG_5 resG_6 resG_7 resG_8 resG_9 resG_10 resG_11 resG_12 callL_len resL_len
attribute [local go_sem ↓] loadCall_eq loadRes_eq
attribute [local go_sem] ld_new ld_first ld_second ldr_new st_new
theorem piecesL_ones (ps : List PieceV) : ∀ u ∈ piecesL ps, u.oneCell' = true := by
 intro u hu
 unfold piecesL at hu
 rw [List.mem_flatMap] at hu
 obtain ⟨p, _, hu⟩ := hu
 unfold pieceL at hu
 simp only [List.mem_cons, List.not_mem_nil, or_false] at hu
 rcases hu with rfl | rfl | rfl <;> rfl
theorem clone_pieces (b off c : Nat) (ps : List PieceV) (w : World) (hn : ps.length ≤ 1000000) (h : ∀ j u, (piecesL ps)[j]? = some u → w.cell? ⟨b, off + j, none⟩ = some u) :
  Calls Tryz.prog 131 #[.slice (some ⟨b, off, none⟩) ps.length c] w fun e w' => ∃ v', e = .returned v' ∧ w'.ownsRow w.heap.size 94 3 v' ps.length (piecesL ps) ∧ v' ≠ .slice none 0 0 ∧ Below w.heap.size w w' := by
 obtain ⟨i0, hi, hz0, hz1, hz2⟩ := info_parts infoP
 exact AnyE.slices_Clone Tryz.cloneL i0 (.agg #[.int .u8 0, .int .i64 0, .string ⟨#[]⟩]) 3 32 hi hz0 hz1 hz2 rfl (by decide) (fun w => Tryz.sizeOf94 w) b off ps.length c (piecesL ps) w (piecesL_len ps) (by unfold maxLen; omega) (by omega) h (piecesL_ones ps)
theorem clone_none (c : Nat) (w : World) : Calls Tryz.prog 131 #[.slice none 0 c] w fun e w' => e = .returned (.slice none 0 0) ∧ w' = w := AnyE.slices_Clone_nil Tryz.cloneL 0 c w
theorem copied_any (c : CallV) (w : World) (hd : DAt w c) : Calls Tryz.prog 76 #[.agg (callL c).toArray] w fun e w' => ∃ c', e = .returned (.agg (callL c').toArray) ∧ c'.pure = c.pure ∧ DOwn w w' c' ∧ Below w.heap.size w w' := by
 have hb0 := blk_old (blk_new w (callL c) 56) (.cells #[.int .i64 0, .int .i64 0, .int .u8 0, .int .i64 0, .int .i64 0, .int .i64 0, .int .u32 0, .int .u8 0, .string ⟨#[]⟩, .int .i64 0, .int .i64 0, .int .i64 0, .int .i64 0, .int .i64 0, .int .i64 0, .int .i64 0, .int .i64 0, .int .i64 0, .int .u8 0, .string ⟨#[]⟩, .int .i64 0, .int .i64 0, .int .i64 0, .int .u8 0, .int .i64 0, .int .i64 0, .slice none 0 0] 56)
 have hz0 := blk_new (w.alloc (.cells (callL c).toArray 56)) [.int .i64 0, .int .i64 0, .int .u8 0, .int .i64 0, .int .i64 0, .int .i64 0, .int .u32 0, .int .u8 0, .string ⟨#[]⟩, .int .i64 0, .int .i64 0, .int .i64 0, .int .i64 0, .int .i64 0, .int .i64 0, .int .i64 0, .int .i64 0, .int .i64 0, .int .u8 0, .string ⟨#[]⟩, .int .i64 0, .int .i64 0, .int .i64 0, .int .u8 0, .int .i64 0, .int .i64 0, .slice none 0 0] 56
 rw [World.size_alloc] at hz0
 have hBa : Below w.heap.size w ((w.alloc (.cells (callL c).toArray 56)).alloc (.cells #[.int .i64 0, .int .i64 0, .int .u8 0, .int .i64 0, .int .i64 0, .int .i64 0, .int .u32 0, .int .u8 0, .string ⟨#[]⟩, .int .i64 0, .int .i64 0, .int .i64 0, .int .i64 0, .int .i64 0, .int .i64 0, .int .i64 0, .int .i64 0, .int .i64 0, .int .u8 0, .string ⟨#[]⟩, .int .i64 0, .int .i64 0, .int .i64 0, .int .u8 0, .int .i64 0, .int .i64 0, .slice none 0 0] 56)) := ((Below.refl _ _).alloc (Nat.le_refl _) _).alloc (by simp) _
 have q26 := blk_cell hb0 26
 rw [callL_26] at q26
 -- what comes after the copy of the delta
 have after : ∀ (w3 : World) (a : Option Addr) (n : Nat), Below (w.heap.size + 2) ((w.alloc (.cells (callL c).toArray 56)).alloc (.cells #[.int .i64 0, .int .i64 0, .int .u8 0, .int .i64 0, .int .i64 0, .int .i64 0, .int .u32 0, .int .u8 0, .string ⟨#[]⟩, .int .i64 0, .int .i64 0, .int .i64 0, .int .i64 0, .int .i64 0, .int .i64 0, .int .i64 0, .int .i64 0, .int .i64 0, .int .u8 0, .string ⟨#[]⟩, .int .i64 0, .int .i64 0, .int .i64 0, .int .u8 0, .int .i64 0, .int .i64 0, .slice none 0 0] 56)) w3 →
   ∃ c' : CallV, (c'.pure = c.pure ∧ c'.ps = c.ps ∧ c'.da = a ∧ c'.dc = n) ∧ w3.cell? ⟨w.heap.size, 26, none⟩ = some (.slice c.da c.ps.length c.dc) ∧ w3.frozen? ⟨w.heap.size, 26, none⟩ = false ∧
   (loadCall (.pointer (some ⟨w.heap.size, 0, none⟩))).run Tryz.prog (w3.setCell ⟨w.heap.size, 26, none⟩ (.slice a c.ps.length n)) = .ok (.agg (callL c').toArray) (w3.setCell ⟨w.heap.size, 26, none⟩ (.slice a c.ps.length n)) ∧
   (storeCells ⟨w.heap.size + 1, 0, none⟩ (callL c')).run Tryz.prog (w3.setCell ⟨w.heap.size, 26, none⟩ (.slice a c.ps.length n)) = .ok () ((w3.setCell ⟨w.heap.size, 26, none⟩ (.slice a c.ps.length n)).setRow (w.heap.size + 1) (callL c').toArray) ∧
   ((w3.setCell ⟨w.heap.size, 26, none⟩ (.slice a c.ps.length n)).setRow (w.heap.size + 1) (callL c').toArray).heap[w.heap.size + 1]? = some (.cells (callL c').toArray 56 (0, 0)) ∧
   (∀ B, B ≤ w.heap.size → Below B w3 ((w3.setCell ⟨w.heap.size, 26, none⟩ (.slice a c.ps.length n)).setRow (w.heap.size + 1) (callL c').toArray)) ∧
   (∀ g, w.heap.size + 2 ≤ g → ((w3.setCell ⟨w.heap.size, 26, none⟩ (.slice a c.ps.length n)).setRow (w.heap.size + 1) (callL c').toArray).heap[g]? = w3.heap[g]?) := by
  intro w3 a n hB
  have h1 := blk_below hb0 hB (by omega)
  have h2 := blk_below hz0 hB (by omega)
  have e := setCell_eq_setRow w3 w.heap.size 26 _ _ _ (.slice a c.ps.length n) h1
  rw [call_set] at e
  have h3 : (w3.setCell ⟨w.heap.size, 26, none⟩ (.slice a c.ps.length n)).heap[w.heap.size]? = some (.cells (callL { c with da := a, dc := n }).toArray 56 (0, 0)) := by rw [e]; exact setRow_heap _ _ _ _ _ _ h1
  have h4 : (w3.setCell ⟨w.heap.size, 26, none⟩ (.slice a c.ps.length n)).heap[w.heap.size + 1]? = some (.cells #[.int .i64 0, .int .i64 0, .int .u8 0, .int .i64 0, .int .i64 0, .int .i64 0, .int .u32 0, .int .u8 0, .string ⟨#[]⟩, .int .i64 0, .int .i64 0, .int .i64 0, .int .i64 0, .int .i64 0, .int .i64 0, .int .i64 0, .int .i64 0, .int .i64 0, .int .u8 0, .string ⟨#[]⟩, .int .i64 0, .int .i64 0, .int .i64 0, .int .u8 0, .int .i64 0, .int .i64 0, .slice none 0 0] 56 (0, 0)) := by rw [e, setRow_other _ _ _ _ (by omega)]; exact h2
  refine ⟨{ c with da := a, dc := n }, ⟨rfl, rfl, rfl, rfl⟩, (blk_cell h1 26).trans (callL_26 c), blk_frozen h1 26, ld_call _ h3, st_old rfl h4 _, setRow_heap _ _ _ _ _ _ h4, fun B hB => ?_, fun g hg => ?_⟩
  ·exact below_row ((Below.refl _ _).setCell (p := ⟨w.heap.size, 26, none⟩) hB _) (by omega) _
  ·rw [setRow_other _ _ _ _ (by omega), Below.heap_setCell _ _ _ _ (by simp; omega)]
 have After := Lib.hid after
 clear after hz0
 have hdl := hd.1
 rcases hd.2 with ⟨h1, h2, h3⟩ | ⟨b, off, h1, h2, h3⟩
 ·rw [h1, h2, h3] at q26
  rw [List.length_nil] at q26
  have cl : ∀ W, Calls Tryz.prog 131 #[.slice none 0 0] W fun e w' => e = .returned (.slice none 0 0) ∧ Below W.heap.size W w' := fun W => (clone_none 0 W).mono (by rintro e w' ⟨h, rfl⟩; exact ⟨h, Below.refl _ _⟩)
  have H1 := Lib.hid h1
  have H2 := Lib.hid h2
  have H3 := Lib.hid h3
  have HB := Lib.hid hBa
  clear h1 h2 h3 hd hb0 hBa
  go_enter Tryz.func76, Tryz.ntmps76
  go_wp2_with fail
  refine (cl _).mono ?_
  clear cl
  rintro e w3 ⟨rfl, hB3⟩
  have hs : ((w.alloc (.cells (callL c).toArray 56)).alloc (.cells #[.int .i64 0, .int .i64 0, .int .u8 0, .int .i64 0, .int .i64 0, .int .i64 0, .int .u32 0, .int .u8 0, .string ⟨#[]⟩, .int .i64 0, .int .i64 0, .int .i64 0, .int .i64 0, .int .i64 0, .int .i64 0, .int .i64 0, .int .i64 0, .int .i64 0, .int .u8 0, .string ⟨#[]⟩, .int .i64 0, .int .i64 0, .int .i64 0, .int .u8 0, .int .i64 0, .int .i64 0, .slice none 0 0] 56)).heap.size = w.heap.size + 2 := by simp
  rw [hs] at hB3
  obtain ⟨c', ⟨e1, e2, e3, e4⟩, q1, q2, q3, q4, q5, q6, q7⟩ := After.out w3 none 0 hB3
  have hB6 := (HB.out.trans (hB3.mono (by omega))).trans (q6 _ (Nat.le_refl _))
  have hfin : DOwn w ((w3.setCell ⟨w.heap.size, 26, none⟩ (.slice none c.ps.length 0)).setRow (w.heap.size + 1) (callL c').toArray) c' := ⟨by rw [e2]; exact hdl, .inl ⟨e3, e2.trans H2.out, e4⟩⟩
  rw [H2.out] at q1 q3 q4 q5 hfin hB6
  rw [H1.out, H3.out] at q1
  rw [List.length_nil] at q1 q3 q4 q5 hfin hB6
  have HF := Lib.hid (And.intro e1 (And.intro hfin hB6))
  have Hr := Lib.hid q5
  clear hfin hB6 e1 e2 e3 e4 q5 q6 q7 hB3 hs q26
  go_wp2
  exact ⟨rfl, _, results_cell_row rfl _ _ _ _ _ _ _ rfl Hr.out Tryz.underlying56 rfl (by kernel_rfl), c', rfl, HF.out.1, HF.out.2.1, HF.out.2.2⟩
 ·have cl := clone_pieces b off c.dc c.ps _ hdl (fun j u hj => by rw [hBa.cell (p := ⟨b, off + j, none⟩) h2]; exact h3 j u hj)
  rw [h1] at q26
  have H1 := Lib.hid h1
  have HB := Lib.hid hBa
  clear h1 h2 h3 hd hb0 hBa
  go_enter Tryz.func76, Tryz.ntmps76
  go_wp2_with fail
  refine cl.mono ?_
  clear cl
  rintro e w3 ⟨v', rfl, hown, hne, hB3⟩
  have hs : ((w.alloc (.cells (callL c).toArray 56)).alloc (.cells #[.int .i64 0, .int .i64 0, .int .u8 0, .int .i64 0, .int .i64 0, .int .i64 0, .int .u32 0, .int .u8 0, .string ⟨#[]⟩, .int .i64 0, .int .i64 0, .int .i64 0, .int .i64 0, .int .i64 0, .int .i64 0, .int .i64 0, .int .i64 0, .int .i64 0, .int .u8 0, .string ⟨#[]⟩, .int .i64 0, .int .i64 0, .int .i64 0, .int .u8 0, .int .i64 0, .int .i64 0, .slice none 0 0] 56)).heap.size = w.heap.size + 2 := by simp
  rw [hs] at hB3 hown
  rcases hown.2 with ⟨h, _⟩ | ⟨g, cg, cur, rfl, hg, hgc, _⟩
  ·exact absurd h hne
  ·obtain ⟨c', ⟨e1, e2, e3, e4⟩, q1, q2, q3, q4, q5, q6, q7⟩ := After.out w3 (some ⟨g, 0, none⟩) cg hB3
   have hB6 := (HB.out.trans (hB3.mono (by omega))).trans (q6 _ (Nat.le_refl _))
   have hfin : DOwn w ((w3.setCell ⟨w.heap.size, 26, none⟩ (.slice (some ⟨g, 0, none⟩) c.ps.length cg)).setRow (w.heap.size + 1) (callL c').toArray) c' :=
    ⟨by rw [e2]; exact hdl, .inr ⟨g, cur, e3, by omega, (q7 g hg).trans hgc, fun j u hj => by
     rw [e2] at hj
     have hlt := (List.getElem?_eq_some_iff.1 hj).1
     rw [piecesL_len] at hlt
     have := hown.cellAt j hlt
     rw [cell_of_row _ _ _ _ _ _ hgc, hj] at this
     exact this⟩⟩
   have HF := Lib.hid (And.intro e1 (And.intro hfin hB6))
   rw [H1.out] at q1
   have Hr := Lib.hid q5
   clear hfin hB6 e1 e2 e3 e4 q5 q6 q7 hown hgc hB3 hs q26
   go_wp2
   exact ⟨rfl, _, results_cell_row rfl _ _ _ _ _ _ _ rfl Hr.out Tryz.underlying56 rfl (by kernel_rfl), c', rfl, HF.out.1, HF.out.2.1, HF.out.2.2⟩
end Go.Proofs.YtdeiocppghhfdaaGreat.Hs
namespace Go.Proofs.YtdeiocppghhfdaaGreat.Hs
open Go.RowKit Go.Lib Go.Shelf
open KitI (own_below)
attribute [local go_sem, local simp] callL_0 callL_1 callL_2 callL_3 callL_4 callL_5 callL_6 callL_7 callL_8 callL_9 callL_10 callL_11 callL_12 callL_13 callL_14 callL_15 callL_16 callL_17 callL_18 callL_19 callL_20 callL_21 callL_22 callL_23 callL_24 callL_25 callL_26 resL_0 resL_1 resL_2 resL_3 resL_4 resL_5 resL_6 resL_7 resL_8 resL_9 resL_10 resL_11 resL_12 callG_0 callG_1 callG_2 callG_3 callG_4 callG_5 callG_6 callG_7 callG_8 callG_9 callG_10 callG_11 callG_12 callG_13 callG_14 callG_15 callG_16 callG_17 callG_18 callG_19 callG_20 callG_21 callG_22 callG_23 callG_24 callG_25 callG_26 resG_0 resG_1 resG_2 resG_3 resG_4 resG_5 resG_6 resG_7 resG_8 resG_9 resG_10 resG_11 resG_12 callL_len resL_len
attribute [local go_sem ↓] loadCall_eq loadRes_eq
attribute [local go_sem] ld_new ld_first ld_second ldr_new st_new
def clrV (c : CallV) : CallV := { c with err := 0, rev := 0, rslot := 0, rat := 0, rgrav := 0, rtext := ⟨#[]⟩, mb := 0, mr := 0, ml := 0, ik := 0, ifrom := 0, ito := 0, ps := [], da := none, dc := 0 }
def cutA (c : CallV) : CallV := { c with answered := -1, steps := 0 }
def cutT (c : CallV) : CallV := clrV { c with took := -1, rank := 0 }
def cutV (s : Int) (c : CallV) : CallV := if s < c.took then cutT (if s < c.answered then cutA c else c) else (if s < c.answered then cutA c else c)
theorem cut_pure' (s : Int) (c : CallV) : (cutV s c).pure = cutV s c.pure := by
 unfold cutV
 show _ = if s < c.took then cutT (if s < c.answered then cutA c.pure else c.pure) else (if s < c.answered then cutA c.pure else c.pure)
 split <;> split <;> rfl
theorem cut_pure {s : Int} {c c' : CallV} (h : c'.pure = c.pure) : (cutV s c').pure = (cutV s c).pure := by rw [cut_pure', cut_pure', h]
def prefS (s : Int) (cs : List CallV) : List CallV := (cs.filter fun c => decide (c.invoked ≤ s)).map fun c => (cutV s c).pure
theorem pref_step {s : Int} {cs : List CallV} {k : Nat} {c : CallV} (h : cs[k]? = some c) : prefS s (cs.take (k + 1)) = prefS s (cs.take k) ++ if c.invoked ≤ s then [(cutV s c).pure] else [] := by
 rw [List.take_add_one, h, Option.toList_some]
 unfold prefS
 rw [List.filter_append, List.map_append]
 congr 1
 by_cases hq : c.invoked ≤ s <;> simp [hq]
theorem cut_own {w W : World} {s : Int} {c : CallV} (h : DOwn w W c) : DOwn w W (cutV s c) := by
 unfold cutV
 split
 ·exact ⟨by simp [cutT, clrV], .inl ⟨rfl, rfl, rfl⟩⟩
 ·split
  ·exact h
  ·exact h
theorem cells_new1 (W : World) (o : Obj) (L : List Value) (T : TypeId) : ∀ (j : Nat) (u : Value), L[j]? = some u → ((W.alloc o).alloc (.cells L.toArray T)).cell? ((⟨W.heap.size + 1, 0, none⟩ : Addr).add j) = some u := by
 intro j u h
 have h2 := blk_cell (blk_new (W.alloc o) L T) j
 rw [World.size_alloc] at h2
 rw [Addr.add_mid, Nat.zero_add, h2, h]
def PfRel (w : World) (base : Nat) (s : Int) (cs : List CallV) (o i : Value) (wr : World) : Prop :=
 ∃ k : Nat, i = .int .i64 k ∧ k ≤ cs.length ∧ ORow w base wr o (prefS s (cs.take k)) ∧ Below w.heap.size w wr
def PrefPost (w : World) (s : Int) (cs : List CallV) (e : Ending) (w' : World) : Prop :=
 ((checkP cs).2 = 22 ∧ e = .returned (.tuple #[.slice none 0 0, .int .i64 22]) ∧ Below w.heap.size w w') ∨
 ((checkP cs).2 = 0 ∧ s < -1 ∧ e = .returned (.tuple #[.slice none 0 0, .int .i64 3]) ∧ Below w.heap.size w w') ∨
 ((checkP cs).2 = 0 ∧ -1 ≤ s ∧ ∃ v, e = .returned (.tuple #[v, .int .i64 0]) ∧ ORow w w.heap.size w' v (prefS s cs) ∧ Below w.heap.size w w')
theorem pref_len (s : Int) (cs : List CallV) : (prefS s cs).length ≤ cs.length := by unfold prefS; rw [List.length_map]; exact List.length_filter_le _ _
attribute [local go_sem, local simp] fold_call callS_10 callS_11 callS_12 callS_13 callS_14 callS_15 callS_16 callS_17 callS_18 callS_19 callS_20 callS_21 callS_22 callS_23 callS_24 callS_25 callS_26
set_option linter.unusedSimpArgs false in
theorem prefix_some (b off cap : Nat) (s : Int) (cs : List CallV) (w : World) (hcap : cs.length ≤ cap) (hb : b < w.heap.size) (hC : CAt w b off cs) (hs : cs.length ≤ 1000000) (hok : ∀ c ∈ cs, c.Ok) (hd : ∀ c ∈ cs, DAt w c) :
  Calls Tryz.prog 33 #[.int .i64 s, .slice (some ⟨b, off, none⟩) cs.length cap] w (PrefPost w s cs) := by
 obtain ⟨i0, hi, hz0, hz1, hz2⟩ := info_parts infoC
 have ck := check_any (some ⟨b, off, none⟩) cap cs w (.inr ⟨b, off, rfl, hcap, by omega, hC⟩) hs hok
 obtain ⟨k1, hk1⟩ : ∃ k1, (checkP cs).1 = k1 := ⟨_, rfl⟩
 rw [hk1] at ck
 rcases check_two cs with h0 | h22
 ·rw [h0] at ck
  have H0 := Lib.hid h0
  clear h0 hk1
  go_enter Tryz.func33, Tryz.ntmps33
  go_wp2_with fail
  refine ck.mono ?_
  clear ck
  rintro e w1 ⟨rfl, hB1⟩
  by_cases hsm : s < -1
  ·go_wp2
   go_returns
   exact .inr (.inl ⟨H0.out, hsm, rfl, hB1⟩)
  ·have hs1 : -1 ≤ s := by omega
   have Hs1 := Lib.hid hs1
   clear hs1
   go_wp2
   go_loopw [8, 24] (fun o i wr => PfRel w w.heap.size s cs o i wr) (fun o i wr => cs.length - (intOf i).toNat)
   case atStart => exact ⟨0, rfl, by omega, ORow.nil _ _ _, hB1⟩
   case round =>
    clear hB1
    obtain ⟨k, rfl, hk, hR, hB⟩ := hrel
    by_cases hlt : k < cs.length
    ·obtain ⟨c, hc⟩ : ∃ c, cs[k]? = some c := ⟨_, List.getElem?_eq_getElem hlt⟩
     have hld := (hC.below hB hb).load hc
     have hst := pref_step (s := s) hc
     have hle := pref_len s (cs.take k)
     rw [List.length_take, Nat.min_eq_left hk] at hle
     have hdc := (hd c (List.mem_of_getElem? hc))
     generalize prefS s (cs.take k) = L at *
     have Hst := Lib.hid hst
     clear hst hc
     have hBa : Below wr.heap.size wr (wr.alloc (.cells (callL c).toArray 56)) := (Below.refl _ _).alloc (Nat.le_refl _) _
     by_cases hq : s < c.invoked
     ·have hR2 := hR.on hBa
      have hq2 : ¬ c.invoked ≤ s := by omega
      have Hq := Lib.hid hq2
      clear hq2
      go_wp2
      go_roundw
      case rel => exact ⟨k + 1, by go_num, by omega, by rw [Hst.out, if_neg Hq.out, List.append_nil]; exact hR2, hB.trans (hBa.mono hB.size)⟩
      case measure => simp [intOf]; omega
     ·have hq2 : c.invoked ≤ s := by omega
      have Hq := Lib.hid hq2
      clear hq2
      have cp := copied_any c (wr.alloc (.cells (callL c).toArray 56)) ((hdc.on hB).on hBa)
      have hB5 := hB.trans (hBa.mono hB.size)
      have hR2 := hR.on hBa
      clear hdc hR hB
      go_wp2_with fail
      refine cp.mono ?_
      clear cp
      rintro e w2 ⟨c', rfl, hpu, hDc, hB2⟩
      have hsz : w.heap.size ≤ w2.heap.size := Nat.le_trans hB5.size hB2.size
      have hBw := hB5.trans (hB2.mono hB5.size)
      have hDw := hDc.mono hB5.size
      have hR3 := hR2.on hB2
      have hld2 := ld_new w2 c'
      clear hR2 hB2 hB5 hDc hBa hld
      obtain ⟨cs', hm, hown2, hD2⟩ := hR3
      have hlen : cs'.length ≤ cs.length := by rw [← List.length_map (f := CallV.pure), hm]; omega
      have Hlen := Lib.hid hlen
      clear hlen
      by_cases ha : s < c'.answered
      ·by_cases ht : s < c'.took
       ·have hcut : cutV s c' = cutT (cutA c') := by unfold cutV; rw [if_pos ht, if_pos ha]
        simp only [cutT, cutA, clrV] at hcut
        have Hcut := Lib.hid hcut
        clear hcut
        have hcw := cut_own (s := s) hDw
        have hcp := cut_pure (s := s) hpu
        go_wp2_with (at_builtin; (try simp only [fold_call]); rw [← Hcut.out]; clear ha ht; generalize cutV s c' = cN at *; have hl1 := callL_len cN; have ho1 := ones_call cN; have hn1 := cells_new1 w2 (.cells (callL cN).toArray 56) (callL cN) 56; refine wpList_append_own _ rfl _ _ 25 rfl w.heap.size 56 i0 _ 27 240 Tryz.underlying25 hi hz0 hz1 hz2 rfl (by decide) _ _ _ rfl ((hown2.alloc _).alloc _) ⟨_, 0, none⟩ 1 1 (callL cN) rfl (by rw [hl1]) hn1 ho1 (by have := Hlen.out; unfold maxLen; omega) (by have := Hlen.out; omega) (by simp; omega) ?_; intro v' w3 hown' hgrow _)
        have hB3 := ((hBw.alloc hsz _).alloc (by simp; omega) _).grown hgrow (by simp; omega) fun k hk => (hown2.lt k hk).1
        go_roundw
        case rel => exact ⟨k + 1, by go_num, by omega, ⟨cs' ++ [cN], by rw [List.map_append, hm, Hst.out, if_pos Hq.out, List.map_singleton, hcp], by rw [callsL_snoc, List.length_append]; exact hown', fun c hc => by
          rcases List.mem_append.1 hc with hc | hc
          ·exact (((hD2 c hc).on ((Below.refl _ _).alloc (Nat.le_refl _) _)).on ((Below.refl _ _).alloc (Nat.le_refl _) _)).grown ((hown2.alloc _).alloc _) hgrow
          ·rw [List.mem_singleton.1 hc]; exact ((hcw.on ((Below.refl _ _).alloc (Nat.le_refl _) _)).on ((Below.refl _ _).alloc (Nat.le_refl _) _)).grown ((hown2.alloc _).alloc _) hgrow⟩, hB3⟩
        case measure => simp [intOf]; omega
       ·have hcut : cutV s c' = cutA c' := by unfold cutV; rw [if_neg ht, if_pos ha]
        simp only [cutT, cutA, clrV] at hcut
        have Hcut := Lib.hid hcut
        clear hcut
        have hcw := cut_own (s := s) hDw
        have hcp := cut_pure (s := s) hpu
        go_wp2_with (at_builtin; (try simp only [fold_call]); rw [← Hcut.out]; clear ha ht; generalize cutV s c' = cN at *; have hl1 := callL_len cN; have ho1 := ones_call cN; have hn1 := cells_new1 w2 (.cells (callL cN).toArray 56) (callL cN) 56; refine wpList_append_own _ rfl _ _ 25 rfl w.heap.size 56 i0 _ 27 240 Tryz.underlying25 hi hz0 hz1 hz2 rfl (by decide) _ _ _ rfl ((hown2.alloc _).alloc _) ⟨_, 0, none⟩ 1 1 (callL cN) rfl (by rw [hl1]) hn1 ho1 (by have := Hlen.out; unfold maxLen; omega) (by have := Hlen.out; omega) (by simp; omega) ?_; intro v' w3 hown' hgrow _)
        have hB3 := ((hBw.alloc hsz _).alloc (by simp; omega) _).grown hgrow (by simp; omega) fun k hk => (hown2.lt k hk).1
        go_roundw
        case rel => exact ⟨k + 1, by go_num, by omega, ⟨cs' ++ [cN], by rw [List.map_append, hm, Hst.out, if_pos Hq.out, List.map_singleton, hcp], by rw [callsL_snoc, List.length_append]; exact hown', fun c hc => by
          rcases List.mem_append.1 hc with hc | hc
          ·exact (((hD2 c hc).on ((Below.refl _ _).alloc (Nat.le_refl _) _)).on ((Below.refl _ _).alloc (Nat.le_refl _) _)).grown ((hown2.alloc _).alloc _) hgrow
          ·rw [List.mem_singleton.1 hc]; exact ((hcw.on ((Below.refl _ _).alloc (Nat.le_refl _) _)).on ((Below.refl _ _).alloc (Nat.le_refl _) _)).grown ((hown2.alloc _).alloc _) hgrow⟩, hB3⟩
        case measure => simp [intOf]; omega
      ·by_cases ht : s < c'.took
       ·have hcut : cutV s c' = cutT c' := by unfold cutV; rw [if_pos ht, if_neg ha]
        simp only [cutT, cutA, clrV] at hcut
        have Hcut := Lib.hid hcut
        clear hcut
        have hcw := cut_own (s := s) hDw
        have hcp := cut_pure (s := s) hpu
        go_wp2_with (at_builtin; (try simp only [fold_call]); rw [← Hcut.out]; clear ha ht; generalize cutV s c' = cN at *; have hl1 := callL_len cN; have ho1 := ones_call cN; have hn1 := cells_new1 w2 (.cells (callL cN).toArray 56) (callL cN) 56; refine wpList_append_own _ rfl _ _ 25 rfl w.heap.size 56 i0 _ 27 240 Tryz.underlying25 hi hz0 hz1 hz2 rfl (by decide) _ _ _ rfl ((hown2.alloc _).alloc _) ⟨_, 0, none⟩ 1 1 (callL cN) rfl (by rw [hl1]) hn1 ho1 (by have := Hlen.out; unfold maxLen; omega) (by have := Hlen.out; omega) (by simp; omega) ?_; intro v' w3 hown' hgrow _)
        have hB3 := ((hBw.alloc hsz _).alloc (by simp; omega) _).grown hgrow (by simp; omega) fun k hk => (hown2.lt k hk).1
        go_roundw
        case rel => exact ⟨k + 1, by go_num, by omega, ⟨cs' ++ [cN], by rw [List.map_append, hm, Hst.out, if_pos Hq.out, List.map_singleton, hcp], by rw [callsL_snoc, List.length_append]; exact hown', fun c hc => by
          rcases List.mem_append.1 hc with hc | hc
          ·exact (((hD2 c hc).on ((Below.refl _ _).alloc (Nat.le_refl _) _)).on ((Below.refl _ _).alloc (Nat.le_refl _) _)).grown ((hown2.alloc _).alloc _) hgrow
          ·rw [List.mem_singleton.1 hc]; exact ((hcw.on ((Below.refl _ _).alloc (Nat.le_refl _) _)).on ((Below.refl _ _).alloc (Nat.le_refl _) _)).grown ((hown2.alloc _).alloc _) hgrow⟩, hB3⟩
        case measure => simp [intOf]; omega
       ·have hcut : cutV s c' = c' := by unfold cutV; rw [if_neg ht, if_neg ha]
        have Hcut := Lib.hid hcut
        clear hcut
        have hcw := cut_own (s := s) hDw
        have hcp := cut_pure (s := s) hpu
        go_wp2_with (at_builtin; (try simp only [fold_call]); rw [← Hcut.out]; clear ha ht; generalize cutV s c' = cN at *; have hl1 := callL_len cN; have ho1 := ones_call cN; have hn1 := cells_new1 w2 (.cells (callL cN).toArray 56) (callL cN) 56; refine wpList_append_own _ rfl _ _ 25 rfl w.heap.size 56 i0 _ 27 240 Tryz.underlying25 hi hz0 hz1 hz2 rfl (by decide) _ _ _ rfl ((hown2.alloc _).alloc _) ⟨_, 0, none⟩ 1 1 (callL cN) rfl (by rw [hl1]) hn1 ho1 (by have := Hlen.out; unfold maxLen; omega) (by have := Hlen.out; omega) (by simp; omega) ?_; intro v' w3 hown' hgrow _)
        have hB3 := ((hBw.alloc hsz _).alloc (by simp; omega) _).grown hgrow (by simp; omega) fun k hk => (hown2.lt k hk).1
        go_roundw
        case rel => exact ⟨k + 1, by go_num, by omega, ⟨cs' ++ [cN], by rw [List.map_append, hm, Hst.out, if_pos Hq.out, List.map_singleton, hcp], by rw [callsL_snoc, List.length_append]; exact hown', fun c hc => by
          rcases List.mem_append.1 hc with hc | hc
          ·exact (((hD2 c hc).on ((Below.refl _ _).alloc (Nat.le_refl _) _)).on ((Below.refl _ _).alloc (Nat.le_refl _) _)).grown ((hown2.alloc _).alloc _) hgrow
          ·rw [List.mem_singleton.1 hc]; exact ((hcw.on ((Below.refl _ _).alloc (Nat.le_refl _) _)).on ((Below.refl _ _).alloc (Nat.le_refl _) _)).grown ((hown2.alloc _).alloc _) hgrow⟩, hB3⟩
        case measure => simp [intOf]; omega
    ·have hkk : k = cs.length := by omega
     rw [hkk, List.take_length] at hR
     clear hkk
     go_wp2
     go_returns
     exact .inr (.inr ⟨H0.out, Hs1.out, _, rfl, hR, hB⟩)
 ·rw [h22] at ck
  have H0 := Lib.hid h22
  clear h22 hk1
  go_enter Tryz.func33, Tryz.ntmps33
  go_wp2_with fail
  refine ck.mono ?_
  clear ck
  rintro e w1 ⟨rfl, hB1⟩
  go_wp2
  go_returns
  exact .inl ⟨H0.out, rfl, hB1⟩
theorem prefix_nil (s : Int) (w : World) : Calls Tryz.prog 33 #[.int .i64 s, .slice none 0 0] w (PrefPost w s []) := by
 have ck := check_nil w
 rw [check_nilP] at ck
 by_cases hsm : s < -1
 ·go_enter Tryz.func33, Tryz.ntmps33
  go_wp2_with fail
  refine ck.mono ?_
  rintro e w1 ⟨rfl, hB1⟩
  go_wp2
  go_returns
  exact .inr (.inl ⟨rfl, hsm, rfl, hB1⟩)
 ·have hs1 : -1 ≤ s := by omega
  have Hs1 := Lib.hid hs1
  clear hs1
  go_enter Tryz.func33, Tryz.ntmps33
  go_wp2_with fail
  refine ck.mono ?_
  rintro e w1 ⟨rfl, hB1⟩
  go_wp2
  refine wp_loop_rounds 1 ?_
  rw [rounds_succ]
  go_wp2
  go_returns
  exact .inr (.inr ⟨rfl, Hs1.out, _, rfl, ORow.nil _ _ _, hB1⟩)
theorem prefix_any (p : Option Addr) (cap : Nat) (s : Int) (cs : List CallV) (w : World) (hC : CRow w p cap cs) (hs : cs.length ≤ 1000000) (hok : ∀ c ∈ cs, c.Ok) (hd : ∀ c ∈ cs, DAt w c) :
  Calls Tryz.prog 33 #[.int .i64 s, .slice p cs.length cap] w (PrefPost w s cs) := by
 rcases hC with ⟨rfl, rfl, rfl⟩ | ⟨b, off, rfl, h1, h2, h3⟩
 ·exact prefix_nil s w
 ·exact prefix_some b off cap s cs w h1 h2 h3 hs hok hd
end Go.Proofs.YtdeiocppghhfdaaGreat.Hs
namespace Go.Proofs.YtdeiocppghhfdaaGreat.Hs
open Go.RowKit Go.Lib Go.Shelf
open KitI (own_below)
attribute [local go_sem, local simp] callL_0 callL_1 callL_2 callL_3 callL_4 callL_5 callL_6 callL_7 callL_8 callL_9 callL_10 callL_11 callL_12 callL_13 callL_14 callL_15 callL_16 callL_17 callL_18 callL_19 callL_20 callL_21 callL_22 callL_23 callL_24 callL_25 callL_26 resL_0 resL_1 resL_2 resL_3 resL_4 resL_5 resL_6 resL_7 resL_8 resL_9 resL_10 resL_11 resL_12 callG_0 callG_1 callG_2 callG_3 callG_4 callG_5 callG_6 callG_7 callG_8 callG_9 callG_10 callG_11 callG_12 callG_13 callG_14 callG_15 callG_16 callG_17 callG_18 callG_19 callG_20 callG_21 callG_22 callG_23 callG_24 callG_25 callG_26 resG_0 resG_1 resG_2 resG_3 resG_4 resG_5 resG_6 resG_7 resG_8 resG_9 resG_10 resG_11 resG_12 callL_len resL_len
attribute [local go_sem ↓] loadCall_eq loadRes_eq
attribute [local go_sem] ld_new ld_first ld_second ldr_new st_new
theorem crow_of_own {W : World} {base : Nat} {v : Value} {cs : List CallV} (h : W.ownsRow base 56 27 v cs.length (callsL cs)) : ∃ p cap, v = .slice p cs.length cap ∧ CRow W p cap cs := by
 rcases h.2 with ⟨h1, h2⟩ | ⟨g, cap, cur, rfl, h2, h3, h4, h5, h6, h7⟩
 ·have : cs = [] := List.length_eq_zero_iff.1 h2
  subst this
  exact ⟨none, 0, h1, .inl ⟨rfl, rfl, rfl⟩⟩
 ·refine ⟨_, _, rfl, .inr ⟨g, 0, rfl, h4, (Array.getElem?_eq_some_iff.1 h3).1, fun j u hj => ?_⟩⟩
  have hlt := (List.getElem?_eq_some_iff.1 hj).1
  rw [callsL_len] at hlt
  rw [Nat.zero_add, h.cellAt j hlt]
  exact hj
theorem hrow_of {w W : World} {base : Nat} {v : Value} {L : List CallV} (h : ORow w base W v L) (hok : ∀ c ∈ L, c.Ok) (hl : L.length ≤ 24) : ∃ p cap hs, v = .slice p hs.length cap ∧ hs.map CallV.pure = L ∧ HRow W p cap hs := by
 obtain ⟨cs, h1, h2, h3⟩ := h
 obtain ⟨p, cap, hv, hC⟩ := crow_of_own h2
 refine ⟨p, cap, cs, hv, h1, hC, fun c hc => (h3 c hc).at, fun c hc => ?_, by rw [← h1] at hl; simpa using hl⟩
 have hm : c.pure ∈ L := by rw [← h1]; exact List.mem_map_of_mem hc
 exact pure_ok (d := c.pure) rfl (hok _ hm)
theorem few_h (p : Option Addr) (cap : Nat) (cs : List CallV) (w : World) (hA : ArgRow w p cs) :
  Calls Tryz.prog 35 #[.slice p cs.length cap] w fun e w' => ∃ p' cap' hs, e = .returned (.slice p' hs.length cap') ∧ hs.map CallV.pure = fewL cs ∧ HRow w' p' cap' hs ∧ Below w.heap.size w w' := by
 refine (few_any p cap cs w hA).mono ?_
 rintro e w' ⟨v, rfl, hO, hB⟩
 obtain ⟨p', cap', hs, rfl, hm, hH⟩ := hrow_of hO (fun c hc => by
  obtain ⟨d, hd, rfl⟩ := few_mem hc
  rcases hA with rfl | ⟨_, _, _, _, _, _, h⟩
  ·cases hd
  ·exact cut_ok (h d hd).1) (few_len cs)
 exact ⟨p', cap', hs, rfl, hm, hH, hB⟩
end Go.Proofs.YtdeiocppghhfdaaGreat.Hs
namespace Go.Proofs.YtdeiocppghhfdaaGreat.Hs
open Go.RowKit Go.Lib Go.Shelf
theorem places_nodup {q : CallV → Bool} {cs : List CallV} {k : Nat} : (places q cs k).Nodup := by
 refine List.Pairwise.imp ?_ (places_sorted (q := q) (cs := cs) (k := k))
 intro a b h; omega
theorem eff_nodup {cs : List CallV} {L : List Nat} (h : EffIs cs L) : L.Nodup := h.1.nodup_iff.2 places_nodup
theorem good_formed {cs : List CallV} (h0 : (checkP cs).2 = 0) {i : Nat} {c : CallV} (hc : cs[i]? = some c) : formedB c = true := acc_formed (check_ok h0 i c hc)
theorem formed_answered {c : CallV} (h : formedB c = true) (ha : 0 ≤ c.answered) : 0 ≤ c.took ∧ c.took ≤ c.answered ∧ c.invoked ≤ c.answered := by
 unfold formedB at h; simp at h; omega
theorem formed_took {c : CallV} (h : formedB c = true) (ha : 0 ≤ c.took) : c.invoked ≤ c.took := by
 unfold formedB at h; simp at h; omega
end Go.Proofs.YtdeiocppghhfdaaGreat.Hs
namespace Go.Proofs.YtdeiocppghhfdaaGreat
theorem set_getD {α : Type} [Inhabited α] (l : List α) (k : Nat) : l.set k (l.getD k default) = l := by
 apply List.ext_getElem?
 intro i
 by_cases h : k = i
 ·subst h
  by_cases hk : k < l.length
  ·rw [List.getElem?_set_self hk, List.getD_eq_getElem?_getD, List.getElem?_eq_getElem hk]; rfl
  ·rw [List.getElem?_eq_none (by rw [List.length_set]; omega), List.getElem?_eq_none (by omega)]
 ·rw [List.getElem?_set_ne h]
theorem put_self (st : MS) (c : Nat) : st.put c (st.seat c) = st := by unfold MS.put MS.seat; rw [set_getD]
theorem op_kind {q : OpV} (h : opE q = 0) : 1 ≤ q.kind ∧ q.kind ≤ 16 := ⟨(opE_ok h).1.1, (opE_ok h).1.2.1⟩
end Go.Proofs.YtdeiocppghhfdaaGreat
namespace Go.Proofs.YtdeiocppghhfdaaGreat
open Go.Lib
theorem sameB_eq {r s : ResV} {i : ItV} (h : sameB r i s = true) : r = s ∧ i.dn = 0 ∧ i.k = 0 ∧ i.f = 0 ∧ i.t = 0 := by
 unfold sameB at h
 simp only [Bool.and_eq_true, decide_eq_true_eq, beq_iff_eq] at h
 obtain ⟨⟨⟨⟨⟨⟨⟨⟨⟨⟨h0, h1⟩, h2⟩, h3⟩, h4⟩, h5⟩, h6⟩, ⟨h7, h8⟩, h9⟩, h10⟩, h11⟩, h12⟩ := h
 refine ⟨?_, h0, h10, h11, h12⟩
 have ht : r.text = s.text := by
  rw [toList_data, toList_data] at h6
  exact ByteArray.ext (Array.toList_inj.1 h6)
 cases r; cases s
 simp_all
end Go.Proofs.YtdeiocppghhfdaaGreat
namespace Go.Proofs.YtdeiocppghhfdaaGreat.Lin
open Hs
theorem mv_parts {cs : List CallV} {z i : Nat} (h : mvQ cs z i = true) : (getC cs z).took < (getC cs i).took ∧ (getC cs i).invoked < (getC cs z).took ∧ (getC cs i).err ≠ 13 := by
 unfold mvQ at h
 simp only [Bool.and_eq_true, decide_eq_true_eq] at h
 exact ⟨h.1.1, h.1.2, h.2⟩
end Go.Proofs.YtdeiocppghhfdaaGreat.Lin
namespace Go.Proofs.YtdeiocppghhfdaaGreat
open Go.RowKit Go.WideShapes Go.ChangeShapes Go.Deep
section
variable {H : Type} {enc : TypeId × Value → H} {P : Program} {w : World} {base : Nat} {spare : Nat → Bool} {held : Bool}
theorem field_of {t : TypeId} {fs : Array Field} {fuel : Nat} {cs : List Value} {x : DataW H × List MemPlace} (hs : P.underlying t = some (.struct fs)) (h : DataW.trod enc P w base spare held fuel t cs = some x) (i : Nat) (f : Field) (hf : fs[i]? = some f) :
  ∃ n y, DataW.trod enc P w base spare held n f.type ((cs.drop f.offset).take (P.cellsOf f.type)) = some y := by
 obtain ⟨xs, n, _, _, _, hl, hx⟩ := DataW.trod_struct hs h
 have h1 := hx i f hf
 have hlt := (Array.getElem?_eq_some_iff.1 hf).1
 rw [List.getElem?_eq_getElem (by omega)] at h1
 exact ⟨n, _, h1⟩
theorem cell_of {cs : List Value} {k m : Nat} {v : Value} (h : (cs.drop k).take m = [v]) : cs[k]? = some v := by
 have h1 : ((cs.drop k).take m)[0]? = some v := by rw [h]; rfl
 rw [List.getElem?_take] at h1
 split at h1
 ·rwa [List.getElem?_drop, Nat.add_zero] at h1
 ·cases h1
theorem int_cell {t : TypeId} {κ : IntKind} {fuel k m : Nat} {cs : List Value} {x : DataW H × List MemPlace} (ht : P.underlying t = some (.int κ)) (h : DataW.trod enc P w base spare held fuel t ((cs.drop k).take m) = some x) : ∃ z, cs[k]? = some (.int κ z) ∧ (Lit.int κ z).wf = true := by
 obtain ⟨z, h1, _, h2⟩ := DataW.trod_int ht h
 exact ⟨z, cell_of h1, h2⟩
theorem str_cell {t : TypeId} {fuel k m : Nat} {cs : List Value} {x : DataW H × List MemPlace} (ht : P.underlying t = some .string) (h : DataW.trod enc P w base spare held fuel t ((cs.drop k).take m) = some x) : ∃ z, cs[k]? = some (.string z) := by
 obtain ⟨z, h1, _, _⟩ := DataW.trod_string ht h
 exact ⟨z, cell_of h1⟩
theorem part_cell {cs : List Value} {o m k : Nat} {v : Value} (h : ((cs.drop o).take m)[k]? = some v) : cs[o + k]? = some v := by
 rw [List.getElem?_take] at h
 split at h
 ·rwa [List.getElem?_drop] at h
 ·cases h
theorem rows_of {α : Type} (f : α → List Value) (k : Nat) (hk : ∀ x, (f x).length = k) (a : Addr) (Q : α → Prop) : ∀ (n : Nat), (∀ i, i < n → ∃ x, w.cells? base (a.add (i * k)) k = some (f x) ∧ Q x) →
  ∃ xs : List α, xs.length = n ∧ (∀ x ∈ xs, Q x) ∧ ∀ j u, (xs.flatMap f)[j]? = some u → w.cell? (a.add j) = some u
 | 0, _ => ⟨[], rfl, fun _ h => by (cases h), fun j u h => by simp at h⟩
 | n + 1, h => by
  obtain ⟨xs, hl, hQ, hx⟩ := rows_of f k hk a Q n (fun i hi => h i (by omega))
  obtain ⟨x, hc, hq⟩ := h n (by omega)
  obtain ⟨_, hlen, hcell⟩ := World.cells?_some hc
  have hfl : (xs.flatMap f).length = n * k := by
   clear hx h
   rw [← hl]
   clear hl hQ
   induction xs with
   | nil => simp
   | cons y ys ih => rw [List.flatMap_cons, List.length_append, ih, hk, List.length_cons, Nat.succ_mul]; omega
  refine ⟨xs ++ [x], by simp [hl], fun y hy => ?_, fun j u hj => ?_⟩
  ·rcases List.mem_append.1 hy with h | h
   ·exact hQ y h
   ·rw [List.mem_singleton.1 h]; exact hq
  ·rw [List.flatMap_append] at hj
   by_cases hlt : j < n * k
   ·rw [List.getElem?_append_left (by omega)] at hj
    exact hx j u hj
   ·rw [List.getElem?_append_right (by omega), hfl] at hj
    have hj2 : (f x)[j - n * k]? = some u := by simpa using hj
    have hlt2 : j - n * k < k := by
     have := (List.getElem?_eq_some_iff.1 hj2).1
     rwa [hk] at this
    have := hcell (j - n * k) hlt2
    rw [hj2, Deep.add_add, show n * k + (j - n * k) = j from by omega] at this
    exact this
theorem wf64 {z : Int} (h : (Lit.int .i64 z).wf = true) : -9223372036854775808 ≤ z ∧ z ≤ 9223372036854775807 := by
 simp only [Lit.wf, Bool.and_eq_true, decide_eq_true_eq] at h
 exact h
theorem wf8 {z : Int} (h : (Lit.int .u8 z).wf = true) : 0 ≤ z ∧ z ≤ 255 := by
 simp only [Lit.wf, Bool.and_eq_true, decide_eq_true_eq] at h
 exact h
theorem wf32 {z : Int} (h : (Lit.int .u32 z).wf = true) : 0 ≤ z ∧ z ≤ 4294967295 := by
 simp only [Lit.wf, Bool.and_eq_true, decide_eq_true_eq] at h
 exact h
end
end Go.Proofs.YtdeiocppghhfdaaGreat
namespace Go.Proofs.YtdeiocppghhfdaaGreat.Hs
open Go.RowKit Go.WideShapes Go.ChangeShapes Go.Deep
section
variable {H : Type} {enc : TypeId × Value → H} {w : World} {base : Nat} {spare : Nat → Bool} {held : Bool}
theorem piece_cells {fuel : Nat} {cs : List Value} {x : DataW H × List MemPlace} (h : DataW.trod enc Tryz.prog w base spare held fuel 94 cs = some x) : ∃ p : PieceV, cs = pieceL p := by
 have hlen : cs.length = 3 := by
  obtain ⟨_, _, _, _, hl, _⟩ := DataW.trod_struct Tryz.underlying94 h
  rw [hl]
  kernel_rfl
 obtain ⟨_, _, h0⟩ := field_of Tryz.underlying94 h 0 _ rfl
 obtain ⟨z0, x0, w0⟩ := int_cell Tryz.underlying5 h0
 obtain ⟨_, _, h1⟩ := field_of Tryz.underlying94 h 1 _ rfl
 obtain ⟨z1, x1, w1⟩ := int_cell Tryz.underlying3 h1
 obtain ⟨_, _, h2⟩ := field_of Tryz.underlying94 h 2 _ rfl
 obtain ⟨z2, x2⟩ := str_cell Tryz.underlying9 h2
 refine ⟨⟨z0, z1, z2⟩, ?_⟩
 apply List.ext_getElem?
 intro j
 match j with
 | 0 => exact x0
 | 1 => exact x1
 | 2 => exact x2
 | n + 3 => rw [List.getElem?_eq_none (by omega), List.getElem?_eq_none (by rw [pieceL_len]; omega)]
theorem slc_open {fuel k m : Nat} {cs : List Value} {x : DataW H × List MemPlace} (h : DataW.trod enc Tryz.prog w base spare held fuel 47 ((cs.drop k).take m) = some x) : ∃ (a : Option Addr) (n c : Nat) (ps : List PieceV), cs[k]? = some (.slice a n c) ∧ ps.length = n ∧
  ((ps = [] ∧ (a = none → c = 0)) ∨ ∃ b off, a = some ⟨b, off, none⟩ ∧ ps.length ≤ c ∧ ps.length < 9223372036854775808 ∧ b < w.heap.size ∧ ∀ j u, (piecesL ps)[j]? = some u → w.cell? ⟨b, off + j, none⟩ = some u) := by
 rcases open_slice Tryz.underlying47 h with ⟨h1, _⟩ | ⟨a, len, cap, q, n, D, Pl, h1, hb, hlc, hcap, hq, _, hel⟩
 ·exact ⟨_, _, _, [], cell_of h1, rfl, .inl ⟨rfl, fun _ => rfl⟩⟩
 ·have hc3 : Tryz.prog.cellsOf 94 = 3 := by kernel_rfl
  rw [hc3] at hel
  have hlq : len ≤ q := by rw [hq]; split <;> omega
  obtain ⟨ps, hl, _, hcell⟩ := rows_of (w := w) (base := base) pieceL 3 pieceL_len a (fun _ => True) len (fun i hi => by
   obtain ⟨cs', h1, h2⟩ := hel i (by omega)
   obtain ⟨p, rfl⟩ := piece_cells h2
   exact ⟨p, h1, trivial⟩)
  refine ⟨_, _, _, ps, cell_of h1, hl, ?_⟩
  by_cases h0 : ps = []
  ·exact .inl ⟨h0, fun e => by cases e⟩
  ·right
   obtain ⟨b, off, spot⟩ := a
   have hpos : 0 < ps.length := by
    rcases ps with _ | ⟨p, ps⟩
    ·exact absurd rfl h0
    ·simp
   obtain ⟨u, hu⟩ : ∃ u, (piecesL ps)[0]? = some u := ⟨_, List.getElem?_eq_getElem (by rw [piecesL_len]; omega)⟩
   have g0 := hcell 0 u hu
   have hspot : spot = none := by simpa [Addr.add] using World.cell?_spot g0
   subst hspot
   have hblk : b < w.heap.size := by
    have := cell_size g0
    simpa [Addr.add] using this
   have hml : maxLen < 9223372036854775808 := by unfold maxLen; omega
   exact ⟨b, off, rfl, by omega, by omega, hblk, fun j u hj => by have := hcell j u hj; rwa [add_plain] at this⟩
theorem call_open {fuel : Nat} {cs : List Value} {x : DataW H × List MemPlace} (h : DataW.trod enc Tryz.prog w base spare held fuel 56 cs = some x) : ∃ c : CallV, cs = callL c ∧ c.Ok ∧ DRaw w c := by
 have hlen : cs.length = 27 := by
  obtain ⟨_, _, _, _, hl, _⟩ := DataW.trod_struct Tryz.underlying56 h
  rw [hl]
  kernel_rfl
 obtain ⟨_, _, h_0⟩ := field_of Tryz.underlying56 h 0 _ rfl
 obtain ⟨z0, x0, w0⟩ := int_cell Tryz.underlying3 h_0
 obtain ⟨_, _, h_1⟩ := field_of Tryz.underlying56 h 1 _ rfl
 obtain ⟨z1, x1, w1⟩ := int_cell Tryz.underlying3 h_1
 obtain ⟨_, _, h_2⟩ := field_of Tryz.underlying56 h 2 _ rfl
 obtain ⟨_, _, h_2_0⟩ := field_of Tryz.underlying54 h_2 0 _ rfl
 obtain ⟨z2, x2, w2⟩ := int_cell Tryz.underlying5 h_2_0
 replace x2 := part_cell x2
 obtain ⟨_, _, h_2_1⟩ := field_of Tryz.underlying54 h_2 1 _ rfl
 obtain ⟨z3, x3, w3⟩ := int_cell Tryz.underlying3 h_2_1
 replace x3 := part_cell x3
 obtain ⟨_, _, h_2_2⟩ := field_of Tryz.underlying54 h_2 2 _ rfl
 obtain ⟨z4, x4, w4⟩ := int_cell Tryz.underlying3 h_2_2
 replace x4 := part_cell x4
 obtain ⟨_, _, h_2_3⟩ := field_of Tryz.underlying54 h_2 3 _ rfl
 obtain ⟨z5, x5, w5⟩ := int_cell Tryz.underlying3 h_2_3
 replace x5 := part_cell x5
 obtain ⟨_, _, h_2_4⟩ := field_of Tryz.underlying54 h_2 4 _ rfl
 obtain ⟨z6, x6, w6⟩ := int_cell Tryz.underlying52 h_2_4
 replace x6 := part_cell x6
 obtain ⟨_, _, h_2_5⟩ := field_of Tryz.underlying54 h_2 5 _ rfl
 obtain ⟨z7, x7, w7⟩ := int_cell Tryz.underlying5 h_2_5
 replace x7 := part_cell x7
 obtain ⟨_, _, h_2_6⟩ := field_of Tryz.underlying54 h_2 6 _ rfl
 obtain ⟨z8, x8⟩ := str_cell Tryz.underlying9 h_2_6
 replace x8 := part_cell x8
 obtain ⟨_, _, h_3⟩ := field_of Tryz.underlying56 h 3 _ rfl
 obtain ⟨z9, x9, w9⟩ := int_cell Tryz.underlying3 h_3
 obtain ⟨_, _, h_4⟩ := field_of Tryz.underlying56 h 4 _ rfl
 obtain ⟨z10, x10, w10⟩ := int_cell Tryz.underlying3 h_4
 obtain ⟨_, _, h_5⟩ := field_of Tryz.underlying56 h 5 _ rfl
 obtain ⟨z11, x11, w11⟩ := int_cell Tryz.underlying3 h_5
 obtain ⟨_, _, h_6⟩ := field_of Tryz.underlying56 h 6 _ rfl
 obtain ⟨z12, x12, w12⟩ := int_cell Tryz.underlying3 h_6
 obtain ⟨_, _, h_7⟩ := field_of Tryz.underlying56 h 7 _ rfl
 obtain ⟨z13, x13, w13⟩ := int_cell Tryz.underlying3 h_7
 obtain ⟨_, _, h_8⟩ := field_of Tryz.underlying56 h 8 _ rfl
 obtain ⟨_, _, h_8_0⟩ := field_of Tryz.underlying51 h_8 0 _ rfl
 obtain ⟨z14, x14, w14⟩ := int_cell Tryz.underlying29 h_8_0
 replace x14 := part_cell x14
 obtain ⟨_, _, h_8_1⟩ := field_of Tryz.underlying51 h_8 1 _ rfl
 obtain ⟨z15, x15, w15⟩ := int_cell Tryz.underlying3 h_8_1
 replace x15 := part_cell x15
 obtain ⟨_, _, h_8_2⟩ := field_of Tryz.underlying51 h_8 2 _ rfl
 obtain ⟨z16, x16, w16⟩ := int_cell Tryz.underlying3 h_8_2
 replace x16 := part_cell x16
 obtain ⟨_, _, h_8_3⟩ := field_of Tryz.underlying51 h_8 3 _ rfl
 obtain ⟨z17, x17, w17⟩ := int_cell Tryz.underlying3 h_8_3
 replace x17 := part_cell x17
 obtain ⟨_, _, h_8_4⟩ := field_of Tryz.underlying51 h_8 4 _ rfl
 obtain ⟨z18, x18, w18⟩ := int_cell Tryz.underlying5 h_8_4
 replace x18 := part_cell x18
 obtain ⟨_, _, h_8_5⟩ := field_of Tryz.underlying51 h_8 5 _ rfl
 obtain ⟨z19, x19⟩ := str_cell Tryz.underlying9 h_8_5
 replace x19 := part_cell x19
 obtain ⟨_, _, h_8_6⟩ := field_of Tryz.underlying51 h_8 6 _ rfl
 obtain ⟨_, _, h_8_6_0⟩ := field_of Tryz.underlying46 h_8_6 0 _ rfl
 obtain ⟨z20, x20, w20⟩ := int_cell Tryz.underlying3 h_8_6_0
 replace x20 := part_cell x20
 replace x20 := part_cell x20
 obtain ⟨_, _, h_8_6_1⟩ := field_of Tryz.underlying46 h_8_6 1 _ rfl
 obtain ⟨z21, x21, w21⟩ := int_cell Tryz.underlying3 h_8_6_1
 replace x21 := part_cell x21
 replace x21 := part_cell x21
 obtain ⟨_, _, h_8_6_2⟩ := field_of Tryz.underlying46 h_8_6 2 _ rfl
 obtain ⟨z22, x22, w22⟩ := int_cell Tryz.underlying3 h_8_6_2
 replace x22 := part_cell x22
 replace x22 := part_cell x22
 obtain ⟨_, _, h_8_7⟩ := field_of Tryz.underlying51 h_8 7 _ rfl
 obtain ⟨_, _, h_8_7_0⟩ := field_of Tryz.underlying49 h_8_7 0 _ rfl
 obtain ⟨z23, x23, w23⟩ := int_cell Tryz.underlying5 h_8_7_0
 replace x23 := part_cell x23
 replace x23 := part_cell x23
 obtain ⟨_, _, h_8_7_1⟩ := field_of Tryz.underlying49 h_8_7 1 _ rfl
 obtain ⟨z24, x24, w24⟩ := int_cell Tryz.underlying3 h_8_7_1
 replace x24 := part_cell x24
 replace x24 := part_cell x24
 obtain ⟨_, _, h_8_7_2⟩ := field_of Tryz.underlying49 h_8_7 2 _ rfl
 obtain ⟨z25, x25, w25⟩ := int_cell Tryz.underlying3 h_8_7_2
 replace x25 := part_cell x25
 replace x25 := part_cell x25
 obtain ⟨_, _, h_8_7_3⟩ := field_of Tryz.underlying49 h_8_7 3 _ rfl
 obtain ⟨da, ln, dc, ps, x26, hps, hraw⟩ := slc_open h_8_7_3
 replace x26 := part_cell x26
 replace x26 := part_cell x26
 refine ⟨{ thread := z0, index := z1, okind := z2, oslot := z3, oat := z4, on := z5, oid := z6, ograv := z7, otext := z8, invoked := z9, took := z10, rank := z11, answered := z12, steps := z13, err := z14, rev := z15, rslot := z16, rat := z17, rgrav := z18, rtext := z19, mb := z20, mr := z21, ml := z22, ik := z23, ifrom := z24, ito := z25, ps := ps, da := da, dc := dc }, ?_, ⟨(wf64 w9).1, (wf64 w9).2, (wf64 w12).1, (wf64 w12).2, (wf64 w13).1, (wf64 w13).2, (wf64 w10).1, (wf64 w10).2, (wf64 w11).1, (wf64 w11).2, wf8 w2, wf32 w6, (wf8 w7).1, wf64 w3, wf64 w4, wf64 w5⟩, hraw⟩
 apply List.ext_getElem?
 intro j
 match j with
 | 0 => exact x0
 | 1 => exact x1
 | 2 => exact x2
 | 3 => exact x3
 | 4 => exact x4
 | 5 => exact x5
 | 6 => exact x6
 | 7 => exact x7
 | 8 => exact x8
 | 9 => exact x9
 | 10 => exact x10
 | 11 => exact x11
 | 12 => exact x12
 | 13 => exact x13
 | 14 => exact x14
 | 15 => exact x15
 | 16 => exact x16
 | 17 => exact x17
 | 18 => exact x18
 | 19 => exact x19
 | 20 => exact x20
 | 21 => exact x21
 | 22 => exact x22
 | 23 => exact x23
 | 24 => exact x24
 | 25 => exact x25
 | 26 =>
  refine x26.trans ?_
  rw [callL_26]
  rw [hps]
 | n + 27 => rw [List.getElem?_eq_none (by omega), List.getElem?_eq_none (by rw [callL_len]; omega)]
theorem open_calls {b0 : Nat} {v : Value} {d : DataW H} {ps : List MemPlace} (hval : Value.okWide Tryz.prog w .any b0 25 v) (hd : DataW.Trod enc Tryz.prog w base spare held 25 v d ps) : ∃ (p : Option Addr) (cap : Nat) (cs : List CallV), v = .slice p cs.length cap ∧ ArgRow w p cs := by
 obtain ⟨fuel, hf⟩ := hd
 obtain ⟨a0, n0, c0, rfl⟩ := okWide_slice Tryz.underlying25 hval
 rcases open_slice Tryz.underlying25 hf with ⟨h1, _⟩ | ⟨a, len, cap, q, n, D, Pl, h1, hb, hlc, hcap, hq, _, hel⟩
 ·simp [Value.cells] at h1
  obtain ⟨rfl, rfl, rfl⟩ := h1
  exact ⟨none, 0, [], rfl, .inl rfl⟩
 ·simp [Value.cells] at h1
  obtain ⟨rfl, rfl, rfl⟩ := h1
  have hc27 : Tryz.prog.cellsOf 56 = 27 := by kernel_rfl
  rw [hc27] at hel
  have hlq : n0 ≤ q := by rw [hq]; split <;> omega
  obtain ⟨cs, hl, hQ, hcell⟩ := rows_of (w := w) (base := base) callL 27 callL_len a (fun c => c.Ok ∧ DRaw w c) n0 (fun i hi => by
   obtain ⟨cs', h1, h2⟩ := hel i (by omega)
   obtain ⟨c, rfl, hc⟩ := call_open h2
   exact ⟨c, h1, hc⟩)
  refine ⟨_, _, cs, by rw [hl], ?_⟩
  by_cases h0 : cs = []
  ·exact .inl h0
  ·right
   obtain ⟨b, off, spot⟩ := a
   have hpos : 0 < cs.length := by
    rcases cs with _ | ⟨p, cs⟩
    ·exact absurd rfl h0
    ·simp
   obtain ⟨u, hu⟩ : ∃ u, (callsL cs)[0]? = some u := ⟨_, List.getElem?_eq_getElem (by rw [callsL_len]; omega)⟩
   have g0 := hcell 0 u hu
   have hspot : spot = none := by simpa [Addr.add] using World.cell?_spot g0
   subst hspot
   have hblk : b < w.heap.size := by
    have := cell_size g0
    simpa [Addr.add] using this
   have hml : maxLen < 9223372036854775808 := by unfold maxLen; omega
   exact ⟨b, off, rfl, hblk, fun j u hj => by have := hcell j u hj; rwa [add_plain] at this, by omega, hQ⟩
end
end Go.Proofs.YtdeiocppghhfdaaGreat.Hs
namespace Go.Proofs.YtdeiocppghhfdaaGreat
open Go.RowKit Go.WideShapes Go.ChangeShapes Go.Deep
theorem cfgL_len (c : CfgV) : (cfgL c).length = 8 := rfl
section
variable {H : Type} {enc : TypeId × Value → H} {w : World} {base : Nat} {spare : Nat → Bool} {held : Bool}
theorem cfg_cells {fuel : Nat} {cs : List Value} {x : DataW H × List MemPlace} (h : DataW.trod enc Tryz.prog w base spare held fuel 24 cs = some x) : ∃ c : CfgV, cs = cfgL c := by
 have hlen : cs.length = 8 := by
  obtain ⟨_, _, _, _, hl, _⟩ := DataW.trod_struct Tryz.underlying24 h
  rw [hl]
  kernel_rfl
 obtain ⟨_, _, h_0⟩ := field_of Tryz.underlying24 h 0 _ rfl
 obtain ⟨z0, x0, w0⟩ := int_cell Tryz.underlying3 h_0
 obtain ⟨_, _, h_1⟩ := field_of Tryz.underlying24 h 1 _ rfl
 obtain ⟨z1, x1, w1⟩ := int_cell Tryz.underlying22 h_1
 obtain ⟨_, _, h_2⟩ := field_of Tryz.underlying24 h 2 _ rfl
 obtain ⟨z2, x2, w2⟩ := int_cell Tryz.underlying3 h_2
 obtain ⟨_, _, h_3⟩ := field_of Tryz.underlying24 h 3 _ rfl
 obtain ⟨z3, x3, w3⟩ := int_cell Tryz.underlying3 h_3
 obtain ⟨_, _, h_4⟩ := field_of Tryz.underlying24 h 4 _ rfl
 obtain ⟨z4, x4, w4⟩ := int_cell Tryz.underlying3 h_4
 obtain ⟨_, _, h_5⟩ := field_of Tryz.underlying24 h 5 _ rfl
 obtain ⟨z5, x5, w5⟩ := int_cell Tryz.underlying3 h_5
 obtain ⟨_, _, h_6⟩ := field_of Tryz.underlying24 h 6 _ rfl
 obtain ⟨z6, x6, w6⟩ := int_cell Tryz.underlying3 h_6
 obtain ⟨_, _, h_7⟩ := field_of Tryz.underlying24 h 7 _ rfl
 obtain ⟨z7, x7⟩ := str_cell Tryz.underlying9 h_7
 refine ⟨⟨z0, z1, z2, z3, z4, z5, z6, z7⟩, ?_⟩
 apply List.ext_getElem?
 intro j
 match j with
 | 0 => exact x0
 | 1 => exact x1
 | 2 => exact x2
 | 3 => exact x3
 | 4 => exact x4
 | 5 => exact x5
 | 6 => exact x6
 | 7 => exact x7
 | n + 8 => rw [List.getElem?_eq_none (by omega), List.getElem?_eq_none (by rw [cfgL_len]; omega)]
theorem open_cfg {b0 : Nat} {v : Value} {d : DataW H} {ps : List MemPlace} (hval : Value.okWide Tryz.prog w .any b0 24 v) (hd : DataW.Trod enc Tryz.prog w base spare held 24 v d ps) : ∃ c : CfgV, v = c.v := by
 obtain ⟨cs, rfl, _⟩ := okWide_struct Tryz.underlying24 hval
 obtain ⟨fuel, hf⟩ := hd
 obtain ⟨c, hc⟩ := cfg_cells hf
 have hc2 : cs.toList = cfgL c := hc
 refine ⟨c, ?_⟩
 show Value.agg cs = .agg (cfgL c).toArray
 rw [← hc2]
end
end Go.Proofs.YtdeiocppghhfdaaGreat
namespace Go.Proofs.YtdeiocppghhfdaaGreat.Hs
open Go.RowKit Go.Lib Go.Shelf
def thF (t : Int) (cs : List CallV) : List CallV := cs.filter fun c => decide (c.thread = t)
theorem thIdx_map {t : Int} : ∀ (cs : List CallV) (k : Nat), (thIdx t cs k).map (fun i => cs[i - k]?.getD default) = thF t cs
 | [], k => rfl
 | c :: cs, k => by
  have ih := thIdx_map (t := t) cs (k + 1)
  have e : (thIdx t cs (k + 1)).map (fun i => (c :: cs)[i - k]?.getD default) = thF t cs := by
   rw [← ih]
   refine List.map_congr_left fun i hi => ?_
   have := thIdx_lt hi
   rw [show i - k = (i - (k + 1)) + 1 from by omega, List.getElem?_cons_succ]
  unfold thIdx thF
  by_cases h : c.thread = t
  ·rw [if_pos h, List.map_cons, e, Nat.sub_self, List.filter_cons_of_pos (by simpa using h)]
   rfl
  ·rw [if_neg h, e, List.filter_cons_of_neg (by simpa using h)]
   rfl
theorem th_len (t : Int) (cs : List CallV) : (thIdx t cs 0).length = (thF t cs).length := by rw [← thIdx_map cs 0, List.length_map]
theorem last_thF (t : Int) (cs : List CallV) : lastOf t cs = (thF t cs).getLast? := by
 unfold lastOf
 rw [← thIdx_map cs 0, List.getLast?_map]
 cases h : (thIdx t cs 0).getLast? with
 | none => rfl
 | some i =>
  have hm := List.mem_of_getLast? h
  have := thIdx_lt hm
  simp only [Option.bind_some, Option.map_some, Nat.sub_zero]
  rw [List.getElem?_eq_getElem (by omega)]
  rfl
theorem thF_step {t : Int} {cs : List CallV} {k : Nat} {c : CallV} (h : cs[k]? = some c) : thF t (cs.take (k + 1)) = thF t (cs.take k) ++ if c.thread = t then [c] else [] := by
 rw [List.take_add_one, h, Option.toList_some]
 unfold thF
 rw [List.filter_append]
 congr 1
 by_cases hq : c.thread = t <;> simp [hq]
theorem acc_parts {pre : List CallV} {c : CallV} (h : accB pre c = true) : c.index = (thF c.thread pre).length ∧ (∀ d, (thF c.thread pre).getLast? = some d → befB d c = true) ∧ ∀ p, pre.getLast? = some p → p.invoked < c.invoked := by
 unfold accB at h
 rw [last_thF, th_len] at h
 simp only [Bool.and_eq_true, decide_eq_true_eq] at h
 obtain ⟨⟨⟨⟨_, h4⟩, h1⟩, h2⟩, _⟩ := h
 refine ⟨h1, fun d hd => ?_, fun p hp => ?_⟩
 ·rw [hd] at h2; exact h2
 ·rw [hp] at h4; simpa using h4
theorem formed_thread {c : CallV} (h : formedB c = true) : 0 ≤ c.thread ∧ c.thread < 16 := by unfold formedB at h; simp at h; omega
end Go.Proofs.YtdeiocppghhfdaaGreat.Hs
namespace Go.Proofs.YtdeiocppghhfdaaGreat.Hs
open Go.RowKit Go.Lib Go.Shelf
theorem thF_pure (t : Int) (cs : List CallV) : thF t (cs.map CallV.pure) = (thF t cs).map CallV.pure := by
 unfold thF
 rw [List.filter_map]
 rfl
theorem accB_eq (pre : List CallV) (c : CallV) : accB pre c = (formedB c && (match pre.getLast? with | some p => decide (p.invoked < c.invoked) | none => true) && decide (c.index = (thF c.thread pre).length) &&
  (match (thF c.thread pre).getLast? with | some d => befB d c | none => true) && pre.all fun d => !clashB c d) := by
 unfold accB
 rw [last_thF, th_len]
 rfl
theorem acc_pure (pre : List CallV) (c : CallV) : accB (pre.map CallV.pure) c.pure = accB pre c := by
 rw [accB_eq, accB_eq, thF_pure, List.length_map, List.getLast?_map, List.getLast?_map, List.all_map]
 show (formedB c && _ && decide (c.index = ((thF c.thread pre).length : Int)) && _ && _) = _
 congr 1
 congr 1
 ·congr 1
  congr 1
  cases pre.getLast? <;> rfl
 ·show (match Option.map CallV.pure (thF c.thread pre).getLast? with | some d => befB d c.pure | none => true) = _
  cases (thF c.thread pre).getLast? <;> rfl
theorem check_pure (cs : List CallV) : checkP (cs.map CallV.pure) = checkP cs := by
 unfold checkP
 rw [List.length_map]
 have e : (fun i => !okAt (cs.map CallV.pure) i) = fun i => !okAt cs i := by
  funext i
  unfold okAt
  rw [List.getElem?_map, ← List.map_take]
  cases cs[i]? with
  | none => rfl
  | some c => simp only [Option.map_some]; rw [acc_pure]
 rw [e]
theorem places_pure {q : CallV → Bool} (hq : ∀ c, q c.pure = q c) : ∀ (cs : List CallV) (k : Nat), places q (cs.map CallV.pure) k = places q cs k
 | [], _ => rfl
 | c :: cs, k => by
  show (if q c.pure then k :: places q (cs.map CallV.pure) (k + 1) else places q (cs.map CallV.pure) (k + 1)) = _
  rw [places_pure hq cs (k + 1), hq]
  rfl
theorem tk_pure (cs : List CallV) (i : Nat) : tk (cs.map CallV.pure) i = tk cs i ∧ rk (cs.map CallV.pure) i = rk cs i := by
 unfold tk rk
 rw [List.getElem?_map]
 cases cs[i]? <;> exact ⟨rfl, rfl⟩
theorem inv_up {cs : List CallV} (h0 : (checkP cs).2 = 0) : ∀ (i j : Nat) (a b : CallV), i < j → cs[i]? = some a → cs[j]? = some b → a.invoked < b.invoked := by
 intro i j
 induction j with
 | zero => intro a b h; omega
 | succ j ih =>
  intro a b hij ha hb
  have hlt := (List.getElem?_eq_some_iff.1 hb).1
  obtain ⟨m, hm⟩ : ∃ m, cs[j]? = some m := ⟨_, List.getElem?_eq_getElem (by omega)⟩
  have h1 := (acc_parts (check_ok h0 (j + 1) b hb)).2.2 m (by rw [last_take cs (by omega) (by omega)]; simpa using hm)
  by_cases e : i = j
  ·subst e
   rw [ha] at hm
   cases hm
   exact h1
  ·have := ih a m (by omega) ha hm
   omega
def many (s : Int) (cs : List CallV) : Nat := (cs.filter fun c => decide (c.invoked ≤ s)).length
theorem filter_first {α : Type} (p : α → Bool) : ∀ (l : List α), (∀ (i j : Nat) (a b : α), i < j → l[i]? = some a → l[j]? = some b → p b = true → p a = true) → l.filter p = l.take (l.filter p).length
 | [], _ => rfl
 | x :: l, h => by
  by_cases hx : p x = true
  ·rw [List.filter_cons_of_pos hx, List.length_cons, List.take_succ_cons, ← filter_first p l (fun i j a b hij ha hb => h (i + 1) (j + 1) a b (by omega) (by simpa using ha) (by simpa using hb))]
  ·have hn : l.filter p = [] := by
    rw [List.filter_eq_nil_iff]
    intro b hb hpb
    obtain ⟨j, hj⟩ := List.getElem?_of_mem hb
    exact hx (h 0 (j + 1) x b (by omega) rfl (by simpa using hj) hpb)
   rw [List.filter_cons_of_neg hx, hn]
   rfl
theorem pref_take {cs : List CallV} (h0 : (checkP cs).2 = 0) (s : Int) : prefS s cs = (cs.take (many s cs)).map fun c => (cutV s c).pure := by
 unfold prefS many
 rw [← filter_first _ cs (fun i j a b hij ha hb hpb => by
  have := inv_up h0 i j a b hij ha hb
  simp only [decide_eq_true_eq] at hpb ⊢
  omega)]
theorem pref_many (s : Int) (cs : List CallV) : (prefS s cs).length = many s cs := by unfold prefS many; rw [List.length_map]
theorem many_le (s : Int) (cs : List CallV) : many s cs ≤ cs.length := List.length_filter_le _ _
theorem pref_at {cs : List CallV} (h0 : (checkP cs).2 = 0) {s : Int} {i : Nat} (hi : i < many s cs) : ∃ c, cs[i]? = some c ∧ c.invoked ≤ s ∧ (prefS s cs)[i]? = some (cutV s c).pure := by
 have hm := many_le s cs
 refine ⟨cs[i], List.getElem?_eq_getElem (by omega), ?_, ?_⟩
 ·have hin : cs[i] ∈ cs.filter fun c => decide (c.invoked ≤ s) := by
   rw [filter_first (fun c => decide (c.invoked ≤ s)) cs (fun i j a b hij ha hb hpb => by
    have := inv_up h0 i j a b hij ha hb
    simp only [decide_eq_true_eq] at hpb ⊢
    omega)]
   rw [List.mem_take_iff_getElem]
   exact ⟨i, by unfold many at hi hm; omega, rfl⟩
  simpa using (List.mem_filter.1 hin).2
 ·rw [pref_take h0, List.getElem?_map, List.getElem?_take_of_lt hi, List.getElem?_eq_getElem (by omega)]
  rfl
theorem cut_inv (s : Int) (c : CallV) : (cutV s c).invoked = c.invoked ∧ (cutV s c).thread = c.thread ∧ (cutV s c).index = c.index := by
 unfold cutV; split <;> split <;> exact ⟨rfl, rfl, rfl⟩
theorem cut_ans (s : Int) (c : CallV) : (cutV s c).answered = if s < c.answered then -1 else c.answered := by
 unfold cutV; split <;> split <;> rfl
theorem cut_took (s : Int) (c : CallV) : (cutV s c).took = if s < c.took then -1 else c.took := by
 unfold cutV; split <;> split <;> rfl
theorem cut_rank (s : Int) (c : CallV) : (cutV s c).rank = if s < c.took then 0 else c.rank := by
 unfold cutV; split <;> split <;> rfl
theorem cut_steps (s : Int) (c : CallV) : (cutV s c).steps = if s < c.answered then 0 else c.steps := by
 unfold cutV; split <;> split <;> rfl
theorem cutT_plain (c : CallV) : plainB (cutT c) = true := by simp [plainB, cutT, clrV]
theorem cut_plain (s : Int) (c : CallV) : plainB (cutV s c) = if s < c.took then true else plainB c := by
 unfold cutV; split <;> split <;> first | exact cutT_plain _ | rfl
theorem cut_formed {s : Int} {c : CallV} (h : formedB c = true) (hs : -1 ≤ s) (hi : c.invoked ≤ s) : formedB (cutV s c) = true := by
 unfold formedB at h ⊢
 rw [(cut_inv s c).1, (cut_inv s c).2.1, (cut_inv s c).2.2, cut_ans, cut_took, cut_rank, cut_steps, cut_plain]
 simp only [decide_eq_true_eq] at h ⊢
 obtain ⟨h1, h2, h3, h4, h5, h6, h7, h8, h9, h10⟩ := h
 by_cases ha : s < c.answered <;> by_cases ht : s < c.took <;> simp only [ha, ht, if_true, if_false] <;> refine ⟨h1, h2, h3, h4, by omega, by omega, by omega, by omega, ?_, ?_⟩
 ·exact .inr ⟨by omega, trivial, trivial⟩
 ·left; exact ⟨by omega, trivial⟩
 ·exact h9
 ·left; exact ⟨by omega, trivial⟩
 ·exact .inr ⟨by omega, trivial, trivial⟩
 ·rcases h10 with h | h
  ·exact .inl h
  ·omega
 ·exact h9
 ·exact h10
theorem cut_bef {s : Int} {c d : CallV} (hd : d.invoked ≤ s) : befB (cutV s c) (cutV s d) = befB c d := by
 unfold befB
 rw [(cut_inv s d).1, cut_ans, Bool.eq_iff_iff]
 simp only [Bool.and_eq_true, decide_eq_true_eq]
 split <;> omega
theorem cut_clash {s : Int} {c d : CallV} (h : clashB c d = false) : clashB (cutV s c) (cutV s d) = false := by
 unfold clashB at h ⊢
 rw [(cut_inv s c).1, (cut_inv s d).1, (cut_inv s c).2.1, (cut_inv s d).2.1, cut_ans, cut_ans, cut_took, cut_took, cut_rank, cut_rank]
 simp only [decide_eq_false_iff_not] at h ⊢
 have e1 : (if s < c.answered then (-1 : Int) else c.answered) = c.answered ∨ (if s < c.answered then (-1 : Int) else c.answered) = -1 := by split <;> simp
 have e2 : (if s < d.answered then (-1 : Int) else d.answered) = d.answered ∨ (if s < d.answered then (-1 : Int) else d.answered) = -1 := by split <;> simp
 have e3 : ((if s < c.took then (-1 : Int) else c.took) = c.took ∧ (if s < c.took then (0 : Int) else c.rank) = c.rank) ∨ (if s < c.took then (-1 : Int) else c.took) = -1 := by split <;> simp
 have e4 : ((if s < d.took then (-1 : Int) else d.took) = d.took ∧ (if s < d.took then (0 : Int) else d.rank) = d.rank) ∨ (if s < d.took then (-1 : Int) else d.took) = -1 := by split <;> simp
 generalize (if s < c.answered then (-1 : Int) else c.answered) = ca at *
 generalize (if s < d.answered then (-1 : Int) else d.answered) = da at *
 generalize (if s < c.took then (-1 : Int) else c.took) = ct at *
 generalize (if s < d.took then (-1 : Int) else d.took) = dt at *
 generalize (if s < c.took then (0 : Int) else c.rank) = cr at *
 generalize (if s < d.took then (0 : Int) else d.rank) = dr at *
 intro hx
 apply h
 clear h
 rcases hx with ⟨h1, h2 | h2⟩ | ⟨h1, h2 | h2⟩ | ⟨h1, h2, h3⟩ | ⟨h0, ⟨h1, h2 | h2⟩ | ⟨h1, h2 | h2⟩⟩
 ·exact .inl ⟨h1, .inl h2⟩
 ·exact .inl ⟨h1, .inr (by omega)⟩
 ·exact .inr (.inl ⟨by omega, .inl (by omega)⟩)
 ·exact .inr (.inl ⟨by omega, .inr (by omega)⟩)
 ·exact .inr (.inr (.inl ⟨by omega, by omega, by omega⟩))
 ·exact .inr (.inr (.inr ⟨h0, .inl ⟨by omega, .inl (by omega)⟩⟩))
 ·exact .inr (.inr (.inr ⟨h0, .inl ⟨by omega, .inr (by omega)⟩⟩))
 ·exact .inr (.inr (.inr ⟨h0, .inr ⟨by omega, .inl (by omega)⟩⟩))
 ·exact .inr (.inr (.inr ⟨h0, .inr ⟨by omega, .inr (by omega)⟩⟩))
theorem thF_cut (s : Int) (t : Int) (cs : List CallV) : thF t (cs.map fun c => (cutV s c).pure) = (thF t cs).map fun c => (cutV s c).pure := by
 unfold thF
 rw [List.filter_map]
 congr 1
 refine List.filter_congr fun c _ => ?_
 show decide ((cutV s c).thread = t) = _
 rw [(cut_inv s c).2.1]
theorem check_pref {cs : List CallV} (h0 : (checkP cs).2 = 0) {s : Int} (hs : -1 ≤ s) : checkP (prefS s cs) = (0, 0) := by
 refine check_good fun i hi => ?_
 rw [pref_many] at hi
 obtain ⟨c, hc, hcs, hp⟩ := pref_at h0 hi
 have hm := many_le s cs
 have hle : ∀ d ∈ cs.take i, d.invoked ≤ s := fun d hd => by
  obtain ⟨j, hj⟩ := List.getElem?_of_mem hd
  have hjl := (List.getElem?_eq_some_iff.1 hj).1
  rw [List.length_take] at hjl
  rw [List.getElem?_take_of_lt (by omega)] at hj
  have := inv_up h0 j i d c (by omega) hj hc
  omega
 rw [ok_at hp]
 have e : (prefS s cs).take i = (cs.take i).map fun c => (cutV s c).pure := by
  rw [pref_take h0, ← List.map_take, List.take_take, Nat.min_eq_left (by omega)]
 have hacc := check_ok h0 i c hc
 rw [accB_eq] at hacc
 simp only [Bool.and_eq_true, decide_eq_true_eq] at hacc
 obtain ⟨⟨⟨⟨a1, a2⟩, a3⟩, a4⟩, a5⟩ := hacc
 rw [e, accB_eq]
 have hth : (cutV s c).pure.thread = c.thread := (cut_inv s c).2.1
 rw [hth, thF_cut, List.length_map, List.getLast?_map, List.getLast?_map]
 simp only [Bool.and_eq_true, decide_eq_true_eq]
 refine ⟨⟨⟨⟨cut_formed a1 hs hcs, ?_⟩, ?_⟩, ?_⟩, ?_⟩
 ·cases hg : (cs.take i).getLast? with
  | none => rfl
  | some p =>
   rw [hg] at a2
   simp only [Option.map_some, decide_eq_true_eq] at a2 ⊢
   show (cutV s p).invoked < (cutV s c).invoked
   rw [(cut_inv s p).1, (cut_inv s c).1]
   exact a2
 ·show (cutV s c).index = _
  rw [(cut_inv s c).2.2]
  exact a3
 ·cases hg : (thF c.thread (cs.take i)).getLast? with
  | none => rfl
  | some p =>
   rw [hg] at a4
   simp only [Option.map_some] at a4 ⊢
   show befB (cutV s p) (cutV s c) = true
   rw [cut_bef hcs]
   exact a4
 ·rw [List.all_map, List.all_eq_true]
  intro d hd
  rw [List.all_eq_true] at a5
  have h1 := a5 d hd
  simp only [Bool.not_eq_true'] at h1
  show (!clashB (cutV s c) (cutV s d)) = true
  rw [cut_clash h1]
  rfl
theorem pref_eff {cs : List CallV} (h0 : (checkP cs).2 = 0) {s : Int} (hs : -1 ≤ s) {X Y : List Nat} (hX : EffIs (prefS s cs) X) (hY : EffIs cs Y) : X.length ≤ Y.length ∧ X = Y.take X.length := by
 have hpl := pref_many s cs
 have hml := many_le s cs
 -- what a call's effect in the prefix is
 have key : ∀ i, i ∈ X ↔ i ∈ Y ∧ tk cs i ≤ s := fun i => by
  rw [eff_mem hX, eff_mem hY]
  constructor
  ·rintro ⟨c, hc, hq⟩
   have hi : i < many s cs := by rw [← hpl]; exact (List.getElem?_eq_some_iff.1 hc).1
   obtain ⟨d, h1, h2, h3⟩ := pref_at h0 hi
   rw [hc] at h3
   cases h3
   have hq2 : 0 ≤ (cutV s d).took := of_decide_eq_true hq
   rw [cut_took] at hq2
   rw [(tk_at h1).1]
   split at hq2
   ·omega
   ·exact ⟨⟨d, h1, by simpa [tookQ] using hq2⟩, by omega⟩
  ·rintro ⟨⟨c, hc, hq⟩, ht⟩
   rw [(tk_at hc).1] at ht
   have hq2 : 0 ≤ c.took := by simpa [tookQ] using hq
   have hinv := formed_took (good_formed h0 hc) hq2
   have hi : i < many s cs := by
    rcases Nat.lt_or_ge i (many s cs) with h | h
    ·exact h
    ·exfalso
     have hci : c ∈ cs.filter fun c => decide (c.invoked ≤ s) := List.mem_filter.2 ⟨List.mem_of_getElem? hc, by simp; omega⟩
     rw [filter_first (fun c => decide (c.invoked ≤ s)) cs (fun i j a b hij ha hb hpb => by
      have := inv_up h0 i j a b hij ha hb
      simp only [decide_eq_true_eq] at hpb ⊢
      omega)] at hci
     obtain ⟨j, hj, he⟩ := List.mem_take_iff_getElem.1 hci
     have hj2 : j < many s cs := by unfold many; omega
     have := inv_up h0 j i c c (by omega) (by rw [List.getElem?_eq_getElem (by omega), he]) hc
     omega
   obtain ⟨d, h1, h2, h3⟩ := pref_at h0 hi
   rw [hc] at h1
   cases h1
   refine ⟨_, h3, ?_⟩
   have : (cutV s c).took = c.took := by rw [cut_took, if_neg (by omega)]
   simp [tookQ, CallV.pure, this, hq2]
 have val : ∀ i, i ∈ X → tk (prefS s cs) i = tk cs i ∧ rk (prefS s cs) i = rk cs i := fun i hi => by
  obtain ⟨c, hc, hq⟩ := (eff_mem hX).1 hi
  have hi2 : i < many s cs := by rw [← hpl]; exact (List.getElem?_eq_some_iff.1 hc).1
  obtain ⟨d, h1, h2, h3⟩ := pref_at h0 hi2
  rw [hc] at h3
  cases h3
  have hle := ((key i).1 hi).2
  rw [(tk_at h1).1] at hle
  rw [(tk_at hc).1, (tk_at hc).2, (tk_at h1).1, (tk_at h1).2]
  refine ⟨?_, ?_⟩
  ·show (cutV s d).took = d.took
   rw [cut_took, if_neg (by omega)]
  ·show (cutV s d).rank = d.rank
   rw [cut_rank, if_neg (by omega)]
 -- both are sorted alike
 have hf : Y.filter (fun i => decide (tk cs i ≤ s)) = Y.take (Y.filter (fun i => decide (tk cs i ≤ s))).length := by
  refine filter_first _ Y fun i j a b hij ha hb hpb => ?_
  obtain ⟨a1, rfl⟩ := List.getElem?_eq_some_iff.1 ha
  obtain ⟨a2, rfl⟩ := List.getElem?_eq_some_iff.1 hb
  have := List.pairwise_iff_getElem.1 hY.2 i j a1 a2 hij
  unfold lexB at this
  simp only [decide_eq_true_eq] at this hpb ⊢
  omega
 have hXn := eff_nodup hX
 have hYn := eff_nodup hY
 have hperm : X.Perm (Y.filter fun i => decide (tk cs i ≤ s)) := by
  rw [List.perm_ext_iff_of_nodup hXn (List.Pairwise.filter _ hYn)]
  intro i
  rw [List.mem_filter, key]
  simp
 have heq : X = Y.filter fun i => decide (tk cs i ≤ s) := by
  refine List.Perm.eq_of_pairwise (le := fun i j => lexB cs i j = true) (fun a b _ _ h1 h2 => ?_) ?_ (List.Pairwise.filter _ hY.2) hperm
  ·unfold lexB at h1 h2
   simp at h1 h2
   omega
  ·refine List.Pairwise.imp_of_mem ?_ hX.2
   intro i j hi hj h
   unfold lexB at h ⊢
   rw [(val i hi).1, (val i hi).2, (val j hj).1, (val j hj).2] at h
   exact h
 have hl := congrArg List.length heq
 exact ⟨by rw [hl]; exact List.length_filter_le _ _, by rw [hl, ← hf]; exact heq⟩
end Go.Proofs.YtdeiocppghhfdaaGreat.Hs
namespace Go.Proofs.YtdeiocppghhfdaaGreat.Lin
open Go.RowKit Go.Lib Go.Shelf
open Hs
theorem getC_pure (L : List CallV) (i : Nat) : getC (L.map CallV.pure) i = (getC L i).pure := by
 unfold getC
 rw [List.getD_eq_getElem?_getD, List.getD_eq_getElem?_getD, List.getElem?_map]
 cases L[i]? <;> rfl
theorem many_bound {L : List CallV} (h0 : (checkP L).2 = 0) {s : Int} {i : Nat} (hi : i < L.length) (hm : many s L ≤ i) : s < (getC L i).invoked := by
 by_cases h : s < (getC L i).invoked
 ·exact h
 ·exfalso
  have h : (getC L i).invoked ≤ s := by omega
  have hc := getC_some hi
  have hci : getC L i ∈ L.filter fun c => decide (c.invoked ≤ s) := List.mem_filter.2 ⟨List.mem_of_getElem? hc, by simpa using h⟩
  rw [filter_first (fun c => decide (c.invoked ≤ s)) L (fun i j a b hij ha hb hpb => by
   have := inv_up h0 i j a b hij ha hb
   simp only [decide_eq_true_eq] at hpb ⊢
   omega)] at hci
  obtain ⟨j, hj, he⟩ := List.mem_take_iff_getElem.1 hci
  have hj2 : j < many s L := by unfold many; omega
  have := inv_up h0 j i _ _ (by omega) (by rw [List.getElem?_eq_getElem (by omega), he]) hc
  omega
theorem pref_get {L : List CallV} (h0 : (checkP L).2 = 0) {s : Int} {i : Nat} (hi : i < many s L) : getC (prefS s L) i = (cutV s (getC L i)).pure ∧ (getC L i).invoked ≤ s := by
 obtain ⟨c, h1, h2, h3⟩ := pref_at h0 hi
 rw [getC_at h3, getC_at h1]
 exact ⟨rfl, h2⟩
end Go.Proofs.YtdeiocppghhfdaaGreat.Lin
namespace Go.Proofs.YtdeiocppghhfdaaGreat.Lin
open Hs
theorem acc_true {st : MS} {c : Int} {q : OpV} {r : ResV} {i : ItV} (h : (accS st c q r i).1 = true) : (sameB r i (doS st c q).1 = true ∧ (accS st c q r i).2 = (doS st c q).2) ∨ (sameB r i (doS st c q).1 = false ∧ accB st c q r i = true ∧ (accS st c q r i).2 = st) := by
 unfold accS at h ⊢
 cases hs : sameB r i (doS st c q).1 with
 | true => rw [if_pos rfl]; exact .inl ⟨rfl, rfl⟩
 | false =>
  rw [hs] at h
  simp only [Bool.false_eq_true, if_false] at h ⊢
  exact .inr ⟨trivial, h, trivial⟩
theorem sameB_err {r s : ResV} {i : ItV} (h : sameB r i s = true) : r.err = s.err := by rw [(sameB_eq h).1]
end Go.Proofs.YtdeiocppghhfdaaGreat.Lin
namespace Go.Proofs.YtdeiocppghhfdaaGreat.Lin
open Go.RowKit Go.Lib Go.Shelf
open Hs
open KitI (iv IRow)
theorem cfgL_ne (c : CfgV) : cfgL c ≠ [] := by simp [cfgL]
theorem st_cfg {W : World} {g : Nat} {cs : Array Value} (h : W.heap[g]? = some (.cells cs tCfg (0, 0))) (hs : cs.size = 8) (c : CfgV) : (storeCells ⟨g, 0, none⟩ (cfgL c)).run Tryz.prog W = .ok () (W.setRow g (cfgL c).toArray) := run_st h hs (cfgL c) rfl (by simp [cfgL, Value.oneCell'])
theorem LawW.ld {w W : World} {c : CfgV} {p : Option Addr} {cap : Nat} {cs : List CallV} (h : LawW w W c p cap cs) : (loadCfg (.pointer (some ⟨w.heap.size, 0, none⟩))).run Tryz.prog W = .ok (.agg (cfgL c).toArray) W := ld_cfg h.box
section
variable {w W : World} {c : CfgV} {p : Option Addr} {cap : Nat} {cs : List CallV}
end
end Go.Proofs.YtdeiocppghhfdaaGreat.Lin
namespace Go.Proofs.YtdeiocppghhfdaaGreat.Lin
open Go.RowKit Go.Lib Go.Shelf
open Hs
open KitI (iv IRow own_below infoI)
attribute [local go_sem, local simp] Hs.callL_0 Hs.callL_1 Hs.callL_2 Hs.callL_3 Hs.callL_4 Hs.callL_5 Hs.callL_6 Hs.callL_7 Hs.callL_8 Hs.callL_9 Hs.callL_10 Hs.callL_11 Hs.callL_12 Hs.callL_13 Hs.callL_14 Hs.callL_15 Hs.callL_16 Hs.callL_17 Hs.callL_18 Hs.callL_19 Hs.callL_20 Hs.callL_21 Hs.callL_22 Hs.callL_23 Hs.callL_24 Hs.callL_25 Hs.callL_26 Hs.resL_0 Hs.resL_1 Hs.resL_2 Hs.resL_3 Hs.resL_4 Hs.resL_5 Hs.resL_6 Hs.resL_7 Hs.resL_8 Hs.resL_9 Hs.resL_10 Hs.resL_11 Hs.resL_12 Hs.callG_0 Hs.callG_1 Hs.callG_2 Hs.callG_3 Hs.callG_4 Hs.callG_5 Hs.callG_6 Hs.callG_7 Hs.callG_8 Hs.callG_9 Hs.callG_10 Hs.callG_11 Hs.callG_12 Hs.callG_13 Hs.callG_14 Hs.callG_15 Hs.callG_16 Hs.callG_17 Hs.callG_18 Hs.callG_19 Hs.callG_20 Hs.callG_21 Hs.callG_22 Hs.callG_23 Hs.callG_24 Hs.callG_25 Hs.callG_26 Hs.resG_0 Hs.resG_1 Hs.resG_2 Hs.resG_3 Hs.resG_4 Hs.resG_5 Hs.resG_6 Hs.resG_7 Hs.resG_8 Hs.resG_9 Hs.resG_10 Hs.resG_11 Hs.resG_12 Hs.callL_len Hs.resL_len
attribute [local go_sem ↓] Hs.loadCall_eq Hs.loadRes_eq
attribute [local go_sem] Hs.ld_new Hs.ld_first Hs.ld_second Hs.ldr_new Hs.st_new
section
variable {w W : World} {c : CfgV} {p : Option Addr} {cap : Nat} {cs : List CallV}
theorem LawW.wcheck (h : LawW w W c p cap cs) : Calls Tryz.prog 38 #[.agg (cfgL c).toArray, .slice p cs.length cap] W fun e W' => e = .returned (.tuple #[.int .i64 (perfC c cs).1, .int .i64 (perfC c cs).2]) ∧ Below W.heap.size W W' :=
 witcheck_any c p cap cs W h.row.row (by have := h.row.len; omega) h.row.ok h.ps
end
end Go.Proofs.YtdeiocppghhfdaaGreat.Lin
namespace Go.Proofs.YtdeiocppghhfdaaGreat.Lin
open Hs
def OneCut (a b : ByteArray) : Prop := ∃ p t q : List UInt8, (a.data.toList = p ++ q ∧ b.data.toList = p ++ t ++ q) ∨ (a.data.toList = p ++ t ++ q ∧ b.data.toList = p ++ q)
theorem OneCut.refl (a : ByteArray) : OneCut a a := ⟨a.data.toList, [], [], .inl ⟨by simp, by simp⟩⟩
theorem rep_list (t x : ByteArray) (a n : Int) : (repT t a n x).data.toList = t.data.toList.take a.toNat ++ x.data.toList ++ t.data.toList.drop (a + n).toNat := rfl
theorem rep_cut_ins {t x : ByteArray} {a : Int} : OneCut t (repT t a 0 x) := by
 refine ⟨t.data.toList.take a.toNat, x.data.toList, t.data.toList.drop a.toNat, .inl ⟨(List.take_append_drop _ _).symm, ?_⟩⟩
 rw [rep_list, Int.add_zero]
theorem rep_cut_del {t : ByteArray} {a n : Int} (ha : 0 ≤ a) (hn : 0 ≤ n) : OneCut t (repT t a n ⟨#[]⟩) := by
 refine ⟨t.data.toList.take a.toNat, (t.data.toList.drop a.toNat).take n.toNat, t.data.toList.drop (a + n).toNat, .inr ⟨?_, ?_⟩⟩
 ·rw [List.append_assoc, show (a + n).toNat = a.toNat + n.toNat by omega, ← List.drop_drop, List.take_append_drop, List.take_append_drop]
 ·rw [rep_list]
  show _ ++ [] ++ _ = _
  rw [List.append_nil]
theorem op_text {st : MS} {c : Nat} {q : OpV} (hq : opE q = 0) : (edK q.kind = true ∧ (opS st c q).1.err = 0 ∧ (opS st c q).2.number = st.number + 1 ∧ OneCut st.text (opS st c q).2.text) ∨ (¬ (edK q.kind = true ∧ (opS st c q).1.err = 0) ∧ (opS st c q).2.number = st.number ∧ (opS st c q).2.text = st.text) := by
 obtain ⟨⟨k0, k1, g1, g2, _⟩, _, _⟩ := opE_ok hq
 have no : ∀ e : Int, e ≠ 0 → ¬ (edK q.kind = true ∧ (failR e).err = 0) := fun e he h => he h.2
 unfold opS
 split
 ·rename_i hk
  have hk2 : edK q.kind = true := by rw [hk]; rfl
  unfold insS; split
  ·rename_i he; exact .inr ⟨no _ he, rfl, rfl⟩
  ·exact .inl ⟨hk2, rfl, rfl, rep_cut_ins⟩
 split
 ·rename_i hk
  have hk2 : edK q.kind = true := by rw [hk]; rfl
  unfold delS; split
  ·rename_i he; exact .inr ⟨no _ he, rfl, rfl⟩
  ·exact .inl ⟨hk2, rfl, rfl, rep_cut_del g1 g2⟩
 split
 ·rename_i hk
  have hk2 : edK q.kind = true := by rw [hk]; rfl
  unfold setS; split
  ·rename_i he; exact .inr ⟨no _ he, rfl, rfl⟩
  ·split
   ·exact .inl ⟨hk2, rfl, rfl, OneCut.refl _⟩
   ·exact .inr ⟨no _ (by decide), rfl, rfl⟩
 split
 ·rename_i hk
  have hk2 : edK q.kind = true := by rw [hk]; rfl
  unfold drpS; split
  ·exact .inr ⟨no _ (by decide), rfl, rfl⟩
  ·split
   ·exact .inl ⟨hk2, rfl, rfl, OneCut.refl _⟩
   ·exact .inr ⟨no _ (by decide), rfl, rfl⟩
 rename_i n1 n2 n3 n4
 have hk2 : edK q.kind = false := by
  unfold edK
  by_cases h : q.kind ≤ 4
  ·omega
  ·simp [h]
 refine .inr ⟨fun h => (by rw [hk2] at h; cases h.1), ?_⟩
 split
 ·unfold acqS; split
  ·exact ⟨rfl, rfl⟩
  ·split <;> exact ⟨rfl, rfl⟩
 split
 ·unfold subS; split
  ·exact ⟨rfl, rfl⟩
  ·split <;> exact ⟨rfl, rfl⟩
 split
 ·unfold recS; split
  ·exact ⟨rfl, rfl⟩
  ·split <;> exact ⟨rfl, rfl⟩
 split
 ·unfold cloS; split <;> exact ⟨rfl, rfl⟩
 ·unfold reaS; split <;> exact ⟨rfl, rfl⟩
def eoQ (c : CallV) : Bool := edK c.okind && decide (c.err = 0)
theorem acc_text {cs : List CallV} {st : MS} {i : Nat} (h : (accO cs st i).1 = true) : (eoQ (getC cs i) = true ∧ (accO cs st i).2.number = st.number + 1 ∧ OneCut st.text (accO cs st i).2.text) ∨ (eoQ (getC cs i) = false ∧ (accO cs st i).2.number = st.number ∧ (accO cs st i).2.text = st.text) := by
 have hres : ∀ s : ResV, sameB (resV (getC cs i)) (itV (getC cs i)) s = true → (getC cs i).err = s.err := fun s hs => sameB_err hs
 unfold accO at h ⊢
 rcases acc_true h with ⟨h1, h2⟩ | ⟨_, hb, h2⟩
 ·rw [h2]
  have he := hres _ h1
  unfold doS at he ⊢
  split
  ·rename_i hs
   rw [if_pos hs] at he
   refine .inr ⟨?_, rfl, rfl⟩
   have : (getC cs i).err ≠ 0 := by rw [he]; exact hs
   unfold eoQ
   simp [this]
  ·rename_i hs
   rw [if_neg hs] at he
   obtain ⟨_, _, ho⟩ := statE_ok (Decidable.not_not.1 hs)
   rcases op_text (st := st) (c := (getC cs i).thread.toNat) ho with ⟨a1, a2, a3, a4⟩ | ⟨a1, a3, a4⟩
   ·refine .inl ⟨?_, a3, a4⟩
    rw [a2] at he
    have a5 : edK (getC cs i).okind = true := a1
    unfold eoQ
    rw [a5, he]; rfl
   ·refine .inr ⟨?_, a3, a4⟩
    rw [← he] at a1
    unfold eoQ
    cases hk : edK (getC cs i).okind with
    | false => rfl
    | true =>
     by_cases h0 : (getC cs i).err = 0
     ·exact absurd ⟨hk, h0⟩ a1
     ·simp [h0]
 ·rw [h2]
  refine .inr ⟨?_, rfl, rfl⟩
  have hk : ∀ e : Int, e ≠ 0 → sameB (resV (getC cs i)) (itV (getC cs i)) (failR e) = true → eoQ (getC cs i) = false := fun e he hs => by
   have h3 := hres _ hs
   unfold eoQ
   have h4 : (getC cs i).err ≠ 0 := by rw [h3]; exact he
   simp [h4]
  unfold Go.Proofs.YtdeiocppghhfdaaGreat.accB at hb
  split at hb
  ·cases hb
  ·split at hb
   ·rename_i h15
    have h15' : (getC cs i).okind = 15 := h15
    unfold eoQ
    rw [h15']; rfl
   ·split at hb
    ·simp only [Bool.or_eq_true, Bool.and_eq_true] at hb
     rcases hb with hb | hb
     ·exact hk 6 (by decide) hb.1
     ·exact hk 14 (by decide) hb.1
    ·split at hb
     ·simp only [Bool.and_eq_true] at hb
      exact hk 14 (by decide) hb.1
     ·cases hb
structure TxOk (out : List ByteArray) (t0 : ByteArray) (st : MS) : Prop where
 len : (out.length : Int) = st.number + 1
 last : out.getLast? = some st.text
 head : out[0]? = some t0
 cut : ∀ i a b, out[i]? = some a → out[i + 1]? = some b → OneCut a b
theorem TxOk.step {out : List ByteArray} {t0 : ByteArray} {st st' : MS} (h : TxOk out t0 st) (hs : (st'.number = st.number + 1 ∧ OneCut st.text st'.text) ∨ (st'.number = st.number ∧ st'.text = st.text)) : TxOk (txStep out st') t0 st' := by
 have hl := h.len
 have h0 := h.head
 have hpos : 0 < out.length := (List.getElem?_eq_some_iff.1 h0).1
 unfold txStep
 rcases hs with ⟨h1, h2⟩ | ⟨h1, h2⟩
 ·rw [if_pos (by omega)]
  refine ⟨by rw [List.length_append]; simp; omega, by simp, by rw [List.getElem?_append_left hpos, h0], fun i a b ha hb => ?_⟩
  have hlt := (List.getElem?_eq_some_iff.1 hb).1
  rw [List.length_append, List.length_singleton] at hlt
  rw [List.getElem?_append_left (by omega)] at ha
  by_cases hi : i + 1 < out.length
  ·rw [List.getElem?_append_left hi] at hb
   exact h.cut i a b ha hb
  ·have e : i + 1 = out.length := by omega
   rw [e, List.getElem?_append_right (Nat.le_refl _), Nat.sub_self] at hb
   simp at hb
   have hla := h.last
   rw [List.getLast?_eq_getElem?, show out.length - 1 = i by omega, ha] at hla
   injection hla with hla
   rw [hla, ← hb]
   exact h2
 ·rw [if_neg (by omega)]
  exact ⟨by omega, by rw [h2]; exact h.last, h0, h.cut⟩
theorem play_texts {cs : List CallV} {t0 : ByteArray} : ∀ (o : List Nat) (st : MS) (out : List ByteArray), playE cs st o = none → TxOk (txStep out st) t0 st →
  TxOk ((playL cs st o).foldl txStep out) t0 (playS cs st o) ∧ (playS cs st o).number = st.number + ((o.filter fun i => eoQ (getC cs i)).length : Int) ∧ (playL cs st o).getLast? = some (playS cs st o)
 | [], st, out, _, h => by
  refine ⟨h, ?_, rfl⟩
  show st.number = st.number + (([] : List Nat).length : Int)
  simp
 | i :: r, st, out, hp, h => by
  unfold playE at hp
  cases ha : (accO cs st i).1 with
  | false => rw [ha] at hp; cases hp
  | true =>
   rw [ha, if_pos rfl] at hp
   have e1 : playL cs st (i :: r) = st :: playL cs (accO cs st i).2 r := by show st :: (if (accO cs st i).1 = true then _ else _) = _; rw [ha, if_pos rfl]
   have e2 : playS cs st (i :: r) = playS cs (accO cs st i).2 r := rfl
   rw [e1, e2, List.foldl_cons]
   have hne : playL cs (accO cs st i).2 r ≠ [] := by cases r <;> simp [playL]
   rcases acc_text ha with ⟨a1, a2, a3⟩ | ⟨a1, a2, a3⟩
   ·obtain ⟨b1, b2, b3⟩ := play_texts r _ _ hp (h.step (.inl ⟨a2, a3⟩))
    refine ⟨b1, ?_, ?_⟩
    ·rw [b2, a2]
     have e : (i :: r).filter (fun i => eoQ (getC cs i)) = i :: r.filter fun i => eoQ (getC cs i) := List.filter_cons_of_pos a1
     rw [e, List.length_cons]; omega
    ·rw [List.getLast?_cons_of_ne_nil hne]; exact b3
   ·obtain ⟨b1, b2, b3⟩ := play_texts r _ _ hp (h.step (.inr ⟨a2, a3⟩))
    refine ⟨b1, ?_, ?_⟩
    ·rw [b2, a2]
     have e : (i :: r).filter (fun i => eoQ (getC cs i)) = r.filter fun i => eoQ (getC cs i) := List.filter_cons_of_neg (by rw [a1]; simp)
     rw [e]
    ·rw [List.getLast?_cons_of_ne_nil hne]; exact b3
def manyE (cs : List CallV) : Nat := (cs.filter fun c => tookQ c && eoQ c).length
theorem places_count (q : CallV → Bool) (L : List CallV) : ∀ (cs : List CallV) (k : Nat), (∀ j, j < cs.length → getC L (k + j) = getC cs j) → ((places tookQ cs k).filter fun i => q (getC L i)).length = (cs.filter fun c => tookQ c && q c).length
 | [], _, _ => rfl
 | c :: cs, k, h => by
  have ih := places_count q L cs (k + 1) fun j hj => by
   have := h (j + 1) (by simpa using hj)
   rw [show k + 1 + j = k + (j + 1) by omega, this]
   rfl
  have h0 : getC L k = c := h 0 (by simp)
  show ((if tookQ c then k :: places tookQ cs (k + 1) else places tookQ cs (k + 1)).filter fun i => q (getC L i)).length = _
  cases ht : tookQ c with
  | false => simp [ht, ih]
  | true =>
   rw [if_pos rfl]
   cases hq : q c with
   | false => rw [List.filter_cons_of_neg (by rw [h0, hq]; simp), List.filter_cons_of_neg (by simp [hq]), ih]
   | true => rw [List.filter_cons_of_pos (by rw [h0, hq]), List.filter_cons_of_pos (by simp [ht, hq]), List.length_cons, List.length_cons, ih]
theorem ord_count {cs : List CallV} {E : List Nat} (hE : EffIs cs E) : ((ordW cs E).filter fun i => eoQ (getC cs i)).length = manyE cs := by
 rw [(((ord_perm hE).trans hE.1).filter _).length_eq]
 exact places_count eoQ cs cs 0 fun j _ => by rw [Nat.zero_add]
theorem texts_law {c : CfgV} {cs : List CallV} {E : List Nat} (hE : EffIs cs E) (h : (perfE c cs E).2 = 0) :
  TxOk (textsS (playL cs (newS c) (ordW cs E))) c.text (playS cs (newS c) (ordW cs E)) ∧ (playS cs (newS c) (ordW cs E)).number = manyE cs ∧ (playL cs (newS c) (ordW cs E)).getLast? = some (playS cs (newS c) (ordW cs E)) := by
 obtain ⟨h1, h0, h3⟩ := perf_parts h
 have hst : TxOk (txStep [] (newS c)) c.text (newS c) := by
  have e : txStep [] (newS c) = [c.text] := rfl
  rw [e]
  refine ⟨rfl, rfl, rfl, fun i a b ha hb => ?_⟩
  simp at hb
 obtain ⟨b1, b2, b3⟩ := play_texts (ordW cs E) (newS c) [] h3 hst
 refine ⟨b1, ?_, b3⟩
 rw [b2, ord_count hE]
 show (0 : Int) + _ = _
 omega
end Go.Proofs.YtdeiocppghhfdaaGreat.Lin
namespace Go.Proofs.YtdeiocppghhfdaaGreat.Lin
open Go.RowKit Go.Lib Go.Shelf
open Hs
open KitI (iv IRow own_below)
theorem small35_l (c : CfgV) (w : World) : Calls Tryz.prog 34 #[.agg (cfgL c).toArray] w fun e w' => e = .returned (.agg (cfgL (smallC 200 c)).toArray) ∧ Below w.heap.size w w' := small35_any c w
section
variable {w W : World} {c : CfgV} {p : Option Addr} {cap : Nat} {cs : List CallV}
theorem LawW.awake35 (h : LawW w W c p cap cs) : Calls Tryz.prog 46 #[] W fun e W' => e = .returned (.bool true) ∧ Below w.heap.size w W' := by
 refine (awake35_any W).mono ?_
 rintro e W' ⟨rfl, hb⟩
 exact ⟨rfl, h.bl.trans (hb.mono h.bl.size)⟩
theorem LawW.wfinal (h : LawW w W c p cap cs) : Calls Tryz.prog 40 #[.agg (cfgL c).toArray, .slice p cs.length cap] W (FinPost W c cs) :=
 final_any c p cap cs W h.row.row (by have := h.row.len; omega) h.row.ok h.ps
theorem LawW.wtexts (h : LawW w W c p cap cs) : Calls Tryz.prog 42 #[.agg (cfgL c).toArray, .slice p cs.length cap] W (TxtPost W c cs) :=
 texts_any c p cap cs W h.row.row (by have := h.row.len; omega) h.row.ok h.ps
end
end Go.Proofs.YtdeiocppghhfdaaGreat.Lin
namespace Go.Proofs.YtdeiocppghhfdaaGreat.Lin
open Go.RowKit Go.Lib Go.Shelf
open Hs
def oneS (st : MS) (c : Nat) : MS := { st with seats := [st.seat c] }
def wrapS (st : MS) (c : Nat) (x : ResV × MS) : ResV × MS := (x.1, { x.2 with seats := st.seats.set c (x.2.seat 0) })
theorem set_self (st : MS) (c : Nat) : st.seats.set c (st.seat c) = st.seats := congrArg MS.seats (put_self st c)
theorem wrap_same (st : MS) (c : Nat) (r : ResV) (t : ByteArray) (m : List MkV) (n : Int) (b : Bool) : wrapS st c (r, { oneS st c with text := t, marks := m, number := n, closed := b }) = (r, { st with text := t, marks := m, number := n, closed := b }) := by
 show (r, ({ text := t, marks := m, number := n, closed := b, readers := st.readers, seats := st.seats.set c (st.seat c) } : MS)) = _
 rw [set_self]
theorem wrap_id (st : MS) (c : Nat) (r : ResV) : wrapS st c (r, oneS st c) = (r, st) := wrap_same st c r st.text st.marks st.number st.closed
theorem op_one (st : MS) (c : Nat) (q : OpV) : opS st c q = wrapS st c (opS (oneS st c) 0 q) := by
 have hs : (oneS st c).seat 0 = st.seat c := rfl
 unfold opS
 split
 ·have e : insE (oneS st c) q = insE st q := rfl
  unfold insS; rw [e]; split
  ·rw [wrap_id]
  ·exact (wrap_same st c _ _ _ _ st.closed).symm
 split
 ·have e : delE (oneS st c) q = delE st q := rfl
  unfold delS; rw [e]; split
  ·rw [wrap_id]
  ·exact (wrap_same st c _ _ _ _ st.closed).symm
 split
 ·have e : setE (oneS st c) q = setE st q := rfl
  unfold setS; rw [e]; split
  ·rw [wrap_id]
  ·show _ = wrapS st c (if hasM q.id st.marks = true ∨ st.marks.length < 64 then _ else _)
   split
   ·exact (wrap_same st c _ st.text _ _ st.closed).symm
   ·rw [wrap_id]
 split
 ·unfold drpS
  show _ = wrapS st c (if st.closed then _ else _)
  split
  ·rw [wrap_id]
  ·show _ = wrapS st c (if hasM q.id st.marks then _ else _)
   split
   ·exact (wrap_same st c _ st.text _ _ st.closed).symm
   ·rw [wrap_id]
 split
 ·unfold acqS
  rw [hs]
  show _ = wrapS st c (if st.closed then _ else _)
  split
  ·rw [wrap_id]
  ·cases (st.seat c).slots.findIdx? (fun s => !s.held) with
   | none => rw [wrap_id]
   | some k => rfl
 split
 ·unfold subS
  rw [hs]
  show _ = wrapS st c (if (st.seat c).sub then _ else if st.closed then _ else _)
  split
  ·rw [wrap_id]
  ·split
   ·rw [wrap_id]
   ·rfl
 split
 ·unfold recS
  rw [hs]
  show _ = wrapS st c (if !(st.seat c).sub then _ else if st.closed then _ else _)
  split
  ·rw [wrap_id]
  ·split <;> rw [wrap_id]
 split
 ·unfold cloS
  show _ = wrapS st c (if st.closed then _ else _)
  split
  ·rw [wrap_id]
  ·exact (wrap_same st c _ st.text st.marks st.number true).symm
 ·unfold reaS
  rw [hs]
  split
  ·rw [wrap_id]
  ·rfl
end Go.Proofs.YtdeiocppghhfdaaGreat.Lin
namespace Go.Proofs.YtdeiocppghhfdaaGreat.Lin
open Hs
theorem th_last {cs : List CallV} (h0 : (checkP cs).2 = 0) (t : Int) : ∀ k, k ≤ cs.length → ∀ e, (thF t (cs.take k)).getLast? = some e → ∀ d ∈ thF t (cs.take k), d = e ∨ (0 ≤ d.answered ∧ d.answered < e.invoked)
 | 0, _, e, he, d, hd => by simp [thF] at hd
 | k + 1, hk, e, he, d, hd => by
  obtain ⟨c, hc⟩ : ∃ c, cs[k]? = some c := ⟨_, List.getElem?_eq_getElem (by omega)⟩
  rw [thF_step hc] at he hd
  by_cases ht : c.thread = t
  ·rw [if_pos ht] at he hd
   have he2 : c = e := by simpa using he
   subst he2
   rcases List.mem_append.1 hd with hd | hd
   ·right
    obtain ⟨f, hf⟩ : ∃ f, (thF t (cs.take k)).getLast? = some f := by
     cases hg : (thF t (cs.take k)).getLast? with
     | some f => exact ⟨f, rfl⟩
     | none => rw [List.getLast?_eq_none_iff] at hg; rw [hg] at hd; cases hd
    have hb := (acc_parts (check_ok h0 k c hc)).2.1 f (by rw [ht]; exact hf)
    unfold befB at hb
    simp only [Bool.and_eq_true, decide_eq_true_eq] at hb
    rcases th_last h0 t k (by omega) f hf d hd with rfl | ⟨h1, h2⟩
    ·exact hb
    ·have hfm : f ∈ cs := List.mem_of_mem_take (List.mem_filter.1 (List.mem_of_getLast? hf)).1
     obtain ⟨j, hj⟩ := List.getElem?_of_mem hfm
     have := formed_answered (good_formed h0 hj) hb.1
     omega
   ·left; simpa using hd
  ·rw [if_neg ht, List.append_nil] at he hd
   exact th_last h0 t k (by omega) e he d hd
theorem th_bef {cs : List CallV} (h0 : (checkP cs).2 = 0) {i j : Nat} (hij : i < j) (hj : j < cs.length) (ht : (getC cs i).thread = (getC cs j).thread) : 0 ≤ (getC cs i).answered ∧ (getC cs i).answered < (getC cs j).invoked := by
 have hci := getC_some (show i < cs.length by omega)
 have hcj := getC_some hj
 have hd : getC cs i ∈ thF (getC cs j).thread (cs.take j) := List.mem_filter.2 ⟨List.mem_of_getElem? (by rw [List.getElem?_take_of_lt hij]; exact hci), by simpa using ht⟩
 obtain ⟨e, he⟩ : ∃ e, (thF (getC cs j).thread (cs.take j)).getLast? = some e := by
  cases hg : (thF (getC cs j).thread (cs.take j)).getLast? with
  | some f => exact ⟨f, rfl⟩
  | none => rw [List.getLast?_eq_none_iff] at hg; rw [hg] at hd; cases hd
 have hb := (acc_parts (check_ok h0 j _ hcj)).2.1 e he
 unfold befB at hb
 simp only [Bool.and_eq_true, decide_eq_true_eq] at hb
 rcases th_last h0 _ j (by omega) e he _ hd with h | ⟨h1, h2⟩
 ·rw [h]; exact hb
 ·have hfm : e ∈ cs := List.mem_of_mem_take (List.mem_filter.1 (List.mem_of_getLast? he)).1
  obtain ⟨m, hm⟩ := List.getElem?_of_mem hfm
  have := formed_answered (good_formed h0 hm) hb.1
  omega
theorem seat_putX (st : MS) (c : Nat) (s : SeV) : (st.put c s).seat c = if c < st.seats.length then s else default := by
 unfold MS.put MS.seat
 simp only [List.getD_eq_getElem?_getD]
 by_cases h : c < st.seats.length
 ·rw [List.getElem?_set_self h, if_pos h]; rfl
 ·rw [List.getElem?_eq_none (by rw [List.length_set]; omega), if_neg h]; rfl
theorem op_shut {a b : MS} {c : Nat} {q : OpV} (ha : a.closed = true) (hb : b.closed = true) (hs : a.seat c = b.seat c) (hl : a.seats.length = b.seats.length) : (opS a c q).1 = (opS b c q).1 ∧ (opS a c q).2.seat c = (opS b c q).2.seat c := by
 unfold opS
 split
 ·unfold insS insE; rw [if_pos ha, if_pos hb]; exact ⟨rfl, hs⟩
 split
 ·unfold delS delE; rw [if_pos ha, if_pos hb]; exact ⟨rfl, hs⟩
 split
 ·unfold setS setE; rw [if_pos ha, if_pos hb]; exact ⟨rfl, hs⟩
 split
 ·unfold drpS; rw [if_pos ha, if_pos hb]; exact ⟨rfl, hs⟩
 split
 ·unfold acqS; rw [if_pos ha, if_pos hb]; exact ⟨rfl, hs⟩
 split
 ·unfold subS
  rw [if_pos ha, if_pos hb, hs]
  by_cases hx : (b.seat c).sub = true
  ·rw [if_pos hx, if_pos hx]; exact ⟨rfl, hs⟩
  ·rw [if_neg hx, if_neg hx]; exact ⟨rfl, hs⟩
 split
 ·unfold recS
  rw [if_pos ha, if_pos hb, hs]
  by_cases hx : (!(b.seat c).sub) = true
  ·rw [if_pos hx, if_pos hx]; exact ⟨rfl, hs⟩
  ·rw [if_neg hx, if_neg hx]; exact ⟨rfl, hs⟩
 split
 ·unfold cloS; rw [if_pos ha, if_pos hb]; exact ⟨rfl, hs⟩
 ·unfold reaS
  rw [hs]
  by_cases hx : slotE (b.seat c) q ≠ 0
  ·rw [if_pos hx, if_pos hx]; exact ⟨rfl, hs⟩
  ·rw [if_neg hx, if_neg hx]
   refine ⟨rfl, ?_⟩
   unfold MS.putSlot
   rw [seat_putX, seat_putX, hl, hs]
theorem do_shut {a b : MS} {c : Int} {q : OpV} (ha : a.closed = true) (hb : b.closed = true) (hs : a.seat c.toNat = b.seat c.toNat) (hl : a.seats.length = b.seats.length) : (doS a c q).1 = (doS b c q).1 ∧ (doS a c q).2.seat c.toNat = (doS b c q).2.seat c.toNat := by
 have e : statE a c q = statE b c q := by unfold statE; rw [hl]
 unfold doS
 rw [e]
 by_cases hx : statE b c q ≠ 0
 ·rw [if_pos hx, if_pos hx]; exact ⟨rfl, hs⟩
 ·rw [if_neg hx, if_neg hx]; exact op_shut ha hb hs hl
theorem op_kind {q : OpV} (h : opE q = 0) : 1 ≤ q.kind ∧ q.kind ≤ 16 := ⟨(opE_ok h).1.1, (opE_ok h).1.2.1⟩
structure KpT (a b : MS) : Prop where
 text : a.text = b.text
 marks : a.marks = b.marks
 number : a.number = b.number
 closed : a.closed = b.closed
theorem KpT.refl (a : MS) : KpT a a := ⟨rfl, rfl, rfl, rfl⟩
theorem KpT.trans {a b c : MS} (h : KpT a b) (k : KpT b c) : KpT a c := ⟨h.text.trans k.text, h.marks.trans k.marks, h.number.trans k.number, h.closed.trans k.closed⟩
theorem reaS_kp (st : MS) (c : Nat) (q : OpV) : KpT (reaS st c q).2 st := by
 unfold reaS
 split
 ·exact .refl _
 ·exact ⟨rfl, rfl, rfl, rfl⟩
theorem do_kp {st : MS} {c : Int} {q : OpV} (h : st.closed = true) : KpT (doS st c q).2 st ∧ ((q.kind ≤ 5 ∨ 14 ≤ q.kind) → (doS st c q).1.err ≠ 0) := by
 unfold doS
 split
 ·rename_i he; exact ⟨.refl _, fun _ => he⟩
 ·rename_i he
  obtain ⟨_, _, h3⟩ := statE_ok (Decidable.not_not.1 he)
  have hk := op_kind h3
  unfold opS
  split
  ·unfold insS insE; rw [if_pos h]; exact ⟨.refl _, fun _ => by simp [failR]⟩
  split
  ·unfold delS delE; rw [if_pos h]; exact ⟨.refl _, fun _ => by simp [failR]⟩
  split
  ·unfold setS setE; rw [if_pos h]; exact ⟨.refl _, fun _ => by simp [failR]⟩
  split
  ·unfold drpS; rw [if_pos h]; exact ⟨.refl _, fun _ => by simp [failR]⟩
  split
  ·unfold acqS; rw [if_pos h]; exact ⟨.refl _, fun _ => by simp [failR]⟩
  split
  ·unfold subS; split
   ·exact ⟨.refl _, fun _ => by simp [failR]⟩
   ·(try rw [if_pos h]); exact ⟨.refl _, fun _ => by simp [failR]⟩
  split
  ·unfold recS; split
   ·exact ⟨.refl _, fun _ => by simp [failR]⟩
   ·(try rw [if_pos h]); exact ⟨.refl _, fun _ => by simp [failR]⟩
  split
  ·unfold cloS; rw [if_pos h]; exact ⟨.refl _, fun _ => by simp [failR]⟩
  ·exact ⟨reaS_kp _ _ _, fun _ => by omega⟩
def tN (cs : List CallV) (i : Nat) : Nat := (getC cs i).thread.toNat
theorem accO_shut (cs : List CallV) {a b : MS} (i : Nat) (ha : a.closed = true) (hb : b.closed = true) (hs : a.seat (tN cs i) = b.seat (tN cs i)) (hl : a.seats.length = b.seats.length) : (accO cs a i).1 = (accO cs b i).1 ∧ (accO cs a i).2.seat (tN cs i) = (accO cs b i).2.seat (tN cs i) := by
 obtain ⟨h1, h2⟩ := do_shut (q := opV (getC cs i)) ha hb hs hl
 have e : statE a (getC cs i).thread (opV (getC cs i)) = statE b (getC cs i).thread (opV (getC cs i)) := by unfold statE; rw [hl]
 unfold accO accS
 rw [h1]
 by_cases hx : sameB (resV (getC cs i)) (itV (getC cs i)) (doS b (getC cs i).thread (opV (getC cs i))).1 = true
 ·rw [if_pos hx, if_pos hx]; exact ⟨rfl, h2⟩
 ·rw [if_neg hx, if_neg hx]
  refine ⟨?_, hs⟩
  show Go.Proofs.YtdeiocppghhfdaaGreat.accB _ _ _ _ _ = Go.Proofs.YtdeiocppghhfdaaGreat.accB _ _ _ _ _
  unfold Go.Proofs.YtdeiocppghhfdaaGreat.accB
  rw [e, h1]
theorem accO_closed (cs : List CallV) {st : MS} (i : Nat) (h : st.closed = true) : KpT (accO cs st i).2 st := by
 unfold accO accS
 split
 ·exact (do_kp h).1
 ·exact KpT.refl _
theorem do_other {st : MS} {c : Int} {q : OpV} : (doS st c q).2.seats.length = st.seats.length ∧ ∀ d, d ≠ c.toNat → (doS st c q).2.seat d = st.seat d := by
 unfold doS
 split
 ·exact ⟨rfl, fun _ _ => rfl⟩
 ·rw [op_one]
  refine ⟨by show (st.seats.set _ _).length = _; rw [List.length_set], fun d hd => ?_⟩
  show (st.seats.set _ _).getD d default = st.seats.getD d default
  rw [List.getD_eq_getElem?_getD, List.getD_eq_getElem?_getD, List.getElem?_set_ne (fun e => hd e.symm)]
theorem accO_other (cs : List CallV) (st : MS) (i : Nat) : (accO cs st i).2.seats.length = st.seats.length ∧ ∀ d, d ≠ tN cs i → (accO cs st i).2.seat d = st.seat d := by
 unfold accO accS
 split
 ·exact do_other
 ·exact ⟨rfl, fun _ _ => rfl⟩
theorem playE_app {cs : List CallV} : ∀ (o1 o2 : List Nat) (st : MS), playE cs st (o1 ++ o2) = none ↔ playE cs st o1 = none ∧ playE cs (playS cs st o1) o2 = none
 | [], o2, st => by simp [playE, playS]
 | i :: r, o2, st => by
  have e1 : playE cs st (i :: r ++ o2) = if (accO cs st i).1 then playE cs (accO cs st i).2 (r ++ o2) else some i := rfl
  have e2 : playE cs st (i :: r) = if (accO cs st i).1 then playE cs (accO cs st i).2 r else some i := rfl
  have e3 : playS cs st (i :: r) = playS cs (accO cs st i).2 r := rfl
  rw [e1, e2, e3]
  split
  ·exact playE_app r o2 _
  ·simp
theorem playL_hd (cs : List CallV) (st : MS) (o : List Nat) : playL cs st o = st :: (playL cs st o).tail := by cases o <;> rfl
theorem playL_app {cs : List CallV} : ∀ (o1 o2 : List Nat) (st : MS), playE cs st o1 = none → playL cs st (o1 ++ o2) = playL cs st o1 ++ (playL cs (playS cs st o1) o2).tail
 | [], o2, st, _ => playL_hd cs st o2
 | i :: r, o2, st, h => by
  have e2 : playE cs st (i :: r) = if (accO cs st i).1 then playE cs (accO cs st i).2 r else some i := rfl
  have e1 : playL cs st (i :: r ++ o2) = st :: (if (accO cs st i).1 then playL cs (accO cs st i).2 (r ++ o2) else []) := rfl
  have e4 : playL cs st (i :: r) = st :: (if (accO cs st i).1 then playL cs (accO cs st i).2 r else []) := rfl
  have e3 : playS cs st (i :: r) = playS cs (accO cs st i).2 r := rfl
  rw [e2] at h
  rw [e1, e4, e3]
  split at h
  ·rename_i ha
   rw [if_pos ha, if_pos ha, playL_app r o2 _ h]
   rfl
  ·cases h
theorem play_shut {cs : List CallV} : ∀ (o : List Nat) {a b : MS}, a.closed = true → b.closed = true → a.seats.length = b.seats.length → (∀ i ∈ o, a.seat (tN cs i) = b.seat (tN cs i)) → playE cs a o = none → playE cs b o = none
 | [], a, b, _, _, _, _, _ => rfl
 | i :: r, a, b, ha, hb, hl, hs, h => by
  have e1 : ∀ st, playE cs st (i :: r) = if (accO cs st i).1 then playE cs (accO cs st i).2 r else some i := fun _ => rfl
  obtain ⟨h1, h2⟩ := accO_shut cs i ha hb (hs i (by simp)) hl
  have oa := accO_other cs a i
  have ob := accO_other cs b i
  rw [e1] at h ⊢
  rw [← h1]
  split at h
  ·rename_i hx
   rw [if_pos hx]
   refine play_shut r ((accO_closed cs i ha).closed.trans ha) ((accO_closed cs i hb).closed.trans hb) (by rw [oa.1, ob.1]; exact hl) (fun j hj => ?_) h
   by_cases e : tN cs j = tN cs i
   ·rw [e]; exact h2
   ·rw [oa.2 _ e, ob.2 _ e]; exact hs j (by simp [hj])
  ·cases h
theorem play_other {cs : List CallV} : ∀ (o : List Nat) (st : MS), (playS cs st o).seats.length = st.seats.length ∧ ∀ d, (∀ j ∈ o, d ≠ tN cs j) → (playS cs st o).seat d = st.seat d
 | [], st => ⟨rfl, fun _ _ => rfl⟩
 | i :: r, st => by
  have oa := accO_other cs st i
  obtain ⟨h1, h2⟩ := play_other r (accO cs st i).2
  exact ⟨h1.trans oa.1, fun d hd => (h2 d fun j hj => hd j (by simp [hj])).trans (oa.2 d (hd i (by simp)))⟩
theorem play_closed {cs : List CallV} : ∀ (o : List Nat) (st : MS), st.closed = true → (playS cs st o).closed = true
 | [], st, h => h
 | i :: r, st, h => play_closed r _ ((accO_closed cs i h).closed.trans h)
theorem playL_closed {cs : List CallV} : ∀ (o : List Nat) (st : MS), st.closed = true → ∀ m ∈ playL cs st o, m.number = st.number
 | [], st, h, m, hm => by
  have : m = st := by simpa [playL] using hm
  rw [this]
 | i :: r, st, h, m, hm => by
  have e4 : playL cs st (i :: r) = st :: (if (accO cs st i).1 then playL cs (accO cs st i).2 r else []) := rfl
  rw [e4] at hm
  rcases List.mem_cons.1 hm with rfl | hm
  ·rfl
  ·have hk := accO_closed cs i h
   split at hm
   ·exact (playL_closed r _ (hk.closed.trans h) m hm).trans hk.number
   ·cases hm
theorem tx_pre : ∀ (l : List MS) (out : List ByteArray), out <+: l.foldl txStep out
 | [], out => List.prefix_refl _
 | m :: l, out => by
  rw [List.foldl_cons]
  refine List.IsPrefix.trans ?_ (tx_pre l _)
  unfold txStep
  split
  ·exact List.prefix_append _ _
  ·exact List.prefix_refl _
theorem tx_same : ∀ (l : List MS) (out : List ByteArray) (n : Int), (out.length : Int) = n + 1 → (∀ m ∈ l, m.number = n) → l.foldl txStep out = out
 | [], _, _, _, _ => rfl
 | m :: l, out, n, ho, h => by
  have e : txStep out m = out := by
   unfold txStep
   rw [if_neg (by rw [h m (by simp)]; omega)]
  rw [List.foldl_cons, e]
  exact tx_same l out n ho fun x hx => h x (by simp [hx])
theorem tx_new (c : CfgV) : TxOk (txStep [] (newS c)) c.text (newS c) := by
 have e : txStep [] (newS c) = [c.text] := rfl
 rw [e]
 refine ⟨rfl, rfl, rfl, fun i a b ha hb => ?_⟩
 simp at hb
theorem z_acc {cs : List CallV} {st : MS} {z : Nat} (hz : zQ cs z = true) (h : (accO cs st z).1 = true) : st.closed = false ∧ statE st (getC cs z).thread (opV (getC cs z)) = 0 ∧ sameB (resV (getC cs z)) (itV (getC cs z)) {} = true ∧ (accO cs st z).2 = { st with closed := true } := by
 unfold zQ at hz
 simp only [Bool.and_eq_true, decide_eq_true_eq] at hz
 obtain ⟨hk, he⟩ := hz
 have hk2 : (opV (getC cs z)).kind = 16 := hk
 unfold accO at h ⊢
 rcases acc_true h with ⟨h1, h2⟩ | ⟨_, hb, _⟩
 ·have herr := sameB_err h1
  have herr2 : (doS st (getC cs z).thread (opV (getC cs z))).1.err = 0 := by rw [← herr]; exact he
  rw [h2]
  by_cases hst : statE st (getC cs z).thread (opV (getC cs z)) ≠ 0
  ·exfalso
   unfold doS at herr2
   rw [if_pos hst] at herr2
   exact hst herr2
  ·have hst0 := Decidable.not_not.1 hst
   have e : doS st (getC cs z).thread (opV (getC cs z)) = cloS st := by
    unfold doS
    rw [if_neg hst]
    unfold opS
    rw [hk2]
    rfl
   rw [e] at h1 herr2 ⊢
   unfold cloS at h1 herr2 ⊢
   cases hc : st.closed with
   | true => rw [hc] at herr2; exact absurd herr2 (by show ¬ ((13 : Int) = 0); decide)
   | false =>
    rw [hc] at h1
    exact ⟨rfl, hst0, h1, rfl⟩
 ·exfalso
  unfold Go.Proofs.YtdeiocppghhfdaaGreat.accB at hb
  rw [hk2] at hb
  split at hb
  ·cases hb
  ·simp at hb
theorem z_acc' {cs : List CallV} {st : MS} {z : Nat} (hz : zQ cs z = true) (h1 : st.closed = false) (h2 : statE st (getC cs z).thread (opV (getC cs z)) = 0) (h3 : sameB (resV (getC cs z)) (itV (getC cs z)) {} = true) : accO cs st z = (true, { st with closed := true }) := by
 unfold zQ at hz
 simp only [Bool.and_eq_true, decide_eq_true_eq] at hz
 have hk2 : (opV (getC cs z)).kind = 16 := hz.1
 have e : doS st (getC cs z).thread (opV (getC cs z)) = ({}, { st with closed := true }) := by
  unfold doS
  rw [if_neg (by simpa using h2)]
  unfold opS
  rw [hk2]
  show cloS st = _
  unfold cloS
  rw [h1]
  rfl
 unfold accO accS
 rw [e]
 exact if_pos h3
section
variable {cs : List CallV} {s : Int} {X E : List Nat}
theorem px_in (h0 : (checkP cs).2 = 0) (hX : EffIs (prefS s cs) X) {i : Nat} (hi : i ∈ X) : i < many s cs ∧ (getC cs i).took ≤ s ∧ 0 ≤ (getC cs i).took ∧ (getC (prefS s cs) i = (cutA (getC cs i)).pure ∨ getC (prefS s cs) i = (getC cs i).pure) := by
 obtain ⟨h1, h2⟩ := (eff_in hX).1 hi
 rw [pref_many] at h1
 obtain ⟨e, _⟩ := pref_get h0 h1
 rw [e] at h2
 have h2' : 0 ≤ (cutV s (getC cs i)).took := h2
 rw [cut_took] at h2'
 split at h2'
 ·omega
 ·rename_i ht
  refine ⟨h1, by omega, h2', ?_⟩
  rw [e]
  unfold cutV
  rw [if_neg ht]
  split
  ·exact .inl rfl
  ·exact .inr rfl
theorem px_acc (h0 : (checkP cs).2 = 0) (hX : EffIs (prefS s cs) X) {i : Nat} (hi : i ∈ X) (st : MS) : accO (prefS s cs) st i = accO cs st i := by
 obtain ⟨_, _, _, h | h⟩ := px_in h0 hX hi
 ·unfold accO; rw [h]; rfl
 ·unfold accO; rw [h]; rfl
theorem px_z (h0 : (checkP cs).2 = 0) (hX : EffIs (prefS s cs) X) {i : Nat} (hi : i ∈ X) : zQ (prefS s cs) i = zQ cs i := by
 obtain ⟨_, _, _, h | h⟩ := px_in h0 hX hi
 ·unfold zQ; rw [h]; rfl
 ·unfold zQ; rw [h]; rfl
theorem px_mv (h0 : (checkP cs).2 = 0) (hX : EffIs (prefS s cs) X) {i z : Nat} (hi : i ∈ X) (hz : z ∈ X) : mvQ (prefS s cs) z i = mvQ cs z i := by
 obtain ⟨_, _, _, h | h⟩ := px_in h0 hX hi <;> obtain ⟨_, _, _, k | k⟩ := px_in h0 hX hz
 all_goals unfold mvQ; rw [h, k]; rfl
theorem px_playE (h0 : (checkP cs).2 = 0) (hX : EffIs (prefS s cs) X) : ∀ (o : List Nat) (st : MS), (∀ i ∈ o, i ∈ X) → playE (prefS s cs) st o = playE cs st o ∧ playL (prefS s cs) st o = playL cs st o
 | [], st, _ => ⟨rfl, rfl⟩
 | i :: r, st, h => by
  have e := px_acc h0 hX (h i (by simp)) st
  obtain ⟨h1, h2⟩ := px_playE h0 hX r (accO cs st i).2 fun j hj => h j (by simp [hj])
  constructor
  ·show (if (accO (prefS s cs) st i).1 then playE (prefS s cs) (accO (prefS s cs) st i).2 r else some i) = (if (accO cs st i).1 then playE cs (accO cs st i).2 r else some i)
   rw [e, h1]
  ·show st :: (if (accO (prefS s cs) st i).1 then playL (prefS s cs) (accO (prefS s cs) st i).2 r else []) = st :: (if (accO cs st i).1 then playL cs (accO cs st i).2 r else [])
   rw [e, h2]
theorem px_late (h0 : (checkP cs).2 = 0) (hX : EffIs (prefS s cs) X) (hY : EffIs cs E) {i : Nat} (hi : i ∈ E) (hn : i ∉ X) : s < (getC cs i).took := by
 refine Classical.byContradiction fun hlt => hn ?_
 obtain ⟨h1, h2⟩ := (eff_in hY).1 hi
 have hinv := formed_took (good_formed h0 (getC_some h1)) h2
 have hm : i < many s cs := by
  rcases Nat.lt_or_ge i (many s cs) with h | h
  ·exact h
  ·have := many_bound (s := s) h0 h1 h
   omega
 refine (eff_in hX).2 ⟨by rw [pref_many]; exact hm, ?_⟩
 rw [(pref_get h0 hm).1]
 show 0 ≤ (cutV s (getC cs i)).took
 rw [cut_took, if_neg hlt]
 exact h2
theorem pre_plain (h0 : (checkP cs).2 = 0) (hX : EffIs (prefS s cs) X) {st : MS} {R : List Nat} (hc : closeP (prefS s cs) X = none) (hp : playE cs st (X ++ R) = none) :
  playE (prefS s cs) st (ordW (prefS s cs) X) = none ∧ textsS (playL (prefS s cs) st (ordW (prefS s cs) X)) <+: textsS (playL cs st (X ++ R)) := by
 obtain ⟨e1, e2⟩ := px_playE h0 hX X st fun i hi => hi
 have hp1 := (playE_app X R st).1 hp
 rw [ord_none hc, e1, e2]
 refine ⟨hp1.1, ?_⟩
 rw [playL_app X R st hp1.1, texts_eq, texts_eq, List.foldl_append]
 exact tx_pre _ _
theorem prefix_law {c : CfgV} (hs : -1 ≤ s) (hX : EffIs (prefS s cs) X) (hY : EffIs cs E) (hp : (perfE c cs E).2 = 0) :
  perfE c (prefS s cs) X = (0, 0) ∧ textsS (playL (prefS s cs) (newS c) (ordW (prefS s cs) X)) <+: textsS (playL cs (newS c) (ordW cs E)) := by
 obtain ⟨h1, h0, h3⟩ := perf_parts hp
 have hk : playE (prefS s cs) (newS c) (ordW (prefS s cs) X) = none ∧ textsS (playL (prefS s cs) (newS c) (ordW (prefS s cs) X)) <+: textsS (playL cs (newS c) (ordW cs E)) := by
  obtain ⟨_, hE⟩ := pref_eff h0 hs hX hY
  obtain ⟨R, hR⟩ : ∃ R, E = X ++ R := ⟨E.drop X.length, by
   have h := (List.take_append_drop X.length E).symm
   rw [← hE] at h
   exact h⟩
  have hn := eff_nodup hY
  rw [hR] at hn
  have hdis : ∀ i ∈ R, i ∉ X := fun i hi hx => (List.nodup_append.1 hn).2.2 i hx i hi rfl
  cases hc : closeP cs E with
  | none =>
   rw [ord_none hc] at h3 ⊢
   have hcp : closeP (prefS s cs) X = none := by
    unfold closeP at hc ⊢
    rw [List.find?_eq_none] at hc ⊢
    intro i hi
    rw [px_z h0 hX hi]
    exact hc i (by rw [hR]; simp [hi])
   rw [hR] at h3 ⊢
   exact pre_plain h0 hX hcp h3
  | some z =>
   obtain ⟨P, Q, hz⟩ := close_at hY hc
   have ho := ord_some hY hc hz
   have heq : X ++ R = P ++ z :: Q := by rw [← hR]; exact hz.eq
   by_cases hzX : z ∈ X
   ·obtain ⟨Q', hX2, hQ2⟩ : ∃ Q', X = P ++ z :: Q' ∧ Q = Q' ++ R := by
     rcases List.append_eq_append_iff.1 heq with ⟨a', ha1, ha2⟩ | ⟨c', hc1, hc2⟩
     ·exact absurd hzX (hdis z (by rw [ha2]; simp))
     ·cases c' with
      | nil =>
       exfalso
       rw [List.nil_append] at hc2
       exact hdis z (by rw [← hc2]; simp) hzX
      | cons y Q' =>
       rw [List.cons_append] at hc2
       injection hc2 with e1 e2
       subst e1
       exact ⟨Q', hc1, e2⟩
    have hPX : ∀ i ∈ P, i ∈ X := fun i hi => by rw [hX2]; simp [hi]
    have hQX : ∀ i ∈ Q', i ∈ X := fun i hi => by rw [hX2]; simp [hi]
    have hcp : closeP (prefS s cs) X = some z := by
     unfold closeP
     rw [List.find?_eq_some_iff_append]
     refine ⟨by rw [px_z h0 hX hzX]; exact hz.is, P, Q', hX2, fun i hi => ?_⟩
     rw [px_z h0 hX (hPX i hi), hz.no i hi]
     rfl
    obtain ⟨P1, Q1, hz1⟩ := close_at hX hcp
    have hPQ : P1 = P ∧ Q1 = Q' := by
     have e : P ++ z :: Q' = P1 ++ z :: Q1 := by rw [← hX2]; exact hz1.eq
     have hnX := eff_nodup hX
     rcases List.append_eq_append_iff.1 e with ⟨a', ha1, ha2⟩ | ⟨c', hc1, hc2⟩
     ·cases a' with
      | nil => simp at ha1 ha2; exact ⟨ha1, ha2.symm⟩
      | cons y a' =>
       exfalso
       rw [List.cons_append] at ha2
       injection ha2 with e1 e2
       have := hz1.no y (by rw [ha1]; simp)
       rw [← e1, hz1.is] at this
       cases this
     ·cases c' with
      | nil => simp at hc1 hc2; exact ⟨hc1.symm, hc2⟩
      | cons y c' =>
       exfalso
       rw [List.cons_append] at hc2
       injection hc2 with e1 e2
       have := hz.no y (by rw [hc1]; simp)
       rw [← e1, hz.is] at this
       cases this
    obtain ⟨rfl, rfl⟩ := hPQ
    have hop := ord_some hX hcp hz1
    have hmf : Q1.filter (mvQ (prefS s cs) z) = Q1.filter (mvQ cs z) := List.filter_congr fun i hi => px_mv h0 hX (hQX i hi) hzX
    have hnf : (Q1.filter fun i => !mvQ (prefS s cs) z i) = Q1.filter fun i => !mvQ cs z i := List.filter_congr fun i hi => by rw [px_mv h0 hX (hQX i hi) hzX]
    rw [hmf, hnf] at hop
    rw [hQ2, List.filter_append, List.filter_append] at ho
    have hMQ : ∀ i ∈ Q1.filter (mvQ cs z), i ∈ X := fun i hi => hQX i (List.mem_filter.1 hi).1
    have hAQ : ∀ i ∈ Q1.filter (fun i => !mvQ cs z i), i ∈ X := fun i hi => hQX i (List.mem_filter.1 hi).1
    -- threads
    have hth : ∀ a ∈ Q1.filter (fun i => !mvQ cs z i), ∀ m ∈ R.filter (mvQ cs z), tN cs a ≠ tN cs m := by
     intro a ha m hm
     obtain ⟨hm1, hm2⟩ := List.mem_filter.1 hm
     obtain ⟨m1, m2, m3⟩ := mv_parts hm2
     have haX := hAQ a ha
     obtain ⟨_, at1, at2, _⟩ := px_in h0 hX haX
     have haE : a ∈ E := by rw [hR]; simp [haX]
     have hmE : m ∈ E := by rw [hR]; simp [hm1]
     have hzE : z ∈ E := by rw [hR]; simp [hzX]
     have hml := px_late h0 hX hY hmE (hdis m hm1)
     obtain ⟨ha3, ha4⟩ := (eff_in hY).1 haE
     obtain ⟨hm3, hm4⟩ := (eff_in hY).1 hmE
     obtain ⟨hz3, hz4⟩ := (eff_in hY).1 hzE
     have hza := lex_get hz3 ha3 (hz.hi a (by rw [hQ2]; exact List.mem_append_left _ (List.mem_filter.1 ha).1))
     have fa := good_formed h0 (getC_some ha3)
     have fm := good_formed h0 (getC_some hm3)
     have ta := formed_thread fa
     have tm := formed_thread fm
     intro e
     unfold tN at e
     have e2 : (getC cs a).thread = (getC cs m).thread := by omega
     have ia := formed_took fa ha4
     rcases Nat.lt_trichotomy a m with h | h | h
     ·obtain ⟨b1, b2⟩ := th_bef h0 h hm3 e2
      have := formed_answered fa b1
      omega
     ·subst h
      omega
     ·obtain ⟨b1, b2⟩ := th_bef h0 h ha3 e2.symm
      have := formed_answered fm b1
      omega
    -- playing
    generalize Q1.filter (mvQ cs z) = M1 at *
    generalize R.filter (mvQ cs z) = M2 at *
    generalize (Q1.filter fun i => !mvQ cs z i) = A1 at *
    generalize (R.filter fun i => !mvQ cs z i) = A2 at *
    have ho2 : ordW cs E = (P1 ++ M1) ++ (M2 ++ ([z] ++ (A1 ++ A2))) := by rw [ho]; simp only [List.append_assoc]
    have hop2 : ordW (prefS s cs) X = (P1 ++ M1) ++ ([z] ++ A1) := by rw [hop]; simp only [List.append_assoc]
    rw [ho2] at h3 ⊢
    rw [hop2]
    have hsub : ∀ i ∈ (P1 ++ M1) ++ ([z] ++ A1), i ∈ X := fun i hi => by
     simp only [List.mem_append, List.mem_singleton] at hi
     rcases hi with (hi | hi) | hi | hi
     ·exact hPX i hi
     ·exact hMQ i hi
     ·rw [hi]; exact hzX
     ·exact hAQ i hi
    obtain ⟨e1, e2⟩ := px_playE h0 hX _ (newS c) hsub
    rw [e1, e2]
    obtain ⟨p1, p2⟩ := (playE_app _ _ _).1 h3
    obtain ⟨p3, p4⟩ := (playE_app _ _ _).1 p2
    obtain ⟨p5, p6⟩ := (playE_app _ _ _).1 p4
    obtain ⟨p7, _⟩ := (playE_app _ _ _).1 p6
    have htx := (play_texts (P1 ++ M1) (newS c) [] p1 (tx_new c)).1
    obtain ⟨σ', hσ'⟩ : ∃ σ', playS cs (newS c) (P1 ++ M1) = σ' := ⟨_, rfl⟩
    rw [hσ'] at p3 p4 p5 p6 p7 htx
    obtain ⟨σ, hσ⟩ : ∃ σ, playS cs σ' M2 = σ := ⟨_, rfl⟩
    rw [hσ] at p5 p7
    have pz : (accO cs σ z).1 = true := by
     have : (if (accO cs σ z).1 then (none : Option Nat) else some z) = none := p5
     cases h : (accO cs σ z).1 with
     | true => rfl
     | false => rw [h] at this; cases this
    obtain ⟨z1, z2, z3, z4⟩ := z_acc hz.is pz
    have oth := play_other M2 (cs := cs) σ'
    rw [hσ] at oth
    have z1' : σ'.closed = false := by
     cases h : σ'.closed with
     | false => rfl
     | true =>
      have := play_closed M2 (cs := cs) σ' h
      rw [hσ, z1] at this
      cases this
    have z2' : statE σ' (getC cs z).thread (opV (getC cs z)) = 0 := by
     rw [← z2]; unfold statE; rw [oth.1]
    have hza := z_acc' hz.is z1' z2' z3
    have eS : ∀ st, playS cs st [z] = (accO cs st z).2 := fun _ => rfl
    rw [eS, z4] at p7
    have pA : playE cs { σ' with closed := true } A1 = none := by
     refine play_shut A1 (a := { σ with closed := true }) (b := { σ' with closed := true }) rfl rfl oth.1 (fun i hi => ?_) p7
     show σ.seat (tN cs i) = σ'.seat (tN cs i)
     exact oth.2 _ fun j hj => hth i hi j hj
    have pz' : playE cs σ' ([z] ++ A1) = none := by
     show (if (accO cs σ' z).1 then playE cs (accO cs σ' z).2 A1 else some z) = none
     rw [hza]
     exact pA
    refine ⟨(playE_app _ _ _).2 ⟨p1, by rw [hσ']; exact pz'⟩, ?_⟩
    rw [playL_app _ _ _ p1, playL_app _ _ _ p1, texts_eq, texts_eq, List.foldl_append, List.foldl_append, hσ']
    have hsm : ∀ m ∈ (playL cs σ' ([z] ++ A1)).tail, m.number = σ'.number := by
     have e : (playL cs σ' ([z] ++ A1)).tail = playL cs { σ' with closed := true } A1 := by
      show (if (accO cs σ' z).1 then playL cs (accO cs σ' z).2 A1 else []) = _
      rw [hza]
      rfl
     rw [e]
     exact playL_closed A1 _ rfl
    have hout : (playL cs (newS c) (P1 ++ M1)).foldl txStep [] = (playL cs (newS c) (P1 ++ M1)).foldl txStep [] := rfl
    have hlen := htx.len
    rw [tx_same _ _ σ'.number hlen hsm]
    exact tx_pre _ _
   ·obtain ⟨P', hP'⟩ : ∃ P', P = X ++ P' := by
     rcases List.append_eq_append_iff.1 heq with ⟨a', ha1, ha2⟩ | ⟨c', hc1, hc2⟩
     ·exact ⟨a', ha1⟩
     ·cases c' with
      | nil => exact ⟨[], by rw [List.append_nil] at hc1 ⊢; exact hc1.symm⟩
      | cons y c' =>
       exfalso
       rw [List.cons_append] at hc2
       injection hc2 with e1 e2
       exact hzX (by rw [hc1, e1]; simp)
    have hcp : closeP (prefS s cs) X = none := by
     unfold closeP
     rw [List.find?_eq_none]
     intro i hi
     rw [px_z h0 hX hi, hz.no i (by rw [hP']; simp [hi])]
     simp
    have ho2 : ordW cs E = X ++ (P' ++ (Q.filter (mvQ cs z) ++ ([z] ++ Q.filter fun i => !mvQ cs z i))) := by rw [ho, hP']; simp only [List.append_assoc]
    rw [ho2] at h3 ⊢
    exact pre_plain h0 hX hcp h3
 refine ⟨?_, hk.2⟩
 unfold perfE
 rw [if_neg (by rw [h1]; simp), check_pref h0 hs, if_neg (by simp), hk.1]
end
end Go.Proofs.YtdeiocppghhfdaaGreat.Lin
namespace Go.Proofs.YtdeiocppghhfdaaGreat.Lin
open Hs
theorem accO_pure (L : List CallV) (st : MS) (i : Nat) : accO (L.map CallV.pure) st i = accO L st i := by
 unfold accO
 rw [getC_pure]
 rfl
theorem zQ_pure (L : List CallV) : zQ (L.map CallV.pure) = zQ L := by
 funext i; unfold zQ; rw [getC_pure]; rfl
theorem mvQ_pure (L : List CallV) : mvQ (L.map CallV.pure) = mvQ L := by
 funext z i; unfold mvQ; rw [getC_pure, getC_pure]; rfl
theorem afQ_pure (L : List CallV) : afQ (L.map CallV.pure) = afQ L := by
 funext z i; unfold afQ; rw [getC_pure, getC_pure]; rfl
theorem ordW_pure (L : List CallV) (E : List Nat) : ordW (L.map CallV.pure) E = ordW L E := by
 have h1 : ∀ z, ptsW (L.map CallV.pure) z E = ptsW L z E := fun z => by
  unfold ptsW
  have e : stepW (L.map CallV.pure) z = stepW L z := by
   funext p i
   unfold stepW
   rw [mvQ_pure, afQ_pure]
  rw [e]
 unfold ordW closeP
 rw [zQ_pure]
 cases E.find? (zQ L) with
 | none => rfl
 | some z => simp only [h1]
theorem playE_pure (L : List CallV) : ∀ (o : List Nat) (st : MS), playE (L.map CallV.pure) st o = playE L st o ∧ playL (L.map CallV.pure) st o = playL L st o
 | [], st => ⟨rfl, rfl⟩
 | i :: r, st => by
  obtain ⟨h1, h2⟩ := playE_pure L r (accO L st i).2
  constructor
  ·show (if (accO (L.map CallV.pure) st i).1 then playE (L.map CallV.pure) (accO (L.map CallV.pure) st i).2 r else some i) = (if (accO L st i).1 then playE L (accO L st i).2 r else some i)
   rw [accO_pure, h1]
  ·show st :: (if (accO (L.map CallV.pure) st i).1 then playL (L.map CallV.pure) (accO (L.map CallV.pure) st i).2 r else []) = st :: (if (accO L st i).1 then playL L (accO L st i).2 r else [])
   rw [accO_pure, h2]
theorem playS_pure (L : List CallV) (o : List Nat) (st : MS) : playS (L.map CallV.pure) st o = playS L st o := by
 unfold playS
 congr 1
 funext s i
 rw [accO_pure]
theorem insW_pure (L : List CallV) (i : Nat) : ∀ l : List Nat, insW (L.map CallV.pure) i l = insW L i l
 | [] => rfl
 | j :: r => by
  have e : lexB (L.map CallV.pure) i j = lexB L i j := by
   unfold lexB
   rw [(tk_pure L i).1, (tk_pure L i).2, (tk_pure L j).1, (tk_pure L j).2]
  unfold insW
  rw [e, insW_pure L i r]
theorem effC_pure (L : List CallV) : effC (L.map CallV.pure) = effC L := by
 unfold effC
 rw [places_pure (fun _ => rfl)]
 congr 1
 funext i l
 exact insW_pure L i l
theorem ordC_pure (L : List CallV) : ordC (L.map CallV.pure) = ordC L := by unfold ordC; rw [effC_pure, ordW_pure]
theorem perfC_pure (c : CfgV) (L : List CallV) : perfC c (L.map CallV.pure) = perfC c L := by
 unfold perfC perfE
 rw [check_pure, effC_pure, ordW_pure, (playE_pure L _ _).1]
theorem lastC_pure (c : CfgV) (L : List CallV) : lastC c (L.map CallV.pure) = lastC c L := by unfold lastC; rw [ordC_pure, playS_pure]
theorem textsC_pure (c : CfgV) (L : List CallV) : textsC c (L.map CallV.pure) = textsC c L := by unfold textsC; rw [ordC_pure, (playE_pure L _ _).2]
theorem effC_is {cs : List CallV} (h0 : (checkP cs).2 = 0) : EffIs cs (effC cs) := by
 have hn : (effC cs).Nodup := (effC_perm cs).nodup_iff.2 places_nodup
 refine ⟨effC_perm cs, (effC_sorted cs).and hn |>.imp_of_mem fun {a b} ha hb h => ?_⟩
 obtain ⟨c, hc, hq⟩ := places_at ((effC_perm cs).mem_iff.1 ha)
 obtain ⟨d, hd, hr⟩ := places_at ((effC_perm cs).mem_iff.1 hb)
 obtain ⟨h1, h2⟩ := h
 have hq2 : 0 ≤ c.took := by simpa [tookQ] using hq
 unfold lexB at h1 ⊢
 rw [(tk_at hc).1, (tk_at hc).2, (tk_at hd).1, (tk_at hd).2] at h1 ⊢
 simp only [decide_eq_false_iff_not, decide_eq_true_eq] at h1 ⊢
 by_cases e : c.took = d.took ∧ c.rank = d.rank
 ·exact absurd (no_tie h0 hc hd hq2 e.1 e.2) h2
 ·omega
theorem perfC_check {c : CfgV} {cs : List CallV} (h : (perfC c cs).2 = 0) : (checkP cs).2 = 0 := (perf_parts h).2.1
theorem textsC_len {c : CfgV} {cs : List CallV} (h : (perfC c cs).2 = 0) : (textsC c cs).length ≤ cs.length + 1 := by
 obtain ⟨h1, h2, _⟩ := texts_law (c := c) (effC_is (perfC_check h)) h
 have h3 := h1.len
 have h4 : manyE cs ≤ cs.length := List.length_filter_le _ _
 have h5 : (textsC c cs).length = (textsS (playL cs (newS c) (ordW cs (effC cs)))).length := rfl
 omega
theorem wprefix {c : CfgV} {hs h2 : List CallV} {s : Int} (hs0 : -1 ≤ s) (hp : (perfC c hs).2 = 0) (hm : h2.map CallV.pure = prefS s hs) :
  perfC c h2 = (0, 0) ∧ ((textsC c h2).length : Int) = (lastC c h2).number + 1 ∧ textsC c h2 <+: textsC c hs ∧ (textsC c hs).length ≤ hs.length + 1 := by
 have h0 := perfC_check hp
 have hc2 : (checkP (prefS s hs)).2 = 0 := by rw [check_pref h0 hs0]
 have hX := effC_is hc2
 obtain ⟨l1, l2⟩ := prefix_law (c := c) hs0 hX (effC_is h0) hp
 have e1 : perfC c h2 = (0, 0) := by rw [← perfC_pure, hm]; exact l1
 have e2 : textsC c h2 = textsC c (prefS s hs) := by rw [← textsC_pure, hm]
 have e3 : lastC c h2 = lastC c (prefS s hs) := by rw [← lastC_pure, hm]
 have hlen := (texts_law (c := c) hX (by rw [l1])).1.len
 exact ⟨e1, by rw [e2, e3]; exact hlen, by rw [e2]; exact l2, textsC_len hp⟩
end Go.Proofs.YtdeiocppghhfdaaGreat.Lin
namespace Go.Proofs.YtdeiocppghhfdaaGreat.Lin
open Go.RowKit Go.Lib Go.Shelf
open Hs
open KitI (iv IRow own_below)
attribute [local go_sem, local simp] Hs.callL_0 Hs.callL_1 Hs.callL_2 Hs.callL_3 Hs.callL_4 Hs.callL_5 Hs.callL_6 Hs.callL_7 Hs.callL_8 Hs.callL_9 Hs.callL_10 Hs.callL_11 Hs.callL_12 Hs.callL_13 Hs.callL_14 Hs.callL_15 Hs.callL_16 Hs.callL_17 Hs.callL_18 Hs.callL_19 Hs.callL_20 Hs.callL_21 Hs.callL_22 Hs.callL_23 Hs.callL_24 Hs.callL_25 Hs.callL_26 Hs.resL_0 Hs.resL_1 Hs.resL_2 Hs.resL_3 Hs.resL_4 Hs.resL_5 Hs.resL_6 Hs.resL_7 Hs.resL_8 Hs.resL_9 Hs.resL_10 Hs.resL_11 Hs.resL_12 Hs.callG_0 Hs.callG_1 Hs.callG_2 Hs.callG_3 Hs.callG_4 Hs.callG_5 Hs.callG_6 Hs.callG_7 Hs.callG_8 Hs.callG_9 Hs.callG_10 Hs.callG_11 Hs.callG_12 Hs.callG_13 Hs.callG_14 Hs.callG_15 Hs.callG_16 Hs.callG_17 Hs.callG_18 Hs.callG_19 Hs.callG_20 Hs.callG_21 Hs.callG_22 Hs.callG_23 Hs.callG_24 Hs.callG_25 Hs.callG_26 Hs.resG_0 Hs.resG_1 Hs.resG_2 Hs.resG_3 Hs.resG_4 Hs.resG_5 Hs.resG_6 Hs.resG_7 Hs.resG_8 Hs.resG_9 Hs.resG_10 Hs.resG_11 Hs.resG_12 Hs.callL_len Hs.resL_len
attribute [local go_sem ↓] Hs.loadCall_eq Hs.loadRes_eq
attribute [local go_sem] Hs.ld_new Hs.ld_first Hs.ld_second Hs.ldr_new Hs.st_new
attribute [local go_sem ↓] loadCfg_eq
attribute [local go_sem, local simp] cfgL_len cfgL_ne
theorem cutA_ok {c : CallV} (h : c.Ok) : (Hs.cutA c).Ok := ⟨h.i0, h.i1, by show -9223372036854775808 ≤ (-1 : Int); decide, by show (-1 : Int) ≤ 9223372036854775807; decide, by show -9223372036854775808 ≤ (0 : Int); decide, by show (0 : Int) ≤ 9223372036854775807; decide, h.t0, h.t1, h.r0, h.r1, h.kd, h.id, h.gr, h.sl, h.at_, h.nn⟩
theorem cutT_ok {c : CallV} (h : c.Ok) : (Hs.cutT c).Ok := ⟨h.i0, h.i1, h.a0, h.a1, h.s0, h.s1, by show -9223372036854775808 ≤ (-1 : Int); decide, by show (-1 : Int) ≤ 9223372036854775807; decide, by show -9223372036854775808 ≤ (0 : Int); decide, by show (0 : Int) ≤ 9223372036854775807; decide, h.kd, h.id, h.gr, h.sl, h.at_, h.nn⟩
theorem cutV_ok {s : Int} {c : CallV} (h : c.Ok) : (cutV s c).Ok := by
 unfold Hs.cutV
 split <;> split
 ·exact cutT_ok (cutA_ok h)
 ·exact cutT_ok h
 ·exact cutA_ok h
 ·exact h
theorem pref_okc {s : Int} {cs : List CallV} (h : ∀ c ∈ cs, c.Ok) : ∀ c ∈ prefS s cs, c.Ok := fun c hc => by
 unfold prefS at hc
 obtain ⟨d, hd, rfl⟩ := List.mem_map.1 hc
 have := cutV_ok (s := s) (h d (List.mem_filter.1 hd).1)
 exact ⟨this.i0, this.i1, this.a0, this.a1, this.s0, this.s1, this.t0, this.t1, this.r0, this.r1, this.kd, this.id, this.gr, this.sl, this.at_, this.nn⟩
theorem LawW.prefix {w W : World} {c : CfgV} {p : Option Addr} {cap : Nat} {cs : List CallV} (h : LawW w W c p cap cs) (s : Int) : Calls Tryz.prog 33 #[.int .i64 s, .slice p cs.length cap] W fun e W' =>
  ((checkP cs).2 = 22 ∧ e = .returned (.tuple #[.slice none 0 0, .int .i64 22]) ∧ Below W.heap.size W W') ∨
  ((checkP cs).2 = 0 ∧ s < -1 ∧ e = .returned (.tuple #[.slice none 0 0, .int .i64 3]) ∧ Below W.heap.size W W') ∨
  ((checkP cs).2 = 0 ∧ -1 ≤ s ∧ ∃ p2 cap2 hs, e = .returned (.tuple #[.slice p2 hs.length cap2, .int .i64 0]) ∧ hs.map CallV.pure = prefS s cs ∧ HRow W' p2 cap2 hs ∧ Below W.heap.size W W') := by
 refine (prefix_any p cap s cs W h.row.row (by have := h.row.len; omega) h.row.ok h.row.dat).mono ?_
 rintro e W' (h1 | h1 | ⟨h1, h2, v, he, hO, hb⟩)
 ·exact .inl h1
 ·exact .inr (.inl h1)
 ·obtain ⟨p2, cap2, hs, rfl, hm, hR⟩ := hrow_of hO (pref_okc h.row.ok) (Nat.le_trans (pref_len s cs) h.row.len)
  exact .inr (.inr ⟨h1, h2, p2, cap2, hs, he, hm, hR, hb⟩)
attribute [local irreducible] cfgL
end Go.Proofs.YtdeiocppghhfdaaGreat.Lin
namespace Go.Proofs.YtdeiocppghhfdaaGreat.Lin
open Go.RowKit Go.Lib Go.Shelf
open Hs
open KitI (iv IRow own_below)
attribute [local go_sem, local simp] Hs.callL_0 Hs.callL_1 Hs.callL_2 Hs.callL_3 Hs.callL_4 Hs.callL_5 Hs.callL_6 Hs.callL_7 Hs.callL_8 Hs.callL_9 Hs.callL_10 Hs.callL_11 Hs.callL_12 Hs.callL_13 Hs.callL_14 Hs.callL_15 Hs.callL_16 Hs.callL_17 Hs.callL_18 Hs.callL_19 Hs.callL_20 Hs.callL_21 Hs.callL_22 Hs.callL_23 Hs.callL_24 Hs.callL_25 Hs.callL_26 Hs.resL_0 Hs.resL_1 Hs.resL_2 Hs.resL_3 Hs.resL_4 Hs.resL_5 Hs.resL_6 Hs.resL_7 Hs.resL_8 Hs.resL_9 Hs.resL_10 Hs.resL_11 Hs.resL_12 Hs.callG_0 Hs.callG_1 Hs.callG_2 Hs.callG_3 Hs.callG_4 Hs.callG_5 Hs.callG_6 Hs.callG_7 Hs.callG_8 Hs.callG_9 Hs.callG_10 Hs.callG_11 Hs.callG_12 Hs.callG_13 Hs.callG_14 Hs.callG_15 Hs.callG_16 Hs.callG_17 Hs.callG_18 Hs.callG_19 Hs.callG_20 Hs.callG_21 Hs.callG_22 Hs.callG_23 Hs.callG_24 Hs.callG_25 Hs.callG_26 Hs.resG_0 Hs.resG_1 Hs.resG_2 Hs.resG_3 Hs.resG_4 Hs.resG_5 Hs.resG_6 Hs.resG_7 Hs.resG_8 Hs.resG_9 Hs.resG_10 Hs.resG_11 Hs.resG_12 Hs.callL_len Hs.resL_len
attribute [local go_sem ↓] Hs.loadCall_eq Hs.loadRes_eq
attribute [local go_sem] Hs.ld_new Hs.ld_first Hs.ld_second Hs.ldr_new Hs.st_new
attribute [local go_sem ↓] loadCfg_eq
attribute [local go_sem, local simp] cfgL_len cfgL_ne
theorem callsL_pre (cs : List CallV) (n j : Nat) (u : Value) (h : (callsL (cs.take n))[j]? = some u) : (callsL cs)[j]? = some u := by
 have e : callsL cs = callsL (cs.take n) ++ callsL (cs.drop n) := by
  unfold callsL
  rw [← List.flatMap_append, List.take_append_drop]
 rw [e, List.getElem?_append_left (List.getElem?_eq_some_iff.1 h).1]
 exact h
theorem hrow_take {W : World} {p : Option Addr} {cap : Nat} {cs : List CallV} (h : HRow W p cap cs) (n : Nat) : HRow W p cap (cs.take n) := by
 refine ⟨?_, fun c hc => h.dat c (List.mem_of_mem_take hc), fun c hc => h.ok c (List.mem_of_mem_take hc), by rw [List.length_take]; have := h.len; omega⟩
 rcases h.row with ⟨h1, h2, h3⟩ | ⟨b, off, h1, h2, h3, h4⟩
 ·exact .inl ⟨h1, h2, by rw [h3]; simp⟩
 ·exact .inr ⟨b, off, h1, by rw [List.length_take]; omega, h3, fun j u hj => h4 j u (callsL_pre cs n j u hj)⟩
theorem crow_cap {W : World} {p : Option Addr} {cap : Nat} {cs : List CallV} (h : CRow W p cap cs) : cs.length ≤ cap := by
 rcases h with ⟨h1, h2, h3⟩ | ⟨b, off, h1, h2, h3, h4⟩
 ·rw [h3]; simp
 ·exact h2
theorem own_capx {W : World} {base sz n q : Nat} {e : TypeId} {a : Option Addr} {xs : List Value} (h : W.ownsRow base e sz (.slice a n q) n xs) : n ≤ q := by
 rcases h.2 with ⟨_, h2⟩ | ⟨g, cap', cur, h1, h2, h3, h4, _⟩
 ·omega
 ·injection h1 with _ _ h9
  omega
theorem SRow.take {W : World} {a : Option Addr} {q n : Nat} {ts : List ByteArray} (h : SRow W (.slice a ts.length q) ts) (hn : n ≤ ts.length) : SRow W (.slice a n q) (ts.take n) := by
 rcases h with ⟨h1, rfl⟩ | ⟨b, off, c, h1, h2⟩
 ·have : n = 0 := by simpa using hn
  subst this
  exact .inl ⟨h1, rfl⟩
 ·injection h1 with h1 _ h3
  subst h1 h3
  refine .inr ⟨b, off, q, by rw [List.length_take, Nat.min_eq_left hn], fun j u hj => h2 j u ?_⟩
  rw [List.getElem?_take] at hj
  split at hj
  ·exact hj
  ·cases hj
attribute [local irreducible] cfgL
theorem walkWitnessPrefixes (c : CfgV) (p : Option Addr) (cap : Nat) (cs : List CallV) (s : Int) (w : World) (hA : ArgRow w p cs) (hw : -9223372036854775808 ≤ s ∧ s ≤ 9223372036854775807) :
  Calls Tryz.prog 15 #[.agg (cfgL c).toArray, .slice p cs.length cap, .int .i64 s] w fun e w' => e = .returned (.bool true) ∧ Below w.heap.size w w' := by
 have hB0 : Below w.heap.size w (w.alloc (.cells (cfgL c).toArray tCfg)) := (Below.refl _ _).alloc (Nat.le_refl _) _
 have hz0 := blk_new w (cfgL c) tCfg
 have hl0 := ld_cfg hz0
 go_enter Tryz.func15, Tryz.ntmps15
 go_wp2_with fail
 refine (small35_l c _).mono ?_
 rintro e w1 ⟨rfl, hb1⟩
 have hz1 := blk_below hz0 hb1 (by simp)
 have hs1 := st_cfg hz1 (by simp [cfgL_len]) (smallC 200 c)
 have hz2 := setRow_heap _ _ _ (cfgL (smallC 200 c)).toArray _ _ hz1
 have hB1 : Below w.heap.size w (w1.setRow w.heap.size (cfgL (smallC 200 c)).toArray) := below_row (hB0.trans (hb1.mono hB0.size)) (Nat.le_refl _) _
 clear hl0 hz0 hb1 hz1
 generalize smallC 200 c = C at *
 go_wp2_with fail
 refine (few_h p cap cs _ (hA.on hB1)).mono ?_
 rintro e w3 ⟨p', cap', hs0, rfl, hpure, hrow, hb3⟩
 have hL0 : LawW w w3 C p' cap' hs0 := ⟨hB1.trans (hb3.mono hB1.size), blk_below hz2 hb3 (Array.getElem?_eq_some_iff.1 hz2).1, hrow⟩
 have hL : LawW w w3 C p' cap' (hs0.take 16) := ⟨hL0.bl, hL0.box, hrow_take hrow 16⟩
 have hcap := crow_cap hrow.row
 have hm0 : 0 ≤ min (hs0.length : Int) 16 := by omega
 have hm1 : min (hs0.length : Int) 16 ≤ cap' := by omega
 have hmn : (min (hs0.length : Int) 16).toNat = (hs0.take 16).length := by rw [List.length_take]; omega
 clear hs1 hz2 hB1 hb3 hrow hpure hA hL0
 generalize hs0.take 16 = hs at *
 have hld := hL.ld
 have hlw := fun (h : -1 ≤ s) (h1 : (perfC C hs).2 = 0) (h2 : List CallV) (hm : h2.map CallV.pure = prefS s hs) => wprefix (c := C) h h1 hm
 have hck := fun (h1 : (perfC C hs).2 = 0) => perfC_check h1
 have hF := hL.wcheck
 have hTx := fun W (h : LawW w W C p' cap' hs) => h.wtexts
 unfold TxtPost at hTx
 generalize (perfC C hs).1 = at_ at *
 generalize (perfC C hs).2 = er at *
 go_wp2_with fail
 refine hF.mono ?_
 rintro e w4 ⟨rfl, hb⟩
 have hL4 := hL.on hb
 have hld := hL4.ld
 clear hb hF hL
 by_cases he : er = 0
 ·subst he
  have hP := hL4.prefix s
  go_wp2_with fail
  refine hP.mono ?_
  clear hP
  rintro e w5 (⟨h22, -, -⟩ | ⟨-, hlt, rfl, hb⟩ | ⟨-, hs0, p2, cap2, h2, rfl, hm, hR, hb⟩)
  ·rw [hck (by first | rfl | trivial)] at h22; cases h22
  ·have hL5 := hL4.on hb
   have hd : decide (s < -1) = true := decide_eq_true hlt
   clear hb hlw hL4 hTx hck
   go_wp2_with fail
   refine hL5.awake35.mono ?_
   rintro e w9 ⟨rfl, hb⟩
   go_wp2_with fail
   go_returns
   exact ⟨rfl, hb⟩
  ·have hL5 := hL4.on hb
   have hld := hL5.ld
   obtain ⟨l1, l2, l3, l4⟩ := hlw hs0 (by first | rfl | trivial) h2 hm
   have hY24 := hL5.row.len
   have hL2 : LawW w w5 C p2 cap2 h2 := ⟨hL5.bl, hL5.box, hR⟩
   have hC := hL2.wcheck
   have hT2 := fun W (h : LawW w W C p2 cap2 h2) => h.wtexts
   have hF2 := fun W (h : LawW w W C p2 cap2 h2) => h.wfinal
   unfold TxtPost at hT2
   unfold FinPost at hF2
   rw [l1] at hC
   simp only [l1] at hT2 hF2
   obtain ⟨N, hN⟩ : ∃ N, (lastC C h2).number = N := ⟨_, rfl⟩
   rw [hN] at l2
   simp only [hN] at hF2
   have hXY := l3.length_le
   have htk : (textsC C hs).take (textsC C h2).length = textsC C h2 := (List.prefix_iff_eq_take.1 l3).symm
   generalize textsC C h2 = X at *
   generalize textsC C hs = Y at *
   generalize (lastC C h2).text = tx at *
   generalize (lastC C h2).marks = mk at *
   have h25 : Y.length ≤ 25 := by omega
   have H25 := Lib.hid h25
   clear hlw hck l1 l3 hN hm hR hb hL4 l4 h25 hY24
   have Htk := Lib.hid htk
   have HXY := Lib.hid hXY
   have Hl2 := Lib.hid l2
   clear htk hXY l2
   go_wp2_with fail
   refine hC.mono ?_
   rintro e w6 ⟨rfl, hb⟩
   have hL6 := hL5.on hb
   have hP6 := hL2.on hb
   have hld := hL6.ld
   clear hb hC hL5 hL2
   go_wp2_with fail
   refine (hT2 _ hP6).mono ?_
   clear hT2
   rintro e w7 (⟨h, _⟩ | ⟨_, vx, rfl, hX, hb⟩)
   ·exact absurd rfl h
   have hL7 := hL6.on hb
   have hP7 := hP6.on hb
   have hld := hL7.ld
   clear hb hL6 hP6
   obtain ⟨ax, qx, rfl⟩ := own_slice hX
   go_wp2_with fail
   refine (hTx _ hL7).mono ?_
   clear hTx
   rintro e w8 (⟨h, _⟩ | ⟨_, vy, rfl, hY, hb⟩)
   ·exact absurd rfl h
   have hL8 := hL7.on hb
   have hP8 := hP7.on hb
   have hld := hL8.ld
   have hX8 := (SRow.own hX rfl).on hb
   clear hb hL7 hP7 hX
   obtain ⟨ay, qy, rfl⟩ := own_slice hY
   have hqy := own_capx hY
   have hY8 := SRow.own hY rfl
   clear hY
   go_wp2_with fail
   refine (hF2 _ hP8).mono ?_
   clear hF2
   rintro e w9 (⟨h, _⟩ | ⟨_, vm, rfl, hM, hb⟩)
   ·exact absurd rfl h
   have hL9 := hL8.on hb
   have hX9 := hX8.on hb
   have hY9 := (hY8.take HXY.out).on hb
   rw [Htk.out] at hY9
   clear hb hL8 hP8 hX8 hY8 hM
   have hE := eqs_any w9 _ _ X X hX9 hY9 (by have := H25.out; have := HXY.out; omega) (by have := H25.out; have := HXY.out; omega)
   rw [decide_eq_true rfl] at hE
   have d1 : ((X.length : Int) == N + 1) = true := by rw [Hl2.out]; simp
   have wN : IntKind.i64.wrap (N + 1) = N + 1 := IntWalk.i64_in _ (by have := Hl2.out; have := HXY.out; have := H25.out; omega)
   have d2 : decide ((X.length : Int) ≤ (Y.length : Int)) = true := decide_eq_true (by have := HXY.out; omega)
   have m0 : 0 ≤ min (X.length : Int) (Y.length : Int) := by omega
   have m1 : min (X.length : Int) (Y.length : Int) ≤ qy := by have := HXY.out; omega
   have mn : (min (X.length : Int) (Y.length : Int)).toNat = X.length := by have := HXY.out; omega
   clear hX9 hY9
   go_wp2_with fail
   refine hE.mono ?_
   rintro e w10 ⟨rfl, hb⟩
   have hL10 := hL9.on hb
   clear hb hE hL9
   go_wp2_with fail
   refine hL10.awake35.mono ?_
   rintro e w11 ⟨rfl, hb⟩
   go_wp2_with fail
   go_returns
   exact ⟨rfl, hb⟩
 ·have de : (er != 0) = true := by simpa using he
  clear he hlw hck hTx
  go_wp2_with fail
  refine hL4.awake35.mono ?_
  rintro e w9 ⟨rfl, hb⟩
  go_wp2_with fail
  go_returns
  exact ⟨rfl, hb⟩
end Go.Proofs.YtdeiocppghhfdaaGreat.Lin
namespace Go.Proofs.YtdeiocppghhfdaaGreat.witnessPrefixes
open Go.ChangeShapes Go.WideShapes Go.ChangeAt Go.RowKit
open Go.ChangeMaps (open_string shut_string)
open Lin Hs
set_option linter.unusedVariables false
theorem lifted (os : Os) (started : os.Started) (H : Type) (enc : TypeId × Value → H) :
    ReturnsInHanded {} Tryz.checked os 15 .any (Rows.witnessPrefixesSpec.pre6 enc Tryz.prog Tryz.f15 Rows.witnessPrefixesRow.domain false) (Rows.witnessPrefixesSpec.post enc Tryz.prog Tryz.f15 false true false false) := by
  refine returnsInHanded_of_change_sized (C := Tryz.checked) own started (by kernel_rfl) Tryz.func15
    (ChangeSpec.witness6 (enc := enc) (C := Tryz.checked) false ⟨#[], #[.agg #[.int .i64 0, .int .u64 0, .int .i64 0, .int .i64 0, .int .i64 0, .int .i64 0, .int .i64 0, .string ⟨#[]⟩], .slice none 0 0, .int .i64 0], []⟩ 8 (by kernel_rfl) (by kernel_rfl) (by kernel_rfl) (by kernel_rfl)) ?_
  intro W base args ds gs before hval0 hW hcnd hsz0 _
  have hval : ∀ (j : Nat) t v, Tryz.f15.params[j]? = some t → args[j]? = some v → Value.okWide Tryz.prog W .any base t v := hval0
  have hW' := hW
  obtain ⟨p, q, hA0, hV, rfl, hfz, hnd⟩ := hW
  have hA : DataW.TrodAll enc Tryz.prog W 0 (fun _ => true) true Tryz.f15.params.toList args.toList ds p := hA0
  rw [Tryz.params15] at hA hval
  obtain ⟨v0, vs0, d0, ds0, p0, q0, hargs, rfl, rfl, h0, r0⟩ := trodAll_cons hA
  obtain ⟨v1, vs1, d1, ds1, p1, q1, rfl, rfl, rfl, h1, r1⟩ := trodAll_cons r0
  obtain ⟨v2, vs2, d2, ds2, p2, q2, rfl, rfl, rfl, h2, r2⟩ := trodAll_cons r1
  obtain ⟨rfl, rfl, rfl⟩ := trodAll_nil r2
  obtain rfl : args = #[v0, v1, v2] := by cases args; simp_all
  obtain ⟨rfl, rfl⟩ := trodVars_none hV
  obtain ⟨c0, rfl⟩ := open_cfg (hval 0 24 v0 rfl rfl) h0
  obtain ⟨q1, c1, l1, rfl, w1⟩ := open_calls (hval 1 25 v1 rfl rfl) h1
  obtain ⟨a2, rfl, rfl, rfl, w2⟩ := open_int Tryz.underlying3 (hval 2 3 v2 rfl rfl) h2
  clear hA0 hval0
  (try simp only [List.append_nil, List.nil_append] at hW')
  refine (walkWitnessPrefixes c0 q1 c1 l1 a2 W w1 (wf64 w2)).mono fun e W' ⟨he, hg⟩ => ?_
  subst he
  have hlt0 : ∀ x ∈ p0, x.block < W.heap.size := fun x hx => hW'.lt x (by simp [hx])
  have hlt1 : ∀ x ∈ p1, x.block < W.heap.size := fun x hx => hW'.lt x (by simp [hx])
  exact ⟨_, rfl, post_of_below (pa := (p0 ++ (p1 ++ ([] ++ [])))) (pv := []) hW' (fun _ _ _ => (trodAll_cons_mk (shut_bool Tryz.underlying4 _) trodAll_mk0)) (fun sp hsp => (trodAll_cons_mk (WideElems.Trod_stays (by kernel_rfl) (by kernel_rfl) (of_decide_eq_true (by kernel_rfl)) h0 (fun x hx => hg.same (hlt0 x hx)) (fun x hx => hsp x (by simp [hx]))) (trodAll_cons_mk (WideElems.Trod_stays (by kernel_rfl) (by kernel_rfl) (of_decide_eq_true (by kernel_rfl)) h1 (fun x hx => hg.same (hlt1 x hx)) (fun x hx => hsp x (by simp [hx]))) (trodAll_cons_mk (shut_int Tryz.underlying3 w2) trodAll_mk0)))) (fun _ _ => rfl) (by simp)
    hg (ok_one (by kernel_rfl) rfl (okWide_bool_mk Tryz.underlying4 _))⟩
theorem facts : joinedFacts Tryz.prog 15 Tryz.f15 Rows.witnessPrefixesSpec Rows.witnessPrefixesRow = true := by
  unfold joinedFacts
  simp only [Bool.and_eq_true]
  repeat' apply And.intro
  all_goals (as_aux_lemma => kernel_rfl)
theorem proved : Rows.WitnessPrefixesSaid :=
  OpenClaim.holds_of_wide 15 Tryz.f15 rfl rfl rfl rfl rfl rfl rfl ⟨rfl, rfl, rfl, rfl, rfl⟩ rfl rfl rfl rfl rfl (by kernel_rfl) Tryz.func15 facts
    (of_decide_eq_true (by kernel_rfl)) (by unfold Func.isWrapper; first | (rw [if_pos (by decide +kernel)]; kernel_rfl) | (rw [if_neg (by decide +kernel)]; exact ⟨rfl, rfl⟩))
    (fun os started H enc _ => lifted os started H enc)
#print axioms proved
end Go.Proofs.YtdeiocppghhfdaaGreat.witnessPrefixes
