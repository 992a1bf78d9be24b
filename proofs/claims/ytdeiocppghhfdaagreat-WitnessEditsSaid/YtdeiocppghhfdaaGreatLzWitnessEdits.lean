/- WitnessEdits: the law returns true for every input, and leaves its arguments as they were. -/
import Derived.Test.YtdeiocppghhfdaaGreatZcaa
import Derived.Test.YtdeiocppghhfdaaGreatZcha
import Derived.Test.YtdeiocppghhfdaaGreatZcab
import Derived.Test.YtdeiocppghhfdaaGreatZcac
import Derived.Test.YtdeiocppghhfdaaGreatZcad
import Derived.Test.YtdeiocppghhfdaaGreatZcae
import Derived.Test.YtdeiocppghhfdaaGreatZcaf
import Derived.Test.YtdeiocppghhfdaaGreatZcag
import Derived.Test.YtdeiocppghhfdaaGreatZcah
import Derived.Test.YtdeiocppghhfdaaGreatZcai
import Derived.Test.YtdeiocppghhfdaaGreatZcaj
import Derived.Test.YtdeiocppghhfdaaGreatZcak
import Derived.Test.YtdeiocppghhfdaaGreatZcal
import Derived.Test.YtdeiocppghhfdaaGreatZcam
import Derived.Test.YtdeiocppghhfdaaGreatZcan
import Derived.Test.YtdeiocppghhfdaaGreatZcao
import Derived.Test.YtdeiocppghhfdaaGreatZcap
import Derived.Test.YtdeiocppghhfdaaGreatZcaq
import Derived.Test.YtdeiocppghhfdaaGreatZcar
import Derived.Test.YtdeiocppghhfdaaGreatZcas
import Derived.Test.YtdeiocppghhfdaaGreatZcat
import Derived.Test.YtdeiocppghhfdaaGreatZcau
import Derived.Test.YtdeiocppghhfdaaGreatZcav
import Derived.Test.YtdeiocppghhfdaaGreatZcaw
import Derived.Test.YtdeiocppghhfdaaGreatZcax
import Derived.Test.YtdeiocppghhfdaaGreatZcay
import Derived.Test.YtdeiocppghhfdaaGreatZcaz
import Derived.Test.YtdeiocppghhfdaaGreatZcba
import Derived.Test.YtdeiocppghhfdaaGreatZcbb
import Derived.Test.YtdeiocppghhfdaaGreatZcbc
import Derived.Test.YtdeiocppghhfdaaGreatZcbd
import Derived.Test.YtdeiocppghhfdaaGreatZcbe
import Derived.Test.YtdeiocppghhfdaaGreatZcbf
import Derived.Test.YtdeiocppghhfdaaGreatZcbg
import Derived.Test.YtdeiocppghhfdaaGreatZcbh
import Derived.Test.YtdeiocppghhfdaaGreatZcbi
import Derived.Test.YtdeiocppghhfdaaGreatZcbj
import Derived.Test.YtdeiocppghhfdaaGreatZcbk
import Derived.Test.YtdeiocppghhfdaaGreatZcbl
import Derived.Test.YtdeiocppghhfdaaGreatZcbm
import Derived.Test.YtdeiocppghhfdaaGreatZcbn
import Derived.Test.YtdeiocppghhfdaaGreatZcbo
import Derived.Test.YtdeiocppghhfdaaGreatZcbp
import Derived.Test.YtdeiocppghhfdaaGreatZcbq
import Derived.Test.YtdeiocppghhfdaaGreatZcbr
import Derived.Below
import Derived.ChangeSame
import Derived.WalkKit
import Derived.ProofKit
import Derived.OpenShut
import Derived.ShutString
import Derived.SizedLaws
import Derived.Deep.Slices
import Derived.Deep.RegionHeld3
import Derived.Laws.CopyRow
import Derived.Deep.LoopGhost
import Derived.IntWalk
import Derived.WalkSpells
import Derived.WalkLawsBesides
import Derived.Lib.Hide
import Derived.Handy
import Derived.Deep.QuietTactic
import Derived.BigQuiet
import Derived.Deep.MidRow
import Derived.Deep.WholeRow
import Derived.RangeFuncNested
import Derived.RangeFuncBound
import Derived.RangeFuncCalls
import Derived.RangeFuncLeaves
import Derived.RangeFuncFrom
import Derived.Shelf.Abstract
import Derived.Shelf.RegionOpen
import Derived.OwnWalkIn
import Derived.TacticsInMore
import Derived.LoopNIn
import Derived.LoopIn
import Derived.Deep.AppendLies
import Derived.RangeFuncBox
import Derived.Maps.AppendAt
import Derived.Shelf.SlSortCmp.Whole1
import Derived.Sort.OwnSortedInts
import Derived.Lib.RowBridge
import Derived.OrdersIn
import Derived.Shelf.Spec.SlicesInsertGrow
import Derived.Lib.AppendZerosOnto
import Derived.Lib.Overlaps
import Derived.Laws.Externs
import Derived.ArgAppend
import Derived.Shelf.SlicesQ.IndexFunc
import Derived.Shelf.SlSorted.Search
import Derived.OwnWalk
import Derived.Deep.RegionLaw
import Derived.BigRegion
import Derived.Laws.AppendOwn
import Derived.Lib.Strings
import Derived.Lib.IndexBytes
import Derived.Laws.IdiomStrings
import Derived.Shelf.Strings.BuilderK
import Derived.Laws.OwnMore
import Derived.WideMake
import Derived.Deep.CutRange
import Derived.Deep.CutBlock
import Derived.Laws.EntriesVeiled
import Derived.Carry
import Derived.DeepKeys4
import Derived.Maps.Own
import Derived.Maps.OwnOps
import Derived.Laws.BytesString
import Derived.Lib.AppendStr
import Derived.WalkMore
import Derived.Scope
import Derived.OrdersHeld
set_option linter.unusedVariables false
set_option linter.unusedSimpArgs false
set_option maxRecDepth 100000
set_option maxHeartbeats 8000000
namespace Go.Proofs.YtdeiocppghhfdaaGreat
open Go.RowKit Go.WideShapes Go.ChangeShapes
section
variable {H : Type} {enc : TypeId × Value → H} {P : Program}
theorem post_of_below {f : Func} {s : ChangeSpec} {apart fresh handsOn again : Bool} {W W' : World} {args : Array Value} {v : Value} {ds gs : List (DataW H)} {before pa pv : List MemPlace}
  (hW : DataW.Whole enc P f.params.toList s.vars apart W args.toList ds gs before)
  (hres : ∀ (b : Nat) (sp : Nat → Bool) (hd : Bool), DataW.TrodAll enc P W' b sp hd f.resultTypes.toList (v.resultList f.resultTypes.size) (s.fn H (ds ++ gs)).results [])
  (hargs : ∀ sp : Nat → Bool, (∀ p ∈ before, sp p.block = true) → DataW.TrodAll enc P W' 0 sp true f.params.toList args.toList (s.fn H (ds ++ gs)).args pa)
  (hvars : ∀ sp : Nat → Bool, (∀ p ∈ before, sp p.block = true) → DataW.TrodVars enc P W' sp s.vars (s.fn H (ds ++ gs)).vars pv)
  (hps : before = pa ++ pv) (hb : Below W.heap.size W W')
  (hok : ∀ (j : Nat) (t : TypeId) (r : Value), f.resultTypes[j]? = some t → (v.resultList f.resultTypes.size)[j]? = some r → Value.okWide P W' .any 0 t r) :
  s.post enc P f apart fresh handsOn again W args v W' := by
 have hlt : ∀ p ∈ before, p.block < W.heap.size := fun p hp => hW.lt p hp
 have hold : ∀ p ∈ before, (fun b => decide (b < W.heap.size)) p.block = true := fun p hp => by simpa using hlt p hp
 refine ⟨ds, gs, before, [], pa, pv, hW, hres _ _ _, hargs _ hold, hvars _ hold, World.keptBut_mono (fun p hp => ⟨hp, ?_⟩) (hb.frame (· ∈ before)), fun _ => ?_⟩
 ·rw [hps, List.mem_append] at hp
  exact Or.inr hp
 ·obtain ⟨_, _, _, _, _, hz, hn⟩ := hW
  refine ⟨hok, _, _, ([] ++ pa) ++ pv, ⟨[] ++ pa, pv, trodAll_append (hargs _ (fun _ _ => rfl)) (hres _ _ _), hvars _ (fun _ _ => rfl), rfl, ?_, ?_⟩, ?_⟩
  ·intro b off hp
   have hin : MemPlace.cell b off ∈ before := by rw [hps]; simpa using hp
   rw [hb.frozen (hlt _ hin)]
   exact hz b off hin
  ·intro ha
   have := hn ha
   rw [hps] at this
   simpa using this
  ·intro p hp _
   rw [hps]
   simpa using hp
end
end Go.Proofs.YtdeiocppghhfdaaGreat
namespace Go.Proofs.YtdeiocppghhfdaaGreat
open Go.RowKit Go.WideShapes Go.ChangeShapes Go.Deep
section
variable {H : Type} {enc : TypeId × Value → H} {P : Program} {w : World} {base : Nat} {spare : Nat → Bool} {held : Bool}
theorem field_of {t : TypeId} {fs : Array Field} {fuel : Nat} {cs : List Value} {x : DataW H × List MemPlace} (hs : P.underlying t = some (.struct fs)) (h : DataW.trod enc P w base spare held fuel t cs = some x) (i : Nat) (f : Field) (hf : fs[i]? = some f) :
  ∃ n y, DataW.trod enc P w base spare held n f.type ((cs.drop f.offset).take (P.cellsOf f.type)) = some y := by
 obtain ⟨xs, n, _, _, _, hl, hx⟩ := DataW.trod_struct hs h
 have h1 := hx i f hf
 have hlt := (Array.getElem?_eq_some_iff.1 hf).1
 rw [List.getElem?_eq_getElem (by omega)] at h1
 exact ⟨n, _, h1⟩
theorem cell_of {cs : List Value} {k m : Nat} {v : Value} (h : (cs.drop k).take m = [v]) : cs[k]? = some v := by
 have h1 : ((cs.drop k).take m)[0]? = some v := by rw [h]; rfl
 rw [List.getElem?_take] at h1
 split at h1
 ·rwa [List.getElem?_drop, Nat.add_zero] at h1
 ·cases h1
theorem int_cell {t : TypeId} {κ : IntKind} {fuel k m : Nat} {cs : List Value} {x : DataW H × List MemPlace} (ht : P.underlying t = some (.int κ)) (h : DataW.trod enc P w base spare held fuel t ((cs.drop k).take m) = some x) : ∃ z, cs[k]? = some (.int κ z) ∧ (Lit.int κ z).wf = true := by
 obtain ⟨z, h1, _, h2⟩ := DataW.trod_int ht h
 exact ⟨z, cell_of h1, h2⟩
theorem str_cell {t : TypeId} {fuel k m : Nat} {cs : List Value} {x : DataW H × List MemPlace} (ht : P.underlying t = some .string) (h : DataW.trod enc P w base spare held fuel t ((cs.drop k).take m) = some x) : ∃ z, cs[k]? = some (.string z) := by
 obtain ⟨z, h1, _, _⟩ := DataW.trod_string ht h
 exact ⟨z, cell_of h1⟩
theorem part_cell {cs : List Value} {o m k : Nat} {v : Value} (h : ((cs.drop o).take m)[k]? = some v) : cs[o + k]? = some v := by
 rw [List.getElem?_take] at h
 split at h
 ·rwa [List.getElem?_drop] at h
 ·cases h
theorem rows_of {α : Type} (f : α → List Value) (k : Nat) (hk : ∀ x, (f x).length = k) (a : Addr) (Q : α → Prop) : ∀ (n : Nat), (∀ i, i < n → ∃ x, w.cells? base (a.add (i * k)) k = some (f x) ∧ Q x) →
  ∃ xs : List α, xs.length = n ∧ (∀ x ∈ xs, Q x) ∧ ∀ j u, (xs.flatMap f)[j]? = some u → w.cell? (a.add j) = some u
 | 0, _ => ⟨[], rfl, fun _ h => by (cases h), fun j u h => by simp at h⟩
 | n + 1, h => by
  obtain ⟨xs, hl, hQ, hx⟩ := rows_of f k hk a Q n (fun i hi => h i (by omega))
  obtain ⟨x, hc, hq⟩ := h n (by omega)
  obtain ⟨_, hlen, hcell⟩ := World.cells?_some hc
  have hfl : (xs.flatMap f).length = n * k := by
   clear hx h
   rw [← hl]
   clear hl hQ
   induction xs with
   | nil => simp
   | cons y ys ih => rw [List.flatMap_cons, List.length_append, ih, hk, List.length_cons, Nat.succ_mul]; omega
  refine ⟨xs ++ [x], by simp [hl], fun y hy => ?_, fun j u hj => ?_⟩
  ·rcases List.mem_append.1 hy with h | h
   ·exact hQ y h
   ·rw [List.mem_singleton.1 h]; exact hq
  ·rw [List.flatMap_append] at hj
   by_cases hlt : j < n * k
   ·rw [List.getElem?_append_left (by omega)] at hj
    exact hx j u hj
   ·rw [List.getElem?_append_right (by omega), hfl] at hj
    have hj2 : (f x)[j - n * k]? = some u := by simpa using hj
    have hlt2 : j - n * k < k := by
     have := (List.getElem?_eq_some_iff.1 hj2).1
     rwa [hk] at this
    have := hcell (j - n * k) hlt2
    rw [hj2, Deep.add_add, show n * k + (j - n * k) = j from by omega] at this
    exact this
theorem wf64 {z : Int} (h : (Lit.int .i64 z).wf = true) : -9223372036854775808 ≤ z ∧ z ≤ 9223372036854775807 := by
 simp only [Lit.wf, Bool.and_eq_true, decide_eq_true_eq] at h
 exact h
theorem wf8 {z : Int} (h : (Lit.int .u8 z).wf = true) : 0 ≤ z ∧ z ≤ 255 := by
 simp only [Lit.wf, Bool.and_eq_true, decide_eq_true_eq] at h
 exact h
theorem wf32 {z : Int} (h : (Lit.int .u32 z).wf = true) : 0 ≤ z ∧ z ≤ 4294967295 := by
 simp only [Lit.wf, Bool.and_eq_true, decide_eq_true_eq] at h
 exact h
end
end Go.Proofs.YtdeiocppghhfdaaGreat
namespace Go.Proofs.YtdeiocppghhfdaaGreat.Hs
open Go.RowKit Go.WideShapes Go.ChangeShapes Go.Deep
section
variable {H : Type} {enc : TypeId × Value → H} {w : World} {base : Nat} {spare : Nat → Bool} {held : Bool}
theorem piece_cells {fuel : Nat} {cs : List Value} {x : DataW H × List MemPlace} (h : DataW.trod enc Tryz.prog w base spare held fuel 94 cs = some x) : ∃ p : PieceV, cs = pieceL p := by
 have hlen : cs.length = 3 := by
  obtain ⟨_, _, _, _, hl, _⟩ := DataW.trod_struct Tryz.underlying94 h
  rw [hl]
  kernel_rfl
 obtain ⟨_, _, h0⟩ := field_of Tryz.underlying94 h 0 _ rfl
 obtain ⟨z0, x0, w0⟩ := int_cell Tryz.underlying5 h0
 obtain ⟨_, _, h1⟩ := field_of Tryz.underlying94 h 1 _ rfl
 obtain ⟨z1, x1, w1⟩ := int_cell Tryz.underlying3 h1
 obtain ⟨_, _, h2⟩ := field_of Tryz.underlying94 h 2 _ rfl
 obtain ⟨z2, x2⟩ := str_cell Tryz.underlying9 h2
 refine ⟨⟨z0, z1, z2⟩, ?_⟩
 apply List.ext_getElem?
 intro j
 match j with
 | 0 => exact x0
 | 1 => exact x1
 | 2 => exact x2
 | n + 3 => rw [List.getElem?_eq_none (by omega), List.getElem?_eq_none (by rw [pieceL_len]; omega)]
theorem slc_open {fuel k m : Nat} {cs : List Value} {x : DataW H × List MemPlace} (h : DataW.trod enc Tryz.prog w base spare held fuel 47 ((cs.drop k).take m) = some x) : ∃ (a : Option Addr) (n c : Nat) (ps : List PieceV), cs[k]? = some (.slice a n c) ∧ ps.length = n ∧
  ((ps = [] ∧ (a = none → c = 0)) ∨ ∃ b off, a = some ⟨b, off, none⟩ ∧ ps.length ≤ c ∧ ps.length < 9223372036854775808 ∧ b < w.heap.size ∧ ∀ j u, (piecesL ps)[j]? = some u → w.cell? ⟨b, off + j, none⟩ = some u) := by
 rcases open_slice Tryz.underlying47 h with ⟨h1, _⟩ | ⟨a, len, cap, q, n, D, Pl, h1, hb, hlc, hcap, hq, _, hel⟩
 ·exact ⟨_, _, _, [], cell_of h1, rfl, .inl ⟨rfl, fun _ => rfl⟩⟩
 ·have hc3 : Tryz.prog.cellsOf 94 = 3 := by kernel_rfl
  rw [hc3] at hel
  have hlq : len ≤ q := by rw [hq]; split <;> omega
  obtain ⟨ps, hl, _, hcell⟩ := rows_of (w := w) (base := base) pieceL 3 pieceL_len a (fun _ => True) len (fun i hi => by
   obtain ⟨cs', h1, h2⟩ := hel i (by omega)
   obtain ⟨p, rfl⟩ := piece_cells h2
   exact ⟨p, h1, trivial⟩)
  refine ⟨_, _, _, ps, cell_of h1, hl, ?_⟩
  by_cases h0 : ps = []
  ·exact .inl ⟨h0, fun e => by cases e⟩
  ·right
   obtain ⟨b, off, spot⟩ := a
   have hpos : 0 < ps.length := by
    rcases ps with _ | ⟨p, ps⟩
    ·exact absurd rfl h0
    ·simp
   obtain ⟨u, hu⟩ : ∃ u, (piecesL ps)[0]? = some u := ⟨_, List.getElem?_eq_getElem (by rw [piecesL_len]; omega)⟩
   have g0 := hcell 0 u hu
   have hspot : spot = none := by simpa [Addr.add] using World.cell?_spot g0
   subst hspot
   have hblk : b < w.heap.size := by
    have := cell_size g0
    simpa [Addr.add] using this
   have hml : maxLen < 9223372036854775808 := by unfold maxLen; omega
   exact ⟨b, off, rfl, by omega, by omega, hblk, fun j u hj => by have := hcell j u hj; rwa [add_plain] at this⟩
theorem call_open {fuel : Nat} {cs : List Value} {x : DataW H × List MemPlace} (h : DataW.trod enc Tryz.prog w base spare held fuel 56 cs = some x) : ∃ c : CallV, cs = callL c ∧ c.Ok ∧ DRaw w c := by
 have hlen : cs.length = 27 := by
  obtain ⟨_, _, _, _, hl, _⟩ := DataW.trod_struct Tryz.underlying56 h
  rw [hl]
  kernel_rfl
 obtain ⟨_, _, h_0⟩ := field_of Tryz.underlying56 h 0 _ rfl
 obtain ⟨z0, x0, w0⟩ := int_cell Tryz.underlying3 h_0
 obtain ⟨_, _, h_1⟩ := field_of Tryz.underlying56 h 1 _ rfl
 obtain ⟨z1, x1, w1⟩ := int_cell Tryz.underlying3 h_1
 obtain ⟨_, _, h_2⟩ := field_of Tryz.underlying56 h 2 _ rfl
 obtain ⟨_, _, h_2_0⟩ := field_of Tryz.underlying54 h_2 0 _ rfl
 obtain ⟨z2, x2, w2⟩ := int_cell Tryz.underlying5 h_2_0
 replace x2 := part_cell x2
 obtain ⟨_, _, h_2_1⟩ := field_of Tryz.underlying54 h_2 1 _ rfl
 obtain ⟨z3, x3, w3⟩ := int_cell Tryz.underlying3 h_2_1
 replace x3 := part_cell x3
 obtain ⟨_, _, h_2_2⟩ := field_of Tryz.underlying54 h_2 2 _ rfl
 obtain ⟨z4, x4, w4⟩ := int_cell Tryz.underlying3 h_2_2
 replace x4 := part_cell x4
 obtain ⟨_, _, h_2_3⟩ := field_of Tryz.underlying54 h_2 3 _ rfl
 obtain ⟨z5, x5, w5⟩ := int_cell Tryz.underlying3 h_2_3
 replace x5 := part_cell x5
 obtain ⟨_, _, h_2_4⟩ := field_of Tryz.underlying54 h_2 4 _ rfl
 obtain ⟨z6, x6, w6⟩ := int_cell Tryz.underlying52 h_2_4
 replace x6 := part_cell x6
 obtain ⟨_, _, h_2_5⟩ := field_of Tryz.underlying54 h_2 5 _ rfl
 obtain ⟨z7, x7, w7⟩ := int_cell Tryz.underlying5 h_2_5
 replace x7 := part_cell x7
 obtain ⟨_, _, h_2_6⟩ := field_of Tryz.underlying54 h_2 6 _ rfl
 obtain ⟨z8, x8⟩ := str_cell Tryz.underlying9 h_2_6
 replace x8 := part_cell x8
 obtain ⟨_, _, h_3⟩ := field_of Tryz.underlying56 h 3 _ rfl
 obtain ⟨z9, x9, w9⟩ := int_cell Tryz.underlying3 h_3
 obtain ⟨_, _, h_4⟩ := field_of Tryz.underlying56 h 4 _ rfl
 obtain ⟨z10, x10, w10⟩ := int_cell Tryz.underlying3 h_4
 obtain ⟨_, _, h_5⟩ := field_of Tryz.underlying56 h 5 _ rfl
 obtain ⟨z11, x11, w11⟩ := int_cell Tryz.underlying3 h_5
 obtain ⟨_, _, h_6⟩ := field_of Tryz.underlying56 h 6 _ rfl
 obtain ⟨z12, x12, w12⟩ := int_cell Tryz.underlying3 h_6
 obtain ⟨_, _, h_7⟩ := field_of Tryz.underlying56 h 7 _ rfl
 obtain ⟨z13, x13, w13⟩ := int_cell Tryz.underlying3 h_7
 obtain ⟨_, _, h_8⟩ := field_of Tryz.underlying56 h 8 _ rfl
 obtain ⟨_, _, h_8_0⟩ := field_of Tryz.underlying51 h_8 0 _ rfl
 obtain ⟨z14, x14, w14⟩ := int_cell Tryz.underlying29 h_8_0
 replace x14 := part_cell x14
 obtain ⟨_, _, h_8_1⟩ := field_of Tryz.underlying51 h_8 1 _ rfl
 obtain ⟨z15, x15, w15⟩ := int_cell Tryz.underlying3 h_8_1
 replace x15 := part_cell x15
 obtain ⟨_, _, h_8_2⟩ := field_of Tryz.underlying51 h_8 2 _ rfl
 obtain ⟨z16, x16, w16⟩ := int_cell Tryz.underlying3 h_8_2
 replace x16 := part_cell x16
 obtain ⟨_, _, h_8_3⟩ := field_of Tryz.underlying51 h_8 3 _ rfl
 obtain ⟨z17, x17, w17⟩ := int_cell Tryz.underlying3 h_8_3
 replace x17 := part_cell x17
 obtain ⟨_, _, h_8_4⟩ := field_of Tryz.underlying51 h_8 4 _ rfl
 obtain ⟨z18, x18, w18⟩ := int_cell Tryz.underlying5 h_8_4
 replace x18 := part_cell x18
 obtain ⟨_, _, h_8_5⟩ := field_of Tryz.underlying51 h_8 5 _ rfl
 obtain ⟨z19, x19⟩ := str_cell Tryz.underlying9 h_8_5
 replace x19 := part_cell x19
 obtain ⟨_, _, h_8_6⟩ := field_of Tryz.underlying51 h_8 6 _ rfl
 obtain ⟨_, _, h_8_6_0⟩ := field_of Tryz.underlying46 h_8_6 0 _ rfl
 obtain ⟨z20, x20, w20⟩ := int_cell Tryz.underlying3 h_8_6_0
 replace x20 := part_cell x20
 replace x20 := part_cell x20
 obtain ⟨_, _, h_8_6_1⟩ := field_of Tryz.underlying46 h_8_6 1 _ rfl
 obtain ⟨z21, x21, w21⟩ := int_cell Tryz.underlying3 h_8_6_1
 replace x21 := part_cell x21
 replace x21 := part_cell x21
 obtain ⟨_, _, h_8_6_2⟩ := field_of Tryz.underlying46 h_8_6 2 _ rfl
 obtain ⟨z22, x22, w22⟩ := int_cell Tryz.underlying3 h_8_6_2
 replace x22 := part_cell x22
 replace x22 := part_cell x22
 obtain ⟨_, _, h_8_7⟩ := field_of Tryz.underlying51 h_8 7 _ rfl
 obtain ⟨_, _, h_8_7_0⟩ := field_of Tryz.underlying49 h_8_7 0 _ rfl
 obtain ⟨z23, x23, w23⟩ := int_cell Tryz.underlying5 h_8_7_0
 replace x23 := part_cell x23
 replace x23 := part_cell x23
 obtain ⟨_, _, h_8_7_1⟩ := field_of Tryz.underlying49 h_8_7 1 _ rfl
 obtain ⟨z24, x24, w24⟩ := int_cell Tryz.underlying3 h_8_7_1
 replace x24 := part_cell x24
 replace x24 := part_cell x24
 obtain ⟨_, _, h_8_7_2⟩ := field_of Tryz.underlying49 h_8_7 2 _ rfl
 obtain ⟨z25, x25, w25⟩ := int_cell Tryz.underlying3 h_8_7_2
 replace x25 := part_cell x25
 replace x25 := part_cell x25
 obtain ⟨_, _, h_8_7_3⟩ := field_of Tryz.underlying49 h_8_7 3 _ rfl
 obtain ⟨da, ln, dc, ps, x26, hps, hraw⟩ := slc_open h_8_7_3
 replace x26 := part_cell x26
 replace x26 := part_cell x26
 refine ⟨{ thread := z0, index := z1, okind := z2, oslot := z3, oat := z4, on := z5, oid := z6, ograv := z7, otext := z8, invoked := z9, took := z10, rank := z11, answered := z12, steps := z13, err := z14, rev := z15, rslot := z16, rat := z17, rgrav := z18, rtext := z19, mb := z20, mr := z21, ml := z22, ik := z23, ifrom := z24, ito := z25, ps := ps, da := da, dc := dc }, ?_, ⟨(wf64 w9).1, (wf64 w9).2, (wf64 w12).1, (wf64 w12).2, (wf64 w13).1, (wf64 w13).2, (wf64 w10).1, (wf64 w10).2, (wf64 w11).1, (wf64 w11).2, wf8 w2, wf32 w6, (wf8 w7).1, wf64 w3, wf64 w4, wf64 w5⟩, hraw⟩
 apply List.ext_getElem?
 intro j
 match j with
 | 0 => exact x0
 | 1 => exact x1
 | 2 => exact x2
 | 3 => exact x3
 | 4 => exact x4
 | 5 => exact x5
 | 6 => exact x6
 | 7 => exact x7
 | 8 => exact x8
 | 9 => exact x9
 | 10 => exact x10
 | 11 => exact x11
 | 12 => exact x12
 | 13 => exact x13
 | 14 => exact x14
 | 15 => exact x15
 | 16 => exact x16
 | 17 => exact x17
 | 18 => exact x18
 | 19 => exact x19
 | 20 => exact x20
 | 21 => exact x21
 | 22 => exact x22
 | 23 => exact x23
 | 24 => exact x24
 | 25 => exact x25
 | 26 =>
  refine x26.trans ?_
  rw [callL_26]
  rw [hps]
 | n + 27 => rw [List.getElem?_eq_none (by omega), List.getElem?_eq_none (by rw [callL_len]; omega)]
theorem open_calls {b0 : Nat} {v : Value} {d : DataW H} {ps : List MemPlace} (hval : Value.okWide Tryz.prog w .any b0 25 v) (hd : DataW.Trod enc Tryz.prog w base spare held 25 v d ps) : ∃ (p : Option Addr) (cap : Nat) (cs : List CallV), v = .slice p cs.length cap ∧ ArgRow w p cs := by
 obtain ⟨fuel, hf⟩ := hd
 obtain ⟨a0, n0, c0, rfl⟩ := okWide_slice Tryz.underlying25 hval
 rcases open_slice Tryz.underlying25 hf with ⟨h1, _⟩ | ⟨a, len, cap, q, n, D, Pl, h1, hb, hlc, hcap, hq, _, hel⟩
 ·simp [Value.cells] at h1
  obtain ⟨rfl, rfl, rfl⟩ := h1
  exact ⟨none, 0, [], rfl, .inl rfl⟩
 ·simp [Value.cells] at h1
  obtain ⟨rfl, rfl, rfl⟩ := h1
  have hc27 : Tryz.prog.cellsOf 56 = 27 := by kernel_rfl
  rw [hc27] at hel
  have hlq : n0 ≤ q := by rw [hq]; split <;> omega
  obtain ⟨cs, hl, hQ, hcell⟩ := rows_of (w := w) (base := base) callL 27 callL_len a (fun c => c.Ok ∧ DRaw w c) n0 (fun i hi => by
   obtain ⟨cs', h1, h2⟩ := hel i (by omega)
   obtain ⟨c, rfl, hc⟩ := call_open h2
   exact ⟨c, h1, hc⟩)
  refine ⟨_, _, cs, by rw [hl], ?_⟩
  by_cases h0 : cs = []
  ·exact .inl h0
  ·right
   obtain ⟨b, off, spot⟩ := a
   have hpos : 0 < cs.length := by
    rcases cs with _ | ⟨p, cs⟩
    ·exact absurd rfl h0
    ·simp
   obtain ⟨u, hu⟩ : ∃ u, (callsL cs)[0]? = some u := ⟨_, List.getElem?_eq_getElem (by rw [callsL_len]; omega)⟩
   have g0 := hcell 0 u hu
   have hspot : spot = none := by simpa [Addr.add] using World.cell?_spot g0
   subst hspot
   have hblk : b < w.heap.size := by
    have := cell_size g0
    simpa [Addr.add] using this
   have hml : maxLen < 9223372036854775808 := by unfold maxLen; omega
   exact ⟨b, off, rfl, hblk, fun j u hj => by have := hcell j u hj; rwa [add_plain] at this, by omega, hQ⟩
end
end Go.Proofs.YtdeiocppghhfdaaGreat.Hs
namespace Go.Proofs.YtdeiocppghhfdaaGreat
open Go.RowKit Go.WideShapes Go.ChangeShapes Go.Deep
section
variable {H : Type} {enc : TypeId × Value → H} {w : World} {base : Nat} {spare : Nat → Bool} {held : Bool}
theorem cfg_cells {fuel : Nat} {cs : List Value} {x : DataW H × List MemPlace} (h : DataW.trod enc Tryz.prog w base spare held fuel 24 cs = some x) : ∃ c : CfgV, cs = cfgL c := by
 have hlen : cs.length = 8 := by
  obtain ⟨_, _, _, _, hl, _⟩ := DataW.trod_struct Tryz.underlying24 h
  rw [hl]
  kernel_rfl
 obtain ⟨_, _, h_0⟩ := field_of Tryz.underlying24 h 0 _ rfl
 obtain ⟨z0, x0, w0⟩ := int_cell Tryz.underlying3 h_0
 obtain ⟨_, _, h_1⟩ := field_of Tryz.underlying24 h 1 _ rfl
 obtain ⟨z1, x1, w1⟩ := int_cell Tryz.underlying22 h_1
 obtain ⟨_, _, h_2⟩ := field_of Tryz.underlying24 h 2 _ rfl
 obtain ⟨z2, x2, w2⟩ := int_cell Tryz.underlying3 h_2
 obtain ⟨_, _, h_3⟩ := field_of Tryz.underlying24 h 3 _ rfl
 obtain ⟨z3, x3, w3⟩ := int_cell Tryz.underlying3 h_3
 obtain ⟨_, _, h_4⟩ := field_of Tryz.underlying24 h 4 _ rfl
 obtain ⟨z4, x4, w4⟩ := int_cell Tryz.underlying3 h_4
 obtain ⟨_, _, h_5⟩ := field_of Tryz.underlying24 h 5 _ rfl
 obtain ⟨z5, x5, w5⟩ := int_cell Tryz.underlying3 h_5
 obtain ⟨_, _, h_6⟩ := field_of Tryz.underlying24 h 6 _ rfl
 obtain ⟨z6, x6, w6⟩ := int_cell Tryz.underlying3 h_6
 obtain ⟨_, _, h_7⟩ := field_of Tryz.underlying24 h 7 _ rfl
 obtain ⟨z7, x7⟩ := str_cell Tryz.underlying9 h_7
 refine ⟨⟨z0, z1, z2, z3, z4, z5, z6, z7⟩, ?_⟩
 apply List.ext_getElem?
 intro j
 match j with
 | 0 => exact x0
 | 1 => exact x1
 | 2 => exact x2
 | 3 => exact x3
 | 4 => exact x4
 | 5 => exact x5
 | 6 => exact x6
 | 7 => exact x7
 | n + 8 => rw [List.getElem?_eq_none (by omega), List.getElem?_eq_none (by rw [cfgL_len]; omega)]
theorem open_cfg {b0 : Nat} {v : Value} {d : DataW H} {ps : List MemPlace} (hval : Value.okWide Tryz.prog w .any b0 24 v) (hd : DataW.Trod enc Tryz.prog w base spare held 24 v d ps) : ∃ c : CfgV, v = c.v := by
 obtain ⟨cs, rfl, _⟩ := okWide_struct Tryz.underlying24 hval
 obtain ⟨fuel, hf⟩ := hd
 obtain ⟨c, hc⟩ := cfg_cells hf
 have hc2 : cs.toList = cfgL c := hc
 refine ⟨c, ?_⟩
 show Value.agg cs = .agg (cfgL c).toArray
 rw [← hc2]
end
end Go.Proofs.YtdeiocppghhfdaaGreat
namespace Go.Proofs.YtdeiocppghhfdaaGreat.Lin
open Go.RowKit Go.Lib Go.Shelf
open Hs
open KitI (iv IRow own_below)
attribute [local go_sem, local simp] Hs.callL_0 Hs.callL_1 Hs.callL_2 Hs.callL_3 Hs.callL_4 Hs.callL_5 Hs.callL_6 Hs.callL_7 Hs.callL_8 Hs.callL_9 Hs.callL_10 Hs.callL_11 Hs.callL_12 Hs.callL_13 Hs.callL_14 Hs.callL_15 Hs.callL_16 Hs.callL_17 Hs.callL_18 Hs.callL_19 Hs.callL_20 Hs.callL_21 Hs.callL_22 Hs.callL_23 Hs.callL_24 Hs.callL_25 Hs.callL_26 Hs.resL_0 Hs.resL_1 Hs.resL_2 Hs.resL_3 Hs.resL_4 Hs.resL_5 Hs.resL_6 Hs.resL_7 Hs.resL_8 Hs.resL_9 Hs.resL_10 Hs.resL_11 Hs.resL_12 Hs.callG_0 Hs.callG_1 Hs.callG_2 Hs.callG_3 Hs.callG_4 Hs.callG_5 Hs.callG_6 Hs.callG_7 Hs.callG_8 Hs.callG_9 Hs.callG_10 Hs.callG_11 Hs.callG_12 Hs.callG_13 Hs.callG_14 Hs.callG_15 Hs.callG_16 Hs.callG_17 Hs.callG_18 Hs.callG_19 Hs.callG_20 Hs.callG_21 Hs.callG_22 Hs.callG_23 Hs.callG_24 Hs.callG_25 Hs.callG_26 Hs.resG_0 Hs.resG_1 Hs.resG_2 Hs.resG_3 Hs.resG_4 Hs.resG_5 Hs.resG_6 Hs.resG_7 Hs.resG_8 Hs.resG_9 Hs.resG_10 Hs.resG_11 Hs.resG_12 Hs.callL_len Hs.resL_len
attribute [local go_sem ↓] Hs.loadCall_eq Hs.loadRes_eq
attribute [local go_sem] Hs.ld_new Hs.ld_first Hs.ld_second Hs.ldr_new Hs.st_new
attribute [local go_sem ↓] loadCfg_eq
attribute [local go_sem, local simp] cfgL_len cfgL_ne
def XAt (W : World) (g : Nat) (X : List ByteArray) : Prop := ∀ j u, X[j]? = some u → W.cell? ⟨g, j, none⟩ = some (.string u)
theorem XAt.on {W W' : World} {g : Nat} {X : List ByteArray} (h : XAt W g X) (hb : Below W.heap.size W W') : XAt W' g X := fun j u hj => by rw [hb.cell (KitI.cell_size (h j u hj))]; exact h j u hj
structure EdR (w : World) (C : CfgV) (p : Option Addr) (cap : Nat) (hs : List CallV) (g : Nat) (X : List ByteArray) (W : World) : Prop where
 law : LawW w W C p cap hs
 row : XAt W g X
theorem EdR.on {w W W' : World} {C : CfgV} {p : Option Addr} {cap : Nat} {hs : List CallV} {g : Nat} {X : List ByteArray} (h : EdR w C p cap hs g X W) (hb : Below W.heap.size W W') : EdR w C p cap hs g X W' := ⟨h.law.on hb, h.row.on hb⟩
def moQ (c : CallV) : Bool := tookQ c && eoQ c
def MnRel (w : World) (C : CfgV) (p : Option Addr) (cap : Nat) (hs : List CallV) (g : Nat) (X : List ByteArray) (m i : Value) (wr : World) : Prop :=
 ∃ k : Nat, i = .int .i64 k ∧ k ≤ hs.length ∧ m = .int .i64 (((hs.take k).filter moQ).length : Nat) ∧ EdR w C p cap hs g X wr
def EdRel (w : World) (C : CfgV) (p : Option Addr) (cap : Nat) (hs : List CallV) (g : Nat) (X : List ByteArray) (n : Nat) (i : Value) (wr : World) : Prop :=
 ∃ k : Nat, i = .int .i64 k ∧ k ≤ n ∧ EdR w C p cap hs g X wr
def FrRel (w : World) (C : CfgV) (p : Option Addr) (cap : Nat) (hs : List CallV) (g : Nat) (X : List ByteArray) (a b : ByteArray) (i : Value) (wr : World) : Prop :=
 ∃ f : Nat, i = .int .i64 f ∧ f ≤ a.size ∧ f ≤ b.size ∧ a.data.toList.take f = b.data.toList.take f ∧ EdR w C p cap hs g X wr
def BkRel (w : World) (C : CfgV) (p : Option Addr) (cap : Nat) (hs : List CallV) (g : Nat) (X : List ByteArray) (n : Nat) (i : Value) (wr : World) : Prop :=
 ∃ j : Nat, i = .int .i64 j ∧ j ≤ n ∧ EdR w C p cap hs g X wr
theorem many_step {hs : List CallV} {k : Nat} {c : CallV} (h : hs[k]? = some c) : ((hs.take (k + 1)).filter moQ).length = ((hs.take k).filter moQ).length + if moQ c then 1 else 0 := by
 rw [List.take_add_one, h, Option.toList_some, List.filter_append, List.length_append]
 congr 1
 cases hq : moQ c <;> simp [hq]
theorem idx_str (s : ByteArray) {i : Int} {n : Nat} {x : UInt8} (hi : i = (n : Int)) (hx : s.data.toList[n]? = some x) : ∀ W, (Instr.index 9 (.string s) (.int .i64 i)).run Tryz.prog W = .ok (.int .u8 x.toNat) W := by
 subst hi
 intro W
 have hlt : n < s.size := by have := (List.getElem?_eq_some_iff.1 hx).1; rwa [bsz] at this
 rw [run_index_string W 9 s .i64 (n : Int) (by kernel_rfl), dif_pos ⟨by omega, by omega⟩]
 have e : ∀ h, (s[(n : Int).toNat]'h) = x := by
  intro h
  obtain ⟨h1, h2⟩ := List.getElem?_eq_some_iff.1 hx
  rw [← h2]
  rfl
 rw [e]
theorem play_size {cs : List CallV} (hok : ∀ c ∈ cs, c.Ok) : ∀ (o : List Nat) (st : MS) (K : Int), (∀ i ∈ o, i < cs.length) → MSok st K → ∀ m ∈ playL cs st o, m.text.size ≤ 65536
 | [], st, K, _, h, m, hm => by
  have : m = st := by simpa [playL] using hm
  rw [this]; exact h.size
 | i :: r, st, K, hl, h, m, hm => by
  have e4 : playL cs st (i :: r) = st :: (if (accO cs st i).1 then playL cs (accO cs st i).2 r else []) := rfl
  rw [e4] at hm
  rcases List.mem_cons.1 hm with rfl | hm
  ·exact h.size
  ·split at hm
   ·exact play_size hok r _ (K + 1) (fun j hj => hl j (by simp [hj])) (acc_ok h (hok _ (List.mem_of_getElem? (getC_some (hl i (by simp)))))) m hm
   ·cases hm
theorem tx_mem : ∀ (l : List MS) (out : List ByteArray) (t : ByteArray), t ∈ l.foldl txStep out → t ∈ out ∨ ∃ m ∈ l, m.text = t
 | [], out, t, h => .inl h
 | m :: l, out, t, h => by
  rw [List.foldl_cons] at h
  rcases tx_mem l _ t h with h | ⟨x, hx, he⟩
  ·unfold txStep at h
   split at h
   ·rcases List.mem_append.1 h with h | h
    ·exact .inl h
    ·exact .inr ⟨m, by simp, (List.mem_singleton.1 h).symm⟩
   ·exact .inl h
  ·exact .inr ⟨x, by simp [hx], he⟩
theorem texts_size {c : CfgV} {hs : List CallV} (hok : ∀ x ∈ hs, x.Ok) (hp : (perfC c hs).2 = 0) {t : ByteArray} (ht : t ∈ textsC c hs) : t.size ≤ 65536 := by
 have hE := effC_is (perfC_check hp)
 rcases tx_mem _ _ _ ht with h | ⟨m, hm, rfl⟩
 ·cases h
 ·exact play_size hok _ _ 0 (fun i hi => ((ord_in hE).1 hi).1) (newS_ok (perf_parts hp).1) m hm
theorem edits_plain {c : CfgV} {hs : List CallV} (hp : (perfC c hs).2 = 0) : ∃ m : Nat, ((hs.filter moQ).length = m ∧ (lastC c hs).number = (m : Int) ∧ (textsC c hs).length = m + 1 ∧ (textsC c hs)[0]? = some c.text ∧ (textsC c hs)[m]? = some (lastC c hs).text ∧ m ≤ hs.length ∧ ((∀ x ∈ hs, x.Ok) → ∀ t ∈ textsC c hs, t.size ≤ 65536)) ∧
  ∀ i a b, (textsC c hs)[i]? = some a → (textsC c hs)[i + 1]? = some b → OneCut a b := by
 obtain ⟨h1, h2, _⟩ := texts_law (c := c) (effC_is (perfC_check hp)) hp
 have hn : (lastC c hs).number = (manyE hs : Int) := h2
 have hl : ((textsC c hs).length : Int) = (lastC c hs).number + 1 := h1.len
 have hlast : (textsC c hs).getLast? = some (lastC c hs).text := h1.last
 have hle : manyE hs ≤ hs.length := List.length_filter_le _ _
 have hl2 : (textsC c hs).length = manyE hs + 1 := by omega
 refine ⟨manyE hs, ⟨rfl, hn, hl2, h1.head, ?_, hle, fun hok t ht => texts_size hok hp ht⟩, h1.cut⟩
 rw [List.getLast?_eq_getElem?, hl2] at hlast
 simpa using hlast
attribute [local irreducible] cfgL
theorem walkWitnessEdits (c : CfgV) (p : Option Addr) (cap : Nat) (cs : List CallV) (w : World) (hA : ArgRow w p cs) :
  Calls Tryz.prog 11 #[.agg (cfgL c).toArray, .slice p cs.length cap] w fun e w' => e = .returned (.bool true) ∧ Below w.heap.size w w' := by
 have hB0 : Below w.heap.size w (w.alloc (.cells (cfgL c).toArray tCfg)) := (Below.refl _ _).alloc (Nat.le_refl _) _
 have hz0 := blk_new w (cfgL c) tCfg
 have hl0 := ld_cfg hz0
 go_enter Tryz.func11, Tryz.ntmps11
 go_wp2_with fail
 refine (small35_l c _).mono ?_
 rintro e w1 ⟨rfl, hb1⟩
 have hz1 := blk_below hz0 hb1 (by simp)
 have hs1 := st_cfg hz1 (by simp [cfgL_len]) (smallC 200 c)
 have hz2 := setRow_heap _ _ _ (cfgL (smallC 200 c)).toArray _ _ hz1
 have hB1 : Below w.heap.size w (w1.setRow w.heap.size (cfgL (smallC 200 c)).toArray) := below_row (hB0.trans (hb1.mono hB0.size)) (Nat.le_refl _) _
 clear hl0 hz0 hb1 hz1
 generalize smallC 200 c = C at *
 go_wp2_with fail
 refine (few_h p cap cs _ (hA.on hB1)).mono ?_
 rintro e w3 ⟨p', cap', hs, rfl, hpure, hrow, hb3⟩
 have hL : LawW w w3 C p' cap' hs := ⟨hB1.trans (hb3.mono hB1.size), blk_below hz2 hb3 (Array.getElem?_eq_some_iff.1 hz2).1, hrow⟩
 clear hs1 hz2 hB1 hb3 hrow hpure hA
 have hld := hL.ld
 have hTx := hL.wtexts
 have hFn := fun W (h : LawW w W C p' cap' hs) => h.wfinal
 have hpl := fun (h : (perfC C hs).2 = 0) => edits_plain (c := C) h
 unfold TxtPost at hTx
 unfold FinPost at hFn
 generalize (perfC C hs).2 = er at *
 go_wp2_with fail
 refine hTx.mono ?_
 clear hTx
 rintro e w4 (⟨he, rfl, hb⟩ | ⟨he, vx, rfl, hX, hb⟩)
 ·have hL4 := hL.on hb
  have hld := hL4.ld
  clear hb hL hpl
  have de : (er != 0) = true := by simpa using he
  go_wp2_with fail
  refine (hFn _ hL4).mono ?_
  clear hFn
  rintro e w5 (⟨_, rfl, hb⟩ | ⟨h, _⟩)
  ·have hL5 := hL4.on hb
   clear hb hL4
   go_wp2_with fail
   refine hL5.awake35.mono ?_
   rintro e w9 ⟨rfl, hb⟩
   go_wp2_with fail
   go_returns
   exact ⟨rfl, hb⟩
  ·exact absurd h he
 ·have hL4 := hL.on hb
  have hld := hL4.ld
  obtain ⟨m, ⟨l1, l2, l3, l4, l5, l6, l8⟩, l7⟩ := hpl he
  have l8 := l8 hL4.row.ok
  clear hb hL hpl
  subst he
  generalize textsC C hs = X at *
  simp only [l2] at hFn
  generalize (lastC C hs).text = tx at *
  generalize (lastC C hs).marks = mk at *
  clear l2
  obtain ⟨g, qx, rfl, hXA, hXs⟩ : ∃ g q, vx = .slice (some ⟨g, 0, none⟩) X.length q ∧ XAt w4 g X ∧ g < w4.heap.size := by
   rcases hX.2 with ⟨_, h2⟩ | ⟨g, cap', cur, h1, h2, h3, _⟩
   ·omega
   ·refine ⟨g, cap', h1, fun j u hj => ?_, (Array.getElem?_eq_some_iff.1 h3).1⟩
    subst h1
    have hlt := (List.getElem?_eq_some_iff.1 hj).1
    rw [hX.cellAt j (by omega), List.getElem?_map, hj]
    rfl
  have hm25 : m ≤ 24 := by have := hL4.row.len; omega
  have Hm := Lib.hid l1
  have H4 := Lib.hid l4
  have H5 := Lib.hid l5
  have H7 := Lib.hid l7
  have H8 := Lib.hid l8
  have Hl3 := Lib.hid l3
  clear hX l1 l4 l5 l7 l8 hXs
  go_wp2_with fail
  refine (hFn _ hL4).mono ?_
  clear hFn
  rintro e w5 (⟨h, _⟩ | ⟨_, vm, rfl, _, hb⟩)
  ·exact absurd rfl h
  have hR5 : EdR w C p' cap' hs g X w5 := ⟨hL4.on hb, hXA.on hb⟩
  clear hb hL4 hXA hld
  clear l3
  go_wp2_with fail
  go_loopw [12, 13] (fun m i wr => MnRel w C p' cap' hs g X m i wr) (fun m i wr => hs.length - (intOf i).toNat)
  case atStart => exact ⟨0, rfl, by omega, rfl, hR5⟩
  case round =>
   clear hR5
   obtain ⟨k, rfl, hk, rfl, hR⟩ := hrel
   by_cases hlt : k < hs.length
   ·obtain ⟨q, hq⟩ : ∃ q, hs[k]? = some q := ⟨_, List.getElem?_eq_getElem hlt⟩
    have hst := many_step hq
    have hle : ((hs.take k).filter moQ).length ≤ k := Nat.le_trans (List.length_filter_le _ _) (by rw [List.length_take]; omega)
    have hl24 := hR.law.row.len
    obtain ⟨b, off, rfl, hcap, hbl, hcat⟩ : ∃ b off, p' = some ⟨b, off, none⟩ ∧ hs.length ≤ cap' ∧ b < wr.heap.size ∧ CAt wr b off hs := by
     rcases hR.law.row.row with ⟨_, _, h⟩ | h
     ·rw [h] at hq; simp at hq
     ·exact h
    have c2 : wr.cell? ⟨b, off + k * 27 + 2, none⟩ = some (.int .u8 q.okind) := hcat.cell hq 2 (by omega)
    have c10 : wr.cell? ⟨b, off + k * 27 + 10, none⟩ = some (.int .i64 q.took) := hcat.cell hq 10 (by omega)
    have c14 : wr.cell? ⟨b, off + k * 27 + 14, none⟩ = some (.int .i64 q.err) := hcat.cell hq 14 (by omega)
    have HR := Lib.hid hR
    clear hR hcat hq
    generalize ((hs.take k).filter moQ).length = n at *
    have Hst := Lib.hid hst
    clear hst
    by_cases h1 : 1 ≤ q.okind
    ·by_cases h2 : q.okind ≤ 4
     ·by_cases h3 : 0 ≤ q.took
      ·by_cases h4 : q.err = 0
       ·have e1 : decide (1 ≤ q.okind) = true := decide_eq_true h1
        have e2 : decide (q.okind ≤ 4) = true := decide_eq_true h2
        have e3 : decide (0 ≤ q.took) = true := decide_eq_true h3
        have e4 : (q.err == 0) = true := by simpa using h4
        have hmo : moQ q = true := by unfold moQ tookQ eoQ edK; simp [h1, h2, h3, h4]
        have hfin := Hst.out
        rw [hmo, if_pos rfl] at hfin
        have Hfin := Lib.hid hfin
        clear h1 h2 h3 h4 hmo hfin Hst
        go_wp2_with fail
        go_roundw
        case rel => exact ⟨k + 1, by go_num, by omega, by rw [Hfin.out]; go_num, HR.out⟩
        case measure => simp [intOf]; omega
       ·have e1 : decide (1 ≤ q.okind) = true := decide_eq_true h1
        have e2 : decide (q.okind ≤ 4) = true := decide_eq_true h2
        have e3 : decide (0 ≤ q.took) = true := decide_eq_true h3
        have e4 : (q.err == 0) = false := by simpa using h4
        have hmo : moQ q = false := by unfold moQ tookQ eoQ edK; simp [h4]
        have hfin := Hst.out
        rw [hmo, if_neg (by simp)] at hfin
        have Hfin := Lib.hid hfin
        clear h1 h2 h3 h4 hmo hfin Hst
        go_wp2_with fail
        go_roundw
        case rel => exact ⟨k + 1, by go_num, by omega, by rw [Hfin.out, Nat.add_zero], HR.out⟩
        case measure => simp [intOf]; omega
      ·have e1 : decide (1 ≤ q.okind) = true := decide_eq_true h1
       have e2 : decide (q.okind ≤ 4) = true := decide_eq_true h2
       have e3 : decide (0 ≤ q.took) = false := decide_eq_false h3
       have hmo : moQ q = false := by unfold moQ tookQ eoQ edK; simp [h3]
       have hfin := Hst.out
       rw [hmo, if_neg (by simp)] at hfin
       have Hfin := Lib.hid hfin
       clear h1 h2 h3 hmo hfin Hst
       go_wp2_with fail
       go_roundw
       case rel => exact ⟨k + 1, by go_num, by omega, by rw [Hfin.out, Nat.add_zero], HR.out⟩
       case measure => simp [intOf]; omega
     ·have e1 : decide (1 ≤ q.okind) = true := decide_eq_true h1
      have e2 : decide (q.okind ≤ 4) = false := decide_eq_false h2
      have hmo : moQ q = false := by unfold moQ tookQ eoQ edK; simp [h2]
      have hfin := Hst.out
      rw [hmo, if_neg (by simp)] at hfin
      have Hfin := Lib.hid hfin
      clear h1 h2 hmo hfin Hst
      go_wp2_with fail
      go_roundw
      case rel => exact ⟨k + 1, by go_num, by omega, by rw [Hfin.out, Nat.add_zero], HR.out⟩
      case measure => simp [intOf]; omega
    ·have e1 : decide (1 ≤ q.okind) = false := decide_eq_false h1
     have hmo : moQ q = false := by unfold moQ tookQ eoQ edK; simp [h1]
     have hfin := Hst.out
     rw [hmo, if_neg (by simp)] at hfin
     have Hfin := Lib.hid hfin
     clear h1 hmo hfin Hst
     go_wp2_with fail
     go_roundw
     case rel => exact ⟨k + 1, by go_num, by omega, by rw [Hfin.out, Nat.add_zero], HR.out⟩
     case measure => simp [intOf]; omega
   ·have hkk : k = hs.length := by omega
    subst hkk
    rw [List.take_length, Hm.out]
    have x0 : wr.cell? ⟨g, 0, none⟩ = some (.string C.text) := hR.row 0 _ H4.out
    have xm : wr.cell? ⟨g, m, none⟩ = some (.string tx) := hR.row m _ H5.out
    have x7 : wr.cell? ⟨w.heap.size, 7, none⟩ = some (.string C.text) := by rw [blk_cell hR.law.box]; unfold cfgL; rfl
    have y0 : wr.drew.cell? ⟨g, 0, none⟩ = some (.string C.text) := x0
    have ym : wr.drew.cell? ⟨g, m, none⟩ = some (.string tx) := xm
    have y7 : wr.drew.cell? ⟨w.heap.size, 7, none⟩ = some (.string C.text) := x7
    have w1 : IntKind.i64.wrap ((m : Int) + 1) = (m : Int) + 1 := IntWalk.i64_in _ (by omega)
    have d1 : (((m + 1 : Nat) : Int) != (m : Int) + 1) = false := by simp
    have bm : (m : Int) < (m : Int) + 1 := by omega
    have b0 : (0 : Int) < (m : Int) + 1 := by omega
    have HR := Lib.hid hR
    clear hR
    go_wp2_with fail
    refine wp_region_noPanic ?_
    refine wp_region_held_drew (S := fun W => W.cell? ⟨g, 0, none⟩ = some (.string C.text) ∧ W.cell? ⟨g, m, none⟩ = some (.string tx) ∧ W.cell? ⟨w.heap.size, 7, none⟩ = some (.string C.text)) (by kernel_rfl) ?_ (fun hHeld => ?_)
    ·first | exact ⟨x0, xm, x7⟩ | exact ⟨y0, ym, y7⟩
    iterate 26 (first | (refine np_sn ?_; (try simp only [nSO])) | ((first | refine np_n ?_ ?_ ?_ | refine np_t 0 ?_ ?_ ?_); rotate_left 1; (· (intro w hSw; (try dsimp only at hSw); go_simp; all_goals with_reducible rfl)); (try simp only [nSO])))
    refine wpAnyH_done (by kernel_rfl) ?_ _
    refine NoPanic.normal ?_
    have HR2 := Lib.hid (HR.out.on (Below.refl _ _).drew)
    clear HR x0 xm x7 y0 ym y7
    go_wp2_with fail
    go_loopw [14, 15, 16, 17, 18] (fun i x15 x16 x17 x18 wr => EdRel w C p' cap' hs g X m i wr) (fun i x15 x16 x17 x18 wr => m - (intOf i).toNat)
    case atStart => exact ⟨0, rfl, by omega, HR2.out⟩
    case round =>
     clear HR2
     obtain ⟨k, rfl, hk, hR⟩ := hrel
     by_cases hlt : k < m
     ·obtain ⟨a, ha⟩ : ∃ a, X[k]? = some a := ⟨_, List.getElem?_eq_getElem (by have := Hl3.out; omega)⟩
      obtain ⟨b, hb⟩ : ∃ b, X[k + 1]? = some b := ⟨_, List.getElem?_eq_getElem (by have := Hl3.out; omega)⟩
      have Hcut := Lib.hid (H7.out k a b ha hb)
      have hsa := H8.out a (List.mem_of_getElem? ha)
      have hsb := H8.out b (List.mem_of_getElem? hb)
      have x0 : wr.cell? ⟨g, k, none⟩ = some (.string a) := hR.row k _ ha
      have x1 : wr.cell? ⟨g, k + 1, none⟩ = some (.string b) := hR.row (k + 1) _ hb
      have y0 : wr.drew.cell? ⟨g, k, none⟩ = some (.string a) := x0
      have y1 : wr.drew.cell? ⟨g, k + 1, none⟩ = some (.string b) := x1
      have w2 : IntKind.i64.wrap ((k : Int) + 1) = (k : Int) + 1 := IntWalk.i64_in _ (by omega)
      have t2 : ((k : Int) + 1).toNat = k + 1 := by omega
      have b1 : (k : Int) < ((m + 1 : Nat) : Int) := by omega
      have b2 : (k : Int) + 1 < ((m + 1 : Nat) : Int) := by omega
      have b3 : (k : Int) < (m : Int) + 1 := by omega
      have b4 : (k : Int) + 1 < (m : Int) + 1 := by omega
      have b5 : (k : Int) < (m : Int) := by omega
      have b6 : 0 ≤ (k : Int) + 1 := by omega
      have HR := Lib.hid hR
      clear hR ha hb
      go_wp2_with fail
      refine wp_region_noPanic ?_
      refine wp_region_held_drew (S := fun W => W.cell? ⟨g, k, none⟩ = some (.string a) ∧ W.cell? ⟨g, k + 1, none⟩ = some (.string b)) (by kernel_rfl) ?_ (fun hHeld => ?_)
      ·first | exact ⟨x0, x1⟩ | exact ⟨y0, y1⟩
      iterate 11 (((first | refine np_n ?_ ?_ ?_ | refine np_t 0 ?_ ?_ ?_); rotate_left 1; (· (intro w hSw; (try dsimp only at hSw); go_simp; all_goals with_reducible rfl)); (try simp only [nSO])))
      refine wpAnyH_done (by kernel_rfl) ?_ _
      refine NoPanic.normal ?_
      have HR2 := Lib.hid (HR.out.on (Below.refl _ _).drew)
      clear HR x0 x1 y0 y1 w2 t2 b1 b2 b3 b4 b5 b6 hHeld
      go_upto_block 4 with fail
      go_cut [17] from 128 to 206 (fun s17 wx => ∃ f : Nat, s17 = .int .i64 f ∧ f ≤ a.size ∧ f ≤ b.size ∧ a.data.toList.take f = b.data.toList.take f ∧ (f = a.size ∨ f = b.size ∨ a.data.toList[f]? ≠ b.data.toList[f]?) ∧ EdR w C p' cap' hs g X wx)
      case first =>
       go_wp2_with fail
       go_loopw [17] (fun f wr => FrRel w C p' cap' hs g X a b f wr) (fun f wr => a.size - (intOf f).toNat)
       case atStart => exact ⟨0, rfl, Nat.zero_le _, Nat.zero_le _, rfl, HR2.out⟩
       case round =>
        clear HR2
        obtain ⟨f, rfl, hf1, hf2, hfe, hR⟩ := hrel
        have HR := Lib.hid hR
        have Hfe := Lib.hid hfe
        clear hR hfe
        by_cases hfa : f < a.size
        ·by_cases hfb : f < b.size
         ·obtain ⟨x, hx⟩ : ∃ x, a.data.toList[f]? = some x := ⟨_, List.getElem?_eq_getElem (by rw [bsz]; exact hfa)⟩
          obtain ⟨y, hy⟩ : ∃ y, b.data.toList[f]? = some y := ⟨_, List.getElem?_eq_getElem (by rw [bsz]; exact hfb)⟩
          have e1 : decide ((f : Int) < (a.size : Int)) = true := decide_eq_true (by omega)
          have e2 : decide ((f : Int) < (b.size : Int)) = true := decide_eq_true (by omega)
          have ra := idx_str a (i := (f : Int)) (n := f) rfl hx
          have rb := idx_str b (i := (f : Int)) (n := f) rfl hy
          by_cases hxy : x = y
          ·subst hxy
           have e3 : ((x.toNat : Int) == (x.toNat : Int)) = true := by simp
           have Hnx := Lib.hid (KitI.take_ext x hx hy Hfe.out)
           clear hx hy
           go_wp2_with fail
           refine wp_region_noPanic ?_
           refine wp_region_held_drew (S := fun _ => True) (by kernel_rfl) ?_ (fun hHeld => ?_)
           ·trivial
           iterate 19 (first | (refine np_sn ?_; (try simp only [nSO])) | ((first | refine np_n ?_ ?_ ?_ | refine np_t 0 ?_ ?_ ?_); rotate_left 1; (· (intro w hSw; (try dsimp only at hSw); go_simp; all_goals with_reducible rfl)); (try simp only [nSO])))
           refine wpAnyH_done (by kernel_rfl) ?_ _
           refine NoPanic.normal ?_
           go_wp2_with fail
           go_roundw
           case rel => exact ⟨f + 1, by go_num, by omega, by omega, Hnx.out, HR.out.on (Below.refl _ _).drew⟩
           case measure => simp [intOf]; omega
          ·have e3 : ((x.toNat : Int) == (y.toNat : Int)) = false := by rw [beq_eq_false_iff_ne]; intro h; exact hxy (UInt8.toNat_inj.1 (by omega))
           have Hfx : Hid (f = a.size ∨ f = b.size ∨ a.data.toList[f]? ≠ b.data.toList[f]?) := Lib.hid (.inr (.inr (by rw [hx, hy]; intro h; exact hxy (Option.some.inj h))))
           clear hx hy hxy
           go_wp2_with fail
           refine wp_region_noPanic ?_
           refine wp_region_held_drew (S := fun _ => True) (by kernel_rfl) ?_ (fun hHeld => ?_)
           ·trivial
           iterate 19 (first | (refine np_sn ?_; (try simp only [nSO])) | ((first | refine np_n ?_ ?_ ?_ | refine np_t 0 ?_ ?_ ?_); rotate_left 1; (· (intro w hSw; (try dsimp only at hSw); go_simp; all_goals with_reducible rfl)); (try simp only [nSO])))
           refine wpAnyH_done (by kernel_rfl) ?_ _
           refine NoPanic.normal ?_
           go_wp2_with fail
           go_meet
           exact ⟨f, rfl, hf1, hf2, Hfe.out, Hfx.out, HR.out.on (Below.refl _ _).drew⟩
         ·have e1 : decide ((f : Int) < (a.size : Int)) = true := decide_eq_true (by omega)
          have e2 : decide ((f : Int) < (b.size : Int)) = false := decide_eq_false (by omega)
          have Hfx : Hid (f = a.size ∨ f = b.size ∨ a.data.toList[f]? ≠ b.data.toList[f]?) := Lib.hid (.inr (.inl (by omega)))
          go_wp2_with fail
          refine wp_region_noPanic ?_
          refine wp_region_held_drew (S := fun _ => True) (by kernel_rfl) ?_ (fun hHeld => ?_)
          ·trivial
          iterate 19 (first | (refine np_sn ?_; (try simp only [nSO])) | ((first | refine np_n ?_ ?_ ?_ | refine np_t 0 ?_ ?_ ?_); rotate_left 1; (· (intro w hSw; (try dsimp only at hSw); go_simp; all_goals with_reducible rfl)); (try simp only [nSO])))
          refine wpAnyH_done (by kernel_rfl) ?_ _
          refine NoPanic.normal ?_
          go_wp2_with fail
          go_meet
          exact ⟨f, rfl, hf1, hf2, Hfe.out, Hfx.out, HR.out.on (Below.refl _ _).drew⟩
        ·have e1 : decide ((f : Int) < (a.size : Int)) = false := decide_eq_false (by omega)
         have Hfx : Hid (f = a.size ∨ f = b.size ∨ a.data.toList[f]? ≠ b.data.toList[f]?) := Lib.hid (.inl (by omega))
         go_wp2_with fail
         refine wp_region_noPanic ?_
         refine wp_region_held_drew (S := fun _ => True) (by kernel_rfl) ?_ (fun hHeld => ?_)
         ·trivial
         iterate 19 (first | (refine np_sn ?_; (try simp only [nSO])) | ((first | refine np_n ?_ ?_ ?_ | refine np_t 0 ?_ ?_ ?_); rotate_left 1; (· (intro w hSw; (try dsimp only at hSw); go_simp; all_goals with_reducible rfl)); (try simp only [nSO])))
         refine wpAnyH_done (by kernel_rfl) ?_ _
         refine NoPanic.normal ?_
         go_wp2_with fail
         go_meet
         exact ⟨f, rfl, hf1, hf2, Hfe.out, Hfx.out, HR.out.on (Below.refl _ _).drew⟩
      case rest =>
       clear HR2
       obtain ⟨f, rfl, hf1, hf2, hfe, hfx, hR⟩ := hcut
       have HR2 := Lib.hid hR
       have Hfe := Lib.hid hfe
       have Hfx := Lib.hid hfx
       clear hR hfe hfx
       go_upto_block 6 with fail
       go_cut [18] from 128 to 206 (fun s18 wx => ∃ j : Nat, s18 = .int .i64 j ∧ j ≤ min a.size b.size - f ∧ (j = min a.size b.size - f ∨ a.data.toList[a.size - 1 - j]? ≠ b.data.toList[b.size - 1 - j]?) ∧ EdR w C p' cap' hs g X wx)
       case first =>
        go_wp2_with fail
        go_loopw [18] (fun j wr => BkRel w C p' cap' hs g X (min a.size b.size - f) j wr) (fun j wr => min a.size b.size - f - (intOf j).toNat)
        case atStart => exact ⟨0, rfl, Nat.zero_le _, HR2.out⟩
        case round =>
         clear HR2
         obtain ⟨j, rfl, hj, hRj⟩ := hrel
         have HR := Lib.hid hRj
         clear hRj
         have v1 : IntKind.i64.wrap (min (a.size : Int) (b.size : Int) - (f : Int)) = min (a.size : Int) (b.size : Int) - (f : Int) := IntWalk.i64_in _ (by omega)
         by_cases hlt : j < min a.size b.size - f
         ·obtain ⟨x, hx⟩ : ∃ x, a.data.toList[a.size - 1 - j]? = some x := ⟨_, List.getElem?_eq_getElem (by rw [bsz]; omega)⟩
          obtain ⟨y, hy⟩ : ∃ y, b.data.toList[b.size - 1 - j]? = some y := ⟨_, List.getElem?_eq_getElem (by rw [bsz]; omega)⟩
          have v2 : decide ((j : Int) < min (a.size : Int) (b.size : Int) - (f : Int)) = true := decide_eq_true (by omega)
          have v3 : IntKind.i64.wrap ((a.size : Int) - 1) = (a.size : Int) - 1 := IntWalk.i64_in _ (by omega)
          have v4 : IntKind.i64.wrap ((a.size : Int) - 1 - (j : Int)) = (a.size : Int) - 1 - (j : Int) := IntWalk.i64_in _ (by omega)
          have v5 : IntKind.i64.wrap ((b.size : Int) - 1) = (b.size : Int) - 1 := IntWalk.i64_in _ (by omega)
          have v6 : IntKind.i64.wrap ((b.size : Int) - 1 - (j : Int)) = (b.size : Int) - 1 - (j : Int) := IntWalk.i64_in _ (by omega)
          have ra := idx_str a (i := (a.size : Int) - 1 - (j : Int)) (n := a.size - 1 - j) (by omega) hx
          have rb := idx_str b (i := (b.size : Int) - 1 - (j : Int)) (n := b.size - 1 - j) (by omega) hy
          by_cases hxy : x = y
          ·subst hxy
           have v7 : ((x.toNat : Int) == (x.toNat : Int)) = true := by simp
           have Hxy := Lib.hid (And.intro hx hy)
           clear hx hy
           go_wp2_with fail
           refine wp_region_noPanic ?_
           refine wp_region_held_drew (S := fun _ => True) (by kernel_rfl) ?_ (fun hHeld => ?_)
           ·trivial
           iterate 26 (first | (refine np_sn ?_; (try simp only [nSO])) | ((first | refine np_n ?_ ?_ ?_ | refine np_t 0 ?_ ?_ ?_); rotate_left 1; (· (intro w hSw; (try dsimp only at hSw); go_simp; all_goals with_reducible rfl)); (try simp only [nSO])))
           refine wpAnyH_done (by kernel_rfl) ?_ _
           refine NoPanic.normal ?_
           go_wp2_with fail
           go_roundw
           case rel => exact ⟨j + 1, by go_num, by omega, HR.out.on (Below.refl _ _).drew⟩
           case measure => simp [intOf]; omega
          ·have v7 : ((x.toNat : Int) == (y.toNat : Int)) = false := by rw [beq_eq_false_iff_ne]; intro h; exact hxy (UInt8.toNat_inj.1 (by omega))
           have Hjx : Hid (j = min a.size b.size - f ∨ a.data.toList[a.size - 1 - j]? ≠ b.data.toList[b.size - 1 - j]?) := Lib.hid (.inr (by rw [hx, hy]; intro h; exact hxy (Option.some.inj h)))
           clear hx hy hxy
           go_wp2_with fail
           refine wp_region_noPanic ?_
           refine wp_region_held_drew (S := fun _ => True) (by kernel_rfl) ?_ (fun hHeld => ?_)
           ·trivial
           iterate 26 (first | (refine np_sn ?_; (try simp only [nSO])) | ((first | refine np_n ?_ ?_ ?_ | refine np_t 0 ?_ ?_ ?_); rotate_left 1; (· (intro w hSw; (try dsimp only at hSw); go_simp; all_goals with_reducible rfl)); (try simp only [nSO])))
           refine wpAnyH_done (by kernel_rfl) ?_ _
           refine NoPanic.normal ?_
           go_wp2_with fail
           go_meet
           exact ⟨j, rfl, hj, Hjx.out, HR.out.on (Below.refl _ _).drew⟩
         ·have v2 : decide ((j : Int) < min (a.size : Int) (b.size : Int) - (f : Int)) = false := decide_eq_false (by omega)
          have Hjx : Hid (j = min a.size b.size - f ∨ a.data.toList[a.size - 1 - j]? ≠ b.data.toList[b.size - 1 - j]?) := Lib.hid (.inl (by omega))
          go_wp2_with fail
          refine wp_region_noPanic ?_
          refine wp_region_held_drew (S := fun _ => True) (by kernel_rfl) ?_ (fun hHeld => ?_)
          ·trivial
          iterate 26 (first | (refine np_sn ?_; (try simp only [nSO])) | ((first | refine np_n ?_ ?_ ?_ | refine np_t 0 ?_ ?_ ?_); rotate_left 1; (· (intro w hSw; (try dsimp only at hSw); go_simp; all_goals with_reducible rfl)); (try simp only [nSO])))
          refine wpAnyH_done (by kernel_rfl) ?_ _
          refine NoPanic.normal ?_
          go_wp2_with fail
          go_meet
          exact ⟨j, rfl, hj, Hjx.out, HR.out.on (Below.refl _ _).drew⟩
       case rest =>
        clear HR2
        obtain ⟨j, rfl, hj, hjx, hR⟩ := hcut
        have HR := Lib.hid hR
        have Hjx := Lib.hid hjx
        clear hR hjx
        have hfc := fit_cut (a := a) (b := b) Hcut.out hf1 hf2 Hfe.out Hfx.out hj Hjx.out
        have y1 : IntKind.i64.wrap ((a.size : Int) - (f : Int)) = (a.size : Int) - (f : Int) := IntWalk.i64_in _ (by omega)
        have y2 : IntKind.i64.wrap ((a.size : Int) - (f : Int) - (j : Int)) = (a.size : Int) - (f : Int) - (j : Int) := IntWalk.i64_in _ (by omega)
        have y3 : IntKind.i64.wrap ((b.size : Int) - (f : Int)) = (b.size : Int) - (f : Int) := IntWalk.i64_in _ (by omega)
        have y4 : IntKind.i64.wrap ((b.size : Int) - (f : Int) - (j : Int)) = (b.size : Int) - (f : Int) - (j : Int) := IntWalk.i64_in _ (by omega)
        have HRz := HR
        clear HR
        by_cases hz : 0 < (a.size : Int) - (f : Int) - (j : Int)
        ·have z1 : decide (0 < (a.size : Int) - (f : Int) - (j : Int)) = true := decide_eq_true hz
         have hy : ¬ 0 < (b.size : Int) - (f : Int) - (j : Int) := fun h => hfc ⟨hz, h⟩
         have z2 : decide (0 < (b.size : Int) - (f : Int) - (j : Int)) = false := decide_eq_false hy
         have z3 : decide ((j : Int) < (a.size : Int) - (f : Int)) = true := decide_eq_true (by omega)
         have z4 : decide ((j : Int) < (b.size : Int) - (f : Int)) = false := decide_eq_false (by omega)
         have z5 : (j : Int) < (a.size : Int) - (f : Int) := by omega
         have z6 : ¬ (j : Int) < (b.size : Int) - (f : Int) := by omega
         have z7 : (b.size : Int) - (f : Int) ≤ (j : Int) := by omega
         clear hfc hz hy
         go_wp2_with fail
         go_roundw
         case rel => exact ⟨k + 1, by go_num, by omega, HRz.out⟩
         case measure => simp [intOf]; omega
        ·have z1 : decide (0 < (a.size : Int) - (f : Int) - (j : Int)) = false := decide_eq_false hz
         have z3 : decide ((j : Int) < (a.size : Int) - (f : Int)) = false := decide_eq_false (by omega)
         have z5 : ¬ (j : Int) < (a.size : Int) - (f : Int) := by omega
         have z7 : (a.size : Int) - (f : Int) ≤ (j : Int) := by omega
         clear hfc hz
         go_wp2_with fail
         go_roundw
         case rel => exact ⟨k + 1, by go_num, by omega, HRz.out⟩
         case measure => simp [intOf]; omega
     ·have hkk : k = m := by omega
      subst hkk
      have hL9 := hR.law
      clear hR
      go_wp2_with fail
      refine hL9.awake35.mono ?_
      rintro e w9 ⟨rfl, hb⟩
      go_wp2_with fail
      go_returns
      exact ⟨rfl, hb⟩
end Go.Proofs.YtdeiocppghhfdaaGreat.Lin
namespace Go.Proofs.YtdeiocppghhfdaaGreat.witnessEdits
open Go.ChangeShapes Go.WideShapes Go.ChangeAt Go.RowKit
open Go.ChangeMaps (open_string shut_string)
open Lin Hs
set_option linter.unusedVariables false
theorem lifted (os : Os) (started : os.Started) (H : Type) (enc : TypeId × Value → H) :
    ReturnsInHanded {} Tryz.checked os 11 .any (Rows.witnessEditsSpec.pre6 enc Tryz.prog Tryz.f11 Rows.witnessEditsRow.domain false) (Rows.witnessEditsSpec.post enc Tryz.prog Tryz.f11 false true false false) := by
  refine returnsInHanded_of_change_sized (C := Tryz.checked) own started (by kernel_rfl) Tryz.func11
    (ChangeSpec.witness6 (enc := enc) (C := Tryz.checked) false ⟨#[], #[.agg #[.int .i64 0, .int .u64 0, .int .i64 0, .int .i64 0, .int .i64 0, .int .i64 0, .int .i64 0, .string ⟨#[]⟩], .slice none 0 0], []⟩ 8 (by kernel_rfl) (by kernel_rfl) (by kernel_rfl) (by kernel_rfl)) ?_
  intro W base args ds gs before hval0 hW hcnd hsz0 _
  have hval : ∀ (j : Nat) t v, Tryz.f11.params[j]? = some t → args[j]? = some v → Value.okWide Tryz.prog W .any base t v := hval0
  have hW' := hW
  obtain ⟨p, q, hA0, hV, rfl, hfz, hnd⟩ := hW
  have hA : DataW.TrodAll enc Tryz.prog W 0 (fun _ => true) true Tryz.f11.params.toList args.toList ds p := hA0
  rw [Tryz.params11] at hA hval
  obtain ⟨v0, vs0, d0, ds0, p0, q0, hargs, rfl, rfl, h0, r0⟩ := trodAll_cons hA
  obtain ⟨v1, vs1, d1, ds1, p1, q1, rfl, rfl, rfl, h1, r1⟩ := trodAll_cons r0
  obtain ⟨rfl, rfl, rfl⟩ := trodAll_nil r1
  obtain rfl : args = #[v0, v1] := by cases args; simp_all
  obtain ⟨rfl, rfl⟩ := trodVars_none hV
  obtain ⟨c0, rfl⟩ := open_cfg (hval 0 24 v0 rfl rfl) h0
  obtain ⟨q1, c1, l1, rfl, w1⟩ := open_calls (hval 1 25 v1 rfl rfl) h1
  clear hA0 hval0
  (try simp only [List.append_nil, List.nil_append] at hW')
  refine (walkWitnessEdits c0 q1 c1 l1 W w1).mono fun e W' ⟨he, hg⟩ => ?_
  subst he
  have hlt0 : ∀ x ∈ p0, x.block < W.heap.size := fun x hx => hW'.lt x (by simp [hx])
  have hlt1 : ∀ x ∈ p1, x.block < W.heap.size := fun x hx => hW'.lt x (by simp [hx])
  exact ⟨_, rfl, post_of_below (pa := (p0 ++ (p1 ++ []))) (pv := []) hW' (fun _ _ _ => (trodAll_cons_mk (shut_bool Tryz.underlying4 _) trodAll_mk0)) (fun sp hsp => (trodAll_cons_mk (WideElems.Trod_stays (by kernel_rfl) (by kernel_rfl) (of_decide_eq_true (by kernel_rfl)) h0 (fun x hx => hg.same (hlt0 x hx)) (fun x hx => hsp x (by simp [hx]))) (trodAll_cons_mk (WideElems.Trod_stays (by kernel_rfl) (by kernel_rfl) (of_decide_eq_true (by kernel_rfl)) h1 (fun x hx => hg.same (hlt1 x hx)) (fun x hx => hsp x (by simp [hx]))) trodAll_mk0))) (fun _ _ => rfl) (by simp)
    hg (ok_one (by kernel_rfl) rfl (okWide_bool_mk Tryz.underlying4 _))⟩
theorem facts : joinedFacts Tryz.prog 11 Tryz.f11 Rows.witnessEditsSpec Rows.witnessEditsRow = true := by
  unfold joinedFacts
  simp only [Bool.and_eq_true]
  repeat' apply And.intro
  all_goals (as_aux_lemma => kernel_rfl)
theorem proved : Rows.WitnessEditsSaid :=
  OpenClaim.holds_of_wide 11 Tryz.f11 rfl rfl rfl rfl rfl rfl rfl ⟨rfl, rfl, rfl, rfl, rfl⟩ rfl rfl rfl rfl rfl (by kernel_rfl) Tryz.func11 facts
    (of_decide_eq_true (by kernel_rfl)) (by unfold Func.isWrapper; first | (rw [if_pos (by decide +kernel)]; kernel_rfl) | (rw [if_neg (by decide +kernel)]; exact ⟨rfl, rfl⟩))
    (fun os started H enc _ => lifted os started H enc)
#print axioms proved
end Go.Proofs.YtdeiocppghhfdaaGreat.witnessEdits
