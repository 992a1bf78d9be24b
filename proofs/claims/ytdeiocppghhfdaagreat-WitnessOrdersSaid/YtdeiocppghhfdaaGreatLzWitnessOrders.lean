/- WitnessOrders: the law returns true for every input, and leaves its arguments as they were. -/
import Derived.Test.YtdeiocppghhfdaaGreatZbaa
import Derived.Test.YtdeiocppghhfdaaGreatZbha
import Derived.Test.YtdeiocppghhfdaaGreatZbab
import Derived.Test.YtdeiocppghhfdaaGreatZbac
import Derived.Test.YtdeiocppghhfdaaGreatZbad
import Derived.Test.YtdeiocppghhfdaaGreatZbae
import Derived.Test.YtdeiocppghhfdaaGreatZbaf
import Derived.Test.YtdeiocppghhfdaaGreatZbag
import Derived.Test.YtdeiocppghhfdaaGreatZbah
import Derived.Test.YtdeiocppghhfdaaGreatZbai
import Derived.Test.YtdeiocppghhfdaaGreatZbaj
import Derived.Test.YtdeiocppghhfdaaGreatZbak
import Derived.Test.YtdeiocppghhfdaaGreatZbal
import Derived.Test.YtdeiocppghhfdaaGreatZbam
import Derived.Test.YtdeiocppghhfdaaGreatZban
import Derived.Test.YtdeiocppghhfdaaGreatZbao
import Derived.Test.YtdeiocppghhfdaaGreatZbap
import Derived.Test.YtdeiocppghhfdaaGreatZbaq
import Derived.Test.YtdeiocppghhfdaaGreatZbar
import Derived.Test.YtdeiocppghhfdaaGreatZbas
import Derived.Test.YtdeiocppghhfdaaGreatZbat
import Derived.Test.YtdeiocppghhfdaaGreatZbau
import Derived.Test.YtdeiocppghhfdaaGreatZbav
import Derived.Test.YtdeiocppghhfdaaGreatZbaw
import Derived.Test.YtdeiocppghhfdaaGreatZbax
import Derived.Test.YtdeiocppghhfdaaGreatZbay
import Derived.Test.YtdeiocppghhfdaaGreatZbaz
import Derived.Test.YtdeiocppghhfdaaGreatZbba
import Derived.Test.YtdeiocppghhfdaaGreatZbbb
import Derived.Test.YtdeiocppghhfdaaGreatZbbc
import Derived.Test.YtdeiocppghhfdaaGreatZbbd
import Derived.Test.YtdeiocppghhfdaaGreatZbbe
import Derived.Test.YtdeiocppghhfdaaGreatZbbf
import Derived.Test.YtdeiocppghhfdaaGreatZbbg
import Derived.Test.YtdeiocppghhfdaaGreatZbbh
import Derived.Test.YtdeiocppghhfdaaGreatZbbi
import Derived.Test.YtdeiocppghhfdaaGreatZbbj
import Derived.Test.YtdeiocppghhfdaaGreatZbbk
import Derived.Test.YtdeiocppghhfdaaGreatZbbl
import Derived.Test.YtdeiocppghhfdaaGreatZbbm
import Derived.Test.YtdeiocppghhfdaaGreatZbbn
import Derived.Test.YtdeiocppghhfdaaGreatZbbo
import Derived.Test.YtdeiocppghhfdaaGreatZbbp
import Derived.Test.YtdeiocppghhfdaaGreatZbbq
import Derived.Test.YtdeiocppghhfdaaGreatZbbr
import Derived.Test.YtdeiocppghhfdaaGreatZbbs
import Derived.Test.YtdeiocppghhfdaaGreatZbbt
import Derived.Test.YtdeiocppghhfdaaGreatZbbu
import Derived.Test.YtdeiocppghhfdaaGreatZbbv
import Derived.Test.YtdeiocppghhfdaaGreatZbbw
import Derived.Below
import Derived.ChangeSame
import Derived.WalkKit
import Derived.ProofKit
import Derived.OpenShut
import Derived.ShutString
import Derived.SizedLaws
import Derived.Deep.RegionHeld3
import Derived.Deep.LoopGhost
import Derived.IntWalk
import Derived.WalkSpells
import Derived.WalkLawsBesides
import Derived.Lib.Hide
import Derived.Handy
import Derived.Deep.QuietTactic
import Derived.BigQuiet
import Derived.Deep.MidRow
import Derived.Deep.WholeRow
import Derived.RangeFuncNested
import Derived.RangeFuncBound
import Derived.RangeFuncCalls
import Derived.RangeFuncLeaves
import Derived.RangeFuncFrom
import Derived.Shelf.Abstract
import Derived.Shelf.RegionOpen
import Derived.OwnWalkIn
import Derived.TacticsInMore
import Derived.LoopNIn
import Derived.LoopIn
import Derived.Deep.AppendLies
import Derived.RangeFuncBox
import Derived.Maps.AppendAt
import Derived.Shelf.SlSortCmp.Whole1
import Derived.Sort.OwnSortedInts
import Derived.Lib.RowBridge
import Derived.Laws.CopyRow
import Derived.OrdersIn
import Derived.Shelf.Spec.SlicesInsertGrow
import Derived.Lib.AppendZerosOnto
import Derived.Lib.Overlaps
import Derived.Laws.Externs
import Derived.ArgAppend
import Derived.Shelf.SlicesQ.IndexFunc
import Derived.Shelf.SlSorted.Search
import Derived.OwnWalk
import Derived.Deep.RegionLaw
import Derived.BigRegion
import Derived.Laws.AppendOwn
import Derived.Lib.Strings
import Derived.Lib.IndexBytes
import Derived.Laws.IdiomStrings
import Derived.Shelf.Strings.BuilderK
import Derived.Laws.OwnMore
import Derived.WideMake
import Derived.Deep.Slices
import Derived.Laws.EntriesVeiled
import Derived.Carry
import Derived.DeepKeys4
import Derived.Maps.Own
import Derived.Maps.OwnOps
import Derived.Laws.BytesString
import Derived.Lib.AppendStr
import Derived.WalkMore
import Derived.Scope
import Derived.OrdersHeld
set_option linter.unusedVariables false
set_option linter.unusedSimpArgs false
set_option maxRecDepth 100000
set_option maxHeartbeats 8000000
namespace Go.Proofs.YtdeiocppghhfdaaGreat
open Go.RowKit Go.WideShapes Go.ChangeShapes
section
variable {H : Type} {enc : TypeId × Value → H} {P : Program}
theorem post_of_below {f : Func} {s : ChangeSpec} {apart fresh handsOn again : Bool} {W W' : World} {args : Array Value} {v : Value} {ds gs : List (DataW H)} {before pa pv : List MemPlace}
  (hW : DataW.Whole enc P f.params.toList s.vars apart W args.toList ds gs before)
  (hres : ∀ (b : Nat) (sp : Nat → Bool) (hd : Bool), DataW.TrodAll enc P W' b sp hd f.resultTypes.toList (v.resultList f.resultTypes.size) (s.fn H (ds ++ gs)).results [])
  (hargs : ∀ sp : Nat → Bool, (∀ p ∈ before, sp p.block = true) → DataW.TrodAll enc P W' 0 sp true f.params.toList args.toList (s.fn H (ds ++ gs)).args pa)
  (hvars : ∀ sp : Nat → Bool, (∀ p ∈ before, sp p.block = true) → DataW.TrodVars enc P W' sp s.vars (s.fn H (ds ++ gs)).vars pv)
  (hps : before = pa ++ pv) (hb : Below W.heap.size W W')
  (hok : ∀ (j : Nat) (t : TypeId) (r : Value), f.resultTypes[j]? = some t → (v.resultList f.resultTypes.size)[j]? = some r → Value.okWide P W' .any 0 t r) :
  s.post enc P f apart fresh handsOn again W args v W' := by
 have hlt : ∀ p ∈ before, p.block < W.heap.size := fun p hp => hW.lt p hp
 have hold : ∀ p ∈ before, (fun b => decide (b < W.heap.size)) p.block = true := fun p hp => by simpa using hlt p hp
 refine ⟨ds, gs, before, [], pa, pv, hW, hres _ _ _, hargs _ hold, hvars _ hold, World.keptBut_mono (fun p hp => ⟨hp, ?_⟩) (hb.frame (· ∈ before)), fun _ => ?_⟩
 ·rw [hps, List.mem_append] at hp
  exact Or.inr hp
 ·obtain ⟨_, _, _, _, _, hz, hn⟩ := hW
  refine ⟨hok, _, _, ([] ++ pa) ++ pv, ⟨[] ++ pa, pv, trodAll_append (hargs _ (fun _ _ => rfl)) (hres _ _ _), hvars _ (fun _ _ => rfl), rfl, ?_, ?_⟩, ?_⟩
  ·intro b off hp
   have hin : MemPlace.cell b off ∈ before := by rw [hps]; simpa using hp
   rw [hb.frozen (hlt _ hin)]
   exact hz b off hin
  ·intro ha
   have := hn ha
   rw [hps] at this
   simpa using this
  ·intro p hp _
   rw [hps]
   simpa using hp
end
end Go.Proofs.YtdeiocppghhfdaaGreat
namespace Go.Proofs.YtdeiocppghhfdaaGreat.Lin
section
variable {α : Type} (n : Nat) (next : α → Nat → Option α) (rdy : Nat → Nat → Bool) (fl : Nat → Bool)
def C (s : α) (u : Nat) : Nat := ct n next rdy fl (fr n u) s u
end
theorem bit_or (u i j : Nat) : (u ||| 2 ^ i).testBit j = (u.testBit j || decide (i = j)) := by rw [Nat.testBit_or, Nat.testBit_two_pow]
section
variable {α : Type} {n : Nat} {next : α → Nat → Option α} {rdy : Nat → Nat → Bool} {fl : Nat → Bool}
end
end Go.Proofs.YtdeiocppghhfdaaGreat.Lin
namespace Go.Proofs.YtdeiocppghhfdaaGreat.Hs
open Go.RowKit Go.Lib Go.Shelf
open KitI (iv IRow own_below infoI)
attribute [local go_sem, local simp] callL_0 callL_1 callL_2 callL_3 callL_4 callL_5 callL_6 callL_7 callL_8 callL_9 callL_10 callL_11 callL_12 callL_13 callL_14 callL_15 callL_16 callL_17 callL_18 callL_19 callL_20 callL_21 callL_22 callL_23 callL_24 callL_25 callL_26 resL_0 resL_1 resL_2 resL_3 resL_4 resL_5 resL_6 resL_7 resL_8 resL_9 resL_10 resL_11 resL_12 callG_0 callG_1 callG_2 callG_3 callG_4 callG_5 callG_6 callG_7 callG_8 callG_9 callG_10 callG_11 callG_12 callG_13 callG_14 callG_15 callG_16 callG_17 callG_18 callG_19 callG_20 callG_21 callG_22 callG_23 callG_24 callG_25 callG_26 resG_0 resG_1 resG_2 resG_3 resG_4 resG_5 resG_6 resG_7 resG_8 resG_9 resG_10 resG_11 resG_12 callL_len resL_len
attribute [local go_sem ↓] loadCall_eq loadRes_eq
attribute [local go_sem] ld_new ld_first ld_second ldr_new st_new
def ordE (n : Nat) : List Int → List Int → Int
 | _, [] => 0
 | seen, x :: r => if x < 0 ∨ (n : Int) ≤ x then 3 else if x ∈ seen then 9 else ordE n (seen ++ [x]) r
def plc (l : List Int) (i : Nat) : Int := if (i : Int) ∈ l then (l.idxOf (i : Int) : Int) + 1 else 0
theorem plc_nil (i : Nat) : plc [] i = 0 := rfl
theorem plc_snoc_same {l : List Int} {i : Nat} (h : (i : Int) ∉ l) : plc (l ++ [(i : Int)]) i = (l.length : Int) + 1 := by
 unfold plc
 rw [if_pos (by simp), List.idxOf_append, if_neg h]
 simp
theorem plc_snoc_other {l : List Int} {i : Nat} {x : Int} (h : x ≠ (i : Int)) : plc (l ++ [x]) i = plc l i := by
 unfold plc
 by_cases hi : (i : Int) ∈ l
 ·rw [if_pos hi, if_pos (by simp [hi]), List.idxOf_append, if_pos hi]
 ·rw [if_neg hi, if_neg (by simp [hi]; exact fun e => h e.symm)]
theorem plc_zero {l : List Int} {i : Nat} : plc l i = 0 ↔ (i : Int) ∉ l := by
 unfold plc
 split
 ·rename_i h
  constructor
  ·intro e; omega
  ·intro e; exact absurd h e
 ·rename_i h
  exact ⟨fun _ => h, fun _ => rfl⟩
def pairB (order : List Int) (cs : List CallV) (i j : Nat) : Bool :=
 match cs[i]?, cs[j]? with
 | some a, some b => !(decide (plc order j ≠ 0) && befB a b && (decide (plc order i = 0) || decide (plc order j < plc order i)))
 | _, _ => true
def okPairs (order : List Int) (cs : List CallV) : Bool := (List.range cs.length).all fun i => (List.range cs.length).all fun j => pairB order cs i j
def agreesP (order : List Int) (cs : List CallV) : Bool × Int :=
 if (checkP cs).2 = 0 then (if ordE cs.length [] order = 0 then (okPairs order cs, 0) else (false, ordE cs.length [] order)) else (false, 22)
theorem ordE_step {n : Nat} {order : List Int} : ∀ {k : Nat}, ordE n (order.take k) (order.drop k) = ordE n [] order → ∀ x, order[k]? = some x → ordE n (order.take k) (order.drop k) = if x < 0 ∨ (n : Int) ≤ x then 3 else if x ∈ order.take k then 9 else ordE n (order.take (k + 1)) (order.drop (k + 1)) := by
 intro k _ x hx
 obtain ⟨hlt, rfl⟩ := List.getElem?_eq_some_iff.1 hx
 rw [List.drop_eq_getElem_cons hlt]
 show (if _ then _ else if _ then _ else ordE n (order.take k ++ [order[k]]) (order.drop (k + 1))) = _
 rw [List.take_succ_eq_append_getElem hlt]
theorem pairs_no {order : List Int} {cs : List CallV} {i j : Nat} (hi : i < cs.length) (hj : j < cs.length) (h : pairB order cs i j = false) : okPairs order cs = false := by
 unfold okPairs
 rw [List.all_eq_false]
 refine ⟨i, List.mem_range.2 hi, ?_⟩
 rw [Bool.not_eq_true, List.all_eq_false]
 exact ⟨j, List.mem_range.2 hj, by simp [h]⟩
theorem pairs_yes {order : List Int} {cs : List CallV} (h : ∀ i j, i < cs.length → j < cs.length → pairB order cs i j = true) : okPairs order cs = true := by
 unfold okPairs
 rw [List.all_eq_true]
 intro i hi
 rw [List.all_eq_true]
 intro j hj
 exact h i j (List.mem_range.1 hi) (List.mem_range.1 hj)
theorem ret_be {a c : Bool} {b d : Int} (h : a = c) (h2 : b = d) : Ending.returned (.tuple #[.bool a, .int .i64 b]) = .returned (.tuple #[.bool c, .int .i64 d]) := by rw [h, h2]
def plV (order : List Int) (n : Nat) : List Value := (List.range n).map fun i => .int .i64 (plc order i)
theorem plV_at {order : List Int} {n i : Nat} (h : i < n) : (plV order n)[i]? = some (.int .i64 (plc order i)) := by unfold plV; simp [h]
theorem plV_set {order : List Int} {n i : Nat} (h : (i : Int) ∉ order) : (plV order n).set i (.int .i64 ((order.length : Int) + 1)) = plV (order ++ [(i : Int)]) n := by
 unfold plV
 apply List.ext_getElem?
 intro j
 by_cases hj : j < n
 ·by_cases e : i = j
  ·subst e
   rw [List.getElem?_set_self (by simpa using hj)]
   simp [hj, plc_snoc_same h]
  ·rw [List.getElem?_set_ne e]
   simp [hj, plc_snoc_other (l := order) (i := j) (x := (i : Int)) (by omega)]
 ·rw [List.getElem?_eq_none (by simp; omega), List.getElem?_eq_none (by simp; omega)]
structure AInv (w : World) (p : Option Addr) (cs : List CallV) (order : List Int) (g base : Nat) (W : World) : Prop where
 row : ∀ b off, p = some ⟨b, off, none⟩ → CAt W b off cs
 own : W.ownsRow base 3 1 (.slice (some ⟨g, 0, none⟩) cs.length cs.length) cs.length (plV order cs.length)
 bl : Below w.heap.size w W
theorem AInv.on {w : World} {p : Option Addr} {cs : List CallV} {order : List Int} {g base : Nat} {W W' : World} (h : AInv w p cs order g base W) (hb : Below W.heap.size W W') : AInv w p cs order g base W' :=
 ⟨fun b off e => (h.row b off e).on hb, own_below h.own hb, h.bl.trans (hb.mono h.bl.size)⟩
def ORel (w : World) (p : Option Addr) (cs : List CallV) (order : List Int) (g base : Nat) (po : Option Addr) (i : Value) (wr : World) : Prop :=
 ∃ k : Nat, i = .int .i64 k ∧ k ≤ order.length ∧ ordE cs.length (order.take k) (order.drop k) = ordE cs.length [] order ∧ AInv w p cs (order.take k) g base wr ∧ (∀ b off, po = some ⟨b, off, none⟩ → ∀ j u, order[j]? = some u → wr.cell? ⟨b, off + j, none⟩ = some (iv u))
def AgI (w : World) (p po : Option Addr) (cap co : Nat) (cs : List CallV) (order : List Int) (g : Nat) (a : Act) (wr : World) : Prop :=
 ∃ (i : Nat) (u : Nat → Value), a = { tmps := #[.slice po order.length co, .slice p cs.length cap, u 2, u 3, u 4, u 5, u 6, u 7, .slice (some ⟨g, 0, none⟩) cs.length cs.length, u 9, u 10, u 11, u 12, u 13, u 14, u 15, u 16, u 17, u 18, u 19, u 20, u 21, u 22, u 23, u 24, u 25, u 26, u 27, u 28, u 29, u 30, u 31, u 32, u 33, u 34, u 35, u 36, u 37, u 38, u 39, u 40, u 41, u 42, u 43, u 44, u 45, u 46, u 47, u 48, u 49, u 50, u 51, .slice p cs.length cap, .int .i64 cs.length, .int .i64 i, u 55, u 56, u 57, u 58, u 59, u 60, u 61, u 62, u 63, u 64, u 65, u 66, u 67, u 68, u 69, u 70, u 71, u 72, u 73, u 74, u 75, u 76, u 77, u 78, u 79, u 80, u 81, u 82, u 83, u 84, u 85, u 86, u 87, u 88, u 89, u 90, u 91, u 92, u 93, u 94, u 95], defers := [] } ∧ i ≤ cs.length ∧ (∀ x y, x < i → y < cs.length → pairB order cs x y = true) ∧ AInv w p cs order g g wr
theorem AgI.intro {w : World} {p po : Option Addr} {cap co : Nat} {cs : List CallV} {order : List Int} {g : Nat} {a : Act} {wr : World} (i : Nat) (h : a = { tmps := #[.slice po order.length co, .slice p cs.length cap, a.tmps.getD 2 undef, a.tmps.getD 3 undef, a.tmps.getD 4 undef, a.tmps.getD 5 undef, a.tmps.getD 6 undef, a.tmps.getD 7 undef, .slice (some ⟨g, 0, none⟩) cs.length cs.length, a.tmps.getD 9 undef, a.tmps.getD 10 undef, a.tmps.getD 11 undef, a.tmps.getD 12 undef, a.tmps.getD 13 undef, a.tmps.getD 14 undef, a.tmps.getD 15 undef, a.tmps.getD 16 undef, a.tmps.getD 17 undef, a.tmps.getD 18 undef, a.tmps.getD 19 undef, a.tmps.getD 20 undef, a.tmps.getD 21 undef, a.tmps.getD 22 undef, a.tmps.getD 23 undef, a.tmps.getD 24 undef, a.tmps.getD 25 undef, a.tmps.getD 26 undef, a.tmps.getD 27 undef, a.tmps.getD 28 undef, a.tmps.getD 29 undef, a.tmps.getD 30 undef, a.tmps.getD 31 undef, a.tmps.getD 32 undef, a.tmps.getD 33 undef, a.tmps.getD 34 undef, a.tmps.getD 35 undef, a.tmps.getD 36 undef, a.tmps.getD 37 undef, a.tmps.getD 38 undef, a.tmps.getD 39 undef, a.tmps.getD 40 undef, a.tmps.getD 41 undef, a.tmps.getD 42 undef, a.tmps.getD 43 undef, a.tmps.getD 44 undef, a.tmps.getD 45 undef, a.tmps.getD 46 undef, a.tmps.getD 47 undef, a.tmps.getD 48 undef, a.tmps.getD 49 undef, a.tmps.getD 50 undef, a.tmps.getD 51 undef, .slice p cs.length cap, .int .i64 cs.length, .int .i64 i, a.tmps.getD 55 undef, a.tmps.getD 56 undef, a.tmps.getD 57 undef, a.tmps.getD 58 undef, a.tmps.getD 59 undef, a.tmps.getD 60 undef, a.tmps.getD 61 undef, a.tmps.getD 62 undef, a.tmps.getD 63 undef, a.tmps.getD 64 undef, a.tmps.getD 65 undef, a.tmps.getD 66 undef, a.tmps.getD 67 undef, a.tmps.getD 68 undef, a.tmps.getD 69 undef, a.tmps.getD 70 undef, a.tmps.getD 71 undef, a.tmps.getD 72 undef, a.tmps.getD 73 undef, a.tmps.getD 74 undef, a.tmps.getD 75 undef, a.tmps.getD 76 undef, a.tmps.getD 77 undef, a.tmps.getD 78 undef, a.tmps.getD 79 undef, a.tmps.getD 80 undef, a.tmps.getD 81 undef, a.tmps.getD 82 undef, a.tmps.getD 83 undef, a.tmps.getD 84 undef, a.tmps.getD 85 undef, a.tmps.getD 86 undef, a.tmps.getD 87 undef, a.tmps.getD 88 undef, a.tmps.getD 89 undef, a.tmps.getD 90 undef, a.tmps.getD 91 undef, a.tmps.getD 92 undef, a.tmps.getD 93 undef, a.tmps.getD 94 undef, a.tmps.getD 95 undef], defers := [] })
  (hi : i ≤ cs.length) (hg : ∀ x y, x < i → y < cs.length → pairB order cs x y = true) (hA : AInv w p cs order g g wr) : AgI w p po cap co cs order g a wr := ⟨i, fun i => a.tmps.getD i undef, h, hi, hg, hA⟩
structure PInv (w : World) (b off : Nat) (cs : List CallV) (order : List Int) (g ga : Nat) (c : CallV) (W : World) : Prop where
 blk : CallBlk W ga c
 inv : AInv w (some ⟨b, off, none⟩) cs order g g W
theorem PInv.on {w : World} {b off : Nat} {cs : List CallV} {order : List Int} {g ga : Nat} {c : CallV} {W W' : World} (h : PInv w b off cs order g ga c W) (hb : Below W.heap.size W W') : PInv w b off cs order g ga c W' :=
 ⟨blk_below h.blk hb (Array.getElem?_eq_some_iff.1 h.blk).1, h.inv.on hb⟩
def QInv (w : World) (b off : Nat) (cs : List CallV) (order : List Int) (g ga : Nat) (c : CallV) (gb : Nat) (d : CallV) (W : World) : Prop := PInv w b off cs order g ga c W ∧ CallBlk W gb d
theorem QInv.on {w : World} {b off : Nat} {cs : List CallV} {order : List Int} {g ga gb : Nat} {c d : CallV} {W W' : World} (h : QInv w b off cs order g ga c gb d W) (hb : Below W.heap.size W W') : QInv w b off cs order g ga c gb d W' :=
 ⟨h.1.on hb, blk_below h.2 hb (Array.getElem?_eq_some_iff.1 h.2).1⟩
theorem QInv.drew {w : World} {b off : Nat} {cs : List CallV} {order : List Int} {g ga gb : Nat} {c d : CallV} {W : World} (h : QInv w b off cs order g ga c gb d W) : QInv w b off cs order g ga c gb d W.drew := h.on (Below.refl _ _).drew
def AgJ (w : World) (b off : Nat) (po : Option Addr) (cap co : Nat) (cs : List CallV) (order : List Int) (g i ga : Nat) (c : CallV) (a : Act) (wr : World) : Prop :=
 ∃ (j : Nat) (u : Nat → Value), a = { tmps := #[.slice po order.length co, .slice (some ⟨b, off, none⟩) cs.length cap, u 2, u 3, u 4, u 5, u 6, u 7, .slice (some ⟨g, 0, none⟩) cs.length cs.length, u 9, u 10, .int .i64 i, .pointer (some ⟨ga, 0, none⟩), u 13, u 14, u 15, u 16, u 17, u 18, u 19, u 20, u 21, u 22, u 23, u 24, u 25, u 26, u 27, u 28, u 29, u 30, u 31, u 32, u 33, u 34, u 35, u 36, u 37, u 38, u 39, u 40, u 41, u 42, u 43, u 44, u 45, u 46, u 47, u 48, u 49, u 50, u 51, .slice (some ⟨b, off, none⟩) cs.length cap, .int .i64 cs.length, .int .i64 i, u 55, u 56, u 57, u 58, .slice (some ⟨b, off, none⟩) cs.length cap, .int .i64 cs.length, .int .i64 j, u 62, u 63, u 64, u 65, u 66, u 67, u 68, u 69, u 70, u 71, u 72, u 73, u 74, u 75, u 76, u 77, u 78, u 79, u 80, u 81, u 82, u 83, u 84, u 85, u 86, u 87, u 88, u 89, u 90, u 91, u 92, u 93, u 94, u 95], defers := [] } ∧ j ≤ cs.length ∧ (∀ y, y < j → pairB order cs i y = true) ∧ PInv w b off cs order g ga c wr
theorem AgJ.intro {w : World} {b off : Nat} {po : Option Addr} {cap co : Nat} {cs : List CallV} {order : List Int} {g i ga : Nat} {c : CallV} {a : Act} {wr : World} (j : Nat) (h : a = { tmps := #[.slice po order.length co, .slice (some ⟨b, off, none⟩) cs.length cap, a.tmps.getD 2 undef, a.tmps.getD 3 undef, a.tmps.getD 4 undef, a.tmps.getD 5 undef, a.tmps.getD 6 undef, a.tmps.getD 7 undef, .slice (some ⟨g, 0, none⟩) cs.length cs.length, a.tmps.getD 9 undef, a.tmps.getD 10 undef, .int .i64 i, .pointer (some ⟨ga, 0, none⟩), a.tmps.getD 13 undef, a.tmps.getD 14 undef, a.tmps.getD 15 undef, a.tmps.getD 16 undef, a.tmps.getD 17 undef, a.tmps.getD 18 undef, a.tmps.getD 19 undef, a.tmps.getD 20 undef, a.tmps.getD 21 undef, a.tmps.getD 22 undef, a.tmps.getD 23 undef, a.tmps.getD 24 undef, a.tmps.getD 25 undef, a.tmps.getD 26 undef, a.tmps.getD 27 undef, a.tmps.getD 28 undef, a.tmps.getD 29 undef, a.tmps.getD 30 undef, a.tmps.getD 31 undef, a.tmps.getD 32 undef, a.tmps.getD 33 undef, a.tmps.getD 34 undef, a.tmps.getD 35 undef, a.tmps.getD 36 undef, a.tmps.getD 37 undef, a.tmps.getD 38 undef, a.tmps.getD 39 undef, a.tmps.getD 40 undef, a.tmps.getD 41 undef, a.tmps.getD 42 undef, a.tmps.getD 43 undef, a.tmps.getD 44 undef, a.tmps.getD 45 undef, a.tmps.getD 46 undef, a.tmps.getD 47 undef, a.tmps.getD 48 undef, a.tmps.getD 49 undef, a.tmps.getD 50 undef, a.tmps.getD 51 undef, .slice (some ⟨b, off, none⟩) cs.length cap, .int .i64 cs.length, .int .i64 i, a.tmps.getD 55 undef, a.tmps.getD 56 undef, a.tmps.getD 57 undef, a.tmps.getD 58 undef, .slice (some ⟨b, off, none⟩) cs.length cap, .int .i64 cs.length, .int .i64 j, a.tmps.getD 62 undef, a.tmps.getD 63 undef, a.tmps.getD 64 undef, a.tmps.getD 65 undef, a.tmps.getD 66 undef, a.tmps.getD 67 undef, a.tmps.getD 68 undef, a.tmps.getD 69 undef, a.tmps.getD 70 undef, a.tmps.getD 71 undef, a.tmps.getD 72 undef, a.tmps.getD 73 undef, a.tmps.getD 74 undef, a.tmps.getD 75 undef, a.tmps.getD 76 undef, a.tmps.getD 77 undef, a.tmps.getD 78 undef, a.tmps.getD 79 undef, a.tmps.getD 80 undef, a.tmps.getD 81 undef, a.tmps.getD 82 undef, a.tmps.getD 83 undef, a.tmps.getD 84 undef, a.tmps.getD 85 undef, a.tmps.getD 86 undef, a.tmps.getD 87 undef, a.tmps.getD 88 undef, a.tmps.getD 89 undef, a.tmps.getD 90 undef, a.tmps.getD 91 undef, a.tmps.getD 92 undef, a.tmps.getD 93 undef, a.tmps.getD 94 undef, a.tmps.getD 95 undef], defers := [] })
  (hj : j ≤ cs.length) (hg : ∀ y, y < j → pairB order cs i y = true) (hP : PInv w b off cs order g ga c wr) : AgJ w b off po cap co cs order g i ga c a wr := ⟨j, fun i => a.tmps.getD i undef, h, hj, hg, hP⟩
theorem agj_next {order : List Int} {cs : List CallV} {i j : Nat} (h : ∀ y, y < j → pairB order cs i y = true) (hp : pairB order cs i j = true) : ∀ y, y < j + 1 → pairB order cs i y = true := fun y hy => by
 by_cases e : y = j
 ·rw [e]; exact hp
 ·exact h y (by omega)
set_option linter.unusedSimpArgs false in
theorem agrees_ok (p po : Option Addr) (cap co : Nat) (cs : List CallV) (order : List Int) (w : World) (hC : CRow w p cap cs) (hO : IRd w po order) (hs : cs.length ≤ 1000000) (hs2 : order.length ≤ 1000000) (hok : ∀ c ∈ cs, c.Ok) (h0 : (checkP cs).2 = 0) :
  Calls Tryz.prog 55 #[.slice po order.length co, .slice p cs.length cap] w fun e w' => e = .returned (.tuple #[.bool (agreesP order cs).1, .int .i64 (agreesP order cs).2]) ∧ Below w.heap.size w w' := by
 obtain ⟨i0, hi, hz0, hz1, hz2⟩ := info_parts infoI
 have ck := check_any p cap cs w hC hs hok
 obtain ⟨k1, hk1⟩ : ∃ k1, (checkP cs).1 = k1 := ⟨_, rfl⟩
 rw [hk1, h0] at ck
 have H0 := Lib.hid h0
 clear h0 hk1
 have hag : agreesP order cs = if ordE cs.length [] order = 0 then (okPairs order cs, 0) else (false, ordE cs.length [] order) := by unfold agreesP; rw [if_pos H0.out]
 have Hag := Lib.hid hag
 clear hag
 go_enter Tryz.func55, Tryz.ntmps55
 go_wp2_with fail
 refine ck.mono ?_
 clear ck
 rintro e w1 ⟨rfl, hB1⟩
 obtain ⟨w2, hmk, hown, hgr⟩ := run_make_full (P := Tryz.prog) w1 w1.heap.size 28 3 i0 (.int .i64 0) 1 Tryz.underlying28 hi hz0 hz1 .i64 .i64 cs.length (by rw [hz2]; omega) (by unfold maxLen; omega) (Nat.le_refl _)
 have hB2 := hB1.grown hgr hB1.size (fun k hk => by cases hk)
 have hb2 : Below w1.heap.size w1 w2 := (Below.refl _ _).grown hgr (Nat.le_refl _) (fun k hk => by cases hk)
 have hpl : (madeCells (Value.cells (.int .i64 0)) (cs.length * 1)).toList = plV [] cs.length := by
  rw [Nat.mul_one]
  have e : Value.cells (.int .i64 0) = #[.int .i64 0] := rfl
  rw [e, toList_madeCells_one]
  unfold plV
  apply List.ext_getElem?
  intro j
  by_cases hj : j < cs.length
  ·simp [hj, plc_nil]
  ·rw [List.getElem?_eq_none (by simp; omega), List.getElem?_eq_none (by simp; omega)]
 rw [hpl] at hown
 have hA : AInv w p cs [] w1.heap.size w1.heap.size w2 := ⟨fun b off e => by
  rcases hC with ⟨h, _⟩ | ⟨b', off', h, _, hbb, hc⟩
  ·rw [h] at e; cases e
  ·rw [h] at e; cases e; exact hc.on hB2, hown, hB2⟩
 have hO2 : ∀ b off, po = some ⟨b, off, none⟩ → ∀ j u, order[j]? = some u → w2.cell? ⟨b, off + j, none⟩ = some (iv u) := by
  intro b off e j u hj
  rcases hO with h2 | ⟨b', off', h, hc⟩
  ·rw [h2] at hj; simp at hj
  ·rw [e] at h
   simp only [Option.some.injEq, Addr.mk.injEq, and_true] at h
   obtain ⟨rfl, rfl⟩ := h
   rw [hB2.cell (KitI.cell_size (hc j u hj))]
   exact hc j u hj
 have hz1 : w1.heap.size ≤ w2.heap.size := hgr.size
 have hgw : w.heap.size ≤ w1.heap.size := hB1.size
 have Hgw := Lib.hid hgw
 have hpB : ∀ b off, p = some (⟨b, off, none⟩ : Addr) → b < w1.heap.size := fun b off e => by
  rcases hC with ⟨h, _⟩ | ⟨b', off', h, _, hbb, hc⟩
  ·rw [h] at e; cases e
  ·rw [h] at e; cases e; omega
 have hoB : ∀ b off, po = some (⟨b, off, none⟩ : Addr) → ∀ {k : Nat}, k < order.length → b < w1.heap.size := fun b off e k hk => by
  rcases hO with h2 | ⟨b', off', h, hc⟩
  ·rw [h2] at hk; simp at hk
  ·rw [e] at h
   simp only [Option.some.injEq, Addr.mk.injEq, and_true] at h
   obtain ⟨rfl, rfl⟩ := h
   have := KitI.cell_size (hc k _ (List.getElem?_eq_getElem hk))
   simp at this
   omega
 have HpB := Lib.hid hpB
 have HoB := Lib.hid hoB
 have hkeep : ∀ (W : World) (n : Nat) (v : Value) (q : Addr), q.block < w1.heap.size → (W.setCell ⟨w1.heap.size, n, none⟩ v).cell? q = W.cell? q := fun W n v q hq => ((Below.refl _ _).setCell (p := ⟨w1.heap.size, n, none⟩) (Nat.le_refl _) v).cell hq
 have HKeep := Lib.hid hkeep
 clear hgw hpB hoB hkeep
 generalize hg1 : w1.heap.size = g at *
 have Hg1 := Lib.hid hg1
 clear hg1 hown hgr hpl hB1 hB2 hb2
 go_wp2
 go_loopw [28] (fun i wr => ORel w p cs order g g po i wr) (fun i wr => order.length - (intOf i).toNat)
 case atStart => exact ⟨0, rfl, by omega, rfl, hA, hO2⟩
 case round =>
  clear hA hO2 hmk
  obtain ⟨k, rfl, hk, he, hA, hO2⟩ := hrel
  by_cases hlt : k < order.length
  ·obtain ⟨x, hx⟩ : ∃ x, order[k]? = some x := ⟨_, List.getElem?_eq_getElem hlt⟩
   have hst := ordE_step he x hx
   rw [he] at hst
   obtain ⟨bo, oo, rfl⟩ : ∃ bo oo, po = some ⟨bo, oo, none⟩ := by
    rcases hO with h2 | ⟨b', off', h, _⟩
    ·rw [h2] at hlt; simp at hlt
    ·exact ⟨b', off', h⟩
   have cx := hO2 bo oo rfl k x hx
   unfold iv at cx
   have Hx := Lib.hid hx
   have HO2 := Lib.hid hO2
   clear hO2 hO he hx
   by_cases hr : x < 0 ∨ (cs.length : Int) ≤ x
   ·rw [if_pos hr] at hst
    have Hst := Lib.hid hst
    have hres : agreesP order cs = (false, 3) := by rw [Hag.out, Hst.out]; rfl
    have Hres := Lib.hid hres
    clear hst hres
    by_cases hx0 : x < 0
    ·clear hr
     go_wp2
     go_returns
     exact ⟨ret_be (by rw [Hres.out]) (by rw [Hres.out]), hA.bl⟩
    ·have hx1 : (cs.length : Int) ≤ x := by omega
     have hx2 : 0 ≤ x := by omega
     clear hr hx0
     go_wp2
     go_returns
     exact ⟨ret_be (by rw [Hres.out]) (by rw [Hres.out]), hA.bl⟩
   ·rw [if_neg hr] at hst
    obtain ⟨n, rfl⟩ : ∃ n : Nat, x = n := ⟨x.toNat, by omega⟩
    have hn : n < cs.length := by omega
    have cz := hA.own.cellAt n (by omega)
    rw [plV_at hn] at cz
    have fz := hA.own.frozenAt n
    by_cases hm : (n : Int) ∈ order.take k
    ·rw [if_pos hm] at hst
     have Hst := Lib.hid hst
     have hz : ¬ plc (order.take k) n = 0 := fun e => (plc_zero.1 e) hm
     have hz2 : (plc (order.take k) n != 0) = true := by simpa using hz
     have hres : agreesP order cs = (false, 9) := by rw [Hag.out, Hst.out]; rfl
     have Hres := Lib.hid hres
     clear hst hr hm hres hz
     go_wp2
     go_returns
     exact ⟨ret_be (by rw [Hres.out]) (by rw [Hres.out]), hA.bl⟩
    ·rw [if_neg hm] at hst
     have hz : plc (order.take k) n = 0 := plc_zero.2 hm
     rw [hz] at cz
     have hset := plV_set (n := cs.length) hm
     have hlen : (order.take k).length = k := by rw [List.length_take]; omega
     rw [hlen] at hset
     have hst2 := hA.own.stored n (.int .i64 ((k : Int) + 1))
     rw [hset] at hst2
     have htk : order.take k ++ [(n : Int)] = order.take (k + 1) := by rw [List.take_add_one, Hx.out]; rfl
     rw [htk] at hst2
     have hbl := hA.bl
     have Hst := Lib.hid hst
     have HA := Lib.hid hA
     clear hst hr hm hz hset hlen htk hA
     go_wp2
     have hA' : AInv w p cs (order.take (k + 1)) g g (wr.setCell ⟨g, n, none⟩ (.int .i64 ((k : Int) + 1))) :=
      ⟨fun b off e j u hj => by rw [HKeep.out wr n _ _ (HpB.out b off e)]; exact HA.out.row b off e j u hj, hst2.1, hbl.setCell (by simpa using Hgw.out) _⟩
     have hO' : ∀ b off, some (⟨bo, oo, none⟩ : Addr) = some ⟨b, off, none⟩ → ∀ j u, order[j]? = some u → (wr.setCell ⟨g, n, none⟩ (.int .i64 ((k : Int) + 1))).cell? ⟨b, off + j, none⟩ = some (iv u) :=
      fun b off e j u hj => by rw [HKeep.out wr n _ _ (HoB.out b off e hlt)]; exact HO2.out b off e j u hj
     exact ⟨⟨k + 1, by go_num, by omega, Hst.out.symm, hA', hO'⟩, by simp [intOf]; omega⟩
  ·have hkk : k = order.length := by omega
   rw [hkk, List.take_length, List.drop_length] at he
   rw [hkk, List.take_length] at hA
   have hres : agreesP order cs = (okPairs order cs, 0) := by rw [Hag.out, if_pos (he.symm.trans (by simp [ordE]))]
   have Hres := Lib.hid hres
   clear hres he hO2 hkk hk hO
   go_wp2
   refine wp_loop (AgI w p po cap co cs order g) (fun a _ => cs.length - (intOf (a.tmps.getD 54 undef)).toNat) ?_ ?_
   ·exact AgI.intro 0 rfl (by omega) (fun x y hx => by omega) hA
   ·clear hA
    rintro a wo ⟨i, u, rfl, hi9, hgood, hA⟩
    have Hg := Lib.hid hgood
    clear hgood
    by_cases hlt : i < cs.length
    ·obtain ⟨c, hc⟩ : ∃ c, cs[i]? = some c := ⟨_, List.getElem?_eq_getElem hlt⟩
     obtain ⟨b, off, rfl⟩ : ∃ b off, p = some ⟨b, off, none⟩ := by
      rcases hC with ⟨_, _, h⟩ | ⟨b, off, h, _⟩
      ·rw [h] at hlt; simp at hlt
      ·exact ⟨b, off, h⟩
     have hcap : cs.length ≤ cap := by
      rcases hC with ⟨h, _⟩ | ⟨_, _, h, hh, _⟩
      ·cases h
      ·exact hh
     have hld := (hA.row b off rfl).load hc
     have Hc := Lib.hid hc
     have hBq : Below wo.heap.size wo (wo.alloc (.cells (callL c).toArray 56)) := (Below.refl _ _).alloc (Nat.le_refl _) _
     have hA2 := hA.on hBq
     have hblk := blk_new wo (callL c) 56
     clear hc hA hC
     go_wp2
     refine wp_loop (AgJ w b off po cap co cs order g i wo.heap.size c) (fun a _ => cs.length - (intOf (a.tmps.getD 61 undef)).toNat) ?_ ?_
     ·exact AgJ.intro 0 rfl (by omega) (fun y hy => by omega) ⟨hblk, hA2⟩
     ·clear hA2 hBq hblk hld
      rintro a wr ⟨j, u, rfl, hj9, hgood, hP⟩
      have Hj := Lib.hid hgood
      clear hgood
      by_cases hjl : j < cs.length
      ·obtain ⟨d, hd⟩ : ∃ d, cs[j]? = some d := ⟨_, List.getElem?_eq_getElem hjl⟩
       have hld := (hP.inv.row b off rfl).load hd
       have hBq : Below wr.heap.size wr (wr.alloc (.cells (callL d).toArray 56)) := (Below.refl _ _).alloc (Nat.le_refl _) _
       have hblk := blk_new wr (callL d) 56
       have hP2 := hP.on hBq
       have hpair : pairB order cs i j = !(decide (plc order j ≠ 0) && befB c d && (decide (plc order i = 0) || decide (plc order j < plc order i))) := by unfold pairB; rw [Hc.out, hd]
       have kx : ∀ W, QInv w b off cs order g wo.heap.size c wr.heap.size d W → (loadCall (.pointer (some ⟨wo.heap.size, 0, none⟩))).run Tryz.prog W = .ok (.agg (callL c).toArray) W ∧ (loadCall (.pointer (some ⟨wr.heap.size, 0, none⟩))).run Tryz.prog W = .ok (.agg (callL d).toArray) W ∧ W.cell? ⟨g, j, none⟩ = some (.int .i64 (plc order j)) ∧ W.cell? ⟨g, i, none⟩ = some (.int .i64 (plc order i)) := fun W h =>
        ⟨ld_call c h.1.blk, ld_call d h.2, by have := h.1.inv.own.cellAt j (by omega); rwa [plV_at hjl] at this, by have := h.1.inv.own.cellAt i (by omega); rwa [plV_at hlt] at this⟩
       have Kx := Lib.hid kx
       have hQ : QInv w b off cs order g wo.heap.size c wr.heap.size d (wr.alloc (.cells (callL d).toArray 56)) := ⟨hP2, hblk⟩
       obtain ⟨q1, q2, q3, q4⟩ := kx _ hQ
       have bc := fun W => before_any c d W
       clear kx hd hP2 hBq hblk hP
       generalize hzj : plc order j = zj at *
       generalize hzi : plc order i = zi at *
       generalize hx : befB c d = x at *
       have Hpair := Lib.hid hpair
       clear hpair hzj hzi hx
       by_cases hz0 : zj = 0
       ·have e1 : (zj != 0) = false := by simpa using hz0
        have hp : pairB order cs i j = true := by rw [Hpair.out]; simp [hz0]
        have Hp := Lib.hid hp
        clear hp hz0
        go_wp2
        refine wp_region_noPanic ?_
        refine wp_region_held_drew (S := fun W => ((loadCall (.pointer (some ⟨wo.heap.size, 0, none⟩))).run Tryz.prog W = .ok (.agg (callL c).toArray) W ∧ (loadCall (.pointer (some ⟨wr.heap.size, 0, none⟩))).run Tryz.prog W = .ok (.agg (callL d).toArray) W ∧ W.cell? ⟨g, j, none⟩ = some (.int .i64 zj) ∧ W.cell? ⟨g, i, none⟩ = some (.int .i64 zi)) ∧ QInv w b off cs order g wo.heap.size c wr.heap.size d W) (by kernel_rfl) ?_ (fun hHeld => ?_)
        ·exact ⟨Kx.out _ hQ.drew, hQ.drew⟩
        iterate 8 (first | (refine np_sn ?_; (try simp only [nSO])) | ((first | refine np_n ?_ ?_ ?_ | refine np_t 0 ?_ ?_ ?_); rotate_left 1; (· (intro w hSw; (try dsimp only at hSw); go_simp; all_goals with_reducible rfl)); (try simp only [nSO])))
        first | (refine np_s 8 ?_; (try simp only [nSO])) | (refine np_step (i := 8) rfl (by kernel_rfl) (fun K hK => ?_); rw [if_pos (by rfl)]; go_simp; (fail); (try go_wp2_with fail); refine hK.out _ _ ?_ (fun hHeld => ?_); (· (exact ⟨Kx.out _ hQ.drew, hQ.drew⟩)); clear hK K; (try simp only [nSO]))
        iterate 19 (first | (refine np_sn ?_; (try simp only [nSO])) | (refine np_n ?_ ?_ ?_; rotate_left 1; (· (intro w hSw; (try dsimp only at hSw); go_simp; all_goals with_reducible rfl)); (try simp only [nSO])))
        refine wpAnyH_done (by kernel_rfl) ?_ _
        refine NoPanic.normal ?_
        have hQ5 := hQ.drew
        have hP5 := hQ5.1
        clear hQ q1 q2 q3 q4
        go_wp2
        exact ⟨AgJ.intro (j + 1) rfl (by omega) (agj_next Hj.out Hp.out) hP5, by simp [intOf]; omega⟩
       ·have e1 : (zj != 0) = true := by simpa using hz0
        cases x with
        | false =>
         have hp : pairB order cs i j = true := by rw [Hpair.out]; simp
         have Hp := Lib.hid hp
         clear hp hz0
         go_wp2
         refine wp_region_noPanic ?_
         refine wp_region_held_drew (S := fun W => ((loadCall (.pointer (some ⟨wo.heap.size, 0, none⟩))).run Tryz.prog W = .ok (.agg (callL c).toArray) W ∧ (loadCall (.pointer (some ⟨wr.heap.size, 0, none⟩))).run Tryz.prog W = .ok (.agg (callL d).toArray) W ∧ W.cell? ⟨g, j, none⟩ = some (.int .i64 zj) ∧ W.cell? ⟨g, i, none⟩ = some (.int .i64 zi)) ∧ QInv w b off cs order g wo.heap.size c wr.heap.size d W) (by kernel_rfl) ?_ (fun hHeld => ?_)
         ·first | exact ⟨Kx.out _ hQ.drew, hQ.drew⟩ | exact ⟨Kx.out _ (hQ.drew.on hbc), hQ.drew.on hbc⟩
         iterate 8 (first | (refine np_sn ?_; (try simp only [nSO])) | ((first | refine np_n ?_ ?_ ?_ | refine np_t 0 ?_ ?_ ?_); rotate_left 1; (· (intro w hSw; (try dsimp only at hSw); go_simp; all_goals with_reducible rfl)); (try simp only [nSO])))
         first | (refine np_s 8 ?_; (try simp only [nSO])) | (refine np_step (i := 8) rfl (by kernel_rfl) (fun K hK => ?_); rw [if_pos (by rfl)]; go_simp; ((go_at_call 106; refine (bc _).mono ?_; rintro e w1 ⟨rfl, hbc⟩)); (try go_wp2_with fail); refine hK.out _ _ ?_ (fun hHeld => ?_); (· (first | exact ⟨Kx.out _ hQ.drew, hQ.drew⟩ | exact ⟨Kx.out _ (hQ.drew.on hbc), hQ.drew.on hbc⟩)); clear hK K; (try simp only [nSO]))
         iterate 19 (first | (refine np_sn ?_; (try simp only [nSO])) | (refine np_n ?_ ?_ ?_; rotate_left 1; (· (intro w hSw; (try dsimp only at hSw); go_simp; all_goals with_reducible rfl)); (try simp only [nSO])))
         refine wpAnyH_done (by kernel_rfl) ?_ _
         refine NoPanic.normal ?_
         have hQ5 := hQ.drew.on hbc
         have hP5 := hQ5.1
         clear hQ q1 q2 q3 q4
         go_wp2
         exact ⟨AgJ.intro (j + 1) rfl (by omega) (agj_next Hj.out Hp.out) hP5, by simp [intOf]; omega⟩
        | true =>
         by_cases hi0 : zi = 0
         ·have e2 : (zi == 0) = true := by simpa using hi0
          have hp : pairB order cs i j = false := by rw [Hpair.out]; simp [hz0, hi0]
          have Hp := Lib.hid hp
          clear hp hz0 hi0
          go_wp2
          refine wp_region_noPanic ?_
          refine wp_region_held_drew (S := fun W => ((loadCall (.pointer (some ⟨wo.heap.size, 0, none⟩))).run Tryz.prog W = .ok (.agg (callL c).toArray) W ∧ (loadCall (.pointer (some ⟨wr.heap.size, 0, none⟩))).run Tryz.prog W = .ok (.agg (callL d).toArray) W ∧ W.cell? ⟨g, j, none⟩ = some (.int .i64 zj) ∧ W.cell? ⟨g, i, none⟩ = some (.int .i64 zi)) ∧ QInv w b off cs order g wo.heap.size c wr.heap.size d W) (by kernel_rfl) ?_ (fun hHeld => ?_)
          ·first | exact ⟨Kx.out _ hQ.drew, hQ.drew⟩ | exact ⟨Kx.out _ (hQ.drew.on hbc), hQ.drew.on hbc⟩
          iterate 8 (first | (refine np_sn ?_; (try simp only [nSO])) | ((first | refine np_n ?_ ?_ ?_ | refine np_t 0 ?_ ?_ ?_); rotate_left 1; (· (intro w hSw; (try dsimp only at hSw); go_simp; all_goals with_reducible rfl)); (try simp only [nSO])))
          first | (refine np_s 8 ?_; (try simp only [nSO])) | (refine np_step (i := 8) rfl (by kernel_rfl) (fun K hK => ?_); rw [if_pos (by rfl)]; go_simp; ((go_at_call 106; refine (bc _).mono ?_; rintro e w1 ⟨rfl, hbc⟩)); (try go_wp2_with fail); refine hK.out _ _ ?_ (fun hHeld => ?_); (· (first | exact ⟨Kx.out _ hQ.drew, hQ.drew⟩ | exact ⟨Kx.out _ (hQ.drew.on hbc), hQ.drew.on hbc⟩)); clear hK K; (try simp only [nSO]))
          iterate 19 (first | (refine np_sn ?_; (try simp only [nSO])) | (refine np_n ?_ ?_ ?_; rotate_left 1; (· (intro w hSw; (try dsimp only at hSw); go_simp; all_goals with_reducible rfl)); (try simp only [nSO])))
          refine wpAnyH_done (by kernel_rfl) ?_ _
          refine NoPanic.normal ?_
          have hQ5 := hQ.drew.on hbc
          have hbl := hQ5.1.inv.bl
          have hno := pairs_no hlt hjl Hp.out
          have Hno := Lib.hid hno
          clear hQ q1 q2 q3 q4 hno
          go_wp2
          go_returns
          exact ⟨ret_be (by rw [Hres.out, Hno.out]) (by rw [Hres.out]), hbl⟩
         ·have e2 : (zi == 0) = false := by simpa using hi0
          by_cases hzz : zj < zi
          ·have e3 : decide (zj < zi) = true := by simpa using hzz
           have hp : pairB order cs i j = false := by rw [Hpair.out]; simp [hz0, hzz]
           have Hp := Lib.hid hp
           clear hp hz0 hi0
           go_wp2
           refine wp_region_noPanic ?_
           refine wp_region_held_drew (S := fun W => ((loadCall (.pointer (some ⟨wo.heap.size, 0, none⟩))).run Tryz.prog W = .ok (.agg (callL c).toArray) W ∧ (loadCall (.pointer (some ⟨wr.heap.size, 0, none⟩))).run Tryz.prog W = .ok (.agg (callL d).toArray) W ∧ W.cell? ⟨g, j, none⟩ = some (.int .i64 zj) ∧ W.cell? ⟨g, i, none⟩ = some (.int .i64 zi)) ∧ QInv w b off cs order g wo.heap.size c wr.heap.size d W) (by kernel_rfl) ?_ (fun hHeld => ?_)
           ·first | exact ⟨Kx.out _ hQ.drew, hQ.drew⟩ | exact ⟨Kx.out _ (hQ.drew.on hbc), hQ.drew.on hbc⟩
           iterate 8 (first | (refine np_sn ?_; (try simp only [nSO])) | ((first | refine np_n ?_ ?_ ?_ | refine np_t 0 ?_ ?_ ?_); rotate_left 1; (· (intro w hSw; (try dsimp only at hSw); go_simp; all_goals with_reducible rfl)); (try simp only [nSO])))
           first | (refine np_s 8 ?_; (try simp only [nSO])) | (refine np_step (i := 8) rfl (by kernel_rfl) (fun K hK => ?_); rw [if_pos (by rfl)]; go_simp; ((go_at_call 106; refine (bc _).mono ?_; rintro e w1 ⟨rfl, hbc⟩)); (try go_wp2_with fail); refine hK.out _ _ ?_ (fun hHeld => ?_); (· (first | exact ⟨Kx.out _ hQ.drew, hQ.drew⟩ | exact ⟨Kx.out _ (hQ.drew.on hbc), hQ.drew.on hbc⟩)); clear hK K; (try simp only [nSO]))
           iterate 19 (first | (refine np_sn ?_; (try simp only [nSO])) | (refine np_n ?_ ?_ ?_; rotate_left 1; (· (intro w hSw; (try dsimp only at hSw); go_simp; all_goals with_reducible rfl)); (try simp only [nSO])))
           refine wpAnyH_done (by kernel_rfl) ?_ _
           refine NoPanic.normal ?_
           have hQ5 := hQ.drew.on hbc
           have hbl := hQ5.1.inv.bl
           have hno := pairs_no hlt hjl Hp.out
           have Hno := Lib.hid hno
           clear hQ q1 q2 q3 q4 hno
           go_wp2
           go_returns
           exact ⟨ret_be (by rw [Hres.out, Hno.out]) (by rw [Hres.out]), hbl⟩
          ·have e3 : decide (zj < zi) = false := by simpa using hzz
           have hp : pairB order cs i j = true := by rw [Hpair.out]; simp [hi0, hzz]
           have Hp := Lib.hid hp
           clear hp hz0 hi0
           go_wp2
           refine wp_region_noPanic ?_
           refine wp_region_held_drew (S := fun W => ((loadCall (.pointer (some ⟨wo.heap.size, 0, none⟩))).run Tryz.prog W = .ok (.agg (callL c).toArray) W ∧ (loadCall (.pointer (some ⟨wr.heap.size, 0, none⟩))).run Tryz.prog W = .ok (.agg (callL d).toArray) W ∧ W.cell? ⟨g, j, none⟩ = some (.int .i64 zj) ∧ W.cell? ⟨g, i, none⟩ = some (.int .i64 zi)) ∧ QInv w b off cs order g wo.heap.size c wr.heap.size d W) (by kernel_rfl) ?_ (fun hHeld => ?_)
           ·first | exact ⟨Kx.out _ hQ.drew, hQ.drew⟩ | exact ⟨Kx.out _ (hQ.drew.on hbc), hQ.drew.on hbc⟩
           iterate 8 (first | (refine np_sn ?_; (try simp only [nSO])) | ((first | refine np_n ?_ ?_ ?_ | refine np_t 0 ?_ ?_ ?_); rotate_left 1; (· (intro w hSw; (try dsimp only at hSw); go_simp; all_goals with_reducible rfl)); (try simp only [nSO])))
           first | (refine np_s 8 ?_; (try simp only [nSO])) | (refine np_step (i := 8) rfl (by kernel_rfl) (fun K hK => ?_); rw [if_pos (by rfl)]; go_simp; ((go_at_call 106; refine (bc _).mono ?_; rintro e w1 ⟨rfl, hbc⟩)); (try go_wp2_with fail); refine hK.out _ _ ?_ (fun hHeld => ?_); (· (first | exact ⟨Kx.out _ hQ.drew, hQ.drew⟩ | exact ⟨Kx.out _ (hQ.drew.on hbc), hQ.drew.on hbc⟩)); clear hK K; (try simp only [nSO]))
           iterate 19 (first | (refine np_sn ?_; (try simp only [nSO])) | (refine np_n ?_ ?_ ?_; rotate_left 1; (· (intro w hSw; (try dsimp only at hSw); go_simp; all_goals with_reducible rfl)); (try simp only [nSO])))
           refine wpAnyH_done (by kernel_rfl) ?_ _
           refine NoPanic.normal ?_
           have hQ5 := hQ.drew.on hbc
           have hP5 := hQ5.1
           clear hQ q1 q2 q3 q4
           go_wp2
           exact ⟨AgJ.intro (j + 1) rfl (by omega) (agj_next Hj.out Hp.out) hP5, by simp [intOf]; omega⟩
      ·have hjj : j = cs.length := by omega
       subst hjj
       go_wp2
       refine ⟨AgI.intro (i + 1) rfl (by omega) (fun x y hx hy => ?_) hP.inv, by simp [intOf]; omega⟩
       by_cases e : x = i
       ·rw [e]; exact Hj.out y hy
       ·exact Hg.out x y (by omega) hy
    ·have hkk : i = cs.length := by omega
     have hyes : okPairs order cs = true := pairs_yes (fun x y hx hy => Hg.out x y (by omega) hy)
     have Hyes := Lib.hid hyes
     clear hyes
     go_wp2
     go_returns
     exact ⟨ret_be (by rw [Hres.out, Hyes.out]) (by rw [Hres.out]), hA.bl⟩
theorem agrees_bad (p po : Option Addr) (cap co : Nat) (cs : List CallV) (order : List Int) (w : World) (hC : CRow w p cap cs) (hs : cs.length ≤ 1000000) (hok : ∀ c ∈ cs, c.Ok) (h0 : (checkP cs).2 = 22) :
  Calls Tryz.prog 55 #[.slice po order.length co, .slice p cs.length cap] w fun e w' => e = .returned (.tuple #[.bool (agreesP order cs).1, .int .i64 (agreesP order cs).2]) ∧ Below w.heap.size w w' := by
 have ck := check_any p cap cs w hC hs hok
 obtain ⟨k1, hk1⟩ : ∃ k1, (checkP cs).1 = k1 := ⟨_, rfl⟩
 rw [hk1, h0] at ck
 have hres : agreesP order cs = (false, 22) := by unfold agreesP; rw [if_neg (by rw [h0]; decide)]
 rw [hres]
 clear h0 hk1 hres
 go_enter Tryz.func55, Tryz.ntmps55
 go_wp2_with fail
 refine ck.mono ?_
 clear ck
 rintro e w1 ⟨rfl, hB1⟩
 go_wp2
 go_returns
 exact ⟨rfl, hB1⟩
theorem agrees_any (p po : Option Addr) (cap co : Nat) (cs : List CallV) (order : List Int) (w : World) (hC : CRow w p cap cs) (hO : IRd w po order) (hs : cs.length ≤ 1000000) (hs2 : order.length ≤ 1000000) (hok : ∀ c ∈ cs, c.Ok) :
  Calls Tryz.prog 55 #[.slice po order.length co, .slice p cs.length cap] w fun e w' => e = .returned (.tuple #[.bool (agreesP order cs).1, .int .i64 (agreesP order cs).2]) ∧ Below w.heap.size w w' := by
 rcases check_two cs with h0 | h22
 ·exact agrees_ok p po cap co cs order w hC hO hs hs2 hok h0
 ·exact agrees_bad p po cap co cs order w hC hs hok h22
end Go.Proofs.YtdeiocppghhfdaaGreat.Hs
namespace Go.Proofs.YtdeiocppghhfdaaGreat.Hs
open Go.RowKit Go.Lib Go.Shelf
open KitI (own_below)
attribute [local go_sem, local simp] callL_0 callL_1 callL_2 callL_3 callL_4 callL_5 callL_6 callL_7 callL_8 callL_9 callL_10 callL_11 callL_12 callL_13 callL_14 callL_15 callL_16 callL_17 callL_18 callL_19 callL_20 callL_21 callL_22 callL_23 callL_24 callL_25 callL_26 resL_0 resL_1 resL_2 resL_3 resL_4 resL_5 resL_6 resL_7 resL_8 resL_9 resL_10 resL_11 resL_12 callG_0 callG_1 callG_2 callG_3 callG_4 callG_5 callG_6 callG_7 callG_8 callG_9 callG_10 callG_11 callG_12 callG_13 callG_14 callG_15 callG_16 callG_17 callG_18 callG_19 callG_20 callG_21 callG_22 callG_23 callG_24 callG_25 callG_26 resG_0 resG_1 resG_2 resG_3 resG_4 resG_5 resG_6 resG_7 resG_8 resG_9 resG_10 resG_11 resG_12 callL_len resL_len
attribute [local go_sem ↓] loadCall_eq loadRes_eq
attribute [local go_sem] ld_new ld_first ld_second ldr_new st_new
theorem crow_of_own {W : World} {base : Nat} {v : Value} {cs : List CallV} (h : W.ownsRow base 56 27 v cs.length (callsL cs)) : ∃ p cap, v = .slice p cs.length cap ∧ CRow W p cap cs := by
 rcases h.2 with ⟨h1, h2⟩ | ⟨g, cap, cur, rfl, h2, h3, h4, h5, h6, h7⟩
 ·have : cs = [] := List.length_eq_zero_iff.1 h2
  subst this
  exact ⟨none, 0, h1, .inl ⟨rfl, rfl, rfl⟩⟩
 ·refine ⟨_, _, rfl, .inr ⟨g, 0, rfl, h4, (Array.getElem?_eq_some_iff.1 h3).1, fun j u hj => ?_⟩⟩
  have hlt := (List.getElem?_eq_some_iff.1 hj).1
  rw [callsL_len] at hlt
  rw [Nat.zero_add, h.cellAt j hlt]
  exact hj
theorem hrow_of {w W : World} {base : Nat} {v : Value} {L : List CallV} (h : ORow w base W v L) (hok : ∀ c ∈ L, c.Ok) (hl : L.length ≤ 24) : ∃ p cap hs, v = .slice p hs.length cap ∧ hs.map CallV.pure = L ∧ HRow W p cap hs := by
 obtain ⟨cs, h1, h2, h3⟩ := h
 obtain ⟨p, cap, hv, hC⟩ := crow_of_own h2
 refine ⟨p, cap, cs, hv, h1, hC, fun c hc => (h3 c hc).at, fun c hc => ?_, by rw [← h1] at hl; simpa using hl⟩
 have hm : c.pure ∈ L := by rw [← h1]; exact List.mem_map_of_mem hc
 exact pure_ok (d := c.pure) rfl (hok _ hm)
theorem few_h (p : Option Addr) (cap : Nat) (cs : List CallV) (w : World) (hA : ArgRow w p cs) :
  Calls Tryz.prog 35 #[.slice p cs.length cap] w fun e w' => ∃ p' cap' hs, e = .returned (.slice p' hs.length cap') ∧ hs.map CallV.pure = fewL cs ∧ HRow w' p' cap' hs ∧ Below w.heap.size w w' := by
 refine (few_any p cap cs w hA).mono ?_
 rintro e w' ⟨v, rfl, hO, hB⟩
 obtain ⟨p', cap', hs, rfl, hm, hH⟩ := hrow_of hO (fun c hc => by
  obtain ⟨d, hd, rfl⟩ := few_mem hc
  rcases hA with rfl | ⟨_, _, _, _, _, _, h⟩
  ·cases hd
  ·exact cut_ok (h d hd).1) (few_len cs)
 exact ⟨p', cap', hs, rfl, hm, hH, hB⟩
end Go.Proofs.YtdeiocppghhfdaaGreat.Hs
namespace Go.Proofs.YtdeiocppghhfdaaGreat.Hs
open Go.RowKit Go.Lib Go.Shelf
theorem ordE_zero {n : Nat} : ∀ (r seen : List Int), (∀ x ∈ r, 0 ≤ x ∧ x < (n : Int)) → (∀ x ∈ r, x ∉ seen) → r.Nodup → ordE n seen r = 0
 | [], _, _, _, _ => rfl
 | x :: r, seen, h1, h2, h3 => by
  have hx := h1 x (List.mem_cons_self ..)
  unfold ordE
  rw [if_neg (by omega), if_neg (h2 x (List.mem_cons_self ..))]
  obtain ⟨h4, h5⟩ := List.nodup_cons.1 h3
  refine ordE_zero r (seen ++ [x]) (fun y hy => h1 y (List.mem_cons_of_mem _ hy)) (fun y hy hm => ?_) h5
  rcases List.mem_append.1 hm with h | h
  ·exact h2 y (List.mem_cons_of_mem _ hy) h
  ·rw [List.mem_singleton.1 h] at hy; exact h4 hy
theorem places_nodup {q : CallV → Bool} {cs : List CallV} {k : Nat} : (places q cs k).Nodup := by
 refine List.Pairwise.imp ?_ (places_sorted (q := q) (cs := cs) (k := k))
 intro a b h; omega
theorem eff_nodup {cs : List CallV} {L : List Nat} (h : EffIs cs L) : L.Nodup := h.1.nodup_iff.2 places_nodup
theorem good_formed {cs : List CallV} (h0 : (checkP cs).2 = 0) {i : Nat} {c : CallV} (hc : cs[i]? = some c) : formedB c = true := acc_formed (check_ok h0 i c hc)
theorem formed_answered {c : CallV} (h : formedB c = true) (ha : 0 ≤ c.answered) : 0 ≤ c.took ∧ c.took ≤ c.answered ∧ c.invoked ≤ c.answered := by
 unfold formedB at h; simp at h; omega
theorem formed_took {c : CallV} (h : formedB c = true) (ha : 0 ≤ c.took) : c.invoked ≤ c.took := by
 unfold formedB at h; simp at h; omega
theorem bef_lex {cs : List CallV} (h0 : (checkP cs).2 = 0) {i j : Nat} {a b : CallV} (ha : cs[i]? = some a) (hb : cs[j]? = some b) (hq : tookQ b = true) (h : befB a b = true) : tookQ a = true ∧ tk cs i < tk cs j := by
 unfold befB at h
 simp only [Bool.and_eq_true, decide_eq_true_eq] at h
 have f1 := formed_answered (good_formed h0 ha) h.1
 have f2 := formed_took (good_formed h0 hb) (by simpa [tookQ] using hq)
 rw [(tk_at ha).1, (tk_at hb).1]
 exact ⟨by simp [tookQ]; omega, by omega⟩
theorem mem_cast {L : List Nat} {i : Nat} : ((i : Int) ∈ L.map fun (n : Nat) => (n : Int)) ↔ i ∈ L := by
 constructor
 ·intro h
  obtain ⟨a, ha, he⟩ := List.mem_map.1 h
  have : a = i := by omega
  rwa [this] at ha
 ·intro h; exact List.mem_map_of_mem h
theorem idx_cast {L : List Nat} {i : Nat} : (L.map fun (n : Nat) => (n : Int)).idxOf (i : Int) = L.idxOf i := by
 induction L with
 | nil => rfl
 | cons a L ih =>
  rw [List.map_cons, List.idxOf_cons, List.idxOf_cons, ih]
  by_cases h : a = i
  ·subst h; simp
  ·have h1 : (a == i) = false := by simpa using h
   have h2 : ((a : Int) == (i : Int)) = false := by rw [beq_eq_false_iff_ne]; omega
   rw [h1, h2]
end Go.Proofs.YtdeiocppghhfdaaGreat.Hs
namespace Go.Proofs.YtdeiocppghhfdaaGreat.Lin
open Hs (CallV befB checkP agreesP okPairs pairB ordE plc)
def rdyB (L : List CallV) (u i : Nat) : Bool := (List.range L.length).all fun j => u.testBit j || !befB (getC L j) (getC L i)
theorem mk_bit : ∀ (o : List Nat) (u j : Nat), (mk u o).testBit j = (u.testBit j || o.contains j)
 | [], u, j => by simp [mk]
 | i :: r, u, j => by
  show (mk (u ||| 2 ^ i) r).testBit j = _
  rw [mk_bit r, bit_or, List.contains_cons, Bool.or_assoc]
  congr 2
  rw [Bool.eq_iff_iff]; simp; exact eq_comm
theorem nodup_cast {o : List Nat} : (o.map fun (n : Nat) => (n : Int)).Nodup ↔ o.Nodup := by
 unfold List.Nodup
 rw [List.pairwise_map]
 constructor <;> intro h <;> exact h.imp (fun hab => by omega)
theorem plc_cast {o : List Nat} (i : Nat) : plc (o.map fun (n : Nat) => (n : Int)) i = if i ∈ o then (o.idxOf i : Int) + 1 else 0 := by
 unfold plc
 rw [Hs.idx_cast]
 by_cases h : i ∈ o
 ·rw [if_pos (Hs.mem_cast.2 h), if_pos h]
 ·rw [if_neg (fun h' => h (Hs.mem_cast.1 h')), if_neg h]
theorem bef_self {L : List CallV} (h0 : (checkP L).2 = 0) {i : Nat} (hi : i < L.length) : befB (getC L i) (getC L i) = false := by
 unfold befB
 rw [Bool.and_eq_false_iff]
 by_cases ha : 0 ≤ (getC L i).answered
 ·have := Hs.formed_answered (Hs.good_formed h0 (getC_some hi)) ha
  right; simpa using this.2.2
 ·left; simpa using ha
theorem pairs_iff {L : List CallV} (h0 : (checkP L).2 = 0) {o : List Nat} (ho : ∀ i ∈ o, i < L.length) (hn : o.Nodup) :
  okPairs (o.map fun (n : Nat) => (n : Int)) L = true ↔ ∀ k i, o[k]? = some i → rdyB L (mk 0 (o.take k)) i = true := by
 unfold okPairs rdyB
 constructor
 ·intro h k j hk
  rw [List.all_eq_true]
  intro i hi
  rw [mk_bit, Nat.zero_testBit, Bool.false_or]
  have hi' := List.mem_range.1 hi
  obtain ⟨hlt, hkj⟩ := List.getElem?_eq_some_iff.1 hk
  have hjo : j ∈ o := by rw [← hkj]; exact List.getElem_mem ..
  have hj' := ho j hjo
  cases hb : befB (getC L i) (getC L j) with
  | false => simp
  | true =>
   have h1 := List.all_eq_true.1 (List.all_eq_true.1 h i hi) j (List.mem_range.2 hj')
   unfold pairB at h1
   rw [getC_some hi', getC_some hj'] at h1
   simp only [hb, plc_cast, if_pos hjo] at h1
   have hx : o.idxOf j = k := by rw [← hkj]; exact hn.idxOf_getElem k hlt
   by_cases hio : i ∈ o
   ·rw [if_pos hio] at h1
    have h2 : o.idxOf i ≤ k := by simp at h1; omega
    have h3 : o.idxOf i ≠ k := fun e => by
     have e1 : o[k]? = some i := by rw [← e, List.getElem?_eq_getElem (List.idxOf_lt_length_iff.2 hio), List.getElem_idxOf]
     rw [hk] at e1
     cases e1
     rw [bef_self h0 hi'] at hb; cases hb
    have h4 : i ∈ o.take k := by
     rw [List.mem_take_iff_getElem]
     refine ⟨o.idxOf i, ?_, List.getElem_idxOf _⟩
     have := List.idxOf_lt_length_iff.2 hio
     omega
    simp [h4]
   ·rw [if_neg hio] at h1
    simp at h1
    omega
 ·intro h
  rw [List.all_eq_true]
  intro i hi
  rw [List.all_eq_true]
  intro j hj
  have hi' := List.mem_range.1 hi
  have hj' := List.mem_range.1 hj
  unfold pairB
  rw [getC_some hi', getC_some hj']
  simp only [plc_cast]
  by_cases hjo : j ∈ o
  ·cases hb : befB (getC L i) (getC L j) with
   | false => simp
   | true =>
    have hlt := List.idxOf_lt_length_iff.2 hjo
    have hk : o[o.idxOf j]? = some j := by rw [List.getElem?_eq_getElem hlt, List.getElem_idxOf]
    have h1 := List.all_eq_true.1 (h _ _ hk) i hi
    rw [mk_bit, Nat.zero_testBit, Bool.false_or, hb] at h1
    have h2 : i ∈ o.take (o.idxOf j) := by simpa using h1
    have hio := List.mem_of_mem_take h2
    have h3 : o.idxOf i < o.idxOf j := by
     obtain ⟨m, hm, e⟩ := List.mem_take_iff_getElem.1 h2
     have h5 : o.idxOf i = m := by rw [← e]; exact hn.idxOf_getElem m (by omega)
     omega
    rw [if_pos hjo, if_pos hio]
    simp; omega
  ·rw [if_neg hjo]; simp
end Go.Proofs.YtdeiocppghhfdaaGreat.Lin
namespace Go.Proofs.YtdeiocppghhfdaaGreat.Lin
open Hs
theorem eff_unique {cs : List CallV} {X Y : List Nat} (hX : EffIs cs X) (hY : EffIs cs Y) : X = Y :=
 (hX.1.trans hY.1.symm).eq_of_pairwise (fun a b _ _ h1 h2 => by rw [lex_asymm h1] at h2; cases h2) hX.2 hY.2
theorem ord_nodup {cs : List CallV} {E : List Nat} (hE : EffIs cs E) : (ordW cs E).Nodup := (ord_perm hE).nodup_iff.2 (eff_nodup hE)
theorem bef_took {cs : List CallV} (h0 : (checkP cs).2 = 0) {i j : Nat} (hi : i < cs.length) (hj : j < cs.length) (hq : 0 ≤ (getC cs j).took) (h : befB (getC cs i) (getC cs j) = true) : 0 ≤ (getC cs i).took ∧ (getC cs i).took < (getC cs j).took := by
 have := bef_lex h0 (getC_some hi) (getC_some hj) (decide_eq_true hq) h
 rw [(getC_tk hi).1, (getC_tk hj).1] at this
 exact ⟨of_decide_eq_true this.1, this.2⟩
def NoBack (cs : List CallV) (o : List Nat) : Prop := o.Pairwise fun x y => befB (getC cs y) (getC cs x) = false
theorem eff_back {cs : List CallV} {E : List Nat} (h0 : (checkP cs).2 = 0) (hE : EffIs cs E) : NoBack cs E := by
 have hl : ∀ i ∈ E, i < cs.length ∧ 0 ≤ (getC cs i).took := fun i hi => (eff_in hE).1 hi
 refine List.Pairwise.imp_of_mem (fun {a b} ha hb h => ?_) hE.2
 obtain ⟨ha1, ha2⟩ := hl a ha
 obtain ⟨hb1, hb2⟩ := hl b hb
 cases hbb : befB (getC cs b) (getC cs a) with
 | false => rfl
 | true =>
  have h1 := bef_took h0 hb1 ha1 ha2 hbb
  have h2 := lex_get ha1 hb1 h
  omega
theorem mv_parts {cs : List CallV} {z i : Nat} (h : mvQ cs z i = true) : (getC cs z).took < (getC cs i).took ∧ (getC cs i).invoked < (getC cs z).took ∧ (getC cs i).err ≠ 13 := by
 unfold mvQ at h
 simp only [Bool.and_eq_true, decide_eq_true_eq] at h
 exact ⟨h.1.1, h.1.2, h.2⟩
theorem ord_back {cs : List CallV} {E : List Nat} (h0 : (checkP cs).2 = 0) (hE : EffIs cs E) : NoBack cs (ordW cs E) := by
 have hb := eff_back h0 hE
 cases hc : closeP cs E with
 | none => rw [ord_none hc]; exact hb
 | some z =>
  obtain ⟨P, Q, hz⟩ := close_at hE hc
  have hl : ∀ i ∈ E, i < cs.length ∧ 0 ≤ (getC cs i).took := fun i hi => (eff_in hE).1 hi
  rw [ord_some hE hc hz]
  unfold NoBack at hb ⊢
  rw [hz.eq] at hb
  obtain ⟨b1, b2, b3⟩ := List.pairwise_append.1 hb
  obtain ⟨b4, b5⟩ := List.pairwise_cons.1 b2
  have hQ : ∀ i ∈ Q, i < cs.length ∧ 0 ≤ (getC cs i).took := fun i hi => hl i (by rw [hz.eq]; simp [hi])
  have hzl := hl z (by rw [hz.eq]; simp)
  have hfo : ∀ i, i < cs.length → formedB (getC cs i) = true := fun i hi => good_formed h0 (getC_some hi)
  have hzM : ∀ x ∈ Q.filter (mvQ cs z), befB (getC cs z) (getC cs x) = false := fun x hx => by
   obtain ⟨hx1, hx2⟩ := List.mem_filter.1 hx
   obtain ⟨m1, m2, m3⟩ := mv_parts hx2
   cases hbb : befB (getC cs z) (getC cs x) with
   | false => rfl
   | true =>
    unfold befB at hbb
    simp only [Bool.and_eq_true, decide_eq_true_eq] at hbb
    have := formed_answered (hfo z hzl.1) hbb.1
    omega
  have hAM : ∀ x ∈ Q.filter (mvQ cs z), ∀ y ∈ Q, befB (getC cs y) (getC cs x) = false := fun x hx y hy => by
   obtain ⟨hx1, hx2⟩ := List.mem_filter.1 hx
   obtain ⟨m1, m2, m3⟩ := mv_parts hx2
   have h2 := lex_get hzl.1 (hQ y hy).1 (hz.hi y hy)
   cases hbb : befB (getC cs y) (getC cs x) with
   | false => rfl
   | true =>
    unfold befB at hbb
    simp only [Bool.and_eq_true, decide_eq_true_eq] at hbb
    have := formed_answered (hfo y (hQ y hy).1) hbb.1
    omega
  have hPQ : ∀ x ∈ P, ∀ y ∈ Q, befB (getC cs y) (getC cs x) = false := fun x hx y hy => b3 x hx y (by simp [hy])
  have hsub : ∀ (p : Nat → Bool) y, y ∈ Q.filter p → y ∈ Q := fun p y hy => (List.mem_filter.1 hy).1
  refine List.pairwise_append.2 ⟨List.pairwise_append.2 ⟨List.pairwise_append.2 ⟨b1, b5.filter _, fun x hx y hy => hPQ x hx y (hsub _ y hy)⟩, List.pairwise_singleton _ _, fun x hx y hy => ?_⟩, b5.filter _, fun x hx y hy => ?_⟩
  ·rw [List.mem_singleton.1 hy]
   rcases List.mem_append.1 hx with hx | hx
   ·exact b3 x hx z (by simp)
   ·exact hzM x hx
  ·rcases List.mem_append.1 hx with hx | hx
   ·rcases List.mem_append.1 hx with hx | hx
    ·exact hPQ x hx y (hsub _ y hy)
    ·exact hAM x hx y (hsub _ y hy)
   ·rw [List.mem_singleton.1 hx]
    exact b4 y (hsub _ y hy)
theorem agrees_back {cs : List CallV} {o : List Nat} (h0 : (checkP cs).2 = 0) (hn : o.Nodup) (hi : ∀ i, i ∈ o ↔ i < cs.length ∧ 0 ≤ (getC cs i).took) (hb : NoBack cs o) : agreesP (o.map fun (n : Nat) => (n : Int)) cs = (true, 0) := by
 have hord : ordE cs.length [] (o.map fun (n : Nat) => (n : Int)) = 0 := by
  refine ordE_zero _ _ (fun x hx => ?_) (fun x _ h => by cases h) (nodup_cast.2 hn)
  obtain ⟨i, hio, rfl⟩ := List.mem_map.1 hx
  have := ((hi i).1 hio).1
  omega
 unfold agreesP
 rw [if_pos h0, if_pos hord]
 congr 1
 refine (pairs_iff h0 (fun i hio => ((hi i).1 hio).1) hn).2 fun k j hk => ?_
 obtain ⟨hlt, hkj⟩ := List.getElem?_eq_some_iff.1 hk
 have hjo : j ∈ o := by rw [← hkj]; exact List.getElem_mem ..
 obtain ⟨hj1, hj2⟩ := (hi j).1 hjo
 unfold rdyB
 rw [List.all_eq_true]
 intro i hil
 have hil := List.mem_range.1 hil
 rw [mk_bit, Nat.zero_testBit, Bool.false_or]
 cases hbb : befB (getC cs i) (getC cs j) with
 | false => simp
 | true =>
  have h1 := bef_took h0 hil hj1 hj2 hbb
  have hio : i ∈ o := (hi i).2 ⟨hil, h1.1⟩
  obtain ⟨m, hm, hmi⟩ := List.getElem_of_mem hio
  have hmk : m < k := by
   rcases Nat.lt_trichotomy m k with h | h | h
   ·exact h
   ·exfalso
    subst h
    rw [hmi] at hkj
    subst hkj
    rw [bef_self h0 hil] at hbb
    cases hbb
   ·exfalso
    have := List.pairwise_iff_getElem.1 hb k m hlt hm h
    rw [hmi, hkj, hbb] at this
    cases this
  have : i ∈ o.take k := by
   rw [List.mem_take_iff_getElem]
   exact ⟨m, by omega, hmi⟩
  simp [this]
theorem ord_agrees {cs : List CallV} {E : List Nat} (h0 : (checkP cs).2 = 0) (hE : EffIs cs E) : agreesP ((ordW cs E).map fun (n : Nat) => (n : Int)) cs = (true, 0) :=
 agrees_back h0 (ord_nodup hE) (fun _ => ord_in hE) (ord_back h0 hE)
end Go.Proofs.YtdeiocppghhfdaaGreat.Lin
namespace Go.Proofs.YtdeiocppghhfdaaGreat
open Go.RowKit Go.WideShapes Go.ChangeShapes Go.Deep
section
variable {H : Type} {enc : TypeId × Value → H} {P : Program} {w : World} {base : Nat} {spare : Nat → Bool} {held : Bool}
theorem field_of {t : TypeId} {fs : Array Field} {fuel : Nat} {cs : List Value} {x : DataW H × List MemPlace} (hs : P.underlying t = some (.struct fs)) (h : DataW.trod enc P w base spare held fuel t cs = some x) (i : Nat) (f : Field) (hf : fs[i]? = some f) :
  ∃ n y, DataW.trod enc P w base spare held n f.type ((cs.drop f.offset).take (P.cellsOf f.type)) = some y := by
 obtain ⟨xs, n, _, _, _, hl, hx⟩ := DataW.trod_struct hs h
 have h1 := hx i f hf
 have hlt := (Array.getElem?_eq_some_iff.1 hf).1
 rw [List.getElem?_eq_getElem (by omega)] at h1
 exact ⟨n, _, h1⟩
theorem cell_of {cs : List Value} {k m : Nat} {v : Value} (h : (cs.drop k).take m = [v]) : cs[k]? = some v := by
 have h1 : ((cs.drop k).take m)[0]? = some v := by rw [h]; rfl
 rw [List.getElem?_take] at h1
 split at h1
 ·rwa [List.getElem?_drop, Nat.add_zero] at h1
 ·cases h1
theorem int_cell {t : TypeId} {κ : IntKind} {fuel k m : Nat} {cs : List Value} {x : DataW H × List MemPlace} (ht : P.underlying t = some (.int κ)) (h : DataW.trod enc P w base spare held fuel t ((cs.drop k).take m) = some x) : ∃ z, cs[k]? = some (.int κ z) ∧ (Lit.int κ z).wf = true := by
 obtain ⟨z, h1, _, h2⟩ := DataW.trod_int ht h
 exact ⟨z, cell_of h1, h2⟩
theorem str_cell {t : TypeId} {fuel k m : Nat} {cs : List Value} {x : DataW H × List MemPlace} (ht : P.underlying t = some .string) (h : DataW.trod enc P w base spare held fuel t ((cs.drop k).take m) = some x) : ∃ z, cs[k]? = some (.string z) := by
 obtain ⟨z, h1, _, _⟩ := DataW.trod_string ht h
 exact ⟨z, cell_of h1⟩
theorem part_cell {cs : List Value} {o m k : Nat} {v : Value} (h : ((cs.drop o).take m)[k]? = some v) : cs[o + k]? = some v := by
 rw [List.getElem?_take] at h
 split at h
 ·rwa [List.getElem?_drop] at h
 ·cases h
theorem rows_of {α : Type} (f : α → List Value) (k : Nat) (hk : ∀ x, (f x).length = k) (a : Addr) (Q : α → Prop) : ∀ (n : Nat), (∀ i, i < n → ∃ x, w.cells? base (a.add (i * k)) k = some (f x) ∧ Q x) →
  ∃ xs : List α, xs.length = n ∧ (∀ x ∈ xs, Q x) ∧ ∀ j u, (xs.flatMap f)[j]? = some u → w.cell? (a.add j) = some u
 | 0, _ => ⟨[], rfl, fun _ h => by (cases h), fun j u h => by simp at h⟩
 | n + 1, h => by
  obtain ⟨xs, hl, hQ, hx⟩ := rows_of f k hk a Q n (fun i hi => h i (by omega))
  obtain ⟨x, hc, hq⟩ := h n (by omega)
  obtain ⟨_, hlen, hcell⟩ := World.cells?_some hc
  have hfl : (xs.flatMap f).length = n * k := by
   clear hx h
   rw [← hl]
   clear hl hQ
   induction xs with
   | nil => simp
   | cons y ys ih => rw [List.flatMap_cons, List.length_append, ih, hk, List.length_cons, Nat.succ_mul]; omega
  refine ⟨xs ++ [x], by simp [hl], fun y hy => ?_, fun j u hj => ?_⟩
  ·rcases List.mem_append.1 hy with h | h
   ·exact hQ y h
   ·rw [List.mem_singleton.1 h]; exact hq
  ·rw [List.flatMap_append] at hj
   by_cases hlt : j < n * k
   ·rw [List.getElem?_append_left (by omega)] at hj
    exact hx j u hj
   ·rw [List.getElem?_append_right (by omega), hfl] at hj
    have hj2 : (f x)[j - n * k]? = some u := by simpa using hj
    have hlt2 : j - n * k < k := by
     have := (List.getElem?_eq_some_iff.1 hj2).1
     rwa [hk] at this
    have := hcell (j - n * k) hlt2
    rw [hj2, Deep.add_add, show n * k + (j - n * k) = j from by omega] at this
    exact this
theorem wf64 {z : Int} (h : (Lit.int .i64 z).wf = true) : -9223372036854775808 ≤ z ∧ z ≤ 9223372036854775807 := by
 simp only [Lit.wf, Bool.and_eq_true, decide_eq_true_eq] at h
 exact h
theorem wf8 {z : Int} (h : (Lit.int .u8 z).wf = true) : 0 ≤ z ∧ z ≤ 255 := by
 simp only [Lit.wf, Bool.and_eq_true, decide_eq_true_eq] at h
 exact h
theorem wf32 {z : Int} (h : (Lit.int .u32 z).wf = true) : 0 ≤ z ∧ z ≤ 4294967295 := by
 simp only [Lit.wf, Bool.and_eq_true, decide_eq_true_eq] at h
 exact h
end
end Go.Proofs.YtdeiocppghhfdaaGreat
namespace Go.Proofs.YtdeiocppghhfdaaGreat.Hs
open Go.RowKit Go.WideShapes Go.ChangeShapes Go.Deep
section
variable {H : Type} {enc : TypeId × Value → H} {w : World} {base : Nat} {spare : Nat → Bool} {held : Bool}
theorem piece_cells {fuel : Nat} {cs : List Value} {x : DataW H × List MemPlace} (h : DataW.trod enc Tryz.prog w base spare held fuel 94 cs = some x) : ∃ p : PieceV, cs = pieceL p := by
 have hlen : cs.length = 3 := by
  obtain ⟨_, _, _, _, hl, _⟩ := DataW.trod_struct Tryz.underlying94 h
  rw [hl]
  kernel_rfl
 obtain ⟨_, _, h0⟩ := field_of Tryz.underlying94 h 0 _ rfl
 obtain ⟨z0, x0, w0⟩ := int_cell Tryz.underlying5 h0
 obtain ⟨_, _, h1⟩ := field_of Tryz.underlying94 h 1 _ rfl
 obtain ⟨z1, x1, w1⟩ := int_cell Tryz.underlying3 h1
 obtain ⟨_, _, h2⟩ := field_of Tryz.underlying94 h 2 _ rfl
 obtain ⟨z2, x2⟩ := str_cell Tryz.underlying9 h2
 refine ⟨⟨z0, z1, z2⟩, ?_⟩
 apply List.ext_getElem?
 intro j
 match j with
 | 0 => exact x0
 | 1 => exact x1
 | 2 => exact x2
 | n + 3 => rw [List.getElem?_eq_none (by omega), List.getElem?_eq_none (by rw [pieceL_len]; omega)]
theorem slc_open {fuel k m : Nat} {cs : List Value} {x : DataW H × List MemPlace} (h : DataW.trod enc Tryz.prog w base spare held fuel 47 ((cs.drop k).take m) = some x) : ∃ (a : Option Addr) (n c : Nat) (ps : List PieceV), cs[k]? = some (.slice a n c) ∧ ps.length = n ∧
  ((ps = [] ∧ (a = none → c = 0)) ∨ ∃ b off, a = some ⟨b, off, none⟩ ∧ ps.length ≤ c ∧ ps.length < 9223372036854775808 ∧ b < w.heap.size ∧ ∀ j u, (piecesL ps)[j]? = some u → w.cell? ⟨b, off + j, none⟩ = some u) := by
 rcases open_slice Tryz.underlying47 h with ⟨h1, _⟩ | ⟨a, len, cap, q, n, D, Pl, h1, hb, hlc, hcap, hq, _, hel⟩
 ·exact ⟨_, _, _, [], cell_of h1, rfl, .inl ⟨rfl, fun _ => rfl⟩⟩
 ·have hc3 : Tryz.prog.cellsOf 94 = 3 := by kernel_rfl
  rw [hc3] at hel
  have hlq : len ≤ q := by rw [hq]; split <;> omega
  obtain ⟨ps, hl, _, hcell⟩ := rows_of (w := w) (base := base) pieceL 3 pieceL_len a (fun _ => True) len (fun i hi => by
   obtain ⟨cs', h1, h2⟩ := hel i (by omega)
   obtain ⟨p, rfl⟩ := piece_cells h2
   exact ⟨p, h1, trivial⟩)
  refine ⟨_, _, _, ps, cell_of h1, hl, ?_⟩
  by_cases h0 : ps = []
  ·exact .inl ⟨h0, fun e => by cases e⟩
  ·right
   obtain ⟨b, off, spot⟩ := a
   have hpos : 0 < ps.length := by
    rcases ps with _ | ⟨p, ps⟩
    ·exact absurd rfl h0
    ·simp
   obtain ⟨u, hu⟩ : ∃ u, (piecesL ps)[0]? = some u := ⟨_, List.getElem?_eq_getElem (by rw [piecesL_len]; omega)⟩
   have g0 := hcell 0 u hu
   have hspot : spot = none := by simpa [Addr.add] using World.cell?_spot g0
   subst hspot
   have hblk : b < w.heap.size := by
    have := cell_size g0
    simpa [Addr.add] using this
   have hml : maxLen < 9223372036854775808 := by unfold maxLen; omega
   exact ⟨b, off, rfl, by omega, by omega, hblk, fun j u hj => by have := hcell j u hj; rwa [add_plain] at this⟩
theorem call_open {fuel : Nat} {cs : List Value} {x : DataW H × List MemPlace} (h : DataW.trod enc Tryz.prog w base spare held fuel 56 cs = some x) : ∃ c : CallV, cs = callL c ∧ c.Ok ∧ DRaw w c := by
 have hlen : cs.length = 27 := by
  obtain ⟨_, _, _, _, hl, _⟩ := DataW.trod_struct Tryz.underlying56 h
  rw [hl]
  kernel_rfl
 obtain ⟨_, _, h_0⟩ := field_of Tryz.underlying56 h 0 _ rfl
 obtain ⟨z0, x0, w0⟩ := int_cell Tryz.underlying3 h_0
 obtain ⟨_, _, h_1⟩ := field_of Tryz.underlying56 h 1 _ rfl
 obtain ⟨z1, x1, w1⟩ := int_cell Tryz.underlying3 h_1
 obtain ⟨_, _, h_2⟩ := field_of Tryz.underlying56 h 2 _ rfl
 obtain ⟨_, _, h_2_0⟩ := field_of Tryz.underlying54 h_2 0 _ rfl
 obtain ⟨z2, x2, w2⟩ := int_cell Tryz.underlying5 h_2_0
 replace x2 := part_cell x2
 obtain ⟨_, _, h_2_1⟩ := field_of Tryz.underlying54 h_2 1 _ rfl
 obtain ⟨z3, x3, w3⟩ := int_cell Tryz.underlying3 h_2_1
 replace x3 := part_cell x3
 obtain ⟨_, _, h_2_2⟩ := field_of Tryz.underlying54 h_2 2 _ rfl
 obtain ⟨z4, x4, w4⟩ := int_cell Tryz.underlying3 h_2_2
 replace x4 := part_cell x4
 obtain ⟨_, _, h_2_3⟩ := field_of Tryz.underlying54 h_2 3 _ rfl
 obtain ⟨z5, x5, w5⟩ := int_cell Tryz.underlying3 h_2_3
 replace x5 := part_cell x5
 obtain ⟨_, _, h_2_4⟩ := field_of Tryz.underlying54 h_2 4 _ rfl
 obtain ⟨z6, x6, w6⟩ := int_cell Tryz.underlying52 h_2_4
 replace x6 := part_cell x6
 obtain ⟨_, _, h_2_5⟩ := field_of Tryz.underlying54 h_2 5 _ rfl
 obtain ⟨z7, x7, w7⟩ := int_cell Tryz.underlying5 h_2_5
 replace x7 := part_cell x7
 obtain ⟨_, _, h_2_6⟩ := field_of Tryz.underlying54 h_2 6 _ rfl
 obtain ⟨z8, x8⟩ := str_cell Tryz.underlying9 h_2_6
 replace x8 := part_cell x8
 obtain ⟨_, _, h_3⟩ := field_of Tryz.underlying56 h 3 _ rfl
 obtain ⟨z9, x9, w9⟩ := int_cell Tryz.underlying3 h_3
 obtain ⟨_, _, h_4⟩ := field_of Tryz.underlying56 h 4 _ rfl
 obtain ⟨z10, x10, w10⟩ := int_cell Tryz.underlying3 h_4
 obtain ⟨_, _, h_5⟩ := field_of Tryz.underlying56 h 5 _ rfl
 obtain ⟨z11, x11, w11⟩ := int_cell Tryz.underlying3 h_5
 obtain ⟨_, _, h_6⟩ := field_of Tryz.underlying56 h 6 _ rfl
 obtain ⟨z12, x12, w12⟩ := int_cell Tryz.underlying3 h_6
 obtain ⟨_, _, h_7⟩ := field_of Tryz.underlying56 h 7 _ rfl
 obtain ⟨z13, x13, w13⟩ := int_cell Tryz.underlying3 h_7
 obtain ⟨_, _, h_8⟩ := field_of Tryz.underlying56 h 8 _ rfl
 obtain ⟨_, _, h_8_0⟩ := field_of Tryz.underlying51 h_8 0 _ rfl
 obtain ⟨z14, x14, w14⟩ := int_cell Tryz.underlying29 h_8_0
 replace x14 := part_cell x14
 obtain ⟨_, _, h_8_1⟩ := field_of Tryz.underlying51 h_8 1 _ rfl
 obtain ⟨z15, x15, w15⟩ := int_cell Tryz.underlying3 h_8_1
 replace x15 := part_cell x15
 obtain ⟨_, _, h_8_2⟩ := field_of Tryz.underlying51 h_8 2 _ rfl
 obtain ⟨z16, x16, w16⟩ := int_cell Tryz.underlying3 h_8_2
 replace x16 := part_cell x16
 obtain ⟨_, _, h_8_3⟩ := field_of Tryz.underlying51 h_8 3 _ rfl
 obtain ⟨z17, x17, w17⟩ := int_cell Tryz.underlying3 h_8_3
 replace x17 := part_cell x17
 obtain ⟨_, _, h_8_4⟩ := field_of Tryz.underlying51 h_8 4 _ rfl
 obtain ⟨z18, x18, w18⟩ := int_cell Tryz.underlying5 h_8_4
 replace x18 := part_cell x18
 obtain ⟨_, _, h_8_5⟩ := field_of Tryz.underlying51 h_8 5 _ rfl
 obtain ⟨z19, x19⟩ := str_cell Tryz.underlying9 h_8_5
 replace x19 := part_cell x19
 obtain ⟨_, _, h_8_6⟩ := field_of Tryz.underlying51 h_8 6 _ rfl
 obtain ⟨_, _, h_8_6_0⟩ := field_of Tryz.underlying46 h_8_6 0 _ rfl
 obtain ⟨z20, x20, w20⟩ := int_cell Tryz.underlying3 h_8_6_0
 replace x20 := part_cell x20
 replace x20 := part_cell x20
 obtain ⟨_, _, h_8_6_1⟩ := field_of Tryz.underlying46 h_8_6 1 _ rfl
 obtain ⟨z21, x21, w21⟩ := int_cell Tryz.underlying3 h_8_6_1
 replace x21 := part_cell x21
 replace x21 := part_cell x21
 obtain ⟨_, _, h_8_6_2⟩ := field_of Tryz.underlying46 h_8_6 2 _ rfl
 obtain ⟨z22, x22, w22⟩ := int_cell Tryz.underlying3 h_8_6_2
 replace x22 := part_cell x22
 replace x22 := part_cell x22
 obtain ⟨_, _, h_8_7⟩ := field_of Tryz.underlying51 h_8 7 _ rfl
 obtain ⟨_, _, h_8_7_0⟩ := field_of Tryz.underlying49 h_8_7 0 _ rfl
 obtain ⟨z23, x23, w23⟩ := int_cell Tryz.underlying5 h_8_7_0
 replace x23 := part_cell x23
 replace x23 := part_cell x23
 obtain ⟨_, _, h_8_7_1⟩ := field_of Tryz.underlying49 h_8_7 1 _ rfl
 obtain ⟨z24, x24, w24⟩ := int_cell Tryz.underlying3 h_8_7_1
 replace x24 := part_cell x24
 replace x24 := part_cell x24
 obtain ⟨_, _, h_8_7_2⟩ := field_of Tryz.underlying49 h_8_7 2 _ rfl
 obtain ⟨z25, x25, w25⟩ := int_cell Tryz.underlying3 h_8_7_2
 replace x25 := part_cell x25
 replace x25 := part_cell x25
 obtain ⟨_, _, h_8_7_3⟩ := field_of Tryz.underlying49 h_8_7 3 _ rfl
 obtain ⟨da, ln, dc, ps, x26, hps, hraw⟩ := slc_open h_8_7_3
 replace x26 := part_cell x26
 replace x26 := part_cell x26
 refine ⟨{ thread := z0, index := z1, okind := z2, oslot := z3, oat := z4, on := z5, oid := z6, ograv := z7, otext := z8, invoked := z9, took := z10, rank := z11, answered := z12, steps := z13, err := z14, rev := z15, rslot := z16, rat := z17, rgrav := z18, rtext := z19, mb := z20, mr := z21, ml := z22, ik := z23, ifrom := z24, ito := z25, ps := ps, da := da, dc := dc }, ?_, ⟨(wf64 w9).1, (wf64 w9).2, (wf64 w12).1, (wf64 w12).2, (wf64 w13).1, (wf64 w13).2, (wf64 w10).1, (wf64 w10).2, (wf64 w11).1, (wf64 w11).2, wf8 w2, wf32 w6, (wf8 w7).1, wf64 w3, wf64 w4, wf64 w5⟩, hraw⟩
 apply List.ext_getElem?
 intro j
 match j with
 | 0 => exact x0
 | 1 => exact x1
 | 2 => exact x2
 | 3 => exact x3
 | 4 => exact x4
 | 5 => exact x5
 | 6 => exact x6
 | 7 => exact x7
 | 8 => exact x8
 | 9 => exact x9
 | 10 => exact x10
 | 11 => exact x11
 | 12 => exact x12
 | 13 => exact x13
 | 14 => exact x14
 | 15 => exact x15
 | 16 => exact x16
 | 17 => exact x17
 | 18 => exact x18
 | 19 => exact x19
 | 20 => exact x20
 | 21 => exact x21
 | 22 => exact x22
 | 23 => exact x23
 | 24 => exact x24
 | 25 => exact x25
 | 26 =>
  refine x26.trans ?_
  rw [callL_26]
  rw [hps]
 | n + 27 => rw [List.getElem?_eq_none (by omega), List.getElem?_eq_none (by rw [callL_len]; omega)]
theorem open_calls {b0 : Nat} {v : Value} {d : DataW H} {ps : List MemPlace} (hval : Value.okWide Tryz.prog w .any b0 25 v) (hd : DataW.Trod enc Tryz.prog w base spare held 25 v d ps) : ∃ (p : Option Addr) (cap : Nat) (cs : List CallV), v = .slice p cs.length cap ∧ ArgRow w p cs := by
 obtain ⟨fuel, hf⟩ := hd
 obtain ⟨a0, n0, c0, rfl⟩ := okWide_slice Tryz.underlying25 hval
 rcases open_slice Tryz.underlying25 hf with ⟨h1, _⟩ | ⟨a, len, cap, q, n, D, Pl, h1, hb, hlc, hcap, hq, _, hel⟩
 ·simp [Value.cells] at h1
  obtain ⟨rfl, rfl, rfl⟩ := h1
  exact ⟨none, 0, [], rfl, .inl rfl⟩
 ·simp [Value.cells] at h1
  obtain ⟨rfl, rfl, rfl⟩ := h1
  have hc27 : Tryz.prog.cellsOf 56 = 27 := by kernel_rfl
  rw [hc27] at hel
  have hlq : n0 ≤ q := by rw [hq]; split <;> omega
  obtain ⟨cs, hl, hQ, hcell⟩ := rows_of (w := w) (base := base) callL 27 callL_len a (fun c => c.Ok ∧ DRaw w c) n0 (fun i hi => by
   obtain ⟨cs', h1, h2⟩ := hel i (by omega)
   obtain ⟨c, rfl, hc⟩ := call_open h2
   exact ⟨c, h1, hc⟩)
  refine ⟨_, _, cs, by rw [hl], ?_⟩
  by_cases h0 : cs = []
  ·exact .inl h0
  ·right
   obtain ⟨b, off, spot⟩ := a
   have hpos : 0 < cs.length := by
    rcases cs with _ | ⟨p, cs⟩
    ·exact absurd rfl h0
    ·simp
   obtain ⟨u, hu⟩ : ∃ u, (callsL cs)[0]? = some u := ⟨_, List.getElem?_eq_getElem (by rw [callsL_len]; omega)⟩
   have g0 := hcell 0 u hu
   have hspot : spot = none := by simpa [Addr.add] using World.cell?_spot g0
   subst hspot
   have hblk : b < w.heap.size := by
    have := cell_size g0
    simpa [Addr.add] using this
   have hml : maxLen < 9223372036854775808 := by unfold maxLen; omega
   exact ⟨b, off, rfl, hblk, fun j u hj => by have := hcell j u hj; rwa [add_plain] at this, by omega, hQ⟩
end
end Go.Proofs.YtdeiocppghhfdaaGreat.Hs
namespace Go.Proofs.YtdeiocppghhfdaaGreat.Lin
open Go.RowKit Go.Lib Go.Shelf
open Hs
open KitI (iv IRow own_below)
attribute [local go_sem, local simp] Hs.callL_0 Hs.callL_1 Hs.callL_2 Hs.callL_3 Hs.callL_4 Hs.callL_5 Hs.callL_6 Hs.callL_7 Hs.callL_8 Hs.callL_9 Hs.callL_10 Hs.callL_11 Hs.callL_12 Hs.callL_13 Hs.callL_14 Hs.callL_15 Hs.callL_16 Hs.callL_17 Hs.callL_18 Hs.callL_19 Hs.callL_20 Hs.callL_21 Hs.callL_22 Hs.callL_23 Hs.callL_24 Hs.callL_25 Hs.callL_26 Hs.resL_0 Hs.resL_1 Hs.resL_2 Hs.resL_3 Hs.resL_4 Hs.resL_5 Hs.resL_6 Hs.resL_7 Hs.resL_8 Hs.resL_9 Hs.resL_10 Hs.resL_11 Hs.resL_12 Hs.callG_0 Hs.callG_1 Hs.callG_2 Hs.callG_3 Hs.callG_4 Hs.callG_5 Hs.callG_6 Hs.callG_7 Hs.callG_8 Hs.callG_9 Hs.callG_10 Hs.callG_11 Hs.callG_12 Hs.callG_13 Hs.callG_14 Hs.callG_15 Hs.callG_16 Hs.callG_17 Hs.callG_18 Hs.callG_19 Hs.callG_20 Hs.callG_21 Hs.callG_22 Hs.callG_23 Hs.callG_24 Hs.callG_25 Hs.callG_26 Hs.resG_0 Hs.resG_1 Hs.resG_2 Hs.resG_3 Hs.resG_4 Hs.resG_5 Hs.resG_6 Hs.resG_7 Hs.resG_8 Hs.resG_9 Hs.resG_10 Hs.resG_11 Hs.resG_12 Hs.callL_len Hs.resL_len
attribute [local go_sem ↓] Hs.loadCall_eq Hs.loadRes_eq
attribute [local go_sem] Hs.ld_new Hs.ld_first Hs.ld_second Hs.ldr_new Hs.st_new
abbrev tBool : TypeId := 4
theorem infoBo : (Tryz.prog.info? 4).map (fun i => (i.zero, i.size, i.bytes)) = some (some (.bool false), 1, 1) := by kernel_rfl
def seenL (n : Nat) (o : List Nat) : List Value := (List.range n).map fun j => .bool (decide (j ∈ o))
theorem seenL_nil (n : Nat) : seenL n [] = List.replicate n (.bool false) := by
 apply List.ext_getElem?
 intro j
 unfold seenL
 by_cases h : j < n
 ·simp [h]
 ·rw [List.getElem?_eq_none (by simp; omega), List.getElem?_eq_none (by simp; omega)]
theorem seenL_at {n j : Nat} {o : List Nat} (h : j < n) : (seenL n o)[j]? = some (.bool (decide (j ∈ o))) := by unfold seenL; simp [h]
theorem seenL_set {n k : Nat} {o : List Nat} (h : k < n) : (seenL n o).set k (.bool true) = seenL n (o ++ [k]) := by
 apply List.ext_getElem?
 intro j
 by_cases hj : j < n
 ·rw [seenL_at hj]
  by_cases e : k = j
  ·subst e
   rw [List.getElem?_set_self (by unfold seenL; simpa using h)]
   simp
  ·rw [List.getElem?_set_ne e, seenL_at hj]
   have : (j ∈ o ++ [k]) = (j ∈ o) := by simp; omega
   simp [this]
 ·rw [List.getElem?_eq_none (by unfold seenL; simp; omega), List.getElem?_eq_none (by unfold seenL; simp; omega)]
theorem made_bo (n : Nat) : madeCells (Value.cells (.bool false)) (n * 1) = (List.replicate n (Value.bool false)).toArray := by
 have e : Value.cells (.bool false) = #[.bool false] := rfl
 rw [e, Nat.mul_one]
 apply Array.ext'
 rw [toList_madeCells_one]
structure SnW (w1 : World) (n : Nat) (o : List Nat) (W : World) : Prop where
 seen : W.heap[w1.heap.size]? = some (.cells (seenL n o).toArray tBool (0, 0))
 bl : Below w1.heap.size w1 W
theorem SnW.set {w1 W : World} {n k : Nat} {o : List Nat} (h : SnW w1 n o W) (hk : k < n) : SnW w1 n (o ++ [k]) (W.setCell ⟨w1.heap.size, k, none⟩ (.bool true)) := by
 refine ⟨?_, h.bl.setCell (p := ⟨w1.heap.size, k, none⟩) (Nat.le_refl _) _⟩
 rw [← seenL_set hk]
 exact blk_set h.seen _ _
theorem SnW.drew {w1 W : World} {n : Nat} {o : List Nat} (h : SnW w1 n o W) : SnW w1 n o W.drew := ⟨h.seen, h.bl.drew⟩
def SoRel (w1 : World) (n : Nat) (o : List Nat) (i : Value) (wr : World) : Prop := ∃ k : Nat, i = .int .i64 k ∧ k ≤ o.length ∧ SnW w1 n (o.take k) wr
def SoRel2 (w1 : World) (n : Nat) (o : List Nat) (i : Value) (wr : World) : Prop := ∃ k : Nat, i = .int .i64 k ∧ k ≤ n ∧ SnW w1 n o wr
theorem walkWitnessOrders (p : Option Addr) (cap : Nat) (cs : List CallV) (w : World) (hA : ArgRow w p cs) :
  Calls Tryz.prog 14 #[.slice p cs.length cap] w fun e w' => e = .returned (.bool true) ∧ Below w.heap.size w w' := by
 obtain ⟨i0, hi, hz0, hz1, hz2⟩ := info_parts infoBo
 go_enter Tryz.func14, Tryz.ntmps14
 go_wp2_with fail
 refine (few_h p cap cs _ hA).mono ?_
 rintro e w1 ⟨p1, cap1, hs, rfl, hpure, hrow, hb1⟩
 have hlen := hrow.len
 have hef := fun W (h : Below w1.heap.size w1 W) => effects_any p1 cap1 hs W (hrow.on h).row (by omega) hrow.ok
 clear hpure hA
 go_wp2_with fail
 refine (order_any p1 cap1 hs w1 hrow.row (by omega) hrow.ok).mono ?_
 rintro e w2 (⟨h22, rfl, hb⟩ | ⟨h0, v, E, hE, rfl, hO, hb⟩)
 ·have hB2 := hb1.trans (hb.mono hb1.size)
  have hef2 := hef w2 hb
  clear hef
  go_wp2_with fail
  refine hef2.mono ?_
  clear hef2
  rintro e w3 (⟨_, rfl, hb3⟩ | ⟨h0, _⟩)
  ·have hB3 := hB2.trans (hb3.mono hB2.size)
   go_wp2_with fail
   refine (awake35_any _).mono ?_
   rintro e w4 ⟨rfl, hb4⟩
   go_wp2_with fail
   go_returns
   exact ⟨rfl, hB3.trans (hb4.mono hB3.size)⟩
  ·rw [h0] at h22; cases h22
 ·have hol : (ordW hs E).length = E.length := ord_len hE
  have hin := fun i => ord_in (i := i) hE
  have hag := ord_agrees h0 hE
  have hnd := ord_nodup hE
  have hEl : E.length ≤ 24 := by
   have := hE.1.length_eq
   have h2 := places_len (q := tookQ) (cs := hs) (k := 0)
   omega
  have hef2 := hef w2 hb
  clear hef
  generalize ordW hs E = o at *
  have hol24 : o.length ≤ 24 := by omega
  have Hol := Lib.hid hol
  clear hol hEl
  obtain ⟨a1, q1, rfl⟩ := own_slice hO
  go_wp2_with fail
  refine hef2.mono ?_
  clear hef2
  rintro e w3 (⟨h22, -⟩ | ⟨-, v3, L, hL, rfl, hO3, hb3⟩)
  ·rw [h0] at h22; cases h22
  have hLE : L.length = o.length := by rw [Hol.out, eff_unique hL hE]
  obtain ⟨a3, q3, rfl⟩ := own_slice hO3
  have hI := (irow_own hO rfl).on hb3
  have hH3 := hrow.on (hb.trans (hb3.mono hb.size))
  have hB3 := hb1.trans ((hb.trans (hb3.mono hb.size)).mono hb1.size)
  rw [hLE]
  clear hO hO3 hb hb1 hrow hL hLE hE hb3
  have hagc := agrees_any p1 a1 cap1 q1 hs (o.map fun (n : Nat) => (n : Int)) w3 hH3.row (IRd.of hI) (by omega) (by rw [List.length_map]; omega) hH3.ok
  rw [hag, List.length_map] at hagc
  clear hag
  go_wp2_with fail
  refine hagc.mono ?_
  clear hagc
  rintro e w5 ⟨rfl, hb5⟩
  have hI5 := hI.on hb5
  have hH5 := hH3.on hb5
  have hB5 := hB3.trans (hb5.mono hB3.size)
  clear hI hH3 hB3 hb5
  have hmk : (Instr.makeSlice 90 (.int .i64 hs.length) (.int .i64 hs.length)).run Tryz.prog w5 = .ok (.slice (some ⟨w5.heap.size, 0, none⟩) hs.length hs.length) (w5.alloc (.cells (List.replicate hs.length (Value.bool false)).toArray tBool)) := by
   have := run_make (P := Tryz.prog) w5 90 4 i0 _ Tryz.underlying90 hi hz0 .i64 .i64 hs.length hs.length (by omega) (Int.le_refl _) (by rw [hz2]; omega) (by omega)
   rw [this, hz1, Int.toNat_natCast, made_bo]
  have hS0 : SnW w5 hs.length (o.take 0) (w5.alloc (.cells (List.replicate hs.length (Value.bool false)).toArray tBool)) := ⟨by rw [List.take_zero, seenL_nil]; exact heap_alloc_new _ _, (Below.refl _ _).alloc (Nat.le_refl _) _⟩
  have hS1 := Lib.hid hS0
  clear hS0
  go_wp2_with fail
  go_loopw [11] (fun i wr => SoRel w5 hs.length o i wr) (fun i wr => o.length - (intOf i).toNat)
  case atStart => exact ⟨0, rfl, by omega, hS1.out⟩
  case round =>
   clear hS1 hmk
   obtain ⟨k, rfl, hk, hS⟩ := hrel
   by_cases hlt : k < o.length
   ·obtain ⟨x, hx⟩ : ∃ x, o[k]? = some x := ⟨_, List.getElem?_eq_getElem hlt⟩
    have hxm := (hin x).1 (List.mem_of_getElem? hx)
    rcases hI5 with ⟨h1, h2⟩ | ⟨b, off, c5, h1, h2⟩
    ·exfalso
     have := congrArg List.length h2
     rw [List.length_map] at this
     simp at this
     rw [this] at hlt
     simp at hlt
    ·injection h1 with h1 h8 h9
     clear h8 h9
     subst h1
     have hcx := h2 k (x : Int) (by rw [List.getElem?_map, hx]; rfl)
     unfold iv at hcx
     have hcx2 : wr.cell? ⟨b, off + k, none⟩ = some (.int .i64 x) := (hS.bl.cell (KitI.cell_size hcx)).trans hcx
     have c4 := blk_cell hS.seen x
     have f4 := blk_frozen hS.seen x
     rw [seenL_at hxm.1] at c4
     have hS2 := hS.set hxm.1
     have et : o.take (k + 1) = o.take k ++ [x] := by rw [List.take_add_one, hx]; rfl
     rw [← et] at hS2
     have HS2 := Lib.hid hS2
     have hxl := hxm.1
     generalize decide (x ∈ o.take k) = bv at c4
     clear hS hS2 et hxm h2 hcx hx hin hnd hB5 hH5 h0 hk Hol hlen
     go_wp2_with fail
     go_roundw
     case rel => exact ⟨k + 1, by go_num, by omega, HS2.out⟩
     case measure => simp [intOf]; omega
   ·have hkk : k = o.length := by omega
    subst hkk
    rw [List.take_length] at hS
    have HS := Lib.hid hS
    clear hS
    go_wp2_with fail
    go_loopw [12] (fun i wr => SoRel2 w5 hs.length o i wr) (fun i wr => hs.length - (intOf i).toNat)
    case atStart => exact ⟨0, rfl, by omega, HS.out⟩
    case round =>
     clear HS
     obtain ⟨k, rfl, hk, hS⟩ := hrel
     by_cases hlt : k < hs.length
     ·obtain ⟨q, hq⟩ : ∃ q, hs[k]? = some q := ⟨_, List.getElem?_eq_getElem hlt⟩
      have c4 := blk_cell hS.seen k
      rw [seenL_at hlt] at c4
      have hmem : decide (k ∈ o) = decide (0 ≤ q.took) := by
       rw [decide_eq_decide, hin k, getC_at hq]
       exact ⟨fun h => h.2, fun h => ⟨hlt, h⟩⟩
      rw [hmem] at c4
      obtain ⟨b, off, rfl, hcap, hbl, hcat⟩ : ∃ b off, p1 = some ⟨b, off, none⟩ ∧ hs.length ≤ cap1 ∧ b < w5.heap.size ∧ CAt w5 b off hs := by
       rcases hH5.row with ⟨_, _, h⟩ | h
       ·rw [h] at hq; simp at hq
       ·exact h
      have c10 := (hcat.below hS.bl hbl).cell hq 10 (by omega)
      have c10' : wr.cell? ⟨b, off + k * 27 + 10, none⟩ = some (.int .i64 q.took) := c10
      have hd4 : wr.drew.cell? ⟨w5.heap.size, k, none⟩ = some (.bool (decide (0 ≤ q.took))) := c4
      have hd10 : wr.drew.cell? ⟨b, off + k * 27 + 10, none⟩ = some (.int .i64 q.took) := c10'
      have HS := Lib.hid hS
      clear hS hmem hcat c10 hq
      go_wp2_with fail
      refine wp_region_noPanic ?_
      refine wp_region_held_drew (S := fun W => W.cell? ⟨w5.heap.size, k, none⟩ = some (.bool (decide (0 ≤ q.took))) ∧ W.cell? ⟨b, off + k * 27 + 10, none⟩ = some (.int .i64 q.took)) (by kernel_rfl) ?_ (fun hHeld => ?_)
      ·first | exact ⟨c4, c10'⟩ | exact ⟨hd4, hd10⟩
      iterate 11 (((first | refine np_n ?_ ?_ ?_ | refine np_t 0 ?_ ?_ ?_); rotate_left 1; (· (intro w hSw; (try dsimp only at hSw); go_simp; all_goals with_reducible rfl)); (try simp only [nSO])))
      refine wpAnyH_done (by kernel_rfl) ?_ _
      refine NoPanic.normal ?_
      go_wp2_with fail
      go_roundw
      case rel => exact ⟨k + 1, by go_num, by omega, HS.out.drew⟩
      case measure => simp [intOf]; omega
     ·have hkk : k = hs.length := by omega
      subst hkk
      have hB7 := hB5.trans (hS.bl.mono hB5.size)
      clear hS hin hnd
      go_wp2_with fail
      refine (awake35_any _).mono ?_
      rintro e w4 ⟨rfl, hb4⟩
      go_wp2_with fail
      go_returns
      exact ⟨rfl, hB7.trans (hb4.mono hB7.size)⟩
end Go.Proofs.YtdeiocppghhfdaaGreat.Lin
namespace Go.Proofs.YtdeiocppghhfdaaGreat.witnessOrders
open Go.ChangeShapes Go.WideShapes Go.ChangeAt Go.RowKit
open Go.ChangeMaps (open_string shut_string)
open Lin Hs
set_option linter.unusedVariables false
theorem lifted (os : Os) (started : os.Started) (H : Type) (enc : TypeId × Value → H) :
    ReturnsInHanded {} Tryz.checked os 14 .any (Rows.witnessOrdersSpec.pre6 enc Tryz.prog Tryz.f14 Rows.witnessOrdersRow.domain false) (Rows.witnessOrdersSpec.post enc Tryz.prog Tryz.f14 false true false false) := by
  refine returnsInHanded_of_change_sized (C := Tryz.checked) own started (by kernel_rfl) Tryz.func14
    (ChangeSpec.witness6 (enc := enc) (C := Tryz.checked) false ⟨#[], #[.slice none 0 0], []⟩ 8 (by kernel_rfl) (by kernel_rfl) (by kernel_rfl) (by kernel_rfl)) ?_
  intro W base args ds gs before hval0 hW hcnd hsz0 _
  have hval : ∀ (j : Nat) t v, Tryz.f14.params[j]? = some t → args[j]? = some v → Value.okWide Tryz.prog W .any base t v := hval0
  have hW' := hW
  obtain ⟨p, q, hA0, hV, rfl, hfz, hnd⟩ := hW
  have hA : DataW.TrodAll enc Tryz.prog W 0 (fun _ => true) true Tryz.f14.params.toList args.toList ds p := hA0
  rw [Tryz.params14] at hA hval
  obtain ⟨v0, vs0, d0, ds0, p0, q0, hargs, rfl, rfl, h0, r0⟩ := trodAll_cons hA
  obtain ⟨rfl, rfl, rfl⟩ := trodAll_nil r0
  obtain rfl : args = #[v0] := by cases args; simp_all
  obtain ⟨rfl, rfl⟩ := trodVars_none hV
  obtain ⟨q0, c0, l0, rfl, w0⟩ := open_calls (hval 0 25 v0 rfl rfl) h0
  clear hA0 hval0
  (try simp only [List.append_nil, List.nil_append] at hW')
  refine (walkWitnessOrders q0 c0 l0 W w0).mono fun e W' ⟨he, hg⟩ => ?_
  subst he
  have hlt0 : ∀ x ∈ p0, x.block < W.heap.size := fun x hx => hW'.lt x (by simp [hx])
  exact ⟨_, rfl, post_of_below (pa := (p0 ++ [])) (pv := []) hW' (fun _ _ _ => (trodAll_cons_mk (shut_bool Tryz.underlying4 _) trodAll_mk0)) (fun sp hsp => (trodAll_cons_mk (WideElems.Trod_stays (by kernel_rfl) (by kernel_rfl) (of_decide_eq_true (by kernel_rfl)) h0 (fun x hx => hg.same (hlt0 x hx)) (fun x hx => hsp x (by simp [hx]))) trodAll_mk0)) (fun _ _ => rfl) (by simp)
    hg (ok_one (by kernel_rfl) rfl (okWide_bool_mk Tryz.underlying4 _))⟩
theorem facts : joinedFacts Tryz.prog 14 Tryz.f14 Rows.witnessOrdersSpec Rows.witnessOrdersRow = true := by
  unfold joinedFacts
  simp only [Bool.and_eq_true]
  repeat' apply And.intro
  all_goals (as_aux_lemma => kernel_rfl)
theorem proved : Rows.WitnessOrdersSaid :=
  OpenClaim.holds_of_wide 14 Tryz.f14 rfl rfl rfl rfl rfl rfl rfl ⟨rfl, rfl, rfl, rfl, rfl⟩ rfl rfl rfl rfl rfl (by kernel_rfl) Tryz.func14 facts
    (of_decide_eq_true (by kernel_rfl)) (by unfold Func.isWrapper; first | (rw [if_pos (by decide +kernel)]; kernel_rfl) | (rw [if_neg (by decide +kernel)]; exact ⟨rfl, rfl⟩))
    (fun os started H enc _ => lifted os started H enc)
#print axioms proved
end Go.Proofs.YtdeiocppghhfdaaGreat.witnessOrders
