/- WitnessSequential: the law returns true for every input, and leaves its arguments as they were. -/
import Derived.Test.YtdeiocppghhfdaaGreatZbaa
import Derived.Test.YtdeiocppghhfdaaGreatZbha
import Derived.Test.YtdeiocppghhfdaaGreatZbab
import Derived.Test.YtdeiocppghhfdaaGreatZbac
import Derived.Test.YtdeiocppghhfdaaGreatZbad
import Derived.Test.YtdeiocppghhfdaaGreatZbae
import Derived.Test.YtdeiocppghhfdaaGreatZbaf
import Derived.Test.YtdeiocppghhfdaaGreatZbag
import Derived.Test.YtdeiocppghhfdaaGreatZbah
import Derived.Test.YtdeiocppghhfdaaGreatZbai
import Derived.Test.YtdeiocppghhfdaaGreatZbaj
import Derived.Test.YtdeiocppghhfdaaGreatZbak
import Derived.Test.YtdeiocppghhfdaaGreatZbal
import Derived.Test.YtdeiocppghhfdaaGreatZbam
import Derived.Test.YtdeiocppghhfdaaGreatZban
import Derived.Test.YtdeiocppghhfdaaGreatZbao
import Derived.Test.YtdeiocppghhfdaaGreatZbap
import Derived.Test.YtdeiocppghhfdaaGreatZbaq
import Derived.Test.YtdeiocppghhfdaaGreatZbar
import Derived.Test.YtdeiocppghhfdaaGreatZbas
import Derived.Test.YtdeiocppghhfdaaGreatZbat
import Derived.Test.YtdeiocppghhfdaaGreatZbau
import Derived.Test.YtdeiocppghhfdaaGreatZbav
import Derived.Test.YtdeiocppghhfdaaGreatZbaw
import Derived.Test.YtdeiocppghhfdaaGreatZbax
import Derived.Test.YtdeiocppghhfdaaGreatZbay
import Derived.Test.YtdeiocppghhfdaaGreatZbaz
import Derived.Test.YtdeiocppghhfdaaGreatZbba
import Derived.Test.YtdeiocppghhfdaaGreatZbbb
import Derived.Test.YtdeiocppghhfdaaGreatZbbc
import Derived.Test.YtdeiocppghhfdaaGreatZbbd
import Derived.Test.YtdeiocppghhfdaaGreatZbbe
import Derived.Test.YtdeiocppghhfdaaGreatZbbf
import Derived.Test.YtdeiocppghhfdaaGreatZbbg
import Derived.Test.YtdeiocppghhfdaaGreatZbbh
import Derived.Test.YtdeiocppghhfdaaGreatZbbi
import Derived.Test.YtdeiocppghhfdaaGreatZbbj
import Derived.Test.YtdeiocppghhfdaaGreatZbbk
import Derived.Test.YtdeiocppghhfdaaGreatZbbl
import Derived.Test.YtdeiocppghhfdaaGreatZbbm
import Derived.Test.YtdeiocppghhfdaaGreatZbbn
import Derived.Test.YtdeiocppghhfdaaGreatZbbo
import Derived.Test.YtdeiocppghhfdaaGreatZbbp
import Derived.Test.YtdeiocppghhfdaaGreatZbbq
import Derived.Test.YtdeiocppghhfdaaGreatZbbr
import Derived.Test.YtdeiocppghhfdaaGreatZbbs
import Derived.Test.YtdeiocppghhfdaaGreatZbbt
import Derived.Test.YtdeiocppghhfdaaGreatZbbu
import Derived.Test.YtdeiocppghhfdaaGreatZbbv
import Derived.Test.YtdeiocppghhfdaaGreatZbbw
import Derived.Below
import Derived.ChangeSame
import Derived.WalkKit
import Derived.ProofKit
import Derived.OpenShut
import Derived.ShutString
import Derived.SizedLaws
import Derived.Laws.CopyRow
import Derived.Deep.RegionHeld3
import Derived.Deep.LoopGhost
import Derived.IntWalk
import Derived.WalkSpells
import Derived.WalkLawsBesides
import Derived.Lib.Hide
import Derived.Handy
import Derived.Deep.QuietTactic
import Derived.BigQuiet
import Derived.Deep.MidRow
import Derived.Deep.WholeRow
import Derived.RangeFuncNested
import Derived.RangeFuncBound
import Derived.RangeFuncCalls
import Derived.RangeFuncLeaves
import Derived.RangeFuncFrom
import Derived.Shelf.Abstract
import Derived.Shelf.RegionOpen
import Derived.OwnWalkIn
import Derived.TacticsInMore
import Derived.LoopNIn
import Derived.LoopIn
import Derived.Deep.AppendLies
import Derived.RangeFuncBox
import Derived.Maps.AppendAt
import Derived.Shelf.SlSortCmp.Whole1
import Derived.Sort.OwnSortedInts
import Derived.Lib.RowBridge
import Derived.OrdersIn
import Derived.BigRegion
import Derived.Lib.Strings
import Derived.Lib.IndexBytes
import Derived.Laws.IdiomStrings
import Derived.OwnWalk
import Derived.Deep.RegionLaw
import Derived.Laws.AppendOwn
import Derived.Shelf.Strings.BuilderK
import Derived.Shelf.Spec.SlicesInsertGrow
import Derived.Lib.AppendZerosOnto
import Derived.Lib.Overlaps
import Derived.Laws.Externs
import Derived.ArgAppend
import Derived.Shelf.SlicesQ.IndexFunc
import Derived.Shelf.SlSorted.Search
import Derived.Laws.OwnMore
import Derived.WideMake
import Derived.Deep.Slices
import Derived.Laws.EntriesVeiled
import Derived.Carry
import Derived.DeepKeys4
import Derived.Maps.Own
import Derived.Maps.OwnOps
import Derived.Laws.BytesString
import Derived.Lib.AppendStr
import Derived.WalkMore
import Derived.Scope
import Derived.OrdersHeld
import Derived.StillTailTactics
set_option linter.unusedVariables false
set_option linter.unusedSimpArgs false
set_option maxRecDepth 100000
set_option maxHeartbeats 8000000
namespace Go.Proofs.YtdeiocppghhfdaaGreat
open Go.RowKit Go.WideShapes Go.ChangeShapes
section
variable {H : Type} {enc : TypeId × Value → H} {P : Program}
theorem post_of_below {f : Func} {s : ChangeSpec} {apart fresh handsOn again : Bool} {W W' : World} {args : Array Value} {v : Value} {ds gs : List (DataW H)} {before pa pv : List MemPlace}
  (hW : DataW.Whole enc P f.params.toList s.vars apart W args.toList ds gs before)
  (hres : ∀ (b : Nat) (sp : Nat → Bool) (hd : Bool), DataW.TrodAll enc P W' b sp hd f.resultTypes.toList (v.resultList f.resultTypes.size) (s.fn H (ds ++ gs)).results [])
  (hargs : ∀ sp : Nat → Bool, (∀ p ∈ before, sp p.block = true) → DataW.TrodAll enc P W' 0 sp true f.params.toList args.toList (s.fn H (ds ++ gs)).args pa)
  (hvars : ∀ sp : Nat → Bool, (∀ p ∈ before, sp p.block = true) → DataW.TrodVars enc P W' sp s.vars (s.fn H (ds ++ gs)).vars pv)
  (hps : before = pa ++ pv) (hb : Below W.heap.size W W')
  (hok : ∀ (j : Nat) (t : TypeId) (r : Value), f.resultTypes[j]? = some t → (v.resultList f.resultTypes.size)[j]? = some r → Value.okWide P W' .any 0 t r) :
  s.post enc P f apart fresh handsOn again W args v W' := by
 have hlt : ∀ p ∈ before, p.block < W.heap.size := fun p hp => hW.lt p hp
 have hold : ∀ p ∈ before, (fun b => decide (b < W.heap.size)) p.block = true := fun p hp => by simpa using hlt p hp
 refine ⟨ds, gs, before, [], pa, pv, hW, hres _ _ _, hargs _ hold, hvars _ hold, World.keptBut_mono (fun p hp => ⟨hp, ?_⟩) (hb.frame (· ∈ before)), fun _ => ?_⟩
 ·rw [hps, List.mem_append] at hp
  exact Or.inr hp
 ·obtain ⟨_, _, _, _, _, hz, hn⟩ := hW
  refine ⟨hok, _, _, ([] ++ pa) ++ pv, ⟨[] ++ pa, pv, trodAll_append (hargs _ (fun _ _ => rfl)) (hres _ _ _), hvars _ (fun _ _ => rfl), rfl, ?_, ?_⟩, ?_⟩
  ·intro b off hp
   have hin : MemPlace.cell b off ∈ before := by rw [hps]; simpa using hp
   rw [hb.frozen (hlt _ hin)]
   exact hz b off hin
  ·intro ha
   have := hn ha
   rw [hps] at this
   simpa using this
  ·intro p hp _
   rw [hps]
   simpa using hp
end
end Go.Proofs.YtdeiocppghhfdaaGreat
namespace Go.Proofs.YtdeiocppghhfdaaGreat.Lin
section
variable {α : Type} (n : Nat) (next : α → Nat → Option α) (rdy : Nat → Nat → Bool) (fl : Nat → Bool)
def C (s : α) (u : Nat) : Nat := ct n next rdy fl (fr n u) s u
end
section
variable {α : Type} {n : Nat} {next : α → Nat → Option α} {rdy : Nat → Nat → Bool} {fl : Nat → Bool}
end
end Go.Proofs.YtdeiocppghhfdaaGreat.Lin
namespace Go.Proofs.YtdeiocppghhfdaaGreat.Hs
open Go.RowKit Go.Lib Go.Shelf
open KitI (own_below)
attribute [local go_sem] Oper.semAt_some
attribute [local go_sem, local simp] callL_0 callL_1 callL_2 callL_3 callL_4 callL_5 callL_6 callL_7 callL_8 callL_9 callL_10 callL_11 callL_12 callL_13 callL_14 callL_15 callL_16 callL_17 callL_18 callL_19 callL_20 callL_21 callL_22 callL_23 callL_24 callL_25 callL_26 resL_0 resL_1 resL_2 resL_3 resL_4 resL_5 resL_6 resL_7 resL_8 resL_9 resL_10 resL_11 resL_12 callG_0 callG_1 callG_2 callG_3 callG_4 callG_5 callG_6 callG_7 callG_8 callG_9 callG_10 callG_11 callG_12 callG_13 callG_14 callG_15 callG_16 callG_17 callG_18 callG_19 callG_20 callG_21 callG_22 callG_23 callG_24 callG_25 callG_26 resG_0 resG_1 resG_2 resG_3 resG_4 resG_5 resG_6 resG_7 resG_8 resG_9 resG_10 resG_11 resG_12 callL_len resL_len
attribute [local go_sem ↓] loadCall_eq loadRes_eq
attribute [local go_sem] ld_new ld_first ld_second ldr_new st_new
attribute [local go_sem, local simp] fold_call
theorem cells_new0 (W : World) (L : List Value) (T : TypeId) : ∀ (j : Nat) (u : Value), L[j]? = some u → (W.alloc (.cells L.toArray T)).cell? ((⟨W.heap.size, 0, none⟩ : Addr).add j) = some u := by
 intro j u h
 have h2 := blk_cell (blk_new W L T) j
 rw [Addr.add_mid, Nat.zero_add, h2, h]
theorem own_base {w : World} {base base' : Nat} {e : TypeId} {size : Nat} {v : Value} {n : Nat} {xs : List Value} (h : w.ownsRow base e size v n xs) (hb : base' ≤ base) : w.ownsRow base' e size v n xs := by
 refine ⟨h.1, ?_⟩
 rcases h.2 with h | ⟨g, cap, cur, h1, h2, h3⟩
 ·exact .inl h
 ·exact .inr ⟨g, cap, cur, h1, Nat.le_trans hb h2, h3⟩
end Go.Proofs.YtdeiocppghhfdaaGreat.Hs
namespace Go.Proofs.YtdeiocppghhfdaaGreat.Hs
open Go.RowKit Go.Lib Go.Shelf
open KitI (own_below)
attribute [local go_sem, local simp] callL_0 callL_1 callL_2 callL_3 callL_4 callL_5 callL_6 callL_7 callL_8 callL_9 callL_10 callL_11 callL_12 callL_13 callL_14 callL_15 callL_16 callL_17 callL_18 callL_19 callL_20 callL_21 callL_22 callL_23 callL_24 callL_25 callL_26 resL_0 resL_1 resL_2 resL_3 resL_4 resL_5 resL_6 resL_7 resL_8 resL_9 resL_10 resL_11 resL_12 callG_0 callG_1 callG_2 callG_3 callG_4 callG_5 callG_6 callG_7 callG_8 callG_9 callG_10 callG_11 callG_12 callG_13 callG_14 callG_15 callG_16 callG_17 callG_18 callG_19 callG_20 callG_21 callG_22 callG_23 callG_24 callG_25 callG_26 resG_0 resG_1 resG_2 resG_3 resG_4 resG_5 resG_6 resG_7 resG_8 resG_9 resG_10 resG_11 resG_12 callL_len resL_len
attribute [local go_sem ↓] loadCall_eq loadRes_eq
attribute [local go_sem] ld_new ld_first ld_second ldr_new st_new
theorem crow_of_own {W : World} {base : Nat} {v : Value} {cs : List CallV} (h : W.ownsRow base 56 27 v cs.length (callsL cs)) : ∃ p cap, v = .slice p cs.length cap ∧ CRow W p cap cs := by
 rcases h.2 with ⟨h1, h2⟩ | ⟨g, cap, cur, rfl, h2, h3, h4, h5, h6, h7⟩
 ·have : cs = [] := List.length_eq_zero_iff.1 h2
  subst this
  exact ⟨none, 0, h1, .inl ⟨rfl, rfl, rfl⟩⟩
 ·refine ⟨_, _, rfl, .inr ⟨g, 0, rfl, h4, (Array.getElem?_eq_some_iff.1 h3).1, fun j u hj => ?_⟩⟩
  have hlt := (List.getElem?_eq_some_iff.1 hj).1
  rw [callsL_len] at hlt
  rw [Nat.zero_add, h.cellAt j hlt]
  exact hj
end Go.Proofs.YtdeiocppghhfdaaGreat.Hs
namespace Go.Proofs.YtdeiocppghhfdaaGreat.Hs
open Go.RowKit Go.Lib Go.Shelf
theorem places_nodup {q : CallV → Bool} {cs : List CallV} {k : Nat} : (places q cs k).Nodup := by
 refine List.Pairwise.imp ?_ (places_sorted (q := q) (cs := cs) (k := k))
 intro a b h; omega
end Go.Proofs.YtdeiocppghhfdaaGreat.Hs
namespace Go.Proofs.YtdeiocppghhfdaaGreat
theorem set_getD {α : Type} [Inhabited α] (l : List α) (k : Nat) : l.set k (l.getD k default) = l := by
 apply List.ext_getElem?
 intro i
 by_cases h : k = i
 ·subst h
  by_cases hk : k < l.length
  ·rw [List.getElem?_set_self hk, List.getD_eq_getElem?_getD, List.getElem?_eq_getElem hk]; rfl
  ·rw [List.getElem?_eq_none (by rw [List.length_set]; omega), List.getElem?_eq_none (by omega)]
 ·rw [List.getElem?_set_ne h]
theorem put_self (st : MS) (c : Nat) : st.put c (st.seat c) = st := by unfold MS.put MS.seat; rw [set_getD]
theorem op_kind {q : OpV} (h : opE q = 0) : 1 ≤ q.kind ∧ q.kind ≤ 16 := ⟨(opE_ok h).1.1, (opE_ok h).1.2.1⟩
theorem do_rea {st : MS} {c : Int} {q : OpV} (hs : statE st c q = 0) (hk : 6 ≤ q.kind ∧ q.kind ≤ 13) : doS st c q = reaS st c.toNat q := by
 unfold doS opS
 rw [if_neg (by simpa using hs), if_neg (by omega), if_neg (by omega), if_neg (by omega), if_neg (by omega), if_neg (by omega), if_neg (by omega), if_neg (by omega), if_neg (by omega)]
end Go.Proofs.YtdeiocppghhfdaaGreat
namespace Go.Proofs.YtdeiocppghhfdaaGreat
open Go.Lib
theorem sameB_eq {r s : ResV} {i : ItV} (h : sameB r i s = true) : r = s ∧ i.dn = 0 ∧ i.k = 0 ∧ i.f = 0 ∧ i.t = 0 := by
 unfold sameB at h
 simp only [Bool.and_eq_true, decide_eq_true_eq, beq_iff_eq] at h
 obtain ⟨⟨⟨⟨⟨⟨⟨⟨⟨⟨h0, h1⟩, h2⟩, h3⟩, h4⟩, h5⟩, h6⟩, ⟨h7, h8⟩, h9⟩, h10⟩, h11⟩, h12⟩ := h
 refine ⟨?_, h0, h10, h11, h12⟩
 have ht : r.text = s.text := by
  rw [toList_data, toList_data] at h6
  exact ByteArray.ext (Array.toList_inj.1 h6)
 cases r; cases s
 simp_all
end Go.Proofs.YtdeiocppghhfdaaGreat
namespace Go.Proofs.YtdeiocppghhfdaaGreat
open Go.RowKit Go.WideShapes Go.ChangeShapes Go.Deep
section
variable {H : Type} {enc : TypeId × Value → H} {P : Program} {w : World} {base : Nat} {spare : Nat → Bool} {held : Bool}
theorem field_of {t : TypeId} {fs : Array Field} {fuel : Nat} {cs : List Value} {x : DataW H × List MemPlace} (hs : P.underlying t = some (.struct fs)) (h : DataW.trod enc P w base spare held fuel t cs = some x) (i : Nat) (f : Field) (hf : fs[i]? = some f) :
  ∃ n y, DataW.trod enc P w base spare held n f.type ((cs.drop f.offset).take (P.cellsOf f.type)) = some y := by
 obtain ⟨xs, n, _, _, _, hl, hx⟩ := DataW.trod_struct hs h
 have h1 := hx i f hf
 have hlt := (Array.getElem?_eq_some_iff.1 hf).1
 rw [List.getElem?_eq_getElem (by omega)] at h1
 exact ⟨n, _, h1⟩
theorem cell_of {cs : List Value} {k m : Nat} {v : Value} (h : (cs.drop k).take m = [v]) : cs[k]? = some v := by
 have h1 : ((cs.drop k).take m)[0]? = some v := by rw [h]; rfl
 rw [List.getElem?_take] at h1
 split at h1
 ·rwa [List.getElem?_drop, Nat.add_zero] at h1
 ·cases h1
theorem int_cell {t : TypeId} {κ : IntKind} {fuel k m : Nat} {cs : List Value} {x : DataW H × List MemPlace} (ht : P.underlying t = some (.int κ)) (h : DataW.trod enc P w base spare held fuel t ((cs.drop k).take m) = some x) : ∃ z, cs[k]? = some (.int κ z) ∧ (Lit.int κ z).wf = true := by
 obtain ⟨z, h1, _, h2⟩ := DataW.trod_int ht h
 exact ⟨z, cell_of h1, h2⟩
theorem str_cell {t : TypeId} {fuel k m : Nat} {cs : List Value} {x : DataW H × List MemPlace} (ht : P.underlying t = some .string) (h : DataW.trod enc P w base spare held fuel t ((cs.drop k).take m) = some x) : ∃ z, cs[k]? = some (.string z) := by
 obtain ⟨z, h1, _, _⟩ := DataW.trod_string ht h
 exact ⟨z, cell_of h1⟩
theorem part_cell {cs : List Value} {o m k : Nat} {v : Value} (h : ((cs.drop o).take m)[k]? = some v) : cs[o + k]? = some v := by
 rw [List.getElem?_take] at h
 split at h
 ·rwa [List.getElem?_drop] at h
 ·cases h
theorem rows_of {α : Type} (f : α → List Value) (k : Nat) (hk : ∀ x, (f x).length = k) (a : Addr) (Q : α → Prop) : ∀ (n : Nat), (∀ i, i < n → ∃ x, w.cells? base (a.add (i * k)) k = some (f x) ∧ Q x) →
  ∃ xs : List α, xs.length = n ∧ (∀ x ∈ xs, Q x) ∧ ∀ j u, (xs.flatMap f)[j]? = some u → w.cell? (a.add j) = some u
 | 0, _ => ⟨[], rfl, fun _ h => by (cases h), fun j u h => by simp at h⟩
 | n + 1, h => by
  obtain ⟨xs, hl, hQ, hx⟩ := rows_of f k hk a Q n (fun i hi => h i (by omega))
  obtain ⟨x, hc, hq⟩ := h n (by omega)
  obtain ⟨_, hlen, hcell⟩ := World.cells?_some hc
  have hfl : (xs.flatMap f).length = n * k := by
   clear hx h
   rw [← hl]
   clear hl hQ
   induction xs with
   | nil => simp
   | cons y ys ih => rw [List.flatMap_cons, List.length_append, ih, hk, List.length_cons, Nat.succ_mul]; omega
  refine ⟨xs ++ [x], by simp [hl], fun y hy => ?_, fun j u hj => ?_⟩
  ·rcases List.mem_append.1 hy with h | h
   ·exact hQ y h
   ·rw [List.mem_singleton.1 h]; exact hq
  ·rw [List.flatMap_append] at hj
   by_cases hlt : j < n * k
   ·rw [List.getElem?_append_left (by omega)] at hj
    exact hx j u hj
   ·rw [List.getElem?_append_right (by omega), hfl] at hj
    have hj2 : (f x)[j - n * k]? = some u := by simpa using hj
    have hlt2 : j - n * k < k := by
     have := (List.getElem?_eq_some_iff.1 hj2).1
     rwa [hk] at this
    have := hcell (j - n * k) hlt2
    rw [hj2, Deep.add_add, show n * k + (j - n * k) = j from by omega] at this
    exact this
theorem wf64 {z : Int} (h : (Lit.int .i64 z).wf = true) : -9223372036854775808 ≤ z ∧ z ≤ 9223372036854775807 := by
 simp only [Lit.wf, Bool.and_eq_true, decide_eq_true_eq] at h
 exact h
theorem wf8 {z : Int} (h : (Lit.int .u8 z).wf = true) : 0 ≤ z ∧ z ≤ 255 := by
 simp only [Lit.wf, Bool.and_eq_true, decide_eq_true_eq] at h
 exact h
theorem wf32 {z : Int} (h : (Lit.int .u32 z).wf = true) : 0 ≤ z ∧ z ≤ 4294967295 := by
 simp only [Lit.wf, Bool.and_eq_true, decide_eq_true_eq] at h
 exact h
end
end Go.Proofs.YtdeiocppghhfdaaGreat
namespace Go.Proofs.YtdeiocppghhfdaaGreat
open Go.RowKit Go.WideShapes Go.ChangeShapes Go.Deep
theorem cfgL_len (c : CfgV) : (cfgL c).length = 8 := rfl
section
variable {H : Type} {enc : TypeId × Value → H} {w : World} {base : Nat} {spare : Nat → Bool} {held : Bool}
theorem cfg_cells {fuel : Nat} {cs : List Value} {x : DataW H × List MemPlace} (h : DataW.trod enc Tryz.prog w base spare held fuel 24 cs = some x) : ∃ c : CfgV, cs = cfgL c := by
 have hlen : cs.length = 8 := by
  obtain ⟨_, _, _, _, hl, _⟩ := DataW.trod_struct Tryz.underlying24 h
  rw [hl]
  kernel_rfl
 obtain ⟨_, _, h_0⟩ := field_of Tryz.underlying24 h 0 _ rfl
 obtain ⟨z0, x0, w0⟩ := int_cell Tryz.underlying3 h_0
 obtain ⟨_, _, h_1⟩ := field_of Tryz.underlying24 h 1 _ rfl
 obtain ⟨z1, x1, w1⟩ := int_cell Tryz.underlying22 h_1
 obtain ⟨_, _, h_2⟩ := field_of Tryz.underlying24 h 2 _ rfl
 obtain ⟨z2, x2, w2⟩ := int_cell Tryz.underlying3 h_2
 obtain ⟨_, _, h_3⟩ := field_of Tryz.underlying24 h 3 _ rfl
 obtain ⟨z3, x3, w3⟩ := int_cell Tryz.underlying3 h_3
 obtain ⟨_, _, h_4⟩ := field_of Tryz.underlying24 h 4 _ rfl
 obtain ⟨z4, x4, w4⟩ := int_cell Tryz.underlying3 h_4
 obtain ⟨_, _, h_5⟩ := field_of Tryz.underlying24 h 5 _ rfl
 obtain ⟨z5, x5, w5⟩ := int_cell Tryz.underlying3 h_5
 obtain ⟨_, _, h_6⟩ := field_of Tryz.underlying24 h 6 _ rfl
 obtain ⟨z6, x6, w6⟩ := int_cell Tryz.underlying3 h_6
 obtain ⟨_, _, h_7⟩ := field_of Tryz.underlying24 h 7 _ rfl
 obtain ⟨z7, x7⟩ := str_cell Tryz.underlying9 h_7
 refine ⟨⟨z0, z1, z2, z3, z4, z5, z6, z7⟩, ?_⟩
 apply List.ext_getElem?
 intro j
 match j with
 | 0 => exact x0
 | 1 => exact x1
 | 2 => exact x2
 | 3 => exact x3
 | 4 => exact x4
 | 5 => exact x5
 | 6 => exact x6
 | 7 => exact x7
 | n + 8 => rw [List.getElem?_eq_none (by omega), List.getElem?_eq_none (by rw [cfgL_len]; omega)]
theorem open_cfg {b0 : Nat} {v : Value} {d : DataW H} {ps : List MemPlace} (hval : Value.okWide Tryz.prog w .any b0 24 v) (hd : DataW.Trod enc Tryz.prog w base spare held 24 v d ps) : ∃ c : CfgV, v = c.v := by
 obtain ⟨cs, rfl, _⟩ := okWide_struct Tryz.underlying24 hval
 obtain ⟨fuel, hf⟩ := hd
 obtain ⟨c, hc⟩ := cfg_cells hf
 have hc2 : cs.toList = cfgL c := hc
 refine ⟨c, ?_⟩
 show Value.agg cs = .agg (cfgL c).toArray
 rw [← hc2]
end
end Go.Proofs.YtdeiocppghhfdaaGreat
namespace Go.Proofs.YtdeiocppghhfdaaGreat.Hs
open Go.RowKit Go.Lib Go.Shelf
def thF (t : Int) (cs : List CallV) : List CallV := cs.filter fun c => decide (c.thread = t)
theorem thIdx_map {t : Int} : ∀ (cs : List CallV) (k : Nat), (thIdx t cs k).map (fun i => cs[i - k]?.getD default) = thF t cs
 | [], k => rfl
 | c :: cs, k => by
  have ih := thIdx_map (t := t) cs (k + 1)
  have e : (thIdx t cs (k + 1)).map (fun i => (c :: cs)[i - k]?.getD default) = thF t cs := by
   rw [← ih]
   refine List.map_congr_left fun i hi => ?_
   have := thIdx_lt hi
   rw [show i - k = (i - (k + 1)) + 1 from by omega, List.getElem?_cons_succ]
  unfold thIdx thF
  by_cases h : c.thread = t
  ·rw [if_pos h, List.map_cons, e, Nat.sub_self, List.filter_cons_of_pos (by simpa using h)]
   rfl
  ·rw [if_neg h, e, List.filter_cons_of_neg (by simpa using h)]
   rfl
theorem th_len (t : Int) (cs : List CallV) : (thIdx t cs 0).length = (thF t cs).length := by rw [← thIdx_map cs 0, List.length_map]
theorem last_thF (t : Int) (cs : List CallV) : lastOf t cs = (thF t cs).getLast? := by
 unfold lastOf
 rw [← thIdx_map cs 0, List.getLast?_map]
 cases h : (thIdx t cs 0).getLast? with
 | none => rfl
 | some i =>
  have hm := List.mem_of_getLast? h
  have := thIdx_lt hm
  simp only [Option.bind_some, Option.map_some, Nat.sub_zero]
  rw [List.getElem?_eq_getElem (by omega)]
  rfl
end Go.Proofs.YtdeiocppghhfdaaGreat.Hs
namespace Go.Proofs.YtdeiocppghhfdaaGreat.Hs
open Go.RowKit Go.Lib Go.Shelf
theorem accB_eq (pre : List CallV) (c : CallV) : accB pre c = (formedB c && (match pre.getLast? with | some p => decide (p.invoked < c.invoked) | none => true) && decide (c.index = (thF c.thread pre).length) &&
  (match (thF c.thread pre).getLast? with | some d => befB d c | none => true) && pre.all fun d => !clashB c d) := by
 unfold accB
 rw [last_thF, th_len]
 rfl
end Go.Proofs.YtdeiocppghhfdaaGreat.Hs
namespace Go.Proofs.YtdeiocppghhfdaaGreat.Lin
open Hs
theorem acc_true {st : MS} {c : Int} {q : OpV} {r : ResV} {i : ItV} (h : (accS st c q r i).1 = true) : (sameB r i (doS st c q).1 = true ∧ (accS st c q r i).2 = (doS st c q).2) ∨ (sameB r i (doS st c q).1 = false ∧ accB st c q r i = true ∧ (accS st c q r i).2 = st) := by
 unfold accS at h ⊢
 cases hs : sameB r i (doS st c q).1 with
 | true => rw [if_pos rfl]; exact .inl ⟨rfl, rfl⟩
 | false =>
  rw [hs] at h
  simp only [Bool.false_eq_true, if_false] at h ⊢
  exact .inr ⟨trivial, h, trivial⟩
theorem sameB_err {r s : ResV} {i : ItV} (h : sameB r i s = true) : r.err = s.err := by rw [(sameB_eq h).1]
theorem perf_zero {c : CfgV} {cs : List CallV} {E : List Nat} (h1 : cfgE c = 0) (h2 : (checkP cs).2 = 0) (h3 : playE cs (newS c) (ordW cs E) = none) : perfE c cs E = (0, 0) := by
 unfold perfE
 rw [if_neg (by rw [h1]; simp), if_neg (by rw [h2]; simp), h3]
end Go.Proofs.YtdeiocppghhfdaaGreat.Lin
namespace Go.Proofs.YtdeiocppghhfdaaGreat.Lin
open Hs
def OneCut (a b : ByteArray) : Prop := ∃ p t q : List UInt8, (a.data.toList = p ++ q ∧ b.data.toList = p ++ t ++ q) ∨ (a.data.toList = p ++ t ++ q ∧ b.data.toList = p ++ q)
theorem OneCut.refl (a : ByteArray) : OneCut a a := ⟨a.data.toList, [], [], .inl ⟨by simp, by simp⟩⟩
theorem rep_list (t x : ByteArray) (a n : Int) : (repT t a n x).data.toList = t.data.toList.take a.toNat ++ x.data.toList ++ t.data.toList.drop (a + n).toNat := rfl
theorem rep_cut_ins {t x : ByteArray} {a : Int} : OneCut t (repT t a 0 x) := by
 refine ⟨t.data.toList.take a.toNat, x.data.toList, t.data.toList.drop a.toNat, .inl ⟨(List.take_append_drop _ _).symm, ?_⟩⟩
 rw [rep_list, Int.add_zero]
theorem rep_cut_del {t : ByteArray} {a n : Int} (ha : 0 ≤ a) (hn : 0 ≤ n) : OneCut t (repT t a n ⟨#[]⟩) := by
 refine ⟨t.data.toList.take a.toNat, (t.data.toList.drop a.toNat).take n.toNat, t.data.toList.drop (a + n).toNat, .inr ⟨?_, ?_⟩⟩
 ·rw [List.append_assoc, show (a + n).toNat = a.toNat + n.toNat by omega, ← List.drop_drop, List.take_append_drop, List.take_append_drop]
 ·rw [rep_list]
  show _ ++ [] ++ _ = _
  rw [List.append_nil]
theorem op_text {st : MS} {c : Nat} {q : OpV} (hq : opE q = 0) : (edK q.kind = true ∧ (opS st c q).1.err = 0 ∧ (opS st c q).2.number = st.number + 1 ∧ OneCut st.text (opS st c q).2.text) ∨ (¬ (edK q.kind = true ∧ (opS st c q).1.err = 0) ∧ (opS st c q).2.number = st.number ∧ (opS st c q).2.text = st.text) := by
 obtain ⟨⟨k0, k1, g1, g2, _⟩, _, _⟩ := opE_ok hq
 have no : ∀ e : Int, e ≠ 0 → ¬ (edK q.kind = true ∧ (failR e).err = 0) := fun e he h => he h.2
 unfold opS
 split
 ·rename_i hk
  have hk2 : edK q.kind = true := by rw [hk]; rfl
  unfold insS; split
  ·rename_i he; exact .inr ⟨no _ he, rfl, rfl⟩
  ·exact .inl ⟨hk2, rfl, rfl, rep_cut_ins⟩
 split
 ·rename_i hk
  have hk2 : edK q.kind = true := by rw [hk]; rfl
  unfold delS; split
  ·rename_i he; exact .inr ⟨no _ he, rfl, rfl⟩
  ·exact .inl ⟨hk2, rfl, rfl, rep_cut_del g1 g2⟩
 split
 ·rename_i hk
  have hk2 : edK q.kind = true := by rw [hk]; rfl
  unfold setS; split
  ·rename_i he; exact .inr ⟨no _ he, rfl, rfl⟩
  ·split
   ·exact .inl ⟨hk2, rfl, rfl, OneCut.refl _⟩
   ·exact .inr ⟨no _ (by decide), rfl, rfl⟩
 split
 ·rename_i hk
  have hk2 : edK q.kind = true := by rw [hk]; rfl
  unfold drpS; split
  ·exact .inr ⟨no _ (by decide), rfl, rfl⟩
  ·split
   ·exact .inl ⟨hk2, rfl, rfl, OneCut.refl _⟩
   ·exact .inr ⟨no _ (by decide), rfl, rfl⟩
 rename_i n1 n2 n3 n4
 have hk2 : edK q.kind = false := by
  unfold edK
  by_cases h : q.kind ≤ 4
  ·omega
  ·simp [h]
 refine .inr ⟨fun h => (by rw [hk2] at h; cases h.1), ?_⟩
 split
 ·unfold acqS; split
  ·exact ⟨rfl, rfl⟩
  ·split <;> exact ⟨rfl, rfl⟩
 split
 ·unfold subS; split
  ·exact ⟨rfl, rfl⟩
  ·split <;> exact ⟨rfl, rfl⟩
 split
 ·unfold recS; split
  ·exact ⟨rfl, rfl⟩
  ·split <;> exact ⟨rfl, rfl⟩
 split
 ·unfold cloS; split <;> exact ⟨rfl, rfl⟩
 ·unfold reaS; split <;> exact ⟨rfl, rfl⟩
def eoQ (c : CallV) : Bool := edK c.okind && decide (c.err = 0)
theorem acc_text {cs : List CallV} {st : MS} {i : Nat} (h : (accO cs st i).1 = true) : (eoQ (getC cs i) = true ∧ (accO cs st i).2.number = st.number + 1 ∧ OneCut st.text (accO cs st i).2.text) ∨ (eoQ (getC cs i) = false ∧ (accO cs st i).2.number = st.number ∧ (accO cs st i).2.text = st.text) := by
 have hres : ∀ s : ResV, sameB (resV (getC cs i)) (itV (getC cs i)) s = true → (getC cs i).err = s.err := fun s hs => sameB_err hs
 unfold accO at h ⊢
 rcases acc_true h with ⟨h1, h2⟩ | ⟨_, hb, h2⟩
 ·rw [h2]
  have he := hres _ h1
  unfold doS at he ⊢
  split
  ·rename_i hs
   rw [if_pos hs] at he
   refine .inr ⟨?_, rfl, rfl⟩
   have : (getC cs i).err ≠ 0 := by rw [he]; exact hs
   unfold eoQ
   simp [this]
  ·rename_i hs
   rw [if_neg hs] at he
   obtain ⟨_, _, ho⟩ := statE_ok (Decidable.not_not.1 hs)
   rcases op_text (st := st) (c := (getC cs i).thread.toNat) ho with ⟨a1, a2, a3, a4⟩ | ⟨a1, a3, a4⟩
   ·refine .inl ⟨?_, a3, a4⟩
    rw [a2] at he
    have a5 : edK (getC cs i).okind = true := a1
    unfold eoQ
    rw [a5, he]; rfl
   ·refine .inr ⟨?_, a3, a4⟩
    rw [← he] at a1
    unfold eoQ
    cases hk : edK (getC cs i).okind with
    | false => rfl
    | true =>
     by_cases h0 : (getC cs i).err = 0
     ·exact absurd ⟨hk, h0⟩ a1
     ·simp [h0]
 ·rw [h2]
  refine .inr ⟨?_, rfl, rfl⟩
  have hk : ∀ e : Int, e ≠ 0 → sameB (resV (getC cs i)) (itV (getC cs i)) (failR e) = true → eoQ (getC cs i) = false := fun e he hs => by
   have h3 := hres _ hs
   unfold eoQ
   have h4 : (getC cs i).err ≠ 0 := by rw [h3]; exact he
   simp [h4]
  unfold Go.Proofs.YtdeiocppghhfdaaGreat.accB at hb
  split at hb
  ·cases hb
  ·split at hb
   ·rename_i h15
    have h15' : (getC cs i).okind = 15 := h15
    unfold eoQ
    rw [h15']; rfl
   ·split at hb
    ·simp only [Bool.or_eq_true, Bool.and_eq_true] at hb
     rcases hb with hb | hb
     ·exact hk 6 (by decide) hb.1
     ·exact hk 14 (by decide) hb.1
    ·split at hb
     ·simp only [Bool.and_eq_true] at hb
      exact hk 14 (by decide) hb.1
     ·cases hb
end Go.Proofs.YtdeiocppghhfdaaGreat.Lin
namespace Go.Proofs.YtdeiocppghhfdaaGreat.Lin
open Go.RowKit Go.Lib Go.Shelf
open Hs
def oneS (st : MS) (c : Nat) : MS := { st with seats := [st.seat c] }
def wrapS (st : MS) (c : Nat) (x : ResV × MS) : ResV × MS := (x.1, { x.2 with seats := st.seats.set c (x.2.seat 0) })
theorem set_self (st : MS) (c : Nat) : st.seats.set c (st.seat c) = st.seats := congrArg MS.seats (put_self st c)
theorem wrap_same (st : MS) (c : Nat) (r : ResV) (t : ByteArray) (m : List MkV) (n : Int) (b : Bool) : wrapS st c (r, { oneS st c with text := t, marks := m, number := n, closed := b }) = (r, { st with text := t, marks := m, number := n, closed := b }) := by
 show (r, ({ text := t, marks := m, number := n, closed := b, readers := st.readers, seats := st.seats.set c (st.seat c) } : MS)) = _
 rw [set_self]
theorem wrap_id (st : MS) (c : Nat) (r : ResV) : wrapS st c (r, oneS st c) = (r, st) := wrap_same st c r st.text st.marks st.number st.closed
theorem op_one (st : MS) (c : Nat) (q : OpV) : opS st c q = wrapS st c (opS (oneS st c) 0 q) := by
 have hs : (oneS st c).seat 0 = st.seat c := rfl
 unfold opS
 split
 ·have e : insE (oneS st c) q = insE st q := rfl
  unfold insS; rw [e]; split
  ·rw [wrap_id]
  ·exact (wrap_same st c _ _ _ _ st.closed).symm
 split
 ·have e : delE (oneS st c) q = delE st q := rfl
  unfold delS; rw [e]; split
  ·rw [wrap_id]
  ·exact (wrap_same st c _ _ _ _ st.closed).symm
 split
 ·have e : setE (oneS st c) q = setE st q := rfl
  unfold setS; rw [e]; split
  ·rw [wrap_id]
  ·show _ = wrapS st c (if hasM q.id st.marks = true ∨ st.marks.length < 64 then _ else _)
   split
   ·exact (wrap_same st c _ st.text _ _ st.closed).symm
   ·rw [wrap_id]
 split
 ·unfold drpS
  show _ = wrapS st c (if st.closed then _ else _)
  split
  ·rw [wrap_id]
  ·show _ = wrapS st c (if hasM q.id st.marks then _ else _)
   split
   ·exact (wrap_same st c _ st.text _ _ st.closed).symm
   ·rw [wrap_id]
 split
 ·unfold acqS
  rw [hs]
  show _ = wrapS st c (if st.closed then _ else _)
  split
  ·rw [wrap_id]
  ·cases (st.seat c).slots.findIdx? (fun s => !s.held) with
   | none => rw [wrap_id]
   | some k => rfl
 split
 ·unfold subS
  rw [hs]
  show _ = wrapS st c (if (st.seat c).sub then _ else if st.closed then _ else _)
  split
  ·rw [wrap_id]
  ·split
   ·rw [wrap_id]
   ·rfl
 split
 ·unfold recS
  rw [hs]
  show _ = wrapS st c (if !(st.seat c).sub then _ else if st.closed then _ else _)
  split
  ·rw [wrap_id]
  ·split <;> rw [wrap_id]
 split
 ·unfold cloS
  show _ = wrapS st c (if st.closed then _ else _)
  split
  ·rw [wrap_id]
  ·exact (wrap_same st c _ st.text st.marks st.number true).symm
 ·unfold reaS
  rw [hs]
  split
  ·rw [wrap_id]
  ·rfl
end Go.Proofs.YtdeiocppghhfdaaGreat.Lin
namespace Go.Proofs.YtdeiocppghhfdaaGreat.Lin
open Hs
theorem seat_putX (st : MS) (c : Nat) (s : SeV) : (st.put c s).seat c = if c < st.seats.length then s else default := by
 unfold MS.put MS.seat
 simp only [List.getD_eq_getElem?_getD]
 by_cases h : c < st.seats.length
 ·rw [List.getElem?_set_self h, if_pos h]; rfl
 ·rw [List.getElem?_eq_none (by rw [List.length_set]; omega), if_neg h]; rfl
theorem op_kind {q : OpV} (h : opE q = 0) : 1 ≤ q.kind ∧ q.kind ≤ 16 := ⟨(opE_ok h).1.1, (opE_ok h).1.2.1⟩
structure KpT (a b : MS) : Prop where
 text : a.text = b.text
 marks : a.marks = b.marks
 number : a.number = b.number
 closed : a.closed = b.closed
theorem KpT.refl (a : MS) : KpT a a := ⟨rfl, rfl, rfl, rfl⟩
theorem KpT.trans {a b c : MS} (h : KpT a b) (k : KpT b c) : KpT a c := ⟨h.text.trans k.text, h.marks.trans k.marks, h.number.trans k.number, h.closed.trans k.closed⟩
theorem reaS_kp (st : MS) (c : Nat) (q : OpV) : KpT (reaS st c q).2 st := by
 unfold reaS
 split
 ·exact .refl _
 ·exact ⟨rfl, rfl, rfl, rfl⟩
theorem do_kp {st : MS} {c : Int} {q : OpV} (h : st.closed = true) : KpT (doS st c q).2 st ∧ ((q.kind ≤ 5 ∨ 14 ≤ q.kind) → (doS st c q).1.err ≠ 0) := by
 unfold doS
 split
 ·rename_i he; exact ⟨.refl _, fun _ => he⟩
 ·rename_i he
  obtain ⟨_, _, h3⟩ := statE_ok (Decidable.not_not.1 he)
  have hk := op_kind h3
  unfold opS
  split
  ·unfold insS insE; rw [if_pos h]; exact ⟨.refl _, fun _ => by simp [failR]⟩
  split
  ·unfold delS delE; rw [if_pos h]; exact ⟨.refl _, fun _ => by simp [failR]⟩
  split
  ·unfold setS setE; rw [if_pos h]; exact ⟨.refl _, fun _ => by simp [failR]⟩
  split
  ·unfold drpS; rw [if_pos h]; exact ⟨.refl _, fun _ => by simp [failR]⟩
  split
  ·unfold acqS; rw [if_pos h]; exact ⟨.refl _, fun _ => by simp [failR]⟩
  split
  ·unfold subS; split
   ·exact ⟨.refl _, fun _ => by simp [failR]⟩
   ·(try rw [if_pos h]); exact ⟨.refl _, fun _ => by simp [failR]⟩
  split
  ·unfold recS; split
   ·exact ⟨.refl _, fun _ => by simp [failR]⟩
   ·(try rw [if_pos h]); exact ⟨.refl _, fun _ => by simp [failR]⟩
  split
  ·unfold cloS; rw [if_pos h]; exact ⟨.refl _, fun _ => by simp [failR]⟩
  ·exact ⟨reaS_kp _ _ _, fun _ => by omega⟩
theorem do_other {st : MS} {c : Int} {q : OpV} : (doS st c q).2.seats.length = st.seats.length ∧ ∀ d, d ≠ c.toNat → (doS st c q).2.seat d = st.seat d := by
 unfold doS
 split
 ·exact ⟨rfl, fun _ _ => rfl⟩
 ·rw [op_one]
  refine ⟨by show (st.seats.set _ _).length = _; rw [List.length_set], fun d hd => ?_⟩
  show (st.seats.set _ _).getD d default = st.seats.getD d default
  rw [List.getD_eq_getElem?_getD, List.getD_eq_getElem?_getD, List.getElem?_set_ne (fun e => hd e.symm)]
theorem playE_app {cs : List CallV} : ∀ (o1 o2 : List Nat) (st : MS), playE cs st (o1 ++ o2) = none ↔ playE cs st o1 = none ∧ playE cs (playS cs st o1) o2 = none
 | [], o2, st => by simp [playE, playS]
 | i :: r, o2, st => by
  have e1 : playE cs st (i :: r ++ o2) = if (accO cs st i).1 then playE cs (accO cs st i).2 (r ++ o2) else some i := rfl
  have e2 : playE cs st (i :: r) = if (accO cs st i).1 then playE cs (accO cs st i).2 r else some i := rfl
  have e3 : playS cs st (i :: r) = playS cs (accO cs st i).2 r := rfl
  rw [e1, e2, e3]
  split
  ·exact playE_app r o2 _
  ·simp
theorem playS_app (cs : List CallV) (o1 o2 : List Nat) (st : MS) : playS cs st (o1 ++ o2) = playS cs (playS cs st o1) o2 := List.foldl_append ..
section
variable {cs : List CallV} {s : Int} {X E : List Nat}
end
end Go.Proofs.YtdeiocppghhfdaaGreat.Lin
namespace Go.Proofs.YtdeiocppghhfdaaGreat.Lin
open Hs
section
variable {α : Type} {n : Nat} {next : α → Nat → Option α} {rdy : Nat → Nat → Bool} {fl : Nat → Bool}
end
section
variable {L : List CallV}
theorem mem_take_get {i : Nat} {d : CallV} (hd : d ∈ L.take i) : ∃ j, j < i ∧ j < L.length ∧ d = getC L j := by
 obtain ⟨j, hj, he⟩ := List.mem_take_iff_getElem.1 hd
 refine ⟨j, by omega, by omega, ?_⟩
 rw [← he]
 exact (getC_at (List.getElem?_eq_getElem (by omega))).symm
end
end Go.Proofs.YtdeiocppghhfdaaGreat.Lin
namespace Go.Proofs.YtdeiocppghhfdaaGreat.Lin
open Go.RowKit Go.WideShapes Go.ChangeShapes Go.Deep
open Hs
open KitI (IRow)
def ArgI (w : World) (p : Option Addr) (l : List Int) : Prop := l = [] ∨ ∃ b off, p = some ⟨b, off, none⟩ ∧ b < w.heap.size ∧ (∀ j u, l[j]? = some u → w.cell? ⟨b, off + j, none⟩ = some (.int .i64 u)) ∧ l.length < 9223372036854775808 ∧ ∀ x ∈ l, -9223372036854775808 ≤ x ∧ x ≤ 9223372036854775807
theorem ArgI.on {w w' : World} {p : Option Addr} {l : List Int} (h : ArgI w p l) (hb : Below w.heap.size w w') : ArgI w' p l := by
 rcases h with h | ⟨b, off, h1, h2, h3, h4, h5⟩
 ·exact .inl h
 ·exact .inr ⟨b, off, h1, Nat.lt_of_lt_of_le h2 hb.size, fun j u hj => (hb.cell (p := ⟨b, off + j, none⟩) h2).trans (h3 j u hj), h4, h5⟩
section
variable {H : Type} {enc : TypeId × Value → H} {w : World} {base : Nat} {spare : Nat → Bool} {held : Bool}
end
theorem ArgI.take {w : World} {p : Option Addr} {l : List Int} (h : ArgI w p l) (k : Nat) : IRd w p (l.take k) := by
 rcases h with rfl | ⟨b, off, rfl, h2, h3, _⟩
 ·exact .inl (by simp)
 ·exact .inr ⟨b, off, rfl, fun j u hj => h3 j u (by rw [List.getElem?_take] at hj; split at hj; exact hj; cases hj)⟩
end Go.Proofs.YtdeiocppghhfdaaGreat.Lin
namespace Go.Proofs.YtdeiocppghhfdaaGreat.Lin
open Go.RowKit Go.Lib Go.Shelf
open Hs
open KitI (iv IRow)
theorem cfg_v (c : CfgV) : c.v = .agg (cfgL c).toArray := rfl
theorem cfgL_ne (c : CfgV) : cfgL c ≠ [] := by simp [cfgL]
theorem st_cfg {W : World} {g : Nat} {cs : Array Value} (h : W.heap[g]? = some (.cells cs tCfg (0, 0))) (hs : cs.size = 8) (c : CfgV) : (storeCells ⟨g, 0, none⟩ (cfgL c)).run Tryz.prog W = .ok () (W.setRow g (cfgL c).toArray) := run_st h hs (cfgL c) rfl (by simp [cfgL, Value.oneCell'])
section
variable {w W : World} {c : CfgV} {p : Option Addr} {cap : Nat} {cs : List CallV}
end
end Go.Proofs.YtdeiocppghhfdaaGreat.Lin
namespace Go.Proofs.YtdeiocppghhfdaaGreat.Lin
open Hs
structure SeqT (L : List CallV) : Prop where
 th : ∀ i, i < L.length → 0 ≤ (getC L i).thread ∧ (getC L i).thread < 16
 ix : ∀ i, i < L.length → (getC L i).index = (thF (getC L i).thread (L.take i)).length
 nv : ∀ i, i < L.length → (getC L i).invoked = 3 * (i : Int) ∧ (getC L i).took = 3 * (i : Int) + 1 ∧ (getC L i).rank = 0 ∧ (getC L i).answered = 3 * (i : Int) + 2 ∧ (getC L i).steps = 2
section
variable {L : List CallV}
theorem SeqT.check (h : SeqT L) : checkP L = (0, 0) := by
 refine check_good fun i hi => ?_
 rw [ok_at (getC_some hi), accB_eq]
 obtain ⟨n1, n2, n3, n4, n5⟩ := h.nv i hi
 obtain ⟨t1, t2⟩ := h.th i hi
 have hix := h.ix i hi
 have hf : formedB (getC L i) = true := by
  unfold formedB
  rw [n1, n2, n3, n4, n5, hix]
  refine decide_eq_true ⟨t1, t2, by omega, by omega, by omega, by omega, by omega, by omega, .inl ⟨by omega, by omega⟩, .inr ⟨by omega, by omega, by omega, by omega, by omega, by omega, .inr (by omega)⟩⟩
 have hl : (match (L.take i).getLast? with | some p => decide (p.invoked < (getC L i).invoked) | none => true) = true := by
  cases hg : (L.take i).getLast? with
  | none => rfl
  | some d =>
   obtain ⟨j, hj, hjl, rfl⟩ := mem_take_get (List.mem_of_getLast? hg)
   show decide ((getC L j).invoked < (getC L i).invoked) = true
   rw [(h.nv j hjl).1, n1]
   exact decide_eq_true (by omega)
 have ht : (match (thF (getC L i).thread (L.take i)).getLast? with | some d => befB d (getC L i) | none => true) = true := by
  cases hg : (thF (getC L i).thread (L.take i)).getLast? with
  | none => rfl
  | some d =>
   have hm := List.mem_of_getLast? hg
   unfold thF at hm
   obtain ⟨j, hj, hjl, rfl⟩ := mem_take_get (List.mem_filter.1 hm).1
   show befB (getC L j) (getC L i) = true
   unfold befB
   rw [(h.nv j hjl).2.2.2.1, n1]
   simp only [Bool.and_eq_true, decide_eq_true_eq]
   omega
 have hc : ((L.take i).all fun d => !clashB (getC L i) d) = true := by
  rw [List.all_eq_true]
  intro d hd
  obtain ⟨j, hj, hjl, rfl⟩ := mem_take_get hd
  obtain ⟨m1, m2, m3, m4, m5⟩ := h.nv j hjl
  have : clashB (getC L i) (getC L j) = false := by
   unfold clashB
   rw [n1, n2, n3, n4, m1, m2, m3, m4]
   refine decide_eq_false ?_
   omega
  rw [this]; rfl
 simp only [Bool.and_eq_true]
 exact ⟨⟨⟨⟨hf, hl⟩, decide_eq_true hix⟩, ht⟩, hc⟩
theorem SeqT.eff (h : SeqT L) : EffIs L (List.range L.length) := by
 refine ⟨?_, ?_⟩
 ·refine (List.perm_ext_iff_of_nodup List.nodup_range places_nodup).2 fun i => ?_
  rw [List.mem_range]
  constructor
  ·intro hi
   have := places_mem (q := tookQ) (k := 0) (getC_some hi) (by unfold tookQ; rw [(h.nv i hi).2.1]; exact decide_eq_true (by omega))
   rwa [Nat.zero_add] at this
  ·intro hi
   obtain ⟨c, hc, _⟩ := places_at hi
   exact (List.getElem?_eq_some_iff.1 hc).1
 ·refine List.Pairwise.imp_of_mem (fun {i j} hi hj hlt => ?_) List.pairwise_lt_range
  have hi := List.mem_range.1 hi
  have hj := List.mem_range.1 hj
  unfold lexB
  rw [(getC_tk hi).1, (getC_tk hj).1, (h.nv i hi).2.1, (h.nv j hj).2.1]
  exact decide_eq_true (.inl (by omega))
theorem SeqT.ord (h : SeqT L) : ordW L (List.range L.length) = List.range L.length := by
 cases hc : closeP L (List.range L.length) with
 | none => exact ord_none hc
 | some z =>
  obtain ⟨P, Q, hz⟩ := close_at h.eff hc
  rw [ord_some h.eff hc hz]
  have hm : ∀ i ∈ Q, mvQ L z i = false := fun i hi => by
   have hil : i < L.length := List.mem_range.1 (by rw [hz.eq]; simp [hi])
   have hzl : z < L.length := List.mem_range.1 (by rw [hz.eq]; simp)
   unfold mvQ
   rw [(h.nv i hil).1, (h.nv i hil).2.1, (h.nv z hzl).2.1]
   by_cases hlt : z < i
   ·have : decide (3 * (i : Int) < 3 * (z : Int) + 1) = false := decide_eq_false (by omega)
    rw [this]; simp
   ·have : decide (3 * (z : Int) + 1 < 3 * (i : Int) + 1) = false := decide_eq_false (by omega)
    rw [this]; simp
  have h1 : Q.filter (mvQ L z) = [] := List.filter_eq_nil_iff.2 fun i hi => by rw [hm i hi]; simp
  have h2 : (Q.filter fun i => !mvQ L z i) = Q := List.filter_eq_self.2 fun i hi => by rw [hm i hi]; rfl
  rw [h1, h2, List.append_nil, hz.eq, List.append_assoc]
  rfl
end
def stS (c : CfgV) (L : List CallV) : Nat → MS
 | 0 => newS c
 | k + 1 => (doS (stS c L k) (getC L k).thread (opV (getC L k))).2
structure RunT (c : CfgV) (L : List CallV) : Prop where
 seq : SeqT L
 cfg : cfgE c = 0
 res : ∀ i, i < L.length → resV (getC L i) = (doS (stS c L i) (getC L i).thread (opV (getC L i))).1
 itm : ∀ i, i < L.length → (itV (getC L i)).dn = 0 ∧ (itV (getC L i)).k = 0 ∧ (itV (getC L i)).f = 0 ∧ (itV (getC L i)).t = 0
theorem same_refl {r : ResV} {i : ItV} (h : i.dn = 0 ∧ i.k = 0 ∧ i.f = 0 ∧ i.t = 0) : sameB r i r = true := by
 obtain ⟨h1, h2, h3, h4⟩ := h
 unfold sameB
 rw [h1, h2, h3, h4]
 simp
section
variable {c : CfgV} {L : List CallV}
theorem RunT.acc (h : RunT c L) {i : Nat} (hi : i < L.length) : accO L (stS c L i) i = (true, stS c L (i + 1)) := by
 unfold accO accS
 rw [← h.res i hi, if_pos (same_refl (h.itm i hi))]
 rfl
theorem play_st {L' : List CallV} : ∀ k, (∀ i, i < k → accO L' (stS c L i) i = (true, stS c L (i + 1))) → playE L' (newS c) (List.range k) = none ∧ playS L' (newS c) (List.range k) = stS c L k
 | 0, _ => ⟨rfl, rfl⟩
 | k + 1, h => by
  obtain ⟨h1, h2⟩ := play_st k fun i hi => h i (by omega)
  rw [List.range_succ]
  have ha := h k (by omega)
  refine ⟨(playE_app _ _ _).2 ⟨h1, ?_⟩, ?_⟩
  ·rw [h2]
   show (if (accO L' (stS c L k) k).1 then (none : Option Nat) else some k) = none
   rw [ha]; rfl
  ·rw [playS_app, h2]
   show (accO L' (stS c L k) k).2 = _
   rw [ha]
theorem SeqT.effC (h : SeqT L) : effC L = List.range L.length := effC_of h.eff
theorem RunT.perf (h : RunT c L) : perfC c L = (0, 0) ∧ lastC c L = stS c L L.length ∧ ordC L = List.range L.length := by
 obtain ⟨h1, h2⟩ := play_st (c := c) (L := L) (L' := L) L.length fun i hi => h.acc hi
 have e : ordC L = List.range L.length := by unfold ordC; rw [h.seq.effC, h.seq.ord]
 refine ⟨?_, ?_, e⟩
 ·unfold perfC
  exact perf_zero h.cfg (by rw [h.seq.check]) (by rw [h.seq.effC, h.seq.ord]; exact h1)
 ·unfold lastC
  rw [e, h2]
theorem replaced (h : RunT c L) {L' : List CallV} {k : Nat} (hk : k < L.length) (hlen : L'.length = L.length) (hs : SeqT L') (hb : ∀ i, i ≠ k → getC L' i = getC L i) :
  ((accO L' (stS c L k) k).1 = true → (perfC c L').2 = 0 ∨ ((perfC c L').2 = 26 ∧ (k : Int) < (perfC c L').1)) ∧ ((accO L' (stS c L k) k).1 = false → perfC c L' = ((k : Int), 26)) := by
 have hacc : ∀ i, i < k → accO L' (stS c L i) i = (true, stS c L (i + 1)) := fun i hi => by
  have := h.acc (i := i) (by omega)
  unfold accO at this ⊢
  rw [hb i (by omega)]
  exact this
 obtain ⟨h1, h2⟩ := play_st k hacc
 have hr : List.range L'.length = List.range k ++ (k :: (List.range (L.length - k - 1)).map fun j => k + 1 + j) := by
  rw [hlen, show L.length = (k + 1) + (L.length - k - 1) by omega, List.range_add, List.range_succ, List.append_assoc, show k + 1 + (L.length - k - 1) - k - 1 = L.length - k - 1 by omega]
  rfl
 have hp : perfC c L' = match playE L' (newS c) (List.range L'.length) with | some i => ((i : Int), 26) | none => (0, 0) := by
  unfold perfC perfE
  rw [if_neg (by rw [h.cfg]; simp), if_neg (by rw [hs.check]; simp), hs.effC, hs.ord]
  cases playE L' (newS c) (List.range L'.length) <;> rfl
 have hgen : ∀ (o1 o2 : List Nat) (st : MS), playE L' st o1 = none → playE L' st (o1 ++ o2) = playE L' (playS L' st o1) o2 := by
  intro o1
  induction o1 with
  | nil => intro o2 st _; rfl
  | cons i r ih =>
   intro o2 st hh
   have e1 : playE L' st (i :: r ++ o2) = if (accO L' st i).1 then playE L' (accO L' st i).2 (r ++ o2) else some i := rfl
   have e2 : playE L' st (i :: r) = if (accO L' st i).1 then playE L' (accO L' st i).2 r else some i := rfl
   rw [e2] at hh
   rw [e1]
   split at hh
   ·rename_i ha
    rw [if_pos ha]
    exact ih o2 _ hh
   ·cases hh
 have hin : ∀ (o : List Nat) (st : MS) (i : Nat), playE L' st o = some i → i ∈ o := by
  intro o
  induction o with
  | nil => intro st i hh; cases hh
  | cons j r ih =>
   intro st i hh
   have e2 : playE L' st (j :: r) = if (accO L' st j).1 then playE L' (accO L' st j).2 r else some j := rfl
   rw [e2] at hh
   split at hh
   ·exact List.mem_cons_of_mem _ (ih _ _ hh)
   ·injection hh with hh; rw [hh]; simp
 rw [hr, hgen _ _ _ h1, h2] at hp
 have e3 : ∀ r, playE L' (stS c L k) (k :: r) = if (accO L' (stS c L k) k).1 then playE L' (accO L' (stS c L k) k).2 r else some k := fun _ => rfl
 rw [e3] at hp
 refine ⟨fun ha => ?_, fun ha => ?_⟩
 ·rw [ha, if_pos rfl] at hp
  cases hx : playE L' (accO L' (stS c L k) k).2 ((List.range (L.length - k - 1)).map fun j => k + 1 + j) with
  | none => rw [hx] at hp; left; rw [hp]
  | some i =>
   rw [hx] at hp
   right
   obtain ⟨j, _, rfl⟩ := List.mem_map.1 (hin _ _ _ hx)
   rw [hp]
   exact ⟨rfl, by show (k : Int) < ((k + 1 + j : Nat) : Int); omega⟩
 ·rw [ha] at hp
  simpa using hp
theorem do_len (st : MS) (t : Int) (q : OpV) : (doS st t q).2.seats.length = st.seats.length := do_other.1
theorem stS_len (c : CfgV) (L : List CallV) : ∀ k, (stS c L k).seats.length = (newS c).seats.length
 | 0 => rfl
 | k + 1 => (do_len _ _ _).trans (stS_len c L k)
theorem stS_shut (c : CfgV) (L : List CallV) : ∀ j i, (stS c L i).closed = true → (stS c L (i + j)).closed = true
 | 0, i, h => h
 | j + 1, i, h => by
  have := stS_shut c L j i h
  exact (do_kp (c := (getC L (i + j)).thread) (q := opV (getC L (i + j))) this).1.closed.trans this
theorem do_noed {st : MS} {t : Int} {q : OpV} (h : ¬ (edK q.kind = true ∧ (doS st t q).1.err = 0)) : (doS st t q).2.text = st.text ∧ (doS st t q).2.marks = st.marks ∧ (doS st t q).2.number = st.number := by
 unfold doS at h ⊢
 split
 ·exact ⟨rfl, rfl, rfl⟩
 rename_i hst
 rw [if_neg hst] at h
 unfold opS at h ⊢
 split
 ·rename_i hk
  rw [if_pos hk] at h
  have hk2 : edK q.kind = true := by rw [hk]; rfl
  unfold insS at h ⊢
  split
  ·exact ⟨rfl, rfl, rfl⟩
  ·rename_i he; rw [if_neg he] at h; exact absurd ⟨hk2, rfl⟩ h
 rename_i n1; rw [if_neg n1] at h
 split
 ·rename_i hk
  rw [if_pos hk] at h
  have hk2 : edK q.kind = true := by rw [hk]; rfl
  unfold delS at h ⊢
  split
  ·exact ⟨rfl, rfl, rfl⟩
  ·rename_i he; rw [if_neg he] at h; exact absurd ⟨hk2, rfl⟩ h
 rename_i n2; rw [if_neg n2] at h
 split
 ·rename_i hk
  rw [if_pos hk] at h
  have hk2 : edK q.kind = true := by rw [hk]; rfl
  unfold setS at h ⊢
  split
  ·exact ⟨rfl, rfl, rfl⟩
  ·rename_i he
   rw [if_neg he] at h
   split
   ·rename_i he2; rw [if_pos he2] at h; exact absurd ⟨hk2, rfl⟩ h
   ·exact ⟨rfl, rfl, rfl⟩
 rename_i n3; rw [if_neg n3] at h
 split
 ·rename_i hk
  rw [if_pos hk] at h
  have hk2 : edK q.kind = true := by rw [hk]; rfl
  unfold drpS at h ⊢
  split
  ·exact ⟨rfl, rfl, rfl⟩
  ·rename_i he
   rw [if_neg he] at h
   split
   ·rename_i he2; rw [if_pos he2] at h; exact absurd ⟨hk2, rfl⟩ h
   ·exact ⟨rfl, rfl, rfl⟩
 clear h
 split
 ·unfold acqS; split
  ·exact ⟨rfl, rfl, rfl⟩
  ·split <;> exact ⟨rfl, rfl, rfl⟩
 split
 ·unfold subS; split
  ·exact ⟨rfl, rfl, rfl⟩
  ·split <;> exact ⟨rfl, rfl, rfl⟩
 split
 ·unfold recS; split
  ·exact ⟨rfl, rfl, rfl⟩
  ·split <;> exact ⟨rfl, rfl, rfl⟩
 split
 ·unfold cloS; split <;> exact ⟨rfl, rfl, rfl⟩
 ·unfold reaS; split <;> exact ⟨rfl, rfl, rfl⟩
theorem do_ed {a b : MS} {t : Int} {q : OpV} (hk : edK q.kind = true) (ht : a.text = b.text) (hm : a.marks = b.marks) (hn : a.number = b.number) (hc : a.closed = b.closed) (hl : a.seats.length = b.seats.length) :
  (doS a t q).1 = (doS b t q).1 ∧ (doS a t q).2.text = (doS b t q).2.text ∧ (doS a t q).2.marks = (doS b t q).2.marks ∧ (doS a t q).2.number = (doS b t q).2.number ∧ (doS a t q).2.seats = a.seats ∧ (doS a t q).2.closed = a.closed := by
 obtain ⟨at_, am, an, ac, ar, az⟩ := a
 obtain ⟨bt, bm, bn, bc, br, bz⟩ := b
 simp only at ht hm hn hc hl
 subst ht hm hn hc
 have e : statE ⟨at_, am, an, ac, ar, az⟩ t q = statE ⟨at_, am, an, ac, br, bz⟩ t q := by unfold statE; rw [hl]
 have hk4 : q.kind = 1 ∨ q.kind = 2 ∨ q.kind = 3 ∨ q.kind = 4 := by
  unfold edK at hk
  simp only [Bool.and_eq_true, decide_eq_true_eq] at hk
  omega
 unfold doS
 rw [e]
 split
 ·exact ⟨rfl, rfl, rfl, rfl, rfl, rfl⟩
 unfold opS
 rcases hk4 with h | h | h | h
 ·rw [if_pos h, if_pos h]
  have e2 : insE ⟨at_, am, an, ac, ar, az⟩ q = insE ⟨at_, am, an, ac, br, bz⟩ q := rfl
  unfold insS
  rw [e2]
  split <;> exact ⟨rfl, rfl, rfl, rfl, rfl, rfl⟩
 ·rw [if_neg (by omega), if_pos h, if_neg (by omega), if_pos h]
  have e2 : delE ⟨at_, am, an, ac, ar, az⟩ q = delE ⟨at_, am, an, ac, br, bz⟩ q := rfl
  unfold delS
  rw [e2]
  split <;> exact ⟨rfl, rfl, rfl, rfl, rfl, rfl⟩
 ·rw [if_neg (by omega), if_neg (by omega), if_pos h, if_neg (by omega), if_neg (by omega), if_pos h]
  have e2 : setE ⟨at_, am, an, ac, ar, az⟩ q = setE ⟨at_, am, an, ac, br, bz⟩ q := rfl
  unfold setS
  rw [e2]
  split
  ·exact ⟨rfl, rfl, rfl, rfl, rfl, rfl⟩
  ·show _ ∧ _
   by_cases hx : hasM q.id am = true ∨ am.length < 64
   ·simp only [if_pos hx]; exact ⟨rfl, rfl, rfl, rfl, rfl, rfl⟩
   ·simp only [if_neg hx]; refine ⟨?_, ?_, ?_, ?_, ?_, ?_⟩ <;> first | rfl | trivial
 ·rw [if_neg (by omega), if_neg (by omega), if_neg (by omega), if_pos h, if_neg (by omega), if_neg (by omega), if_neg (by omega), if_pos h]
  unfold drpS
  cases ac with
  | true => exact ⟨rfl, rfl, rfl, rfl, rfl, rfl⟩
  | false =>
   by_cases hx : hasM q.id am = true
   ·simp only [Bool.false_eq_true, if_false, if_pos hx]; exact ⟨rfl, rfl, rfl, rfl, rfl, rfl⟩
   ·simp only [Bool.false_eq_true, if_false, if_neg hx]; refine ⟨?_, ?_, ?_, ?_, ?_, ?_⟩ <;> first | rfl | trivial
theorem acq_ok {st : MS} {t : Int} {q : OpV} (hk : q.kind = 5) (he : (doS st t q).1.err = 0) : st.closed = false ∧ statE st t q = 0 ∧ ∃ j, (st.seat t.toNat).slots.findIdx? (fun s => !s.held) = some j ∧ doS st t q = ({ slot := j, rev := st.number }, st.putSlot t.toNat j ⟨true, st.text, st.marks, 0⟩) := by
 by_cases hst : statE st t q = 0
 ·have e : doS st t q = acqS st t.toNat := by
   unfold doS
   rw [if_neg (by simpa using hst)]
   unfold opS
   rw [if_neg (by omega), if_neg (by omega), if_neg (by omega), if_neg (by omega), if_pos hk]
  rw [e] at he ⊢
  unfold acqS at he ⊢
  cases hc : st.closed with
  | true => rw [hc] at he; exact absurd he (by show ¬ ((13 : Int) = 0); decide)
  | false =>
   rw [hc] at he
   refine ⟨rfl, hst, ?_⟩
   simp only [Bool.false_eq_true, if_false] at he ⊢
   cases hf : (st.seat t.toNat).slots.findIdx? (fun s => !s.held) with
   | none => rw [hf] at he; exact absurd he (by show ¬ ((15 : Int) = 0); decide)
   | some j => exact ⟨j, rfl, rfl⟩
 ·exfalso
  unfold doS at he
  rw [if_pos hst] at he
  exact hst he
theorem st_thread {st : MS} {t : Int} {q : OpV} (h : statE st t q = 0) : 0 ≤ t ∧ t < st.seats.length ∧ opE q = 0 := by
 unfold statE at h
 split at h
 ·cases h
 ·rename_i h1; exact ⟨by omega, by omega, h⟩
def slotS (st : MS) (t : Nat) (k : Nat) : SnV := (st.seat t).slots.getD k default
theorem held_lt {st : MS} {t k : Nat} (h : (slotS st t k).held = true) : k < (st.seat t).slots.length := by
 rcases Nat.lt_or_ge k (st.seat t).slots.length with h2 | h2
 ·exact h2
 ·unfold slotS at h
  rw [List.getD_eq_getElem?_getD, List.getElem?_eq_none h2] at h
  cases h
theorem seat_put_self {st : MS} {t : Nat} {s : SeV} (h : t < st.seats.length) : (st.put t s).seat t = s := by rw [seat_putX, if_pos h]
theorem slot_putSlot {st : MS} {t k j : Nat} {x : SnV} (ht : t < st.seats.length) (hk : k < (st.seat t).slots.length) : slotS (st.putSlot t k x) t j = if j = k then x else slotS st t j := by
 unfold slotS MS.putSlot
 rw [seat_put_self ht]
 show ((st.seat t).slots.set k x).getD j default = _
 rw [List.getD_eq_getElem?_getD]
 by_cases e : j = k
 ·subst e
  rw [List.getElem?_set_self hk, if_pos rfl]; rfl
 ·rw [List.getElem?_set_ne (fun h => e h.symm), if_neg e, List.getD_eq_getElem?_getD]
theorem slot_keep {st : MS} {t : Int} {q : OpV} {rs : Nat} (hh : (slotS st t.toNat rs).held = true) (hq : q.slot ≠ (rs : Int) ∨ q.kind < 6 ∨ 13 < q.kind) : slotS (doS st t q).2 t.toNat rs = slotS st t.toNat rs := by
 have hlt := held_lt hh
 unfold doS
 split
 ·rfl
 rename_i hst
 obtain ⟨t0, t1, t2⟩ := st_thread (Decidable.not_not.1 hst)
 have htl : t.toNat < st.seats.length := by omega
 have hkind := op_kind t2
 unfold opS
 split
 ·unfold insS; split <;> rfl
 split
 ·unfold delS; split <;> rfl
 split
 ·unfold setS; split
  ·rfl
  ·split <;> rfl
 split
 ·unfold drpS; split
  ·rfl
  ·split <;> rfl
 split
 ·unfold acqS; split
  ·rfl
  ·split
   ·rfl
   ·rename_i k hk
    obtain ⟨k1, k2, _⟩ := List.findIdx?_eq_some_iff_getElem.1 hk
    show slotS (st.putSlot _ _ _) _ _ = _
    rw [slot_putSlot htl k1, if_neg]
    intro e
    subst e
    unfold slotS at hh
    rw [List.getD_eq_getElem?_getD, List.getElem?_eq_getElem k1] at hh
    simp at k2
    rw [Option.getD_some, k2] at hh
    cases hh
 split
 ·unfold subS; split
  ·rfl
  ·split
   ·rfl
   ·show slotS (st.put _ _) _ _ = _
    unfold slotS
    rw [seat_put_self htl]
 split
 ·unfold recS; split
  ·rfl
  ·split <;> rfl
 split
 ·unfold cloS; split <;> rfl
 ·rename_i n1 n2 n3 n4 n5 n6 n7 n8
  have hne : q.slot ≠ (rs : Int) := by
   rcases hq with h | h | h
   ·exact h
   ·omega
   ·omega
  unfold reaS
  split
  ·rfl
  ·rename_i hsl
   have hsl := Decidable.not_not.1 hsl
   unfold slotE at hsl
   split at hsl
   ·cases hsl
   ·rename_i hb
    rw [slot_putSlot htl (by omega), if_neg (by omega)]
theorem do_rea {st : MS} {c : Int} {q : OpV} (hs : statE st c q = 0) (hk : 6 ≤ q.kind ∧ q.kind ≤ 13) : doS st c q = reaS st c.toNat q := by
 unfold doS opS
 rw [if_neg (by simpa using hs), if_neg (by omega), if_neg (by omega), if_neg (by omega), if_neg (by omega), if_neg (by omega), if_neg (by omega), if_neg (by omega), if_neg (by omega)]
theorem slot_op {a b : MS} {t : Int} {q q0 : OpV} {rs : Nat} (hl : a.seats.length = b.seats.length) (hh : (slotS a t.toNat rs).held = true) (he : slotS b t.toNat 0 = slotS a t.toNat rs) (hk : 6 ≤ q.kind ∧ q.kind ≤ 13) (hs : q.slot = (rs : Int)) (hq0 : q0 = { q with slot := 0 }) :
  (doS b t q0).1 = (doS a t q).1 ∧ ((q.kind = 13 ∧ (doS a t q).1.err = 0) ∨ (slotS (doS b t q0).2 t.toNat 0 = slotS (doS a t q).2 t.toNat rs ∧ (slotS (doS a t q).2 t.toNat rs).held = true)) := by
 subst hq0
 have hhb : (slotS b t.toNat 0).held = true := by rw [he]; exact hh
 have la := held_lt hh
 have lb := held_lt hhb
 have eo : opE { q with slot := 0 } = opE q := by
  have ep : opP { q with slot := 0 } = opP q := by
   apply propext
   unfold opP
   simp only
   constructor
   ·rintro ⟨a1, a2, a3, a4, a5, a6, a7, a8, a9, b1, b2, b3⟩
    exact ⟨a1, a2, a3, a4, by omega, .inl hk, a7, a8, a9, b1, b2, b3⟩
   ·rintro ⟨a1, a2, a3, a4, a5, a6, a7, a8, a9, b1, b2, b3⟩
    exact ⟨a1, a2, a3, a4, by omega, .inl hk, a7, a8, a9, b1, b2, b3⟩
  unfold opE
  simp only [ep]
 have est : statE b t { q with slot := 0 } = statE a t q := by unfold statE; rw [hl, eo]
 by_cases hst : statE a t q = 0
 ·obtain ⟨t0, t1, t2⟩ := st_thread hst
  have hta : t.toNat < a.seats.length := by omega
  have htb : t.toNat < b.seats.length := by omega
  rw [do_rea hst hk, do_rea (q := { q with slot := 0 }) (est.trans hst) hk]
  have sa : slotE (a.seat t.toNat) q = 0 := by
   unfold slotE
   rw [if_neg (by omega), hs, Int.toNat_natCast]
   have : ((a.seat t.toNat).slots.getD rs default).held = true := hh
   rw [if_pos this]
  have sb : slotE (b.seat t.toNat) { q with slot := 0 } = 0 := by
   unfold slotE
   rw [if_neg (by show ¬ ((0 : Int) < 0 ∨ _ ≤ (0 : Int)); omega)]
   have : ((b.seat t.toNat).slots.getD ((0 : Int)).toNat default).held = true := hhb
   exact if_pos this
  unfold reaS
  rw [if_neg (by simpa using sb), if_neg (by simpa using sa)]
  have ea : (a.seat t.toNat).slots.getD q.slot.toNat default = slotS a t.toNat rs := by unfold slotS; rw [hs, Int.toNat_natCast]
  have eb : (b.seat t.toNat).slots.getD ({ q with slot := 0 } : OpV).slot.toNat default = slotS a t.toNat rs := he
  have esn : snpS (slotS a t.toNat rs) { q with slot := 0 } = snpS (slotS a t.toNat rs) q := rfl
  rw [ea, eb, esn]
  refine ⟨rfl, ?_⟩
  have ra : slotS (a.putSlot t.toNat q.slot.toNat (snpS (slotS a t.toNat rs) q).2) t.toNat rs = (snpS (slotS a t.toNat rs) q).2 := by
   rw [hs, Int.toNat_natCast, slot_putSlot hta la, if_pos rfl]
  have rb : slotS (b.putSlot t.toNat ({ q with slot := 0 } : OpV).slot.toNat (snpS (slotS a t.toNat rs) q).2) t.toNat 0 = (snpS (slotS a t.toNat rs) q).2 := by
   show slotS (b.putSlot t.toNat 0 _) t.toNat 0 = _
   rw [slot_putSlot htb lb, if_pos rfl]
  by_cases h13 : q.kind = 13
  ·left
   refine ⟨h13, ?_⟩
   unfold snpS
   rw [if_neg (by omega), if_neg (by omega), if_neg (by omega), if_neg (by omega), if_neg (by omega), if_neg (by omega), if_neg (by omega)]
  ·right
   refine ⟨rb.trans ra.symm, ?_⟩
   show (slotS (a.putSlot t.toNat q.slot.toNat (snpS (slotS a t.toNat rs) q).2) t.toNat rs).held = true
   rw [ra]
   unfold snpS
   split
   ·exact hh
   split
   ·split <;> exact hh
   split
   ·exact hh
   split
   ·exact hh
   split
   ·split <;> exact hh
   split
   ·split <;> exact hh
   split
   ·exact hh
   ·omega
 ·have e1 : doS a t q = (failR (statE a t q), a) := by unfold doS; rw [if_pos hst]
  have e2 : doS b t { q with slot := 0 } = (failR (statE a t q), b) := by unfold doS; rw [est, if_pos hst]
  rw [e1, e2]
  exact ⟨rfl, .inr ⟨he, hh⟩⟩
theorem snap_calls (h : RunT c L) {k rs : Nat} {t : Int} (hkn : k < L.length) (ht : 0 ≤ t) {T : MS} (hl : T.seats.length = (newS c).seats.length) (hT : slotS T t.toNat 0 = slotS (stS c L (k + 1)) t.toNat rs) (hh : (slotS (stS c L (k + 1)) t.toNat rs).held = true) :
  ∀ d m, m + d = L.length → (m ≤ k ∨ ∃ st : MS, True) → ∀ st : MS, st.seats.length = (newS c).seats.length → ((m ≤ k ∧ st = T) ∨ (k < m ∧ slotS st t.toNat 0 = slotS (stS c L m) t.toNat rs ∧ (slotS (stS c L m) t.toNat rs).held = true)) → snE L k rs st (tkIdx t (L.drop m) m) = none
 | 0, m, hm, _, st, _, _ => by
  have : L.drop m = [] := List.drop_eq_nil_of_le (by omega)
  rw [this]; rfl
 | d + 1, m, hm, hx, st, hst, hI => by
  have hml : m < L.length := by omega
  rw [tkIdx_step (getC_some hml)]
  have hth := (h.seq.th m hml).1
  rcases hI with ⟨hmk, rfl⟩ | ⟨hmk, h1, h2⟩
  ·have rest := snap_calls h hkn ht hl hT hh d (m + 1) (by omega) (.inr ⟨st, trivial⟩) st hl (by
    by_cases e : m = k
    ·subst e; exact .inr ⟨by omega, hT, hh⟩
    ·exact .inl ⟨by omega, rfl⟩)
   split
   ·show (if snSkip k rs m (getC L m) then _ else _) = none
    have hsk : snSkip k rs m (getC L m) = true := by unfold snSkip; simp [hmk]
    rw [hsk]
    exact rest
   ·exact rest
  ·have hlS := stS_len c L m
   split
   ·rename_i htm
    have htt := htm.1
    show (if snSkip k rs m (getC L m) then snE L k rs st _ else if (snAcc st (getC L m)).1 then (if snEnd (getC L m) then none else snE L k rs (snAcc st (getC L m)).2 _) else some m) = none
    cases hs : snSkip k rs m (getC L m) with
    | true =>
     have hq : (opV (getC L m)).slot ≠ (rs : Int) ∨ (opV (getC L m)).kind < 6 ∨ 13 < (opV (getC L m)).kind := by
      unfold snSkip at hs
      simp only [Bool.or_eq_true, decide_eq_true_eq] at hs
      rcases hs with ((hs | hs) | hs) | hs
      ·omega
      ·exact .inl hs
      ·exact .inr (.inl hs)
      ·exact .inr (.inr hs)
     have hk2 := slot_keep (st := stS c L m) (t := (getC L m).thread) (q := opV (getC L m)) (by rw [htt]; exact h2) hq
     rw [htt] at hk2
     have e : stS c L (m + 1) = (doS (stS c L m) t (opV (getC L m))).2 := by rw [← htt]; rfl
     rw [if_pos rfl]
     exact snap_calls h hkn ht hl hT hh d (m + 1) (by omega) (.inr ⟨st, trivial⟩) st hst (.inr ⟨by omega, by rw [h1, e, hk2], by rw [e, hk2]; exact h2⟩)
    | false =>
     rw [if_neg (by simp)]
     unfold snSkip at hs
     simp only [Bool.or_eq_false_iff, decide_eq_false_iff_not] at hs
     obtain ⟨⟨⟨s1, s2⟩, s3⟩, s4⟩ := hs
     have s2 : (getC L m).oslot = (rs : Int) := Decidable.not_not.1 s2
     obtain ⟨o1, o2⟩ := slot_op (a := stS c L m) (b := st) (t := t) (q := opV (getC L m)) (q0 := opV (slot0 (getC L m))) (rs := rs) (by rw [hlS, hst]) h2 h1 ⟨by show 6 ≤ (getC L m).okind; omega, by show (getC L m).okind ≤ 13; omega⟩ s2 rfl
     have hres := h.res m hml
     rw [htt] at hres
     have hacc : snAcc st (getC L m) = (true, (doS st t (opV (slot0 (getC L m)))).2) := by
      unfold snAcc accS
      rw [htt, o1, hres, if_pos (same_refl (h.itm m hml))]
     rw [hacc, if_pos rfl]
     rcases o2 with ⟨o3, o4⟩ | ⟨o3, o4⟩
     ·have : snEnd (getC L m) = true := by
       unfold snEnd
       have e1 : (getC L m).okind = 13 := o3
       have e2 : (getC L m).err = 0 := by
        have : (resV (getC L m)).err = 0 := by rw [hres]; exact o4
        exact this
       rw [e1, e2]; rfl
      rw [if_pos this]
     ·split
      ·rfl
      ·have e : stS c L (m + 1) = (doS (stS c L m) t (opV (getC L m))).2 := by rw [← htt]; rfl
       exact snap_calls h hkn ht hl hT hh d (m + 1) (by omega) (.inr ⟨st, trivial⟩) _ (by rw [do_len]; exact hst) (.inr ⟨by omega, by rw [e]; exact o3, by rw [e]; exact o4⟩)
   ·rename_i htm
    have htne : (getC L m).thread ≠ t := fun e => htm ⟨e, by rw [(h.seq.nv m hml).2.1]; omega⟩
    have hoth := (do_other (st := stS c L m) (c := (getC L m).thread) (q := opV (getC L m))).2 t.toNat (by omega)
    have e : slotS (stS c L (m + 1)) t.toNat rs = slotS (stS c L m) t.toNat rs := by
     unfold slotS
     show ((doS (stS c L m) (getC L m).thread (opV (getC L m))).2.seat t.toNat).slots.getD rs default = _
     rw [hoth]
    exact snap_calls h hkn ht hl hT hh d (m + 1) (by omega) (.inr ⟨st, trivial⟩) st hst (.inr ⟨by omega, by rw [h1, e], by rw [e]; exact h2⟩)
theorem RunT.step (h : RunT c L) {i : Nat} (hi : i < L.length) : (eoQ (getC L i) = true ∧ (stS c L (i + 1)).number = (stS c L i).number + 1) ∨ (eoQ (getC L i) = false ∧ (stS c L (i + 1)).number = (stS c L i).number) := by
 have ha := h.acc hi
 rcases acc_text (cs := L) (st := stS c L i) (i := i) (by rw [ha]) with ⟨a1, a2, _⟩ | ⟨a1, a2, _⟩
 ·rw [ha] at a2; exact .inl ⟨a1, a2⟩
 ·rw [ha] at a2; exact .inr ⟨a1, a2⟩
theorem RunT.num_mono (h : RunT c L) : ∀ j i, i + j ≤ L.length → (stS c L i).number ≤ (stS c L (i + j)).number
 | 0, i, _ => Int.le_refl _
 | j + 1, i, hij => by
  have := h.num_mono j i (by omega)
  rcases h.step (i := i + j) (by omega) with ⟨_, h2⟩ | ⟨_, h2⟩
  ·rw [show i + (j + 1) = i + j + 1 by omega, h2]; omega
  ·rw [show i + (j + 1) = i + j + 1 by omega, h2]; omega
theorem RunT.count (h : RunT c L) {k : Nat} (hk : k < L.length) (hne : edK (getC L k).okind = false) : ∀ m, m ≤ L.length → ((numP (3 * (k : Int) + 1) (L.take m) : Nat) : Int) = (stS c L (min m k)).number
 | 0, _ => by simp [numP]; rfl
 | m + 1, hm => by
  have ih := h.count hk hne m (by omega)
  rw [num_step (getC_some (show m < L.length by omega))]
  have htk := (h.seq.nv m (by omega)).2.1
  rcases Nat.lt_trichotomy m k with hmk | hmk | hmk
  ·have e : numQ (3 * (k : Int) + 1) (getC L m) = eoQ (getC L m) := by
    unfold numQ eoQ
    rw [htk]
    have e1 : decide (0 ≤ 3 * (m : Int) + 1) = true := decide_eq_true (by omega)
    have e2 : decide (3 * (m : Int) + 1 ≤ 3 * (k : Int) + 1) = true := decide_eq_true (by omega)
    rw [e1, e2, Bool.and_true, Bool.and_true]
   rw [e, Nat.min_eq_left (by omega)]
   rw [Nat.min_eq_left (by omega)] at ih
   rcases h.step (i := m) (by omega) with ⟨h1, h2⟩ | ⟨h1, h2⟩
   ·rw [h1, h2, ← ih]; simp
   ·rw [h1, h2, ← ih]; simp
  ·subst hmk
   have e : numQ (3 * (m : Int) + 1) (getC L m) = false := by unfold numQ; rw [hne]; rfl
   rw [e, Nat.min_eq_right (by omega)]
   rw [Nat.min_eq_right (by omega)] at ih
   simpa using ih
  ·have e : numQ (3 * (k : Int) + 1) (getC L m) = false := by
    unfold numQ
    rw [htk]
    have e2 : decide (3 * (m : Int) + 1 ≤ 3 * (k : Int) + 1) = false := decide_eq_false (by omega)
    rw [e2, Bool.and_false, Bool.false_and]
   rw [e, Nat.min_eq_right (by omega)]
   rw [Nat.min_eq_right (by omega)] at ih
   simpa using ih
structure AgS (c : CfgV) (S T : MS) : Prop where
 text : T.text = S.text
 marks : T.marks = S.marks
 number : T.number = S.number
 closed : T.closed = false
 seats : T.seats = (newS c).seats
theorem RunT.again (h : RunT c L) {k : Nat} (hk : k < L.length) (hc : (stS c L k).closed = false) : ∀ m, m ≤ L.length → AgS c (stS c L (min m k)) (snS L (stS c L k).number (newS c) (List.range m))
 | 0, _ => by rw [Nat.zero_min]; exact ⟨rfl, rfl, rfl, rfl, rfl⟩
 | m + 1, hm => by
  have ih := h.again hk hc m (by omega)
  have e : snS L (stS c L k).number (newS c) (List.range (m + 1)) = snStep L (stS c L k).number (snS L (stS c L k).number (newS c) (List.range m)) m := by
   unfold snS
   rw [List.range_succ, List.foldl_append]
   rfl
  rw [e]
  generalize snS L (stS c L k).number (newS c) (List.range m) = T at *
  rcases Nat.lt_or_ge m k with hmk | hmk
  ·rw [Nat.min_eq_left (by omega)] at ih ⊢
   have hml : m < L.length := by omega
   have hcm : (stS c L m).closed = false := by
    cases hx : (stS c L m).closed with
    | false => rfl
    | true =>
     have := stS_shut c L (k - m) m hx
     rw [show m + (k - m) = k by omega, hc] at this
     cases this
   unfold snStep snQ
   rcases h.step hml with ⟨h1, h2⟩ | ⟨h1, h2⟩
   ·have hmon := h.num_mono (k - (m + 1)) (m + 1) (by omega)
    rw [show m + 1 + (k - (m + 1)) = k by omega] at hmon
    have e1 : decide (T.number < (stS c L k).number) = true := decide_eq_true (by rw [ih.number]; omega)
    have h1' : (edK (getC L m).okind && decide ((getC L m).err = 0)) = true := h1
    rw [e1, Bool.true_and, h1', if_pos rfl]
    have hkd : edK (opV (getC L m)).kind = true := by
     simp only [Bool.and_eq_true] at h1'
     exact h1'.1
    have hlen : T.seats.length = (stS c L m).seats.length := by rw [ih.seats, stS_len]
    obtain ⟨d1, d2, d3, d4, d5, d6⟩ := do_ed (t := (getC L m).thread) hkd ih.text ih.marks ih.number (by rw [ih.closed, hcm]) hlen
    exact ⟨d2, d3, d4, by rw [d6]; exact ih.closed, by rw [d5]; exact ih.seats⟩
   ·have h1' : (edK (getC L m).okind && decide ((getC L m).err = 0)) = false := h1
    rw [Bool.and_assoc, h1', Bool.and_false, if_neg (by simp)]
    have hno : ¬ (edK (opV (getC L m)).kind = true ∧ (doS (stS c L m) (getC L m).thread (opV (getC L m))).1.err = 0) := by
     rintro ⟨q1, q2⟩
     rw [← h.res m hml] at q2
     have q1' : edK (getC L m).okind = true := q1
     have q2' : (getC L m).err = 0 := q2
     rw [q1', q2'] at h1'
     cases h1'
    obtain ⟨d1, d2, d3⟩ := do_noed hno
    exact ⟨ih.text.trans d1.symm, ih.marks.trans d2.symm, ih.number.trans d3.symm, ih.closed, ih.seats⟩
  ·rw [Nat.min_eq_right (by omega)] at ih ⊢
   unfold snStep snQ
   have e1 : decide (T.number < (stS c L k).number) = false := decide_eq_false (by rw [ih.number]; omega)
   rw [e1, Bool.false_and, Bool.false_and, if_neg (by simp)]
   exact ih
theorem put_slots {st : MS} {t : Nat} {s : SeV} (h : t < st.seats.length → s.slots.length = (st.seat t).slots.length) (d : Nat) : ((st.put t s).seat d).slots.length = (st.seat d).slots.length := by
 by_cases e : d = t
 ·subst e
  rw [seat_putX]
  split
  ·rename_i hl; exact h hl
  ·rename_i hl
   have : st.seat d = default := by unfold MS.seat; rw [List.getD_eq_getElem?_getD, List.getElem?_eq_none (by omega)]; rfl
   rw [this]
 ·have : (st.put t s).seat d = st.seat d := by
   unfold MS.put MS.seat
   rw [List.getD_eq_getElem?_getD, List.getD_eq_getElem?_getD, List.getElem?_set_ne (fun h => e h.symm)]
  rw [this]
theorem putSlot_slots (st : MS) (t k : Nat) (x : SnV) (d : Nat) : ((st.putSlot t k x).seat d).slots.length = (st.seat d).slots.length := put_slots (fun _ => by rw [List.length_set]) d
theorem do_slots (st : MS) (t : Int) (q : OpV) (d : Nat) : ((doS st t q).2.seat d).slots.length = (st.seat d).slots.length := by
 unfold doS
 split
 ·rfl
 unfold opS
 split
 ·unfold insS; split <;> rfl
 split
 ·unfold delS; split <;> rfl
 split
 ·unfold setS; split
  ·rfl
  ·split <;> rfl
 split
 ·unfold drpS; split
  ·rfl
  ·split <;> rfl
 split
 ·unfold acqS; split
  ·rfl
  ·split
   ·rfl
   ·exact putSlot_slots _ _ _ _ d
 split
 ·unfold subS; split
  ·rfl
  ·split
   ·rfl
   ·exact put_slots (t := t.toNat) (s := { st.seat t.toNat with sub := true }) (fun _ => rfl) d
 split
 ·unfold recS; split
  ·rfl
  ·split <;> rfl
 split
 ·unfold cloS; split <;> rfl
 ·unfold reaS
  split
  ·rfl
  ·exact putSlot_slots _ _ _ _ d
theorem stS_slots (c : CfgV) (L : List CallV) (d : Nat) : ∀ k, ((stS c L k).seat d).slots.length = ((newS c).seat d).slots.length
 | 0 => rfl
 | k + 1 => (do_slots _ _ _ d).trans (stS_slots c L d k)
theorem RunT.snaps (h : RunT c L) : snapsC c L = (0, 0) := by
 obtain ⟨h1, h2, h3⟩ := h.perf
 unfold snapsC
 rw [h1, if_neg (by simp), h3]
 refine snapF_none fun k hk => ?_
 unfold snapAt
 split
 ·rename_i hq
  unfold snapQ at hq
  simp only [Bool.and_eq_true, decide_eq_true_eq] at hq
  obtain ⟨⟨hkd, _⟩, herr⟩ := hq
  have hres := h.res k hk
  have herr2 : (doS (stS c L k) (getC L k).thread (opV (getC L k))).1.err = 0 := by rw [← hres]; exact herr
  obtain ⟨a1, a2, j, a3, a4⟩ := acq_ok (q := opV (getC L k)) hkd herr2
  obtain ⟨t0, t1, t2⟩ := st_thread a2
  rw [a4] at hres
  have hrev : (getC L k).rev = (stS c L k).number := congrArg ResV.rev hres
  have hrs : (getC L k).rslot = (j : Int) := congrArg ResV.slot hres
  have hne : edK (getC L k).okind = false := by rw [hkd]; rfl
  have hcnt := h.count hk hne L.length (Nat.le_refl _)
  rw [List.take_length, Nat.min_eq_right (by omega)] at hcnt
  have hag := h.again hk a1 L.length (Nat.le_refl _)
  rw [Nat.min_eq_right (by omega)] at hag
  unfold snapV
  rw [if_neg (by rw [(h.seq.nv k hk).2.1, hcnt, hrev]; simp), hrev, hrs]
  generalize snS L (stS c L k).number (newS c) (List.range L.length) = T at *
  have hTl : T.seats.length = (stS c L k).seats.length := by rw [hag.seats, stS_len]
  have hTs : T.seat (getC L k).thread.toNat = ⟨false, List.replicate c.readers.toNat zeroSn⟩ := by
   unfold MS.seat
   rw [hag.seats]
   have hlt : (getC L k).thread.toNat < c.clients.toNat := by
    have : (newS c).seats.length = c.clients.toNat := List.length_replicate ..
    rw [stS_len, this] at t1
    omega
   show (List.replicate c.clients.toNat _).getD _ _ = _
   rw [List.getD_eq_getElem?_getD, List.getElem?_replicate, if_pos hlt]
   rfl
  obtain ⟨j1, _, _⟩ := List.findIdx?_eq_some_iff_getElem.1 a3
  have hrd : j < c.readers.toNat := by
   have h1 := stS_slots c L (getC L k).thread.toNat k
   have h2 : ((newS c).seat (getC L k).thread.toNat).slots.length = (T.seat (getC L k).thread.toNat).slots.length := by unfold MS.seat; rw [hag.seats]
   rw [h2, hTs, List.length_replicate] at h1
   omega
  obtain ⟨r, hr⟩ : ∃ r, c.readers.toNat = r + 1 := ⟨c.readers.toNat - 1, by omega⟩
  have hdo : doS T (getC L k).thread (opV (getC L k)) = ({ slot := ((0 : Nat) : Int), rev := T.number }, T.putSlot (getC L k).thread.toNat 0 ⟨true, T.text, T.marks, 0⟩) := by
   have hst : statE T (getC L k).thread (opV (getC L k)) = 0 := by
    rw [← a2]; unfold statE; rw [hTl]
   unfold doS
   rw [if_neg (by simpa using hst)]
   unfold opS
   have hkd2 : (opV (getC L k)).kind = 5 := hkd
   rw [if_neg (by omega), if_neg (by omega), if_neg (by omega), if_neg (by omega), if_pos hkd2]
   unfold acqS
   rw [hag.closed, hTs, hr]
   rfl
  rw [hdo]
  have hTt : (getC L k).thread.toNat < T.seats.length := by omega
  have hT0 : 0 < (T.seat (getC L k).thread.toNat).slots.length := by rw [hTs, hr]; simp
  have eS : stS c L (k + 1) = (stS c L k).putSlot (getC L k).thread.toNat j ⟨true, (stS c L k).text, (stS c L k).marks, 0⟩ := by
   show (doS (stS c L k) (getC L k).thread (opV (getC L k))).2 = _
   rw [a4]
  have s1 : slotS (stS c L (k + 1)) (getC L k).thread.toNat j = ⟨true, (stS c L k).text, (stS c L k).marks, 0⟩ := by
   rw [eS, slot_putSlot (by omega) j1, if_pos rfl]
  have s2 : slotS (T.putSlot (getC L k).thread.toNat 0 ⟨true, T.text, T.marks, 0⟩) (getC L k).thread.toNat 0 = ⟨true, T.text, T.marks, 0⟩ := by
   rw [slot_putSlot hTt hT0, if_pos rfl]
  have hln : (T.putSlot (getC L k).thread.toNat 0 ⟨true, T.text, T.marks, 0⟩).seats.length = (newS c).seats.length := by
   show (T.seats.set _ _).length = _
   rw [List.length_set, hag.seats]
  have hfin := snap_calls h (k := k) (rs := j) (t := (getC L k).thread) hk t0 hln (by rw [s1, s2, hag.text, hag.marks]) (by rw [s1]) L.length 0 (by omega) (.inl (Nat.zero_le _)) _ hln (.inl ⟨Nat.zero_le _, rfl⟩)
  rw [List.drop_zero] at hfin
  rw [hfin]
  decide
 ·decide
end
end Go.Proofs.YtdeiocppghhfdaaGreat.Lin
namespace Go.Proofs.YtdeiocppghhfdaaGreat.Lin
open Hs
def mkS (c : CfgV) (L : List CallV) (t : Int) (q : OpV) : CallV where
  thread := t
  index := (thF t L).length
  okind := q.kind
  oslot := q.slot
  oat := q.at_
  on := q.n
  oid := q.id
  ograv := q.grav
  otext := q.text
  invoked := 3 * (L.length : Int)
  took := 3 * (L.length : Int) + 1
  rank := 0
  answered := 3 * (L.length : Int) + 2
  steps := 2
  err := (doS (stS c L L.length) t q).1.err
  rev := (doS (stS c L L.length) t q).1.rev
  rslot := (doS (stS c L L.length) t q).1.slot
  rat := (doS (stS c L L.length) t q).1.at_
  rgrav := (doS (stS c L L.length) t q).1.grav
  rtext := (doS (stS c L L.length) t q).1.text
  mb := (doS (stS c L L.length) t q).1.m1
  mr := (doS (stS c L L.length) t q).1.m2
  ml := (doS (stS c L L.length) t q).1.m3
  ik := 0
  ifrom := 0
  ito := 0
  ps := []
  da := none
  dc := 0
section
variable {c : CfgV} {L : List CallV}
theorem getC_left {x : CallV} {i : Nat} (h : i < L.length) : getC (L ++ [x]) i = getC L i := by
  unfold getC
  rw [List.getD_eq_getElem?_getD, List.getD_eq_getElem?_getD, List.getElem?_append_left h]
theorem getC_end (L : List CallV) (x : CallV) : getC (L ++ [x]) L.length = x := by
  unfold getC
  rw [List.getD_eq_getElem?_getD, List.getElem?_append_right (Nat.le_refl _), Nat.sub_self]
  rfl
theorem stS_left (c : CfgV) (L : List CallV) (x : CallV) : ∀ i, i ≤ L.length → stS c (L ++ [x]) i = stS c L i
  | 0, _ => rfl
  | i + 1, h => by
    show (doS (stS c (L ++ [x]) i) _ _).2 = (doS (stS c L i) _ _).2
    rw [stS_left c L x i (by omega), getC_left (by omega)]
theorem stS_end (c : CfgV) (L : List CallV) (x : CallV) : stS c (L ++ [x]) (L.length + 1) = (doS (stS c L L.length) x.thread (opV x)).2 := by
  show (doS (stS c (L ++ [x]) L.length) _ _).2 = _
  rw [stS_left c L x _ (Nat.le_refl _), getC_end]
theorem RunT.nil (h : cfgE c = 0) : RunT c [] := ⟨⟨fun i hi => by simp at hi, fun i hi => by simp at hi, fun i hi => by simp at hi⟩, h, fun i hi => by simp at hi, fun i hi => by simp at hi⟩
theorem RunT.snoc (h : RunT c L) {t : Int} (q : OpV) (h0 : 0 ≤ t) (h1 : t < 16) : RunT c (L ++ [mkS c L t q]) := by
  have hl : (L ++ [mkS c L t q]).length = L.length + 1 := by simp
  have tk : ∀ i, i ≤ L.length → (L ++ [mkS c L t q]).take i = L.take i := fun i hi => by rw [List.take_append_of_le_length hi]
  refine ⟨⟨fun i hi => ?_, fun i hi => ?_, fun i hi => ?_⟩, h.cfg, fun i hi => ?_, fun i hi => ?_⟩
  all_goals
    rw [hl] at hi
    rcases Nat.lt_or_ge i L.length with hlt | hge
  · rw [getC_left hlt]; exact h.seq.th i hlt
  · have : i = L.length := by omega
    subst this
    rw [getC_end]; exact ⟨h0, h1⟩
  · rw [getC_left hlt, tk i (by omega)]; exact h.seq.ix i hlt
  · have : i = L.length := by omega
    subst this
    rw [getC_end, tk _ (Nat.le_refl _), List.take_length]; rfl
  · rw [getC_left hlt]; exact h.seq.nv i hlt
  · have : i = L.length := by omega
    subst this
    rw [getC_end]; exact ⟨rfl, rfl, rfl, rfl, rfl⟩
  · rw [getC_left hlt, stS_left c L _ i (by omega)]; exact h.res i hlt
  · have : i = L.length := by omega
    subst this
    rw [getC_end, stS_left c L _ _ (Nat.le_refl _)]; rfl
  · rw [getC_left hlt]; exact h.itm i hlt
  · have : i = L.length := by omega
    subst this
    rw [getC_end]; exact ⟨rfl, rfl, rfl, rfl⟩
theorem mkS_ok {t : Int} {q : OpV} (hq : OpIn q) (hl : L.length ≤ 1000) : (mkS c L t q).Ok :=
  ⟨by show -9223372036854775808 ≤ 3 * (L.length : Int); omega, by show 3 * (L.length : Int) ≤ 9223372036854775807; omega, by show -9223372036854775808 ≤ 3 * (L.length : Int) + 2; omega, by show 3 * (L.length : Int) + 2 ≤ 9223372036854775807; omega,
   by show -9223372036854775808 ≤ (2 : Int); decide, by show (2 : Int) ≤ 9223372036854775807; decide, by show -9223372036854775808 ≤ 3 * (L.length : Int) + 1; omega, by show 3 * (L.length : Int) + 1 ≤ 9223372036854775807; omega,
   by show -9223372036854775808 ≤ (0 : Int); decide, by show (0 : Int) ≤ 9223372036854775807; decide, ⟨hq.k0, hq.k1⟩, ⟨hq.id0, hq.id1⟩, hq.g0, hq.slot, hq.at_, hq.n⟩
end
def cntS (n : Nat) (L : List CallV) : List Value := (List.range n).map fun (t : Nat) => Value.int .i64 (((thF (t : Int) L).length : Nat) : Int)
theorem cntS_zero (n : Nat) : cntS n [] = List.replicate n (.int .i64 0) := by
  apply List.ext_getElem?
  intro j
  unfold cntS thF
  by_cases h : j < n
  · simp [h]
  · rw [List.getElem?_eq_none (by simp; omega), List.getElem?_eq_none (by simp; omega)]
theorem cntS_at {n t : Nat} {L : List CallV} (h : t < n) : (cntS n L)[t]? = some (.int .i64 (((thF (t : Int) L).length : Nat) : Int)) := by unfold cntS; simp [h]
theorem thF_snoc (t : Int) (L : List CallV) (x : CallV) : thF t (L ++ [x]) = thF t L ++ if x.thread = t then [x] else [] := by
  unfold thF
  rw [List.filter_append]
  congr 1
  by_cases h : x.thread = t
  · simp [h]
  · simp [h]
theorem cntS_set {n t : Nat} {L : List CallV} {x : CallV} (ht : x.thread = (t : Int)) : (cntS n L).set t (.int .i64 ((((thF (t : Int) L).length : Nat) : Int) + 1)) = cntS n (L ++ [x]) := by
  apply List.ext_getElem?
  intro j
  by_cases hj : j < n
  · rw [cntS_at hj, thF_snoc, List.length_append]
    by_cases e : t = j
    · subst e
      rw [List.getElem?_set_self (by unfold cntS; simpa using hj), if_pos ht]
      simp
    · rw [List.getElem?_set_ne e, cntS_at hj, if_neg (by rw [ht]; omega)]
      simp
  · rw [List.getElem?_eq_none (by unfold cntS; simp; omega), List.getElem?_eq_none (by unfold cntS; simp; omega)]
end Go.Proofs.YtdeiocppghhfdaaGreat.Lin
namespace Go.Proofs.YtdeiocppghhfdaaGreat.Lin
open Go.RowKit Go.Lib Go.Shelf
open Hs
open KitI (take_ext ret_bool cell_size)
attribute [local go_sem, local simp] Hs.callL_0 Hs.callL_1 Hs.callL_2 Hs.callL_3 Hs.callL_4 Hs.callL_5 Hs.callL_6 Hs.callL_7 Hs.callL_8 Hs.callL_9 Hs.callL_10 Hs.callL_11 Hs.callL_12 Hs.callL_13 Hs.callL_14 Hs.callL_15 Hs.callL_16 Hs.callL_17 Hs.callL_18 Hs.callL_19 Hs.callL_20 Hs.callL_21 Hs.callL_22 Hs.callL_23 Hs.callL_24 Hs.callL_25 Hs.callL_26 Hs.resL_0 Hs.resL_1 Hs.resL_2 Hs.resL_3 Hs.resL_4 Hs.resL_5 Hs.resL_6 Hs.resL_7 Hs.resL_8 Hs.resL_9 Hs.resL_10 Hs.resL_11 Hs.resL_12 Hs.callG_0 Hs.callG_1 Hs.callG_2 Hs.callG_3 Hs.callG_4 Hs.callG_5 Hs.callG_6 Hs.callG_7 Hs.callG_8 Hs.callG_9 Hs.callG_10 Hs.callG_11 Hs.callG_12 Hs.callG_13 Hs.callG_14 Hs.callG_15 Hs.callG_16 Hs.callG_17 Hs.callG_18 Hs.callG_19 Hs.callG_20 Hs.callG_21 Hs.callG_22 Hs.callG_23 Hs.callG_24 Hs.callG_25 Hs.callG_26 Hs.resG_0 Hs.resG_1 Hs.resG_2 Hs.resG_3 Hs.resG_4 Hs.resG_5 Hs.resG_6 Hs.resG_7 Hs.resG_8 Hs.resG_9 Hs.resG_10 Hs.resG_11 Hs.resG_12 Hs.callL_len Hs.resL_len
attribute [local go_sem ↓] Hs.loadCall_eq Hs.loadRes_eq
attribute [local go_sem] Hs.ld_new Hs.ld_first Hs.ld_second Hs.ldr_new Hs.st_new
theorem SRow.nil (w : World) : SRow w (.slice none 0 0) [] := .inl ⟨rfl, rfl⟩
end Go.Proofs.YtdeiocppghhfdaaGreat.Lin
namespace Go.Proofs.YtdeiocppghhfdaaGreat.Lin
open Go.RowKit Go.Lib Go.Shelf
open Hs
open KitI (iv IRow own_below)
theorem small35_l (c : CfgV) (w : World) : Calls Tryz.prog 34 #[.agg (cfgL c).toArray] w fun e w' => e = .returned (.agg (cfgL (smallC 200 c)).toArray) ∧ Below w.heap.size w w' := small35_any c w
section
variable {w W : World} {c : CfgV} {p : Option Addr} {cap : Nat} {cs : List CallV}
end
end Go.Proofs.YtdeiocppghhfdaaGreat.Lin
namespace Go.Proofs.YtdeiocppghhfdaaGreat.Lin
open Go.RowKit Go.WideShapes Go.ChangeShapes Go.Deep
open Hs
def oqL (q : OpV) : List Value := [.int .u8 q.kind, .int .i64 q.slot, .int .i64 q.at_, .int .i64 q.n, .int .u32 q.id, .int .u8 q.grav, .string q.text]
theorem oqL_len (a : OpV) : (oqL a).length = 7 := rfl
def opsL (l : List OpV) : List Value := l.flatMap oqL
theorem opsL_len (l : List OpV) : (opsL l).length = l.length * 7 := by
 induction l with
 | nil => rfl
 | cons a l ih => unfold opsL at *; rw [List.flatMap_cons, List.length_append, ih, List.length_cons]; rw [oqL_len]; omega
def ArgOps (w : World) (p : Option Addr) (l : List OpV) : Prop := l = [] ∨ ∃ b off, p = some ⟨b, off, none⟩ ∧ b < w.heap.size ∧ (∀ j u, (opsL l)[j]? = some u → w.cell? ⟨b, off + j, none⟩ = some u) ∧ l.length < 9223372036854775808 ∧ ∀ a ∈ l, OpIn a
theorem ArgOps.on {w w' : World} {p : Option Addr} {l : List OpV} (h : ArgOps w p l) (hb : Below w.heap.size w w') : ArgOps w' p l := by
 rcases h with h | ⟨b, off, h1, h2, h3, h4, h5⟩
 ·exact .inl h
 ·exact .inr ⟨b, off, h1, Nat.lt_of_lt_of_le h2 hb.size, fun j u hj => (hb.cell (p := ⟨b, off + j, none⟩) h2).trans (h3 j u hj), h4, h5⟩
structure OtV where
 wp : Option Addr
 who : List Int
 wc : Nat
 which : Int
 r : ResV
 i : ItV
def otL (a : OtV) : List Value := [.slice a.wp a.who.length a.wc, .int .i64 a.which, .int .i64 a.r.err, .int .i64 a.r.rev, .int .i64 a.r.slot, .int .i64 a.r.at_, .int .u8 a.r.grav, .string a.r.text, .int .i64 a.r.m1, .int .i64 a.r.m2, .int .i64 a.r.m3, .int .u8 a.i.k, .int .i64 a.i.f, .int .i64 a.i.t, .slice a.i.da a.i.dn a.i.dc]
theorem otL_len (a : OtV) : (otL a).length = 15 := rfl
section
variable {H : Type} {enc : TypeId × Value → H} {w : World} {base : Nat} {spare : Nat → Bool} {held : Bool}
theorem own_finO {P : Program} {t e : TypeId} {fuel k m : Nat} {cs : List Value} {x : DataW H × List MemPlace} (ht : P.underlying t = some (.slice e)) (h : DataW.trod enc P w base spare held fuel t ((cs.drop k).take m) = some x) : ∃ a n c, cs[k]? = some (.slice a n c) ∧ n ≤ maxLen := by
 rcases open_slice ht h with ⟨h1, _⟩ | ⟨a, len, cap, q, n, D, Pl, h1, hb, hlc, hcap, _⟩
 ·exact ⟨_, _, _, cell_of h1, Nat.zero_le _⟩
 ·exact ⟨_, _, _, cell_of h1, by omega⟩
theorem ints_fin {fuel k m : Nat} {cs : List Value} {x : DataW H × List MemPlace} (hf : DataW.trod enc Tryz.prog w base spare held fuel 28 ((cs.drop k).take m) = some x) : ∃ (p : Option Addr) (l : List Int) (cap : Nat), cs[k]? = some (.slice p l.length cap) ∧ l.length ≤ cap ∧ ArgI w p l := by
 rcases open_slice Tryz.underlying28 hf with ⟨h1, _⟩ | ⟨a, len, cap, q, n, D, Pl, h1, hb, hlc, hcap, hq, _, hel⟩
 ·exact ⟨none, [], 0, cell_of h1, Nat.le_refl _, .inl rfl⟩
 ·have hc1 : Tryz.prog.cellsOf 3 = 1 := by kernel_rfl
  rw [hc1] at hel
  have hlq : len ≤ q := by rw [hq]; split <;> omega
  obtain ⟨l, hl, hQ, hcell⟩ := rows_of (w := w) (base := base) (fun z : Int => [Value.int .i64 z]) 1 (fun _ => rfl) a (fun z => -9223372036854775808 ≤ z ∧ z ≤ 9223372036854775807) len (fun i hi => by
   obtain ⟨cs', h1, h2⟩ := hel i (by omega)
   obtain ⟨z, rfl, _, hz⟩ := DataW.trod_int Tryz.underlying3 h2
   exact ⟨z, h1, wf64 hz⟩)
  have hfl : ∀ (l : List Int) (j : Nat) (u : Int), l[j]? = some u → (l.flatMap fun z : Int => [Value.int .i64 z])[j]? = some (.int .i64 u) := by
   intro l j u h
   have e : (l.flatMap fun z : Int => [Value.int .i64 z]) = l.map (Value.int .i64) := (List.map_eq_flatMap ..).symm
   rw [e, List.getElem?_map, h]
   rfl
  refine ⟨_, l, _, by rw [hl]; exact cell_of h1, by omega, ?_⟩
  by_cases h0 : l = []
  ·exact .inl h0
  ·right
   obtain ⟨b, off, spot⟩ := a
   have hpos : 0 < l.length := by
    rcases l with _ | ⟨p, l⟩
    ·exact absurd rfl h0
    ·simp
   have g0 := hcell 0 _ (hfl l 0 _ (List.getElem?_eq_getElem hpos))
   have hspot : spot = none := by simpa [Addr.add] using World.cell?_spot g0
   subst hspot
   have hblk : b < w.heap.size := by
    have := cell_size g0
    simpa [Addr.add] using this
   have hml : maxLen < 9223372036854775808 := by unfold maxLen; omega
   exact ⟨b, off, rfl, hblk, fun j u hj => by have := hcell j _ (hfl l j u hj); rwa [add_plain] at this, by omega, hQ⟩
theorem op_open {fuel : Nat} {cs : List Value} {x : DataW H × List MemPlace} (h : DataW.trod enc Tryz.prog w base spare held fuel 54 cs = some x) : ∃ a : OpV, cs = oqL a ∧ OpIn a := by
 have hlen : cs.length = 7 := by
  obtain ⟨_, _, _, _, hl, _⟩ := DataW.trod_struct Tryz.underlying54 h
  rw [hl]
  kernel_rfl
 obtain ⟨_, _, h_0⟩ := field_of Tryz.underlying54 h 0 _ rfl
 obtain ⟨z0, x0, w0⟩ := int_cell Tryz.underlying5 h_0
 obtain ⟨_, _, h_1⟩ := field_of Tryz.underlying54 h 1 _ rfl
 obtain ⟨z1, x1, w1⟩ := int_cell Tryz.underlying3 h_1
 obtain ⟨_, _, h_2⟩ := field_of Tryz.underlying54 h 2 _ rfl
 obtain ⟨z2, x2, w2⟩ := int_cell Tryz.underlying3 h_2
 obtain ⟨_, _, h_3⟩ := field_of Tryz.underlying54 h 3 _ rfl
 obtain ⟨z3, x3, w3⟩ := int_cell Tryz.underlying3 h_3
 obtain ⟨_, _, h_4⟩ := field_of Tryz.underlying54 h 4 _ rfl
 obtain ⟨z4, x4, w4⟩ := int_cell Tryz.underlying52 h_4
 obtain ⟨_, _, h_5⟩ := field_of Tryz.underlying54 h 5 _ rfl
 obtain ⟨z5, x5, w5⟩ := int_cell Tryz.underlying5 h_5
 obtain ⟨_, _, h_6⟩ := field_of Tryz.underlying54 h 6 _ rfl
 obtain ⟨z6, x6⟩ := str_cell Tryz.underlying9 h_6
 refine ⟨⟨z0, z1, z2, z3, z4, z5, z6⟩, ?_, ⟨(wf8 w0).1, (wf8 w0).2, (wf32 w4).1, (wf32 w4).2, (wf8 w5).1, wf64 w1, wf64 w2, wf64 w3⟩⟩
 apply List.ext_getElem?
 intro j
 match j with
 | 0 => exact x0
 | 1 => exact x1
 | 2 => exact x2
 | 3 => exact x3
 | 4 => exact x4
 | 5 => exact x5
 | 6 => exact x6
 | n + 7 => rw [List.getElem?_eq_none (by omega), List.getElem?_eq_none (by rw [oqL_len]; omega)]
theorem oth_open {fuel : Nat} {cs : List Value} {x : DataW H × List MemPlace} (h : DataW.trod enc Tryz.prog w base spare held fuel 78 cs = some x) : ∃ a : OtV, cs = otL a ∧ ArgI w a.wp a.who ∧ a.who.length ≤ a.wc ∧ a.i.dn ≤ maxLen ∧ -9223372036854775808 ≤ a.which ∧ a.which ≤ 9223372036854775807 := by
 have hlen : cs.length = 15 := by
  obtain ⟨_, _, _, _, hl, _⟩ := DataW.trod_struct Tryz.underlying78 h
  rw [hl]
  kernel_rfl
 obtain ⟨_, _, h_0⟩ := field_of Tryz.underlying78 h 0 _ rfl
 obtain ⟨wp, wl, wc, x0, hwl, hwi⟩ := ints_fin h_0
 obtain ⟨_, _, h_1⟩ := field_of Tryz.underlying78 h 1 _ rfl
 obtain ⟨z1, x1, w1⟩ := int_cell Tryz.underlying3 h_1
 obtain ⟨_, _, h_2⟩ := field_of Tryz.underlying78 h 2 _ rfl
 obtain ⟨_, _, h_2_0⟩ := field_of Tryz.underlying51 h_2 0 _ rfl
 obtain ⟨z2, x2, w2⟩ := int_cell Tryz.underlying29 h_2_0
 replace x2 := part_cell x2
 obtain ⟨_, _, h_2_1⟩ := field_of Tryz.underlying51 h_2 1 _ rfl
 obtain ⟨z3, x3, w3⟩ := int_cell Tryz.underlying3 h_2_1
 replace x3 := part_cell x3
 obtain ⟨_, _, h_2_2⟩ := field_of Tryz.underlying51 h_2 2 _ rfl
 obtain ⟨z4, x4, w4⟩ := int_cell Tryz.underlying3 h_2_2
 replace x4 := part_cell x4
 obtain ⟨_, _, h_2_3⟩ := field_of Tryz.underlying51 h_2 3 _ rfl
 obtain ⟨z5, x5, w5⟩ := int_cell Tryz.underlying3 h_2_3
 replace x5 := part_cell x5
 obtain ⟨_, _, h_2_4⟩ := field_of Tryz.underlying51 h_2 4 _ rfl
 obtain ⟨z6, x6, w6⟩ := int_cell Tryz.underlying5 h_2_4
 replace x6 := part_cell x6
 obtain ⟨_, _, h_2_5⟩ := field_of Tryz.underlying51 h_2 5 _ rfl
 obtain ⟨z7, x7⟩ := str_cell Tryz.underlying9 h_2_5
 replace x7 := part_cell x7
 obtain ⟨_, _, h_2_6⟩ := field_of Tryz.underlying51 h_2 6 _ rfl
 obtain ⟨_, _, h_2_6_0⟩ := field_of Tryz.underlying46 h_2_6 0 _ rfl
 obtain ⟨z8, x8, w8⟩ := int_cell Tryz.underlying3 h_2_6_0
 replace x8 := part_cell x8
 replace x8 := part_cell x8
 obtain ⟨_, _, h_2_6_1⟩ := field_of Tryz.underlying46 h_2_6 1 _ rfl
 obtain ⟨z9, x9, w9⟩ := int_cell Tryz.underlying3 h_2_6_1
 replace x9 := part_cell x9
 replace x9 := part_cell x9
 obtain ⟨_, _, h_2_6_2⟩ := field_of Tryz.underlying46 h_2_6 2 _ rfl
 obtain ⟨z10, x10, w10⟩ := int_cell Tryz.underlying3 h_2_6_2
 replace x10 := part_cell x10
 replace x10 := part_cell x10
 obtain ⟨_, _, h_2_7⟩ := field_of Tryz.underlying51 h_2 7 _ rfl
 obtain ⟨_, _, h_2_7_0⟩ := field_of Tryz.underlying49 h_2_7 0 _ rfl
 obtain ⟨z11, x11, w11⟩ := int_cell Tryz.underlying5 h_2_7_0
 replace x11 := part_cell x11
 replace x11 := part_cell x11
 obtain ⟨_, _, h_2_7_1⟩ := field_of Tryz.underlying49 h_2_7 1 _ rfl
 obtain ⟨z12, x12, w12⟩ := int_cell Tryz.underlying3 h_2_7_1
 replace x12 := part_cell x12
 replace x12 := part_cell x12
 obtain ⟨_, _, h_2_7_2⟩ := field_of Tryz.underlying49 h_2_7 2 _ rfl
 obtain ⟨z13, x13, w13⟩ := int_cell Tryz.underlying3 h_2_7_2
 replace x13 := part_cell x13
 replace x13 := part_cell x13
 obtain ⟨_, _, h_2_7_3⟩ := field_of Tryz.underlying49 h_2_7 3 _ rfl
 obtain ⟨da, dn, dc, x14, hdn⟩ := own_finO Tryz.underlying47 h_2_7_3
 replace x14 := part_cell x14
 replace x14 := part_cell x14
 refine ⟨⟨wp, wl, wc, z1, ⟨z2, z3, z4, z5, z6, z7, z8, z9, z10⟩, ⟨z11, z12, z13, da, dn, dc⟩⟩, ?_, hwi, hwl, hdn, (wf64 w1).1, (wf64 w1).2⟩
 apply List.ext_getElem?
 intro j
 match j with
 | 0 => exact x0
 | 1 => exact x1
 | 2 => exact x2
 | 3 => exact x3
 | 4 => exact x4
 | 5 => exact x5
 | 6 => exact x6
 | 7 => exact x7
 | 8 => exact x8
 | 9 => exact x9
 | 10 => exact x10
 | 11 => exact x11
 | 12 => exact x12
 | 13 => exact x13
 | 14 => exact x14
 | n + 15 => rw [List.getElem?_eq_none (by omega), List.getElem?_eq_none (by rw [otL_len]; omega)]
theorem open_ops {b0 : Nat} {v : Value} {d : DataW H} {ps : List MemPlace} (hval : Value.okWide Tryz.prog w .any b0 76 v) (hd : DataW.Trod enc Tryz.prog w base spare held 76 v d ps) : ∃ (p : Option Addr) (cap : Nat) (cs : List OpV), v = .slice p cs.length cap ∧ ArgOps w p cs := by
 obtain ⟨fuel, hf⟩ := hd
 obtain ⟨a0, n0, c0, rfl⟩ := okWide_slice Tryz.underlying76 hval
 rcases open_slice Tryz.underlying76 hf with ⟨h1, _⟩ | ⟨a, len, cap, q, n, D, Pl, h1, hb, hlc, hcap, hq, _, hel⟩
 ·simp [Value.cells] at h1
  obtain ⟨rfl, rfl, rfl⟩ := h1
  exact ⟨none, 0, [], rfl, .inl rfl⟩
 ·simp [Value.cells] at h1
  obtain ⟨rfl, rfl, rfl⟩ := h1
  have hck : Tryz.prog.cellsOf 54 = 7 := by kernel_rfl
  rw [hck] at hel
  have hlq : n0 ≤ q := by rw [hq]; split <;> omega
  obtain ⟨cs, hl, hQ, hcell⟩ := rows_of (w := w) (base := base) oqL 7 oqL_len a (fun a => OpIn a) n0 (fun i hi => by
   obtain ⟨cs', h1, h2⟩ := hel i (by omega)
   obtain ⟨c, rfl, hc⟩ := op_open h2
   exact ⟨c, h1, hc⟩)
  refine ⟨_, _, cs, by rw [hl], ?_⟩
  by_cases h0 : cs = []
  ·exact .inl h0
  ·right
   obtain ⟨b, off, spot⟩ := a
   have hpos : 0 < cs.length := by
    rcases cs with _ | ⟨p, cs⟩
    ·exact absurd rfl h0
    ·simp
   obtain ⟨u, hu⟩ : ∃ u, (opsL cs)[0]? = some u := ⟨_, List.getElem?_eq_getElem (by rw [opsL_len]; omega)⟩
   have g0 := hcell 0 u hu
   have hspot : spot = none := by simpa [Addr.add] using World.cell?_spot g0
   subst hspot
   have hblk : b < w.heap.size := by
    have := cell_size g0
    simpa [Addr.add] using this
   have hml : maxLen < 9223372036854775808 := by unfold maxLen; omega
   exact ⟨b, off, rfl, hblk, fun j u hj => by have := hcell j u hj; rwa [add_plain] at this, by omega, hQ⟩
theorem open_other {b0 : Nat} {v : Value} {d : DataW H} {ps : List MemPlace} (hval : Value.okWide Tryz.prog w .any b0 78 v) (hd : DataW.Trod enc Tryz.prog w base spare held 78 v d ps) : ∃ a : OtV, v = .agg (otL a).toArray ∧ ArgI w a.wp a.who ∧ a.who.length ≤ a.wc ∧ a.i.dn ≤ maxLen ∧ -9223372036854775808 ≤ a.which ∧ a.which ≤ 9223372036854775807 := by
 obtain ⟨cs, rfl, _⟩ := okWide_struct Tryz.underlying78 hval
 obtain ⟨fuel, hf⟩ := hd
 obtain ⟨c, hc, ho⟩ := oth_open hf
 have hc2 : cs.toList = otL c := hc
 exact ⟨c, by rw [← hc2], ho⟩
end
end Go.Proofs.YtdeiocppghhfdaaGreat.Lin
namespace Go.Proofs.YtdeiocppghhfdaaGreat.Lin
open Go.RowKit Go.Lib Go.Shelf
open Hs
open KitI (iv IRow own_below)
attribute [local go_sem, local simp] Hs.callL_0 Hs.callL_1 Hs.callL_2 Hs.callL_3 Hs.callL_4 Hs.callL_5 Hs.callL_6 Hs.callL_7 Hs.callL_8 Hs.callL_9 Hs.callL_10 Hs.callL_11 Hs.callL_12 Hs.callL_13 Hs.callL_14 Hs.callL_15 Hs.callL_16 Hs.callL_17 Hs.callL_18 Hs.callL_19 Hs.callL_20 Hs.callL_21 Hs.callL_22 Hs.callL_23 Hs.callL_24 Hs.callL_25 Hs.callL_26 Hs.resL_0 Hs.resL_1 Hs.resL_2 Hs.resL_3 Hs.resL_4 Hs.resL_5 Hs.resL_6 Hs.resL_7 Hs.resL_8 Hs.resL_9 Hs.resL_10 Hs.resL_11 Hs.resL_12 Hs.callG_0 Hs.callG_1 Hs.callG_2 Hs.callG_3 Hs.callG_4 Hs.callG_5 Hs.callG_6 Hs.callG_7 Hs.callG_8 Hs.callG_9 Hs.callG_10 Hs.callG_11 Hs.callG_12 Hs.callG_13 Hs.callG_14 Hs.callG_15 Hs.callG_16 Hs.callG_17 Hs.callG_18 Hs.callG_19 Hs.callG_20 Hs.callG_21 Hs.callG_22 Hs.callG_23 Hs.callG_24 Hs.callG_25 Hs.callG_26 Hs.resG_0 Hs.resG_1 Hs.resG_2 Hs.resG_3 Hs.resG_4 Hs.resG_5 Hs.resG_6 Hs.resG_7 Hs.resG_8 Hs.resG_9 Hs.resG_10 Hs.resG_11 Hs.resG_12 Hs.callL_len Hs.resL_len
attribute [local go_sem ↓] Hs.loadCall_eq Hs.loadRes_eq
attribute [local go_sem] Hs.ld_new Hs.ld_first Hs.ld_second Hs.ldr_new Hs.st_new
theorem callsL_set : ∀ (cs : List CallV) (i : Nat) (c : CallV) (tl : List Value) (x : Int), cs[i]? = some c → (callsL cs ++ tl).set (i * 27) (.int .i64 x) = callsL (cs.set i { c with thread := x }) ++ tl
 | [], i, c, tl, x, h => by simp at h
 | d :: cs, 0, c, tl, x, h => by
  simp at h
  subst h
  rw [callsL_cons, List.set_cons_zero, callsL_cons]
  rfl
 | d :: cs, i + 1, c, tl, x, h => by
  rw [callsL_cons, List.set_cons_succ, callsL_cons, List.append_assoc, List.append_assoc, List.set_append, if_neg (by rw [callL_len]; omega), callL_len, show (i + 1) * 27 - 27 = i * 27 by omega, callsL_set cs i c tl x (by simpa using h)]
structure KW (w1 W : World) (g cap : Nat) (cs : List CallV) : Prop where
 blk : ∃ tl : List Value, W.heap[g]? = some (.cells (callsL cs ++ tl).toArray 56 (0, 0))
 bl : Below w1.heap.size w1 W
 ge : w1.heap.size ≤ g
 cap : cs.length ≤ cap
section
variable {w1 W W' : World} {g cap : Nat} {cs : List CallV}
theorem KW.on (h : KW w1 W g cap cs) (hb : Below W.heap.size W W') : KW w1 W' g cap cs := by
 obtain ⟨tl, ht⟩ := h.blk
 exact ⟨⟨tl, blk_below ht hb (Array.getElem?_eq_some_iff.1 ht).1⟩, h.bl.trans (hb.mono h.bl.size), h.ge, h.cap⟩
theorem KW.crow (h : KW w1 W g cap cs) : CRow W (some ⟨g, 0, none⟩) cap cs := by
 obtain ⟨tl, ht⟩ := h.blk
 refine .inr ⟨g, 0, rfl, h.cap, (Array.getElem?_eq_some_iff.1 ht).1, fun j u hj => ?_⟩
 rw [Nat.zero_add, blk_cell ht, List.getElem?_append_left (List.getElem?_eq_some_iff.1 hj).1]
 exact hj
theorem KW.cell (h : KW w1 W g cap cs) {i : Nat} {c : CallV} (hc : cs[i]? = some c) : W.cell? ⟨g, i * 27, none⟩ = some (.int .i64 c.thread) ∧ W.frozen? ⟨g, i * 27, none⟩ = false := by
 obtain ⟨tl, ht⟩ := h.blk
 refine ⟨?_, blk_frozen ht _⟩
 have hg := callsL_get cs i 0 c hc (by omega)
 rw [Nat.add_zero, callL_0] at hg
 rw [blk_cell ht, List.getElem?_append_left (List.getElem?_eq_some_iff.1 hg).1, hg]
theorem KW.set (h : KW w1 W g cap cs) {i : Nat} {c : CallV} (hc : cs[i]? = some c) (x : Int) : KW w1 (W.setCell ⟨g, i * 27, none⟩ (.int .i64 x)) g cap (cs.set i { c with thread := x }) := by
 obtain ⟨tl, ht⟩ := h.blk
 refine ⟨⟨tl, ?_⟩, h.bl.setCell (p := ⟨g, i * 27, none⟩) h.ge _, h.ge, by rw [List.length_set]; exact h.cap⟩
 rw [← callsL_set cs i c tl x hc]
 exact blk_set ht _ _
end
theorem kw_of_own {w1 W : World} {p : Option Addr} {cap : Nat} {cs : List CallV} (h : W.ownsRow w1.heap.size 56 27 (.slice p cs.length cap) cs.length (callsL cs)) (hb : Below w1.heap.size w1 W) : (p = none ∧ cs = [] ∧ cap = 0) ∨ ∃ g, p = some ⟨g, 0, none⟩ ∧ KW w1 W g cap cs := by
 rcases h.2 with ⟨h1, h2⟩ | ⟨g, cap', cur, h1, h2, h3, h4, h5, h6, h7⟩
 ·injection h1 with h1 h3 h4
  exact .inl ⟨h1, List.length_eq_zero_iff.1 h2, h4⟩
 ·injection h1 with h1 h8 h9
  subst h1 h9
  refine .inr ⟨g, rfl, ⟨cur.toList.drop (cs.length * 27), ?_⟩, hb, h2, h4⟩
  rw [h3]
  congr 2
  rw [← h7, List.take_append_drop]
theorem go_mod {C : Nat} (hC : 0 < C) (z : Int) : -(C : Int) < z.tmod C ∧ z.tmod C < C ∧ ∃ b : Nat, (z.tmod C + C).tmod C = (b : Int) ∧ b < C := by
 have h3 : -(C : Int) < z.tmod C := Int.lt_tmod_of_pos z (by omega)
 have h4 : z.tmod C < C := Int.tmod_lt_of_pos z (by omega)
 refine ⟨h3, h4, ((z.tmod C + C).tmod C).toNat, ?_, ?_⟩
 ·have := Int.tmod_nonneg (a := z.tmod C + C) (C : Int) (by omega)
  omega
 ·have h5 := Int.tmod_nonneg (a := z.tmod C + C) (C : Int) (by omega)
  have h6 : (z.tmod C + C).tmod C < C := Int.tmod_lt_of_pos _ (by omega)
  omega
attribute [local go_sem ↓] loadCfg_eq
attribute [local go_sem, local simp] cfgL_len cfgL_ne
theorem cfg_cells {W : World} {b : Nat} {c : CfgV} (h : W.heap[b]? = some (.cells (cfgL c).toArray tCfg (0, 0))) : W.cell? ⟨b, 2, none⟩ = some (.int .i64 c.clients) := by rw [blk_cell h]; rfl
attribute [local irreducible] cfgL
end Go.Proofs.YtdeiocppghhfdaaGreat.Lin
namespace Go.Proofs.YtdeiocppghhfdaaGreat.Lin
open Go.RowKit Go.Lib Go.Shelf
open Hs
open KitI (iv IRow own_below infoI)
attribute [local go_sem, local simp] Hs.callL_0 Hs.callL_1 Hs.callL_2 Hs.callL_3 Hs.callL_4 Hs.callL_5 Hs.callL_6 Hs.callL_7 Hs.callL_8 Hs.callL_9 Hs.callL_10 Hs.callL_11 Hs.callL_12 Hs.callL_13 Hs.callL_14 Hs.callL_15 Hs.callL_16 Hs.callL_17 Hs.callL_18 Hs.callL_19 Hs.callL_20 Hs.callL_21 Hs.callL_22 Hs.callL_23 Hs.callL_24 Hs.callL_25 Hs.callL_26 Hs.resL_0 Hs.resL_1 Hs.resL_2 Hs.resL_3 Hs.resL_4 Hs.resL_5 Hs.resL_6 Hs.resL_7 Hs.resL_8 Hs.resL_9 Hs.resL_10 Hs.resL_11 Hs.resL_12 Hs.callG_0 Hs.callG_1 Hs.callG_2 Hs.callG_3 Hs.callG_4 Hs.callG_5 Hs.callG_6 Hs.callG_7 Hs.callG_8 Hs.callG_9 Hs.callG_10 Hs.callG_11 Hs.callG_12 Hs.callG_13 Hs.callG_14 Hs.callG_15 Hs.callG_16 Hs.callG_17 Hs.callG_18 Hs.callG_19 Hs.callG_20 Hs.callG_21 Hs.callG_22 Hs.callG_23 Hs.callG_24 Hs.callG_25 Hs.callG_26 Hs.resG_0 Hs.resG_1 Hs.resG_2 Hs.resG_3 Hs.resG_4 Hs.resG_5 Hs.resG_6 Hs.resG_7 Hs.resG_8 Hs.resG_9 Hs.resG_10 Hs.resG_11 Hs.resG_12 Hs.callL_len Hs.resL_len
attribute [local go_sem ↓] Hs.loadCall_eq Hs.loadRes_eq
attribute [local go_sem] Hs.ld_new Hs.ld_first Hs.ld_second Hs.ldr_new Hs.st_new
attribute [local go_sem ↓] loadCfg_eq loadOp_eq
attribute [local go_sem, local simp] cfgL_len cfgL_ne
def buildCall (parts : Array (Nat × Value)) : Sem Value := Instr.build 56 parts
theorem buildCall_eq (parts : Array (Nat × Value)) : Instr.build 56 parts = buildCall parts := rfl
theorem build_seq (q : CallV) (t x a b d : Int) (W : World) : (buildCall #[(0, .int .i64 t), (1, .int .i64 x), (2, .agg (opL q).toArray), (3, .int .i64 a), (4, .int .i64 b), (6, .int .i64 d), (7, .int .i64 2), (8, .agg (Hs.resL q).toArray)]).run Tryz.prog W = .ok (.agg (callL { q with thread := t, index := x, invoked := a, took := b, rank := 0, answered := d, steps := 2 }).toArray) W := by kernel_rfl
attribute [local go_sem ↓] buildCall_eq
attribute [local go_sem] build_seq
theorem own_keepB {W W' : World} {base sz n : Nat} {e : TypeId} {x : Value} {xs : List Value} (h : W.ownsRow base e sz x n xs) (hk : ∀ k, base ≤ k → W'.heap[k]? = W.heap[k]?) : W'.ownsRow base e sz x n xs := by
 refine ⟨h.1, ?_⟩
 rcases h.2 with hn | ⟨g, cap, cur, rfl, hB, hg, rest⟩
 ·exact .inl hn
 ·exact .inr ⟨g, cap, cur, rfl, hB, (hk g hB).trans hg, rest⟩
attribute [local irreducible] cfgL opL Hs.resL callL
end Go.Proofs.YtdeiocppghhfdaaGreat.Lin
namespace Go.Proofs.YtdeiocppghhfdaaGreat.Lin
open Go.RowKit Go.Lib Go.Shelf
open Hs
open KitI (iv IRow own_below infoI)
attribute [local go_sem, local simp] Hs.callL_0 Hs.callL_1 Hs.callL_2 Hs.callL_3 Hs.callL_4 Hs.callL_5 Hs.callL_6 Hs.callL_7 Hs.callL_8 Hs.callL_9 Hs.callL_10 Hs.callL_11 Hs.callL_12 Hs.callL_13 Hs.callL_14 Hs.callL_15 Hs.callL_16 Hs.callL_17 Hs.callL_18 Hs.callL_19 Hs.callL_20 Hs.callL_21 Hs.callL_22 Hs.callL_23 Hs.callL_24 Hs.callL_25 Hs.callL_26 Hs.resL_0 Hs.resL_1 Hs.resL_2 Hs.resL_3 Hs.resL_4 Hs.resL_5 Hs.resL_6 Hs.resL_7 Hs.resL_8 Hs.resL_9 Hs.resL_10 Hs.resL_11 Hs.resL_12 Hs.callG_0 Hs.callG_1 Hs.callG_2 Hs.callG_3 Hs.callG_4 Hs.callG_5 Hs.callG_6 Hs.callG_7 Hs.callG_8 Hs.callG_9 Hs.callG_10 Hs.callG_11 Hs.callG_12 Hs.callG_13 Hs.callG_14 Hs.callG_15 Hs.callG_16 Hs.callG_17 Hs.callG_18 Hs.callG_19 Hs.callG_20 Hs.callG_21 Hs.callG_22 Hs.callG_23 Hs.callG_24 Hs.callG_25 Hs.callG_26 Hs.resG_0 Hs.resG_1 Hs.resG_2 Hs.resG_3 Hs.resG_4 Hs.resG_5 Hs.resG_6 Hs.resG_7 Hs.resG_8 Hs.resG_9 Hs.resG_10 Hs.resG_11 Hs.resG_12 Hs.callL_len Hs.resL_len
attribute [local go_sem ↓] Hs.loadCall_eq Hs.loadRes_eq
attribute [local go_sem] Hs.ld_new Hs.ld_first Hs.ld_second Hs.ldr_new Hs.st_new
attribute [local go_sem ↓] loadCfg_eq loadOp_eq
attribute [local go_sem, local simp] cfgL_len cfgL_ne
def STy (T : TypeId) : Prop := T = 56 ∨ T = 3
instance (T : TypeId) : Decidable (STy T) := by unfold STy; infer_instance
theorem FrT.model2 {m b : Nat} {A B : World} {M : MM} (h : FrT STy m A B) (hM : MdAt A b M) : MdAt B b M :=
 ⟨h.ty _ _ _ _ hM.blk (by decide), h.own hM.marks (by decide), h.own hM.seats (by decide), fun S hS => h.own (hM.slots S hS) (by decide), fun S hS x hx => h.own (hM.smarks S hS x hx) (by decide), hM.some_, hM.nodup⟩
theorem MoAt.fr {n : Nat} {w0 W W' : World} {b : Nat} {st : MS} {K : Int} (h : MoAt n w0 W b st K) (hf : FrT STy n W W') : MoAt n w0 W' b st K := by
 obtain ⟨M, h1, h2, h3⟩ := h.m
 exact ⟨⟨M, hf.model2 h1, h2, h3⟩, h.ok, h.bl.trans hf.bl, Nat.le_trans h.le hf.bl.size⟩
theorem frs_set {n : Nat} {W : World} {p : Addr} {cs : Array Value} {T : TypeId} {r : Nat × Nat} (hp : n ≤ p.block) (hb : W.heap[p.block]? = some (.cells cs T r)) (hT : STy T) (v : Value) : FrT STy n W (W.setCell p v) := by
 refine ⟨(Below.refl _ _).setCell (p := p) hp v, fun k cs' T' r' hk hn => ?_⟩
 by_cases e : k = p.block
 ·subst e
  rw [hb] at hk
  injection hk with hk
  injection hk with _ hk _
  subst hk
  exact absurd hT hn
 ·rw [setCell_ne _ _ _ _ e]; exact hk
theorem frs_grown {n sz m : Nat} {A A' : World} {base : Nat} {v : Value} {xs : List Value} (ho : A.ownsRow base 56 sz v m xs) (hg : A.grownBy A' v.ownBlock) (hn : n ≤ base) (hle : n ≤ A.heap.size) : FrT STy n A A' := by
 refine ⟨(Below.refl _ _).grown hg hle (fun k hk => by have := (ho.lt k hk).1; omega), fun k cs T r hk hT => (hg.block k (Array.getElem?_eq_some_iff.1 hk).1 (fun e => ?_)).trans hk⟩
 obtain ⟨cs2, h2⟩ := own_type ho e.symm
 rw [hk] at h2
 injection h2 with h2
 injection h2 with _ h2 _
 subst h2
 exact hT (.inl rfl)
def rsL (r : ResV) : List Value := [.int .i64 r.err, .int .i64 r.rev, .int .i64 r.slot, .int .i64 r.at_, .int .u8 r.grav, .string r.text, .int .i64 r.m1, .int .i64 r.m2, .int .i64 r.m3, .int .u8 0, .int .i64 0, .int .i64 0, .slice none 0 0]
theorem mo_dov {n : Nat} {w0 W : World} {b : Nat} {st : MS} {K : Int} (h : MoAt n w0 W b st K) (hK : K ≤ 100000) (t : Int) {q : OpV} (hq : OpIn q) :
  Calls Tryz.prog 50 #[.pointer (some ⟨b, 0, none⟩), .int .i64 t, .agg (oqL q).toArray] W fun e W' => e = .returned (.agg (rsL (doS st t q).1).toArray) ∧ MoAt n w0 W' b (doS st t q).2 (K + 1) ∧ FrT MTy n W W' := by
 obtain ⟨M, h1, h2, rfl⟩ := h.m
 refine (do_any b t M q W h1 (h.ok.mono hK) hq).mono ?_
 rintro e W' ⟨rfl, M', hM, hst, hk, hf2⟩
 have hfr := frm_keep h1 hk h2 h.le
 exact ⟨rfl, ⟨⟨M', hM, fun k hk => (hf2 k hk).elim (h2 k) (fun h' => Nat.le_trans h.le h'), hst⟩, doS_ok h.ok hq, h.bl.trans hfr.bl, Nat.le_trans h.le hfr.bl.size⟩, hfr⟩
theorem opsL_get : ∀ (l : List OpV) (k j : Nat) (q : OpV), l[k]? = some q → j < 7 → (opsL l)[k * 7 + j]? = (oqL q)[j]?
 | [], k, j, q, h, _ => by simp at h
 | a :: l, 0, j, q, h, hj => by
  simp at h
  subst h
  have e : opsL (a :: l) = oqL a ++ opsL l := by unfold opsL; rw [List.flatMap_cons]
  rw [e, Nat.zero_mul, Nat.zero_add, List.getElem?_append_left (by rw [oqL_len]; exact hj)]
 | a :: l, k + 1, j, q, h, hj => by
  have e : opsL (a :: l) = oqL a ++ opsL l := by unfold opsL; rw [List.flatMap_cons]
  rw [e, List.getElem?_append_right (by rw [oqL_len]; omega), oqL_len, show (k + 1) * 7 + j - 7 = k * 7 + j by omega]
  exact opsL_get l k j q (by simpa using h) hj
theorem ldq_at {W : World} {b off k : Nat} {l : List OpV} {q : OpV} (h : ∀ j u, (opsL l)[j]? = some u → W.cell? ⟨b, off + j, none⟩ = some u) (hk : l[k]? = some q) : (loadOp (.pointer (some ⟨b, off + k * 7, none⟩))).run Tryz.prog W = .ok (.agg (oqL q).toArray) W :=
 run_loadAt_mid W b (off + k * 7) 54 (oqL q) _ (fun j v hv => by
  have hlt := (List.getElem?_eq_some_iff.1 hv).1
  rw [oqL_len] at hlt
  rw [Nat.add_assoc]
  exact h _ _ (by rw [opsL_get l k j q hk hlt]; exact hv)) Tryz.underlying54 rfl (by kernel_rfl)
theorem build_mkS (t x a b d : Int) (q : OpV) (r : ResV) (W : World) : (buildCall #[(0, .int .i64 t), (1, .int .i64 x), (2, .agg (oqL q).toArray), (3, .int .i64 a), (4, .int .i64 b), (6, .int .i64 d), (7, .int .i64 2), (8, .agg (rsL r).toArray)]).run Tryz.prog W = .ok (.agg (callL { thread := t, index := x, okind := q.kind, oslot := q.slot, oat := q.at_, on := q.n, oid := q.id, ograv := q.grav, otext := q.text, invoked := a, took := b, rank := 0, answered := d, steps := 2, err := r.err, rev := r.rev, rslot := r.slot, rat := r.at_, rgrav := r.grav, rtext := r.text, mb := r.m1, mr := r.m2, ml := r.m3, ik := 0, ifrom := 0, ito := 0, ps := [], da := none, dc := 0 }).toArray) W := by kernel_rfl
attribute [local go_sem ↓] buildCall_eq
attribute [local go_sem] build_mkS
attribute [local go_sem, local simp] fold_call
structure SqR (X : World) (C : CfgV) (N n bm G base : Nat) (L : List CallV) (vo : Value) (W : World) : Prop where
 mo : MoAt n X W bm (stS C L L.length) L.length
 cnt : W.heap[G]? = some (.cells (cntS N L).toArray tInt (0, 0))
 out : W.ownsRow base 56 27 vo L.length (callsL L)
 run : RunT C L
 ok : ∀ x ∈ L, x.Ok ∧ x.ps = [] ∧ OpIn (opV x)
 gn : n ≤ G
 gb : G < base
 le : base ≤ W.heap.size
def SqRel (X : World) (C : CfgV) (N n bm G base m : Nat) (vo i : Value) (wr : World) : Prop := ∃ L : List CallV, i = .int .i64 L.length ∧ L.length ≤ m ∧ L.length ≤ 20 ∧ SqR X C N n bm G base L vo wr
def SeqPost (w : World) (C : CfgV) (e : Ending) (w' : World) : Prop :=
 (e = .returned (.tuple #[.slice none 0 0, .bool false]) ∧ Below w.heap.size w w') ∨
 (∃ v L, e = .returned (.tuple #[v, .bool true]) ∧ RunT C L ∧ L.length ≤ 20 ∧ (∀ x ∈ L, x.Ok ∧ x.ps = [] ∧ OpIn (opV x)) ∧ w'.ownsRow w.heap.size 56 27 v L.length (callsL L) ∧ Below w.heap.size w w')
theorem SqR.drew {X W : World} {C : CfgV} {N n bm G base : Nat} {L : List CallV} {vo : Value} (h : SqR X C N n bm G base L vo W) : SqR X C N n bm G base L vo W.drew :=
 ⟨h.mo.on (Below.refl _ _).drew, h.cnt, own_below h.out (Below.refl _ _).drew, h.run, h.ok, h.gn, h.gb, h.le⟩
attribute [local irreducible] cfgL oqL rsL callL
theorem sequence_any (C : CfgV) (po : Option Addr) (co : Nat) (ops : List OpV) (pw : Option Addr) (cw : Nat) (who : List Int) (w : World) (hO : ArgOps w po ops) (hW : ArgI w pw who) :
  Calls Tryz.prog 47 #[.agg (cfgL C).toArray, .slice po ops.length co, .slice pw who.length cw] w (SeqPost w C) := by
 obtain ⟨i0, hi, hz0, hz1, hz2⟩ := info_parts infoC
 obtain ⟨j0, hj, hy0, hy1, hy2⟩ := info_parts infoI
 have hB0 : Below w.heap.size w (w.alloc (.cells (cfgL C).toArray tCfg)) := (Below.refl _ _).alloc (Nat.le_refl _) _
 have hzb := blk_new w (cfgL C) tCfg
 have hl0 := ld_cfg hzb
 obtain ⟨X, hX⟩ : ∃ X, w.alloc (.cells (cfgL C).toArray tCfg) = X := ⟨_, rfl⟩
 have hXs : X.heap.size = w.heap.size + 1 := by rw [← hX]; simp
 have hnw := new_any C X
 rw [cfg_v] at hnw
 rw [hX] at hB0 hzb hl0
 go_enter Tryz.func47, Tryz.ntmps47
 go_wp2_with fail
 refine hnw.mono ?_
 clear hnw hX hl0
 rintro e w1 (⟨he, rfl, hb⟩ | ⟨he, bm, M, rfl, hM, hst, hb, hfp⟩)
 ·have de : (cfgE C != 0) = true := by simpa using he
  go_wp2_with fail
  go_returns
  exact .inl ⟨rfl, hB0.trans (hb.mono hB0.size)⟩
 ·have hbx := blk_below hzb hb (by omega)
  have hc2 := cfg_cells hbx
  have hBw := hB0.trans (hb.mono hB0.size)
  by_cases hc1 : C.clients < 1
  ·have d1 : decide (C.clients < 1) = true := by simpa using hc1
   clear hc1
   go_wp2_with fail
   go_returns
   exact .inl ⟨rfl, hBw⟩
  ·have d1 : decide (C.clients < 1) = false := by simpa using hc1
   obtain ⟨N, hN⟩ : ∃ N : Nat, C.clients = N := ⟨C.clients.toNat, by omega⟩
   have hN1 : 0 < N := by omega
   have hN8 : N ≤ 8 := by
    have h8 := (newS_ok he).clients
    have : (newS C).seats.length = C.clients.toNat := List.length_replicate ..
    omega
   have hCN : C.clients.toNat = N := by omega
   rw [hN] at hc2 d1
   have hmk : (Instr.makeSlice 28 (.int .i64 N) (.int .i64 N)).run Tryz.prog w1 = .ok (.slice (some ⟨w1.heap.size, 0, none⟩) N N) (w1.alloc (.cells (List.replicate N (Value.int .i64 0)).toArray tInt)) := by
    have := run_make (P := Tryz.prog) w1 28 3 j0 _ Tryz.underlying28 hj hy0 .i64 .i64 N N (by omega) (Int.le_refl _) (by rw [hy2]; omega) (by omega)
    have e : madeCells (Value.cells (.int .i64 0)) (N * 1) = (List.replicate N (Value.int .i64 0)).toArray := by
     have e : Value.cells (.int .i64 0) = #[.int .i64 0] := rfl
     rw [e, Nat.mul_one]
     apply Array.ext'
     rw [toList_madeCells_one]
    rw [this, hy1, Int.toNat_natCast, e]
   have h0b : Below w1.heap.size w1 (w1.alloc (.cells (List.replicate N (Value.int .i64 0)).toArray tInt)) := (Below.refl _ _).alloc (Nat.le_refl _) _
   have hnb : Below (w.heap.size + 1) X w1 := by rw [← hXs]; exact hb
   have hn1 : w.heap.size + 1 ≤ w1.heap.size := by have := hnb.size; omega
   have hS0 : SqR X C N (w.heap.size + 1) bm w1.heap.size (w1.heap.size + 1) [] (.slice none 0 0) (w1.alloc (.cells (List.replicate N (Value.int .i64 0)).toArray tInt)) :=
    ⟨⟨⟨M, hM.below h0b, fun k hk => by have := hfp k hk; omega, hst⟩, newS_ok he, hnb.trans (h0b.mono hn1), by simp; omega⟩, by rw [cntS_zero]; exact heap_alloc_new _ _, World.ownsRow_nil _ _ _ _, RunT.nil he, (fun x hx => by cases hx), hn1, by omega, by simp⟩
   have HO := Lib.hid hO
   have HW := Lib.hid hW
   have HZ := Lib.hid hzb
   have HB0 := Lib.hid hB0
   clear hO hW hM hst hfp hb hbx hBw hc1 h0b hzb
   go_wp2_with fail
   go_loopw [10, 12, 13] (fun vo i x13 wr => SqRel X C N (w.heap.size + 1) bm w1.heap.size (w1.heap.size + 1) ops.length vo i wr) (fun vo i x13 wr => ops.length - (intOf i).toNat)
   case atStart => exact ⟨[], rfl, by simp, by simp, hS0⟩
   case round =>
    clear hS0 hmk hc2 d1 hnb
    generalize w1.heap.size = G at *
    obtain ⟨L, rfl, hk, hk20, hS⟩ := hrel
    have hBX := hS.mo.bl
    have hbx : wr.heap[w.heap.size]? = some (.cells (cfgL C).toArray tCfg (0, 0)) := (hBX.block _ (by omega)).trans HZ.out
    have hc2 := cfg_cells hbx
    rw [hN] at hc2
    have hBw : Below w.heap.size w wr := HB0.out.trans (hBX.mono (by omega))
    by_cases hlt : L.length < ops.length
    ·by_cases h20 : L.length < 20
     ·obtain ⟨q, hq⟩ : ∃ q, ops[L.length]? = some q := ⟨_, List.getElem?_eq_getElem hlt⟩
      obtain ⟨bo, oo, rfl, hob, hoc, hol, hoi⟩ : ∃ b off, po = some ⟨b, off, none⟩ ∧ b < w.heap.size ∧ (∀ j u, (opsL ops)[j]? = some u → w.cell? ⟨b, off + j, none⟩ = some u) ∧ ops.length < 9223372036854775808 ∧ ∀ a ∈ ops, OpIn a := by
       rcases HO.out with h | h
       ·rw [h] at hq; simp at hq
       ·exact h
      have hqi := hoi q (List.mem_of_getElem? hq)
      have hlo := fun W (hb : Below w.heap.size w W) => ldq_at (W := W) (fun j u hj => (hb.cell (p := ⟨bo, oo + j, none⟩) hob).trans (hoc j u hj)) hq
      have w1' : IntKind.i64.wrap (3 * (L.length : Int)) = 3 * (L.length : Int) := IntWalk.i64_in _ (by omega)
      have w2' : IntKind.i64.wrap (3 * (L.length : Int) + 1) = 3 * (L.length : Int) + 1 := IntWalk.i64_in _ (by omega)
      have w3' : IntKind.i64.wrap (3 * (L.length : Int) + 2) = 3 * (L.length : Int) + 2 := IntWalk.i64_in _ (by omega)
      have e1 : (L.length : Int) < (ops.length : Int) := by omega
      by_cases hwl : L.length < who.length
      ·obtain ⟨z, hz⟩ : ∃ z, who[L.length]? = some z := ⟨_, List.getElem?_eq_getElem hwl⟩
       obtain ⟨bw, ow, rfl, hwb, hwc, hwl2, hwi⟩ : ∃ b off, pw = some ⟨b, off, none⟩ ∧ b < w.heap.size ∧ (∀ j u, who[j]? = some u → w.cell? ⟨b, off + j, none⟩ = some (.int .i64 u)) ∧ who.length < 9223372036854775808 ∧ ∀ z ∈ who, -9223372036854775808 ≤ z ∧ z ≤ 9223372036854775807 := by
        rcases HW.out with h | h
        ·rw [h] at hz; simp at hz
        ·exact h
       have cz : wr.cell? ⟨bw, ow + L.length, none⟩ = some (.int .i64 z) := (hBw.cell (p := ⟨bw, ow + L.length, none⟩) hwb).trans (hwc _ z hz)
       have cz2 : wr.drew.cell? ⟨bw, ow + L.length, none⟩ = some (.int .i64 z) := cz
       have hc3 : wr.drew.cell? ⟨w.heap.size, 2, none⟩ = some (.int .i64 N) := hc2
       obtain ⟨m1, m2, tn, m3, m4⟩ := go_mod (C := N) hN1 z
       have i1 : IntKind.i64.wrap (z.tmod N) = z.tmod N := IntWalk.i64_in _ (by omega)
       have i2 : IntKind.i64.wrap (z.tmod N + N) = z.tmod N + N := IntWalk.i64_in _ (by omega)
       have i3 : IntKind.i64.wrap (tn : Int) = tn := IntWalk.i64_in _ (by omega)
       have hN0 : (N = 0) = False := by simp; omega
       have hS1 := hS.drew
       clear hS hoc hwc hz hq hbx
       go_wp2_with fail
       refine wp_region_noPanic ?_
       refine wp_region_held_drew (S := fun W => W.cell? ⟨w.heap.size, 2, none⟩ = some (.int .i64 N) ∧ W.cell? ⟨bw, ow + L.length, none⟩ = some (.int .i64 z)) (by kernel_rfl) ?_ (fun hHeld => ?_)
       ·first | exact ⟨hc2, cz⟩ | exact ⟨hc3, cz2⟩
       iterate 14 (((first | refine np_n ?_ ?_ ?_ | refine np_t 0 ?_ ?_ ?_); rotate_left 1; (· (intro w hSw; (try dsimp only at hSw); go_simp; all_goals with_reducible rfl)); (try simp only [nSO])))
       refine wpAnyH_done (by kernel_rfl) ?_ _
       refine NoPanic.normal ?_
       have hBw1 := hBw.drew
       clear hBw hc2 hc3 cz cz2
       go_wp2_with fail
       generalize hW0 : wr.drew = W0 at *
       have hcn := blk_cell hS1.cnt tn
       have hca := cntS_at (L := L) (t := tn) m4
       rw [hca] at hcn
       have hmo := mo_dov (hS1.mo.on (Below.refl _ _).drew) (by omega) (tn : Int) hqi
       have hl9 := hlo _ hBw1
       have hl9d := hlo _ hBw1.drew
       have hcnd : W0.drew.cell? ⟨G, tn, none⟩ = some (.int .i64 (((thF (tn : Int) L).length : Nat) : Int)) := hcn
       have hrunL := hS1.run.snoc q (t := (tn : Int)) (by omega) (by omega)
       have hmk := mkS_ok (c := C) (L := L) (t := (tn : Int)) hqi (by omega)
       have hset := cntS_set (n := N) (L := L) (x := mkS C L (tn : Int) q) (t := tn) rfl
       have hend : stS C (L ++ [mkS C L (tn : Int) q]) (L.length + 1) = (doS (stS C L L.length) (tn : Int) q).2 := stS_end C L (mkS C L (tn : Int) q)
       have hx : callL (mkS C L (tn : Int) q) = callL { thread := (tn : Int), index := (((thF (tn : Int) L).length : Nat) : Int), okind := q.kind, oslot := q.slot, oat := q.at_, on := q.n, oid := q.id, ograv := q.grav, otext := q.text, invoked := 3 * (L.length : Int), took := 3 * (L.length : Int) + 1, rank := 0, answered := 3 * (L.length : Int) + 2, steps := 2, err := (doS (stS C L L.length) (tn : Int) q).1.err, rev := (doS (stS C L L.length) (tn : Int) q).1.rev, rslot := (doS (stS C L L.length) (tn : Int) q).1.slot, rat := (doS (stS C L L.length) (tn : Int) q).1.at_, rgrav := (doS (stS C L L.length) (tn : Int) q).1.grav, rtext := (doS (stS C L L.length) (tn : Int) q).1.text, mb := (doS (stS C L L.length) (tn : Int) q).1.m1, mr := (doS (stS C L L.length) (tn : Int) q).1.m2, ml := (doS (stS C L L.length) (tn : Int) q).1.m3, ik := 0, ifrom := 0, ito := 0, ps := [], da := none, dc := 0 } := rfl
       have hxo : opV (mkS C L (tn : Int) q) = q := rfl
       have hxp : (mkS C L (tn : Int) q).ps = [] := rfl
       have hcl : (thF (tn : Int) L).length ≤ L.length := List.length_filter_le _ _
       have wc : IntKind.i64.wrap ((((thF (tn : Int) L).length : Nat) : Int) + 1) = (((thF (tn : Int) L).length : Nat) : Int) + 1 := IntWalk.i64_in _ (by omega)
       have etn : (tn : Int) < (N : Int) := by omega
       have HS := Lib.hid hS1
       have Hlo := Lib.hid hlo
       have Hset := Lib.hid hset
       have Hend := Lib.hid hend
       have HrunL := Lib.hid hrunL
       have Hmk := Lib.hid hmk
       have HBw1 := Lib.hid hBw1
       have Hxo := Lib.hid hxo
       have Hxp := Lib.hid hxp
       have Hqi := Lib.hid hqi
       clear hS1 hlo hset hend hrunL hmk hBw1 hoi hxo hxp hqi
       generalize mkS C L (tn : Int) q = x at *
       generalize hR : doS (stS C L L.length) (tn : Int) q = R at *
       obtain ⟨r, st'⟩ := R
       dsimp only at hx hmo
       have Hx := Lib.hid hx
       clear hR hx
       generalize (((thF (tn : Int) L).length : Nat) : Int) = cn at *
       clear hcl
       go_wp2_with fail
       refine wp_region_noPanic ?_
       refine wp_region_held_drew (S := fun W => W.cell? ⟨G, tn, none⟩ = some (.int .i64 cn) ∧ (loadOp (.pointer (some ⟨bo, oo + L.length * 7, none⟩))).run Tryz.prog W = .ok (.agg (oqL q).toArray) W) (by kernel_rfl) ?_ (fun hHeld => ?_)
       ·first | exact ⟨hcn, hl9⟩ | exact ⟨hcnd, hl9d⟩ | exact ⟨hc7, hl7⟩ | exact ⟨hc6, hl6⟩ | exact ⟨hc5, hl5⟩
       iterate 24 (((first | refine np_n ?_ ?_ ?_ | refine np_t 0 ?_ ?_ ?_); rotate_left 1; (· (intro w hSw; (try dsimp only at hSw); go_simp; all_goals with_reducible rfl)); (try simp only [nSO])))
       (refine np_step (i := 24) rfl (by kernel_rfl) (fun K hK => ?_); rw [if_pos (by rfl)]; go_simp; ((go_at_call 50; refine hmo.mono ?_; rintro e w5 ⟨rfl, hM5, hfr5⟩; have hg5 := hfr5.ty _ _ _ _ (show W0.drew.heap[G]? = some (.cells (cntS N L).toArray tInt (0, 0)) from HS.out.cnt) (by decide); have hc5 := (blk_cell hg5 tn).trans hca; have hbw5 : Below w.heap.size w w5 := HB0.out.trans (hM5.bl.mono (by omega)); have hl5 := Hlo.out _ hbw5; have ho5 := hfr5.own (own_below HS.out.out (Below.refl _ _).drew) (by decide); have hle5 : G + 1 ≤ w5.heap.size := Nat.le_trans HS.out.le hfr5.bl.size)); (try go_wp2_with fail); refine hK.out _ _ ?_ (fun hHeld => ?_); (· (first | exact ⟨hcn, hl9⟩ | exact ⟨hcnd, hl9d⟩ | exact ⟨hc7, hl7⟩ | exact ⟨hc6, hl6⟩ | exact ⟨hc5, hl5⟩)); clear hK K; (try simp only [nSO]))
       (refine np_n ?_ ?_ ?_; rotate_left 1; (· (intro w hSw; (try dsimp only at hSw); go_simp; all_goals with_reducible rfl)); (try simp only [nSO]))
       (refine np_step (i := 26) rfl (by kernel_rfl) (fun K hK => ?_); rw [if_pos (by rfl)]; go_simp; ((have hba := below_alloc w5 (.cells (callL { thread := (tn : Int), index := cn, okind := q.kind, oslot := q.slot, oat := q.at_, on := q.n, oid := q.id, ograv := q.grav, otext := q.text, invoked := 3 * (L.length : Int), took := 3 * (L.length : Int) + 1, rank := 0, answered := 3 * (L.length : Int) + 2, steps := 2, err := r.err, rev := r.rev, rslot := r.slot, rat := r.at_, rgrav := r.grav, rtext := r.text, mb := r.m1, mr := r.m2, ml := r.m3, ik := 0, ifrom := 0, ito := 0, ps := [], da := none, dc := 0 }).toArray 56); have hc6 := (hba.cell (KitI.cell_size hc5)).trans hc5; have hl6 := Hlo.out _ (hbw5.trans (hba.mono hbw5.size)))); (try go_wp2_with fail); refine hK.out _ _ ?_ (fun hHeld => ?_); (· (first | exact ⟨hcn, hl9⟩ | exact ⟨hcnd, hl9d⟩ | exact ⟨hc7, hl7⟩ | exact ⟨hc6, hl6⟩ | exact ⟨hc5, hl5⟩)); clear hK K; (try simp only [nSO]))
       (refine np_step (i := 27) rfl (by kernel_rfl) (fun K hK => ?_); rw [if_pos (by rfl)]; ((have ho6 := ho5.alloc (.cells (callL { thread := (tn : Int), index := cn, okind := q.kind, oslot := q.slot, oat := q.at_, on := q.n, oid := q.id, ograv := q.grav, otext := q.text, invoked := 3 * (L.length : Int), took := 3 * (L.length : Int) + 1, rank := 0, answered := 3 * (L.length : Int) + 2, steps := 2, err := r.err, rev := r.rev, rslot := r.slot, rat := r.at_, rgrav := r.grav, rtext := r.text, mb := r.m1, mr := r.m2, ml := r.m3, ik := 0, ifrom := 0, ito := 0, ps := [], da := none, dc := 0 }).toArray 56); refine wp_append_own _ _ _ 25 rfl (G + 1) 56 i0 _ 27 240 Tryz.underlying25 hi hz0 hz1 hz2 rfl (by decide) _ _ _ rfl ho6 ⟨_, 0, none⟩ 1 1 (callL { thread := (tn : Int), index := cn, okind := q.kind, oslot := q.slot, oat := q.at_, on := q.n, oid := q.id, ograv := q.grav, otext := q.text, invoked := 3 * (L.length : Int), took := 3 * (L.length : Int) + 1, rank := 0, answered := 3 * (L.length : Int) + 2, steps := 2, err := r.err, rev := r.rev, rslot := r.slot, rat := r.at_, rgrav := r.grav, rtext := r.text, mb := r.m1, mr := r.m2, ml := r.m3, ik := 0, ifrom := 0, ito := 0, ps := [], da := none, dc := 0 }) rfl (by rw [callL_len]) (cells_new0 _ _ _) (ones_call _) (by unfold maxLen; omega) (by omega) (by simp; omega) ?_; intro v7 w7 hO7 hg7 _; have hg7' : w7.heap[G]? = some (.cells (cntS N L).toArray tInt (0, 0)) := (hg7.block G (by simp; omega) (fun e => by have := (ho5.lt G e.symm).1; omega)).trans ((heap_alloc_old _ _ (by omega)).trans hg5); have hc7 := (blk_cell hg7' tn).trans hca; have hbw7 : Below w.heap.size w w7 := (hbw5.alloc hbw5.size _).grown hg7 (by simp; have := hbw5.size; omega) (fun j hj => by have := (ho5.lt j hj).1; omega); have hl7 := Hlo.out _ hbw7)); refine hK.out _ _ ?_ (fun hHeld => ?_); (· (first | exact ⟨hcn, hl9⟩ | exact ⟨hcnd, hl9d⟩ | exact ⟨hc7, hl7⟩ | exact ⟨hc6, hl6⟩ | exact ⟨hc5, hl5⟩)); clear hK K; (try simp only [nSO]))
       (refine np_n ?_ ?_ ?_; rotate_left 1; (· (intro w hSw; (try dsimp only at hSw); go_simp; all_goals with_reducible rfl)); (try simp only [nSO]))
       refine wpAnyH_done (by kernel_rfl) ?_ _
       refine NoPanic.normal ?_
       have f7 := blk_frozen hg7' tn
       have m6 := hM5.on hba
       rw [← Hx.out] at hO7
       have m7 := m6.fr (frs_grown (ho5.alloc _) hg7 (by omega) (by simp; omega))
       have m8 := m7.fr (frs_set (p := ⟨G, tn, none⟩) hn1 hg7' (.inr rfl) (.int .i64 (cn + 1)))
       have h8 := blk_set hg7' tn (.int .i64 (cn + 1))
       rw [Hset.out] at h8
       have o8 : (w7.setCell ⟨G, tn, none⟩ (.int .i64 (cn + 1))).ownsRow (G + 1) 56 27 v7 (L.length + 1) (callsL L ++ callL x) := own_keepB hO7 (fun j hj => setCell_ne _ _ _ _ (by simp; omega))
       have s8 : G + 1 ≤ (w7.setCell ⟨G, tn, none⟩ (.int .i64 (cn + 1))).heap.size := by rw [setCell_size]; have := hg7.size; simp at this; omega
       clear hO7 hg7 hM5 hfr5 ho5 m6 m7 hg5 hHeld
       go_wp2_with fail
       go_roundw
       case rel =>
        have el : (L ++ [x]).length = L.length + 1 := by simp
        exact ⟨L ++ [x], by rw [el]; go_num, by omega, by omega, ⟨by rw [el, Hend.out]; push_cast; exact m8, h8, by rw [el, callsL_snoc]; exact o8, HrunL.out, fun y hy => by
         rcases List.mem_append.1 hy with hy | hy
         ·exact HS.out.ok y hy
         ·rw [List.mem_singleton.1 hy]; exact ⟨Hmk.out, Hxp.out, by rw [Hxo.out]; exact Hqi.out⟩, hn1, by omega, s8⟩⟩
       case measure => simp [intOf]; omega
      ·have hBw1 := hBw
       have hS1 := hS
       clear hBw hc2 hS hoc hq hbx
       go_wp2_with fail
       generalize hW0 : wr = W0 at *
       have hcn := blk_cell hS1.cnt 0
       have hca := cntS_at (L := L) (t := 0) hN1
       rw [hca] at hcn
       have hmo := mo_dov (hS1.mo.on (Below.refl _ _).drew) (by omega) (0 : Int) hqi
       have hl9 := hlo _ hBw1
       have hl9d := hlo _ hBw1.drew
       have hcnd : W0.drew.cell? ⟨G, 0, none⟩ = some (.int .i64 (((thF (0 : Int) L).length : Nat) : Int)) := hcn
       have hrunL := hS1.run.snoc q (t := (0 : Int)) (by omega) (by omega)
       have hmk := mkS_ok (c := C) (L := L) (t := (0 : Int)) hqi (by omega)
       have hset := cntS_set (n := N) (L := L) (x := mkS C L (0 : Int) q) (t := 0) rfl
       have hend : stS C (L ++ [mkS C L (0 : Int) q]) (L.length + 1) = (doS (stS C L L.length) (0 : Int) q).2 := stS_end C L (mkS C L (0 : Int) q)
       have hx : callL (mkS C L (0 : Int) q) = callL { thread := (0 : Int), index := (((thF (0 : Int) L).length : Nat) : Int), okind := q.kind, oslot := q.slot, oat := q.at_, on := q.n, oid := q.id, ograv := q.grav, otext := q.text, invoked := 3 * (L.length : Int), took := 3 * (L.length : Int) + 1, rank := 0, answered := 3 * (L.length : Int) + 2, steps := 2, err := (doS (stS C L L.length) (0 : Int) q).1.err, rev := (doS (stS C L L.length) (0 : Int) q).1.rev, rslot := (doS (stS C L L.length) (0 : Int) q).1.slot, rat := (doS (stS C L L.length) (0 : Int) q).1.at_, rgrav := (doS (stS C L L.length) (0 : Int) q).1.grav, rtext := (doS (stS C L L.length) (0 : Int) q).1.text, mb := (doS (stS C L L.length) (0 : Int) q).1.m1, mr := (doS (stS C L L.length) (0 : Int) q).1.m2, ml := (doS (stS C L L.length) (0 : Int) q).1.m3, ik := 0, ifrom := 0, ito := 0, ps := [], da := none, dc := 0 } := rfl
       have hxo : opV (mkS C L (0 : Int) q) = q := rfl
       have hxp : (mkS C L (0 : Int) q).ps = [] := rfl
       have hcl : (thF (0 : Int) L).length ≤ L.length := List.length_filter_le _ _
       have wc : IntKind.i64.wrap ((((thF (0 : Int) L).length : Nat) : Int) + 1) = (((thF (0 : Int) L).length : Nat) : Int) + 1 := IntWalk.i64_in _ (by omega)
       have etn : (0 : Int) < (N : Int) := by omega
       have HS := Lib.hid hS1
       have Hlo := Lib.hid hlo
       have Hset := Lib.hid hset
       have Hend := Lib.hid hend
       have HrunL := Lib.hid hrunL
       have Hmk := Lib.hid hmk
       have HBw1 := Lib.hid hBw1
       have Hxo := Lib.hid hxo
       have Hxp := Lib.hid hxp
       have Hqi := Lib.hid hqi
       clear hS1 hlo hset hend hrunL hmk hBw1 hoi hxo hxp hqi
       generalize mkS C L (0 : Int) q = x at *
       generalize hR : doS (stS C L L.length) (0 : Int) q = R at *
       obtain ⟨r, st'⟩ := R
       dsimp only at hx hmo
       have Hx := Lib.hid hx
       clear hR hx
       generalize (((thF (0 : Int) L).length : Nat) : Int) = cn at *
       clear hcl
       go_wp2_with fail
       refine wp_region_noPanic ?_
       refine wp_region_held_drew (S := fun W => W.cell? ⟨G, 0, none⟩ = some (.int .i64 cn) ∧ (loadOp (.pointer (some ⟨bo, oo + L.length * 7, none⟩))).run Tryz.prog W = .ok (.agg (oqL q).toArray) W) (by kernel_rfl) ?_ (fun hHeld => ?_)
       ·first | exact ⟨hcn, hl9⟩ | exact ⟨hcnd, hl9d⟩ | exact ⟨hc7, hl7⟩ | exact ⟨hc6, hl6⟩ | exact ⟨hc5, hl5⟩
       iterate 24 (((first | refine np_n ?_ ?_ ?_ | refine np_t 0 ?_ ?_ ?_); rotate_left 1; (· (intro w hSw; (try dsimp only at hSw); go_simp; all_goals with_reducible rfl)); (try simp only [nSO])))
       (refine np_step (i := 24) rfl (by kernel_rfl) (fun K hK => ?_); rw [if_pos (by rfl)]; go_simp; ((go_at_call 50; refine hmo.mono ?_; rintro e w5 ⟨rfl, hM5, hfr5⟩; have hg5 := hfr5.ty _ _ _ _ (show W0.drew.heap[G]? = some (.cells (cntS N L).toArray tInt (0, 0)) from HS.out.cnt) (by decide); have hc5 := (blk_cell hg5 0).trans hca; have hbw5 : Below w.heap.size w w5 := HB0.out.trans (hM5.bl.mono (by omega)); have hl5 := Hlo.out _ hbw5; have ho5 := hfr5.own (own_below HS.out.out (Below.refl _ _).drew) (by decide); have hle5 : G + 1 ≤ w5.heap.size := Nat.le_trans HS.out.le hfr5.bl.size)); (try go_wp2_with fail); refine hK.out _ _ ?_ (fun hHeld => ?_); (· (first | exact ⟨hcn, hl9⟩ | exact ⟨hcnd, hl9d⟩ | exact ⟨hc7, hl7⟩ | exact ⟨hc6, hl6⟩ | exact ⟨hc5, hl5⟩)); clear hK K; (try simp only [nSO]))
       (refine np_n ?_ ?_ ?_; rotate_left 1; (· (intro w hSw; (try dsimp only at hSw); go_simp; all_goals with_reducible rfl)); (try simp only [nSO]))
       (refine np_step (i := 26) rfl (by kernel_rfl) (fun K hK => ?_); rw [if_pos (by rfl)]; go_simp; ((have hba := below_alloc w5 (.cells (callL { thread := (0 : Int), index := cn, okind := q.kind, oslot := q.slot, oat := q.at_, on := q.n, oid := q.id, ograv := q.grav, otext := q.text, invoked := 3 * (L.length : Int), took := 3 * (L.length : Int) + 1, rank := 0, answered := 3 * (L.length : Int) + 2, steps := 2, err := r.err, rev := r.rev, rslot := r.slot, rat := r.at_, rgrav := r.grav, rtext := r.text, mb := r.m1, mr := r.m2, ml := r.m3, ik := 0, ifrom := 0, ito := 0, ps := [], da := none, dc := 0 }).toArray 56); have hc6 := (hba.cell (KitI.cell_size hc5)).trans hc5; have hl6 := Hlo.out _ (hbw5.trans (hba.mono hbw5.size)))); (try go_wp2_with fail); refine hK.out _ _ ?_ (fun hHeld => ?_); (· (first | exact ⟨hcn, hl9⟩ | exact ⟨hcnd, hl9d⟩ | exact ⟨hc7, hl7⟩ | exact ⟨hc6, hl6⟩ | exact ⟨hc5, hl5⟩)); clear hK K; (try simp only [nSO]))
       (refine np_step (i := 27) rfl (by kernel_rfl) (fun K hK => ?_); rw [if_pos (by rfl)]; ((have ho6 := ho5.alloc (.cells (callL { thread := (0 : Int), index := cn, okind := q.kind, oslot := q.slot, oat := q.at_, on := q.n, oid := q.id, ograv := q.grav, otext := q.text, invoked := 3 * (L.length : Int), took := 3 * (L.length : Int) + 1, rank := 0, answered := 3 * (L.length : Int) + 2, steps := 2, err := r.err, rev := r.rev, rslot := r.slot, rat := r.at_, rgrav := r.grav, rtext := r.text, mb := r.m1, mr := r.m2, ml := r.m3, ik := 0, ifrom := 0, ito := 0, ps := [], da := none, dc := 0 }).toArray 56); refine wp_append_own _ _ _ 25 rfl (G + 1) 56 i0 _ 27 240 Tryz.underlying25 hi hz0 hz1 hz2 rfl (by decide) _ _ _ rfl ho6 ⟨_, 0, none⟩ 1 1 (callL { thread := (0 : Int), index := cn, okind := q.kind, oslot := q.slot, oat := q.at_, on := q.n, oid := q.id, ograv := q.grav, otext := q.text, invoked := 3 * (L.length : Int), took := 3 * (L.length : Int) + 1, rank := 0, answered := 3 * (L.length : Int) + 2, steps := 2, err := r.err, rev := r.rev, rslot := r.slot, rat := r.at_, rgrav := r.grav, rtext := r.text, mb := r.m1, mr := r.m2, ml := r.m3, ik := 0, ifrom := 0, ito := 0, ps := [], da := none, dc := 0 }) rfl (by rw [callL_len]) (cells_new0 _ _ _) (ones_call _) (by unfold maxLen; omega) (by omega) (by simp; omega) ?_; intro v7 w7 hO7 hg7 _; have hg7' : w7.heap[G]? = some (.cells (cntS N L).toArray tInt (0, 0)) := (hg7.block G (by simp; omega) (fun e => by have := (ho5.lt G e.symm).1; omega)).trans ((heap_alloc_old _ _ (by omega)).trans hg5); have hc7 := (blk_cell hg7' 0).trans hca; have hbw7 : Below w.heap.size w w7 := (hbw5.alloc hbw5.size _).grown hg7 (by simp; have := hbw5.size; omega) (fun j hj => by have := (ho5.lt j hj).1; omega); have hl7 := Hlo.out _ hbw7)); refine hK.out _ _ ?_ (fun hHeld => ?_); (· (first | exact ⟨hcn, hl9⟩ | exact ⟨hcnd, hl9d⟩ | exact ⟨hc7, hl7⟩ | exact ⟨hc6, hl6⟩ | exact ⟨hc5, hl5⟩)); clear hK K; (try simp only [nSO]))
       (refine np_n ?_ ?_ ?_; rotate_left 1; (· (intro w hSw; (try dsimp only at hSw); go_simp; all_goals with_reducible rfl)); (try simp only [nSO]))
       refine wpAnyH_done (by kernel_rfl) ?_ _
       refine NoPanic.normal ?_
       have f7 := blk_frozen hg7' 0
       have m6 := hM5.on hba
       rw [← Hx.out] at hO7
       have m7 := m6.fr (frs_grown (ho5.alloc _) hg7 (by omega) (by simp; omega))
       have m8 := m7.fr (frs_set (p := ⟨G, 0, none⟩) hn1 hg7' (.inr rfl) (.int .i64 (cn + 1)))
       have h8 := blk_set hg7' 0 (.int .i64 (cn + 1))
       rw [Hset.out] at h8
       have o8 : (w7.setCell ⟨G, 0, none⟩ (.int .i64 (cn + 1))).ownsRow (G + 1) 56 27 v7 (L.length + 1) (callsL L ++ callL x) := own_keepB hO7 (fun j hj => setCell_ne _ _ _ _ (by simp; omega))
       have s8 : G + 1 ≤ (w7.setCell ⟨G, 0, none⟩ (.int .i64 (cn + 1))).heap.size := by rw [setCell_size]; have := hg7.size; simp at this; omega
       clear hO7 hg7 hM5 hfr5 ho5 m6 m7 hg5 hHeld
       go_wp2_with fail
       go_roundw
       case rel =>
        have el : (L ++ [x]).length = L.length + 1 := by simp
        exact ⟨L ++ [x], by rw [el]; go_num, by omega, by omega, ⟨by rw [el, Hend.out]; push_cast; exact m8, h8, by rw [el, callsL_snoc]; exact o8, HrunL.out, fun y hy => by
         rcases List.mem_append.1 hy with hy | hy
         ·exact HS.out.ok y hy
         ·rw [List.mem_singleton.1 hy]; exact ⟨Hmk.out, Hxp.out, by rw [Hxo.out]; exact Hqi.out⟩, hn1, by omega, s8⟩⟩
       case measure => simp [intOf]; omega
     ·have hres : SeqPost w C (.returned (.tuple #[u10, .bool true])) wr := .inr ⟨u10, L, rfl, hS.run, hk20, hS.ok, own_base hS.out (by omega), hBw⟩
      have Hres := Lib.hid hres
      clear hres hS hbx hc2 hBX
      go_wp2_with fail
      go_returns
      exact Hres.out
    ·have hres : SeqPost w C (.returned (.tuple #[u10, .bool true])) wr := .inr ⟨u10, L, rfl, hS.run, hk20, hS.ok, own_base hS.out (by omega), hBw⟩
     have Hres := Lib.hid hres
     clear hres hS hbx hc2 hBX
     go_wp2_with fail
     go_returns
     exact Hres.out
end Go.Proofs.YtdeiocppghhfdaaGreat.Lin
namespace Go.Proofs.YtdeiocppghhfdaaGreat.Lin
open Go.RowKit Go.Lib Go.Shelf
open Hs
open KitI (iv IRow own_below infoI)
attribute [local go_sem, local simp] Hs.callL_0 Hs.callL_1 Hs.callL_2 Hs.callL_3 Hs.callL_4 Hs.callL_5 Hs.callL_6 Hs.callL_7 Hs.callL_8 Hs.callL_9 Hs.callL_10 Hs.callL_11 Hs.callL_12 Hs.callL_13 Hs.callL_14 Hs.callL_15 Hs.callL_16 Hs.callL_17 Hs.callL_18 Hs.callL_19 Hs.callL_20 Hs.callL_21 Hs.callL_22 Hs.callL_23 Hs.callL_24 Hs.callL_25 Hs.callL_26 Hs.resL_0 Hs.resL_1 Hs.resL_2 Hs.resL_3 Hs.resL_4 Hs.resL_5 Hs.resL_6 Hs.resL_7 Hs.resL_8 Hs.resL_9 Hs.resL_10 Hs.resL_11 Hs.resL_12 Hs.callG_0 Hs.callG_1 Hs.callG_2 Hs.callG_3 Hs.callG_4 Hs.callG_5 Hs.callG_6 Hs.callG_7 Hs.callG_8 Hs.callG_9 Hs.callG_10 Hs.callG_11 Hs.callG_12 Hs.callG_13 Hs.callG_14 Hs.callG_15 Hs.callG_16 Hs.callG_17 Hs.callG_18 Hs.callG_19 Hs.callG_20 Hs.callG_21 Hs.callG_22 Hs.callG_23 Hs.callG_24 Hs.callG_25 Hs.callG_26 Hs.resG_0 Hs.resG_1 Hs.resG_2 Hs.resG_3 Hs.resG_4 Hs.resG_5 Hs.resG_6 Hs.resG_7 Hs.resG_8 Hs.resG_9 Hs.resG_10 Hs.resG_11 Hs.resG_12 Hs.callL_len Hs.resL_len
attribute [local go_sem ↓] Hs.loadCall_eq Hs.loadRes_eq
attribute [local go_sem] Hs.ld_new Hs.ld_first Hs.ld_second Hs.ldr_new Hs.st_new
attribute [local go_sem ↓] loadCfg_eq loadOp_eq
attribute [local go_sem, local simp] cfgL_len cfgL_ne
theorem callsL_putR : ∀ (cs : List CallV) (i : Nat) (c d : CallV) (tl rs : List Value), cs[i]? = some c → rs.length = 13 → (callL c).take 14 ++ rs = callL d → (callsL cs ++ tl).take (i * 27 + 14) ++ rs ++ (callsL cs ++ tl).drop (i * 27 + 27) = callsL (cs.set i d) ++ tl
 | [], i, c, d, tl, rs, h, _, _ => by simp at h
 | e :: cs, 0, c, d, tl, rs, h, hr, hd => by
  simp at h
  subst h
  have e1 : callsL (e :: cs) ++ tl = callL e ++ (callsL cs ++ tl) := by rw [callsL_cons, List.append_assoc]
  have e2 : (callL e ++ (callsL cs ++ tl)).take 14 = (callL e).take 14 := List.take_append_of_le_length (by rw [callL_len]; omega)
  have e3 : (callL e ++ (callsL cs ++ tl)).drop 27 = callsL cs ++ tl := List.drop_left' (callL_len e)
  rw [e1, List.set_cons_zero, Nat.zero_mul, Nat.zero_add, Nat.zero_add, e2, e3, hd, callsL_cons, List.append_assoc]
 | e :: cs, i + 1, c, d, tl, rs, h, hr, hd => by
  have ih := callsL_putR cs i c d tl rs (by simpa using h) hr hd
  rw [callsL_cons, List.set_cons_succ, callsL_cons, List.append_assoc, List.append_assoc]
  have e1 : (i + 1) * 27 + 14 = (callL e).length + (i * 27 + 14) := by rw [callL_len]; omega
  have e2 : (i + 1) * 27 + 27 = (callL e).length + (i * 27 + 27) := by rw [callL_len]; omega
  rw [e2, e1, List.take_length_add_append, List.drop_length_add_append, List.append_assoc, List.append_assoc, ← ih, List.append_assoc]
def otC (q : CallV) (a : OtV) : CallV := { q with err := a.r.err, rev := a.r.rev, rslot := a.r.slot, rat := a.r.at_, rgrav := a.r.grav, rtext := a.r.text, mb := a.r.m1, mr := a.r.m2, ml := a.r.m3, ik := a.i.k, ifrom := a.i.f, ito := a.i.t, ps := List.replicate a.i.dn ⟨0, 0, ⟨#[]⟩⟩, da := a.i.da, dc := a.i.dc }
def otR (a : OtV) : List Value := [.int .i64 a.r.err, .int .i64 a.r.rev, .int .i64 a.r.slot, .int .i64 a.r.at_, .int .u8 a.r.grav, .string a.r.text, .int .i64 a.r.m1, .int .i64 a.r.m2, .int .i64 a.r.m3, .int .u8 a.i.k, .int .i64 a.i.f, .int .i64 a.i.t, .slice a.i.da a.i.dn a.i.dc]
theorem otR_len (a : OtV) : (otR a).length = 13 := rfl
theorem otC_len (q : CallV) (a : OtV) : (otC q a).ps.length = a.i.dn := List.length_replicate ..
theorem otC_cells (q : CallV) (a : OtV) : (callL q).take 14 ++ otR a = callL (otC q a) := by
 have h := otC_len q a
 unfold callL
 rw [h]
 rfl
theorem otC_res (q : CallV) (a : OtV) : otR a = Hs.resL (otC q a) := by
 have h := otC_len q a
 unfold Hs.resL
 rw [h]
 rfl
theorem otC_ok {q : CallV} (a : OtV) (h : q.Ok) : (otC q a).Ok := ⟨h.i0, h.i1, h.a0, h.a1, h.s0, h.s1, h.t0, h.t1, h.r0, h.r1, h.kd, h.id, h.gr, h.sl, h.at_, h.nn⟩
theorem KW.putR {w1 W : World} {g cap : Nat} {cs : List CallV} (h : KW w1 W g cap cs) {i : Nat} {c : CallV} (hc : cs[i]? = some c) (a : OtV) :
  ∃ W', (storeCells ⟨g, i * 27 + 14, none⟩ (otR a)).run Tryz.prog W = .ok () W' ∧ KW w1 W' g cap (cs.set i (otC c a)) ∧ (∀ k, k ≠ g → W'.heap[k]? = W.heap[k]?) ∧ (∀ B, B ≤ g → Below B W W') := by
 obtain ⟨tl, ht⟩ := h.blk
 have hlt := (List.getElem?_eq_some_iff.1 hc).1
 have hrun := run_storeCells_at (P := Tryz.prog) g (i * 27 + 14) 56 (otR a) 0 (callsL cs ++ tl).toArray W ht (by rw [otR_len]; simp [callsL_len]; omega) (by simp [otR, Value.oneCell'])
 have e : (callsL cs ++ tl).toArray.toList = callsL cs ++ tl := rfl
 rw [otR_len, Nat.add_zero, e, show i * 27 + 14 + 13 = i * 27 + 27 by omega, callsL_putR cs i c (otC c a) tl (otR a) hc (otR_len a) (otC_cells c a)] at hrun
 have hb : ∀ B, B ≤ g → Below B W (W.setRow g (callsL (cs.set i (otC c a)) ++ tl).toArray) := fun B hB => below_row (Below.refl _ _) hB _
 exact ⟨_, hrun, ⟨⟨tl, setRow_heap _ _ _ _ _ _ ht⟩, h.bl.trans (hb _ h.ge), h.ge, by rw [List.length_set]; exact h.cap⟩, fun k hk => setRow_other _ _ _ _ hk, hb⟩
theorem mo_accb {n : Nat} {w0 W : World} {b : Nat} {st : MS} {K : Int} (h : MoAt n w0 W b st K) (hK : K ≤ 100000) {c : CallV} {L : List Value} (hc : c.Ok) (hd : c.ps.length ≤ maxLen) (hL : L = Hs.resL c) :
  Calls Tryz.prog 53 #[.pointer (some ⟨b, 0, none⟩), .int .i64 c.thread, .agg (opL c).toArray, .agg L.toArray] W fun e W' => e = .returned (.bool (accS st c.thread (opV c) (resV c) (itV c)).1) ∧ FrT MTy n W W' := by
 subst hL
 obtain ⟨M, h1, h2, rfl⟩ := h.m
 refine (accept_any b c.thread M (opV c) (resV c) (itV c) W h1 (h.ok.mono hK) (ok_op hc) hd).mono ?_
 rintro e W' ⟨rfl, M', hM, hst, hk, hf2⟩
 exact ⟨rfl, frm_keep h1 hk h2 h.le⟩
theorem mo_text {n : Nat} {w0 W : World} {b : Nat} {st : MS} {K : Int} (h : MoAt n w0 W b st K) : Calls Tryz.prog 51 #[.pointer (some ⟨b, 0, none⟩)] W fun e W' => e = .returned (.string st.text) ∧ W = W' := by
 obtain ⟨M, h1, h2, rfl⟩ := h.m
 exact text_any b M W h1
structure WsW (w : World) (C : CfgV) (a : OtV) (p : Option Addr) (cap : Nat) (L : List CallV) (W : World) : Prop where
 bl : Below w.heap.size w W
 bc : W.heap[w.heap.size]? = some (.cells (cfgL C).toArray tCfg (0, 0))
 bo : W.heap[w.heap.size + 1]? = some (.cells (otL a).toArray 78 (0, 0))
 row : CRow W p cap L
theorem WsW.on {w W W' : World} {C : CfgV} {a : OtV} {p : Option Addr} {cap : Nat} {L : List CallV} (h : WsW w C a p cap L W) (hb : Below W.heap.size W W') : WsW w C a p cap L W' :=
 ⟨h.bl.trans (hb.mono h.bl.size), blk_below h.bc hb (Array.getElem?_eq_some_iff.1 h.bc).1, blk_below h.bo hb (Array.getElem?_eq_some_iff.1 h.bo).1, h.row.on hb⟩
theorem new_mo {X w1 : World} {C : CfgV} {bm : Nat} {M : MM} (he : cfgE C = 0) (hM : MdAt w1 bm M) (hst : M.st = newS C) (hb : Below X.heap.size X w1) (hfp : ∀ k, M.fp bm k → X.heap.size ≤ k) : MoAt X.heap.size X w1 bm (newS C) 0 :=
 ⟨⟨M, hM, hfp, hst⟩, newS_ok he, hb, hb.size⟩
def DoRel (X : World) (bm : Nat) (C : CfgV) (L : List CallV) (m : Nat) (i : Value) (wr : World) : Prop := ∃ k : Nat, i = .int .i64 k ∧ k ≤ m ∧ MoAt X.heap.size X wr bm (stS C L k) k
theorem ld_otR {W : World} {b : Nat} {a : OtV} (h : W.heap[b]? = some (.cells (otL a).toArray 78 (0, 0))) : (loadRes (.pointer (some ⟨b, 2, none⟩))).run Tryz.prog W = .ok (.agg (otR a).toArray) W :=
 run_loadAt_mid W b 2 51 (otR a) _ (fun j v hv => by
  have hlt := (List.getElem?_eq_some_iff.1 hv).1
  rw [otR_len] at hlt
  rw [blk_cell h]
  have e : otL a = [.slice a.wp a.who.length a.wc, .int .i64 a.which] ++ otR a := rfl
  rw [e, List.getElem?_append_right (by simp), show 2 + j - [Value.slice a.wp a.who.length a.wc, .int .i64 a.which].length = j from by simp]
  exact hv) Tryz.underlying51 rfl (by kernel_rfl)
theorem seq_set {L : List CallV} {k : Nat} {q : CallV} (h : SeqT L) (hk : L[k]? = some q) (a : OtV) : SeqT (L.set k (otC q a)) ∧ ∀ i, i ≠ k → getC (L.set k (otC q a)) i = getC L i := by
 have hlt := (List.getElem?_eq_some_iff.1 hk).1
 have hne : ∀ i, i ≠ k → getC (L.set k (otC q a)) i = getC L i := fun i hi => by
  unfold getC
  rw [List.getD_eq_getElem?_getD, List.getD_eq_getElem?_getD, List.getElem?_set_ne (fun e => hi e.symm)]
 have hkk : getC (L.set k (otC q a)) k = otC q a := getC_at (by rw [List.getElem?_set_self hlt])
 have hq : getC L k = q := getC_at hk
 have hth : ∀ t j, (thF t ((L.set k (otC q a)).take j)).length = (thF t (L.take j)).length := fun t j => by
  have e : ((L.set k (otC q a)).take j).map CallV.thread = (L.take j).map CallV.thread := by
   apply List.ext_getElem?
   intro i
   rw [List.getElem?_map, List.getElem?_map, List.getElem?_take, List.getElem?_take]
   split
   ·by_cases e : i = k
    ·subst e; rw [List.getElem?_set_self hlt, hk]; rfl
    ·rw [List.getElem?_set_ne (fun h => e h.symm)]
   ·rfl
  have e2 : ∀ l : List CallV, (thF t l).length = ((l.map CallV.thread).filter fun x => decide (x = t)).length := fun l => by
   unfold thF
   rw [List.filter_map, List.length_map]
   rfl
  rw [e2, e2, e]
 have hl : (L.set k (otC q a)).length = L.length := List.length_set ..
 refine ⟨⟨fun i hi => ?_, fun i hi => ?_, fun i hi => ?_⟩, hne⟩
 all_goals rw [hl] at hi
 ·by_cases e : i = k
  ·subst e; rw [hkk]; have := h.th i hi; rw [hq] at this; exact this
  ·rw [hne i e]; exact h.th i hi
 ·rw [hth]
  by_cases e : i = k
  ·subst e; rw [hkk]; have := h.ix i hi; rw [hq] at this; exact this
  ·rw [hne i e]; exact h.ix i hi
 ·by_cases e : i = k
  ·subst e; rw [hkk]; have := h.nv i hi; rw [hq] at this; exact this
  ·rw [hne i e]; exact h.nv i hi
theorem otR_ne (a : OtV) : otR a ≠ [] := by simp [otR]
attribute [local go_sem, local simp] otR_len otR_ne
attribute [local irreducible] cfgL oqL rsL callL otL otR
theorem walkWitnessSequential (c : CfgV) (po : Option Addr) (co : Nat) (ops : List OpV) (a : OtV) (w : World) (hO : ArgOps w po ops) (hH : ArgI w a.wp a.who ∧ a.who.length ≤ a.wc ∧ a.i.dn ≤ maxLen ∧ -9223372036854775808 ≤ a.which ∧ a.which ≤ 9223372036854775807) :
  Calls Tryz.prog 10 #[.agg (cfgL c).toArray, .slice po ops.length co, .agg (otL a).toArray] w fun e w' => e = .returned (.bool true) ∧ Below w.heap.size w w' := by
 obtain ⟨hW, hwl, hdn, hw0, hw1⟩ := hH
 have hB0 : Below w.heap.size w ((w.alloc (.cells (cfgL c).toArray tCfg)).alloc (.cells (otL a).toArray 78)) := below2 _ _ _
 have hz0 : ((w.alloc (.cells (cfgL c).toArray tCfg)).alloc (.cells (otL a).toArray 78)).heap[w.heap.size]? = some (.cells (cfgL c).toArray tCfg (0, 0)) := (heap_alloc_old _ _ (by simp)).trans (blk_new w (cfgL c) tCfg)
 have hy0 : ((w.alloc (.cells (cfgL c).toArray tCfg)).alloc (.cells (otL a).toArray 78)).heap[w.heap.size + 1]? = some (.cells (otL a).toArray 78 (0, 0)) := by
  have := blk_new (w.alloc (.cells (cfgL c).toArray tCfg)) (otL a) 78
  rwa [World.size_alloc] at this
 have hl0 := ld_cfg hz0
 go_enter Tryz.func10, Tryz.ntmps10
 go_wp2_with fail
 refine (small35_l c _).mono ?_
 generalize (w.alloc (.cells (cfgL c).toArray tCfg)).alloc (.cells (otL a).toArray 78) = w0 at *
 rintro e w1 ⟨rfl, hb1⟩
 have hz1 := blk_below hz0 hb1 (Array.getElem?_eq_some_iff.1 hz0).1
 have hy1 := blk_below hy0 hb1 (Array.getElem?_eq_some_iff.1 hy0).1
 have hs1 := st_cfg hz1 (by simp [cfgL_len]) (smallC 200 c)
 have hz2 := setRow_heap _ _ _ (cfgL (smallC 200 c)).toArray _ _ hz1
 have hy2 : (w1.setRow w.heap.size (cfgL (smallC 200 c)).toArray).heap[w.heap.size + 1]? = some (.cells (otL a).toArray 78 (0, 0)) := (setRow_other _ _ _ _ (by omega)).trans hy1
 have hB1 : Below w.heap.size w (w1.setRow w.heap.size (cfgL (smallC 200 c)).toArray) := below_row (hB0.trans (hb1.mono hB0.size)) (Nat.le_refl _) _
 clear hl0 hz0 hy0 hb1 hz1 hy1 hB0
 generalize smallC 200 c = C at *
 generalize hw2 : w1.setRow w.heap.size (cfgL C).toArray = w2 at *
 have HY := Lib.hid hy2
 have hld := ld_cfg hz2
 have c0 : w2.cell? ⟨w.heap.size + 1, 0, none⟩ = some (.slice a.wp a.who.length a.wc) := by rw [blk_cell hy2]; unfold otL; rfl
 have hsq := sequence_any C po co ops a.wp a.wc a.who w2 (hO.on hB1) (hW.on hB1)
 clear hO hW
 go_wp2_with fail
 refine hsq.mono ?_
 clear hsq hs1 hw2
 rintro e w3 (⟨rfl, hb⟩ | ⟨v, L, rfl, hrun, hl20, hLo, hown, hb⟩)
 ·have hB3 := hB1.trans (hb.mono hB1.size)
  go_wp2_with fail
  refine (awake35_any _).mono ?_
  rintro e wz ⟨rfl, hbz⟩
  go_wp2_with fail
  go_returns
  exact ⟨rfl, hB3.trans (hbz.mono hB3.size)⟩
 ·obtain ⟨p, cap, rfl⟩ := own_slice hown
  have hK := kw_of_own hown hb
  have hCr : CRow w3 p cap L := by
   obtain ⟨p', cap', e, h⟩ := crow_of_own hown
   injection e with e1 _ e2
   subst e1 e2
   exact h
  have hoks : ∀ x ∈ L, x.Ok := fun x hx => (hLo x hx).1
  have hps : ∀ x ∈ L, x.ps.length ≤ 1000000 := fun x hx => by rw [(hLo x hx).2.1]; simp
  have hL3 : WsW w C a p cap L w3 := ⟨hB1.trans (hb.mono hB1.size), blk_below hz2 hb (Array.getElem?_eq_some_iff.1 hz2).1, blk_below hy2 hb (Array.getElem?_eq_some_iff.1 hy2).1, hCr⟩
  obtain ⟨q1, q2, q3⟩ := hrun.perf
  have q4 := hrun.snaps
  have hck := witcheck_any C p cap L w3 hCr (by omega) hoks hps
  have hsn := fun W (h : WsW w C a p cap L W) => snapshots_any C p cap L W h.row (by omega) hoks hps
  have hfn := fun W (h : WsW w C a p cap L W) => final_any C p cap L W h.row (by omega) hoks hps
  have hnw := fun W => new_any C W
  unfold FinPost at hfn
  rw [q1, cfg_v] at hck
  simp only [q4, cfg_v] at hsn
  simp only [q1, q2, cfg_v] at hfn
  simp only [cfg_v] at hnw
  have hld := ld_cfg hL3.bc
  clear hCr hb hB1 hz2 hy2 c0 q1 q2 q3 q4 hown
  have hcfg := hrun.cfg
  go_wp2_with fail
  refine hck.mono ?_
  clear hck
  rintro e w4 ⟨rfl, hb4⟩
  have hL4 := hL3.on hb4
  have hld := ld_cfg hL4.bc
  go_wp2_with fail
  refine (hsn _ hL4).mono ?_
  clear hsn
  rintro e w5 ⟨rfl, hb5⟩
  have hL5 := hL4.on hb5
  have hld := ld_cfg hL5.bc
  go_wp2_with fail
  refine (hfn _ hL5).mono ?_
  clear hfn
  rintro e w6 (⟨h, _⟩ | ⟨_, vm, rfl, _, hb6⟩)
  ·exact absurd rfl h
  have hL6 := hL5.on hb6
  have hld := ld_cfg hL6.bc
  have hb36 := hb4.trans ((hb5.trans (hb6.mono hb5.size)).mono hb4.size)
  clear hb4 hb5 hb6 hL3 hL4 hL5
  go_wp2_with fail
  refine (hnw _).mono ?_
  rintro e w7 (⟨h, _⟩ | ⟨_, bm, M, rfl, hM, hst, hb7, hfp⟩)
  ·exact absurd hcfg h
  have hMo := new_mo hcfg hM hst hb7 hfp
  have hCf := fun W (hb : Below w6.heap.size w6 W) => hL6.row.on hb
  have HMo := Lib.hid hMo
  clear hM hst hfp hMo
  go_wp2_with fail
  go_loopw [19] (fun i wr => DoRel w6 bm C L L.length i wr) (fun i wr => L.length - (intOf i).toNat)
  case atStart => exact ⟨0, rfl, Nat.zero_le _, HMo.out⟩
  case round =>
   clear HMo
   obtain ⟨k, rfl, hk, hMo⟩ := hrel
   by_cases hlt : k < L.length
   ·have hkl : k < L.length := by omega
    have hC1 := hCf _ hMo.bl
    obtain ⟨bq, off, hpe, hcap, hbq, hA⟩ := crow_at hC1 (by omega)
    have hSk := fun W (hb : Below w6.heap.size w6 W) => (show W.cell? ⟨bq, off + k * 27, none⟩ = some (.int .i64 (getC L k).thread) ∧ (loadOp (.pointer (some ⟨bq, off + k * 27 + 2, none⟩))).run Tryz.prog W = .ok (.agg (opL (getC L k)).toArray) W from by
     have hA := crow_get (by rw [← hpe]; exact hCf W hb)
     have h0 := hA.cell (getC_some hkl) 0 (by omega)
     rw [callL_0, Nat.add_zero] at h0
     have h1 := ldo_at hA (getC_some hkl)
     exact ⟨h0, h1⟩)
    have hdo := mo_do (hMo.on (Below.refl _ _).drew) (by omega) (hoks _ (List.mem_of_getElem? (getC_some hkl)))
    have hst : stS C L (k + 1) = (doS (stS C L k) (getC L k).thread (opV (getC L k))).2 := rfl
    rw [← hst] at hdo
    clear hst hA hC1
    generalize getC L k = q at *
    cases hpe
    have hd1 := hMo.bl.drew
    have hMb := hMo.bl
    have ekl : (k : Int) < (L.length : Int) := by omega
    have ekm : (k : Int) < (L.length : Int) := by omega
    go_wp2_with fail
    refine wp_region_noPanic ?_
    refine wp_region_held_drew (S := fun W => W.cell? ⟨bq, off + k * 27, none⟩ = some (.int .i64 q.thread) ∧ (loadOp (.pointer (some ⟨bq, off + k * 27 + 2, none⟩))).run Tryz.prog W = .ok (.agg (opL q).toArray) W) (by kernel_rfl) ?_ (fun hHeld => ?_)
    ·first | exact hSk _ hMb | exact hSk _ hd1 | exact hSk _ hb5
    iterate 11 (((first | refine np_n ?_ ?_ ?_ | refine np_t 0 ?_ ?_ ?_); rotate_left 1; (· (intro w hSw; (try dsimp only at hSw); go_simp; all_goals with_reducible rfl)); (try simp only [nSO])))
    (refine np_step (i := 11) rfl (by kernel_rfl) (fun K hK => ?_); rw [if_pos (by rfl)]; go_simp; ((go_at_call 50; refine hdo.mono ?_; rintro e w5 ⟨v5, rfl, hM5, -, -⟩; have hb5 := hM5.bl)); (try go_wp2_with fail); refine hK.out _ _ ?_ (fun hHeld => ?_); (· (first | exact hSk _ hMb | exact hSk _ hd1 | exact hSk _ hb5)); clear hK K; (try simp only [nSO]))
    refine wpAnyH_done (by kernel_rfl) ?_ _
    refine NoPanic.normal ?_
    go_wp2_with fail
    go_roundw
    case rel => exact ⟨k + 1, by go_num, by omega, by push_cast; exact hM5⟩
    case measure => simp [intOf]; omega
   ·have hkk : k = L.length := by omega
    subst hkk
    have htx := mo_text hMo
    have hnm := mo_num hMo
    have hL7 := hL6.on hMo.bl
    have hb37 := hb36.trans (hMo.bl.mono hb36.size)
    clear hMo hb36 hb7 hL6
    generalize (stS C L L.length).text = tx at *
    generalize (stS C L L.length).number = nu at *
    have hB9 := hL7.bl
    by_cases hn0 : L.length = 0
    ·have d0 : ((L.length : Int) == 0) = true := by rw [hn0]; rfl
     clear hL7 hK
     go_wp2_with (first | (go_at_call 51; refine htx.mono ?_; rintro e w8 ⟨rfl, rfl⟩) | (go_at_call 52; refine hnm.mono ?_; rintro e w9 ⟨rfl, rfl⟩))
     refine (awake35_any _).mono ?_
     rintro e wz ⟨rfl, hbz⟩
     go_wp2_with fail
     go_returns
     exact ⟨rfl, hB9.trans (hbz.mono hB9.size)⟩
    have d0 : ((L.length : Int) == 0) = false := by simpa using hn0
    clear hB9
    rcases hK with ⟨_, h, _⟩ | ⟨g, rfl, hK⟩
    ·rw [h] at hn0; exact absurd rfl hn0
    have hK7 := hK.on hb37
    clear hK hb37
    obtain ⟨m1, m2, kk, m3, m4⟩ := go_mod (C := L.length) (by omega) a.which
    obtain ⟨q, hq⟩ : ∃ q, L[kk]? = some q := ⟨_, List.getElem?_eq_getElem m4⟩
    have c1 : wr.cell? ⟨w.heap.size + 1, 1, none⟩ = some (.int .i64 a.which) := by rw [blk_cell hL7.bo]; unfold otL; rfl
    have ldR := ld_otR hL7.bo
    have i1 : IntKind.i64.wrap (a.which.tmod L.length) = a.which.tmod L.length := IntWalk.i64_in _ (by omega)
    have i2 : IntKind.i64.wrap (a.which.tmod L.length + L.length) = a.which.tmod L.length + L.length := IntWalk.i64_in _ (by omega)
    have i3 : IntKind.i64.wrap (kk : Int) = kk := IntWalk.i64_in _ (by omega)
    have hN0 : (L.length = 0) = False := propext ⟨fun h => hn0 h, False.elim⟩
    have hN1 : L ≠ [] := fun h => hn0 (by rw [h]; rfl)
    have hN2 : (L = []) = False := propext ⟨fun h => hN1 h, False.elim⟩
    have ekk : (kk : Int) < (L.length : Int) := by omega
    obtain ⟨w8, hst8, hK8, hoth, hbel⟩ := hK7.putR hq a
    have hsz : w.heap.size + 1 < w2.heap.size := (Array.getElem?_eq_some_iff.1 HY.out).1
    have hge := hK7.ge
    have hL8 : WsW w C a (some ⟨g, 0, none⟩) cap (L.set kk (otC q a)) w8 := ⟨hL7.bl.trans (hbel _ (by omega)), (hoth _ (by omega)).trans hL7.bc, (hoth _ (by omega)).trans hL7.bo, hK8.crow⟩
    obtain ⟨hseq, hne⟩ := seq_set hrun.seq hq a
    have hrep := replaced hrun m4 (List.length_set ..) hseq hne
    have hlen : (L.set kk (otC q a)).length = L.length := List.length_set ..
    have hgk : getC (L.set kk (otC q a)) kk = otC q a := getC_at (by rw [List.getElem?_set_self m4])
    have hqo := hoks q (List.mem_of_getElem? hq)
    have hoks2 : ∀ x ∈ L.set kk (otC q a), x.Ok := fun x hx => by
     rcases List.mem_or_eq_of_mem_set hx with h | h
     ·exact hoks x h
     ·rw [h]; exact otC_ok a hqo
    have hps2 : ∀ x ∈ L.set kk (otC q a), x.ps.length ≤ maxLen := fun x hx => by
     rcases List.mem_or_eq_of_mem_set hx with h | h
     ·exact ps_big hps x h
     ·rw [h, otC_len]; exact hdn
    have hse : ∀ i, i ≤ kk → stS C (L.set kk (otC q a)) i = stS C L i := by
     intro i
     induction i with
     | zero => intro _; rfl
     | succ i ih =>
      intro hi
      show (doS (stS C (L.set kk (otC q a)) i) _ _).2 = (doS (stS C L i) _ _).2
      rw [ih (by omega), hne i (by omega)]
    have hac : (accO (L.set kk (otC q a)) (stS C L kk) kk) = accS (stS C L kk) (otC q a).thread (opV (otC q a)) (resV (otC q a)) (itV (otC q a)) := by unfold accO; rw [hgk]
    rw [hac] at hrep
    have hck := fun W (h : WsW w C a (some ⟨g, 0, none⟩) cap (L.set kk (otC q a)) W) => witcheck_big C (some ⟨g, 0, none⟩) cap (L.set kk (otC q a)) W h.row (by omega) hoks2 hps2
    have hcc : otC q a ∈ L.set kk (otC q a) := List.mem_of_getElem? (by rw [List.getElem?_set_self m4])
    simp only [cfg_v, hlen] at hck
    generalize hLL : L.set kk (otC q a) = L' at *
    have HLL := Lib.hid hLL
    have Hrep := Lib.hid hrep
    have Hse := Lib.hid hse
    have Hgk := Lib.hid hgk
    have Hqo := Lib.hid hqo
    have Hck := Lib.hid hck
    have Hhd := Lib.hid hdn
    have hld := ld_cfg hL8.bc
    clear hac hne hseq hps2 hL7 hK7 hK8 hoth hbel hps hoks hLL hrep hse hgk hqo hck hcc hdn hLo hrun
    go_wp2_with (first | (go_at_call 51; refine htx.mono ?_; rintro e w8 ⟨rfl, rfl⟩) | (go_at_call 52; refine hnm.mono ?_; rintro e w9 ⟨rfl, rfl⟩))
    refine (hnw _).mono ?_
    clear hnw
    rintro e w10 (⟨h, _⟩ | ⟨_, bm, M, rfl, hM, hst, hb10, hfp⟩)
    ·exact absurd hcfg h
    have hMo := new_mo hcfg hM hst hb10 hfp
    have hCf := fun W (hb : Below w8.heap.size w8 W) => hL8.row.on hb
    have HMo := Lib.hid hMo
    clear hM hst hfp hMo
    go_wp2_with fail
    go_loopw [21] (fun i wr => DoRel w8 bm C L' kk i wr) (fun i wr => kk - (intOf i).toNat)
    case atStart => exact ⟨0, rfl, Nat.zero_le _, HMo.out⟩
    case round =>
     clear HMo
     obtain ⟨k, rfl, hk, hMo⟩ := hrel
     by_cases hlt : k < kk
     ·have hkl : k < L'.length := by omega
      have hSk := fun W (hb : Below w8.heap.size w8 W) => (show W.cell? ⟨g, k * 27, none⟩ = some (.int .i64 (getC L' k).thread) ∧ (loadOp (.pointer (some ⟨g, k * 27 + 2, none⟩))).run Tryz.prog W = .ok (.agg (opL (getC L' k)).toArray) W from by
       have hA := crow_get (hCf W hb)
       have h0 := hA.cell (getC_some hkl) 0 (by omega)
       rw [callL_0, Nat.zero_add, Nat.add_zero] at h0
       have h1 := ldo_at hA (getC_some hkl)
       rw [Nat.zero_add] at h1
       exact ⟨h0, h1⟩)
      have hdo := mo_do (hMo.on (Below.refl _ _).drew) (by omega) (hoks2 _ (List.mem_of_getElem? (getC_some hkl)))
      have hst : stS C L' (k + 1) = (doS (stS C L' k) (getC L' k).thread (opV (getC L' k))).2 := rfl
      rw [← hst] at hdo
      clear hst
      generalize getC L' k = q at *

      have hd1 := hMo.bl.drew
      have hMb := hMo.bl
      have ekl : (k : Int) < (L'.length : Int) := by omega
      have ekm : (k : Int) < (L.length : Int) := by omega
      go_wp2_with fail
      refine wp_region_noPanic ?_
      refine wp_region_held_drew (S := fun W => W.cell? ⟨g, k * 27, none⟩ = some (.int .i64 q.thread) ∧ (loadOp (.pointer (some ⟨g, k * 27 + 2, none⟩))).run Tryz.prog W = .ok (.agg (opL q).toArray) W) (by kernel_rfl) ?_ (fun hHeld => ?_)
      ·first | exact hSk _ hMb | exact hSk _ hd1 | exact hSk _ hb5
      iterate 11 (((first | refine np_n ?_ ?_ ?_ | refine np_t 0 ?_ ?_ ?_); rotate_left 1; (· (intro w hSw; (try dsimp only at hSw); go_simp; all_goals with_reducible rfl)); (try simp only [nSO])))
      (refine np_step (i := 11) rfl (by kernel_rfl) (fun K hK => ?_); rw [if_pos (by rfl)]; go_simp; ((go_at_call 50; refine hdo.mono ?_; rintro e w5 ⟨v5, rfl, hM5, -, -⟩; have hb5 := hM5.bl)); (try go_wp2_with fail); refine hK.out _ _ ?_ (fun hHeld => ?_); (· (first | exact hSk _ hMb | exact hSk _ hd1 | exact hSk _ hb5)); clear hK K; (try simp only [nSO]))
      refine wpAnyH_done (by kernel_rfl) ?_ _
      refine NoPanic.normal ?_
      go_wp2_with fail
      go_roundw
      case rel => exact ⟨k + 1, by go_num, by omega, by push_cast; exact hM5⟩
      case measure => simp [intOf]; omega
     ·have hkk : k = kk := by omega
      subst hkk
      have hkl : k < L'.length := by omega
      have hgk := Hgk.out
      rw [Hse.out k (Nat.le_refl _)] at hMo
      have hSk := fun W (hb : Below w8.heap.size w8 W) => (show W.cell? ⟨g, k * 27, none⟩ = some (.int .i64 (otC q a).thread) ∧ (loadOp (.pointer (some ⟨g, k * 27 + 2, none⟩))).run Tryz.prog W = .ok (.agg (opL (otC q a)).toArray) W ∧ (loadRes (.pointer (some ⟨w.heap.size + 1, 2, none⟩))).run Tryz.prog W = .ok (.agg (otR a).toArray) W from by
       have hA := crow_get (hCf W hb)
       have h0 := hA.cell (getC_some hkl) 0 (by omega)
       have h1 := ldo_at hA (getC_some hkl)
       rw [callL_0, Nat.add_zero, Nat.zero_add, hgk] at h0
       rw [Nat.zero_add, hgk] at h1
       exact ⟨h0, h1, ld_otR (hL8.on hb).bo⟩)
      have hacc := mo_accb (hMo.on (Below.refl _ _).drew) (by omega) (otC_ok a Hqo.out) (by rw [otC_len]; exact Hhd.out) (otC_res q a)
      have hd1 := hMo.bl.drew
      have hMb := hMo.bl
      have hle := hMo.le
      have hrep := Hrep.out
      clear hMo hgk Hgk Hrep
      generalize otC q a = q' at *
      generalize (accS (stS C L k) q'.thread (opV q') (resV q') (itV q')).1 = al at *
      have Hrep := Lib.hid hrep
      clear hrep
      have ek : (k : Int) < (L'.length : Int) := by omega
      go_wp2_with fail
      refine wp_region_noPanic ?_
      refine wp_region_held_drew (S := fun W => W.cell? ⟨g, k * 27, none⟩ = some (.int .i64 q'.thread) ∧ (loadOp (.pointer (some ⟨g, k * 27 + 2, none⟩))).run Tryz.prog W = .ok (.agg (opL q').toArray) W ∧ (loadRes (.pointer (some ⟨w.heap.size + 1, 2, none⟩))).run Tryz.prog W = .ok (.agg (otR a).toArray) W) (by kernel_rfl) ?_ (fun hHeld => ?_)
      ·first | exact hSk _ hMb | exact hSk _ hd1 | exact hSk _ hb11
      iterate 13 (((first | refine np_n ?_ ?_ ?_ | refine np_t 0 ?_ ?_ ?_); rotate_left 1; (· (intro w hSw; (try dsimp only at hSw); go_simp; all_goals with_reducible rfl)); (try simp only [nSO])))
      (refine np_step (i := 13) rfl (by kernel_rfl) (fun K hK => ?_); rw [if_pos (by rfl)]; go_simp; ((go_at_call 53; refine hacc.mono ?_; rintro e w11 ⟨rfl, hfr⟩; have hb11 := hd1.trans hfr.bl)); (try go_wp2_with fail); refine hK.out _ _ ?_ (fun hHeld => ?_); (· (first | exact hSk _ hMb | exact hSk _ hd1 | exact hSk _ hb11)); clear hK K; (try simp only [nSO]))
      (refine np_n ?_ ?_ ?_; rotate_left 1; (· (intro w hSw; (try dsimp only at hSw); go_simp; all_goals with_reducible rfl)); (try simp only [nSO]))
      refine wpAnyH_done (by kernel_rfl) ?_ _
      refine NoPanic.normal ?_
      have hL11 := hL8.on hb11
      have hck2 := Hck.out _ hL11
      have hrep := Hrep.out
      have hld := ld_cfg hL11.bc
      clear hacc hSk hL8 hCf hHeld
      generalize perfC C L' = pf at *
      obtain ⟨x1, x2⟩ := pf
      dsimp only at hrep hck2
      go_wp2_with fail
      refine hck2.mono ?_
      rintro e w12 ⟨rfl, hb12⟩
      have hB12 := hL11.bl.trans (hb12.mono hL11.bl.size)
      clear hck2 hL11
      cases al with
      | true =>
       rcases hrep.1 rfl with h2 | ⟨h2, h3⟩
       ·subst h2
        clear hrep
        go_wp2_with fail
        refine (awake35_any _).mono ?_
        rintro e wz ⟨rfl, hbz⟩
        go_wp2_with fail
        go_returns
        exact ⟨rfl, hB12.trans (hbz.mono hB12.size)⟩
       ·subst h2
        have d3 : decide ((k : Int) < x1) = true := decide_eq_true h3
        clear hrep
        go_wp2_with fail
        refine (awake35_any _).mono ?_
        rintro e wz ⟨rfl, hbz⟩
        go_wp2_with fail
        go_returns
        exact ⟨rfl, hB12.trans (hbz.mono hB12.size)⟩
      | false =>
       have h2 := hrep.2 rfl
       injection h2 with h2 h3
       subst h2 h3
       clear hrep
       go_wp2_with fail
       refine (awake35_any _).mono ?_
       rintro e wz ⟨rfl, hbz⟩
       go_wp2_with fail
       go_returns
       exact ⟨rfl, hB12.trans (hbz.mono hB12.size)⟩
end Go.Proofs.YtdeiocppghhfdaaGreat.Lin
namespace Go.Proofs.YtdeiocppghhfdaaGreat.witnessSequential
open Go.ChangeShapes Go.WideShapes Go.ChangeAt Go.RowKit
open Go.ChangeMaps (open_string shut_string)
open Lin Hs
set_option linter.unusedVariables false
theorem lifted (os : Os) (started : os.Started) (H : Type) (enc : TypeId × Value → H) :
    ReturnsInHanded {} Tryz.checked os 10 .any (Rows.witnessSequentialSpec.pre6 enc Tryz.prog Tryz.f10 Rows.witnessSequentialRow.domain false) (Rows.witnessSequentialSpec.post enc Tryz.prog Tryz.f10 false true false false) := by
  refine returnsInHanded_of_change_sized (C := Tryz.checked) own started (by kernel_rfl) Tryz.func10
    (ChangeSpec.witness6 (enc := enc) (C := Tryz.checked) false ⟨#[], #[.agg #[.int .i64 0, .int .u64 0, .int .i64 0, .int .i64 0, .int .i64 0, .int .i64 0, .int .i64 0, .string ⟨#[]⟩], .slice none 0 0, .agg #[.slice none 0 0, .int .i64 0, .int .i64 0, .int .i64 0, .int .i64 0, .int .i64 0, .int .u8 0, .string ⟨#[]⟩, .int .i64 0, .int .i64 0, .int .i64 0, .int .u8 0, .int .i64 0, .int .i64 0, .slice none 0 0]], []⟩ 8 (by kernel_rfl) (by kernel_rfl) (by kernel_rfl) (by kernel_rfl)) ?_
  intro W base args ds gs before hval0 hW hcnd hsz0 _
  have hval : ∀ (j : Nat) t v, Tryz.f10.params[j]? = some t → args[j]? = some v → Value.okWide Tryz.prog W .any base t v := hval0
  have hW' := hW
  obtain ⟨p, q, hA0, hV, rfl, hfz, hnd⟩ := hW
  have hA : DataW.TrodAll enc Tryz.prog W 0 (fun _ => true) true Tryz.f10.params.toList args.toList ds p := hA0
  rw [Tryz.params10] at hA hval
  obtain ⟨v0, vs0, d0, ds0, p0, q0, hargs, rfl, rfl, h0, r0⟩ := trodAll_cons hA
  obtain ⟨v1, vs1, d1, ds1, p1, q1, rfl, rfl, rfl, h1, r1⟩ := trodAll_cons r0
  obtain ⟨v2, vs2, d2, ds2, p2, q2, rfl, rfl, rfl, h2, r2⟩ := trodAll_cons r1
  obtain ⟨rfl, rfl, rfl⟩ := trodAll_nil r2
  obtain rfl : args = #[v0, v1, v2] := by cases args; simp_all
  obtain ⟨rfl, rfl⟩ := trodVars_none hV
  obtain ⟨c0, rfl⟩ := open_cfg (hval 0 24 v0 rfl rfl) h0
  obtain ⟨q1, c1, l1, rfl, w1⟩ := open_ops (hval 1 76 v1 rfl rfl) h1
  obtain ⟨a2, rfl, w2⟩ := open_other (hval 2 78 v2 rfl rfl) h2
  clear hA0 hval0
  (try simp only [List.append_nil, List.nil_append] at hW')
  refine (walkWitnessSequential c0 q1 c1 l1 a2 W w1 w2).mono fun e W' ⟨he, hg⟩ => ?_
  subst he
  have hlt0 : ∀ x ∈ p0, x.block < W.heap.size := fun x hx => hW'.lt x (by simp [hx])
  have hlt1 : ∀ x ∈ p1, x.block < W.heap.size := fun x hx => hW'.lt x (by simp [hx])
  have hlt2 : ∀ x ∈ p2, x.block < W.heap.size := fun x hx => hW'.lt x (by simp [hx])
  exact ⟨_, rfl, post_of_below (pa := (p0 ++ (p1 ++ (p2 ++ [])))) (pv := []) hW' (fun _ _ _ => (trodAll_cons_mk (shut_bool Tryz.underlying4 _) trodAll_mk0)) (fun sp hsp => (trodAll_cons_mk (WideElems.Trod_stays (by kernel_rfl) (by kernel_rfl) (of_decide_eq_true (by kernel_rfl)) h0 (fun x hx => hg.same (hlt0 x hx)) (fun x hx => hsp x (by simp [hx]))) (trodAll_cons_mk (WideElems.Trod_stays (by kernel_rfl) (by kernel_rfl) (of_decide_eq_true (by kernel_rfl)) h1 (fun x hx => hg.same (hlt1 x hx)) (fun x hx => hsp x (by simp [hx]))) (trodAll_cons_mk (WideElems.Trod_stays (by kernel_rfl) (by kernel_rfl) (of_decide_eq_true (by kernel_rfl)) h2 (fun x hx => hg.same (hlt2 x hx)) (fun x hx => hsp x (by simp [hx]))) trodAll_mk0)))) (fun _ _ => rfl) (by simp)
    hg (ok_one (by kernel_rfl) rfl (okWide_bool_mk Tryz.underlying4 _))⟩
theorem facts : joinedFacts Tryz.prog 10 Tryz.f10 Rows.witnessSequentialSpec Rows.witnessSequentialRow = true := by
  unfold joinedFacts
  simp only [Bool.and_eq_true]
  repeat' apply And.intro
  all_goals (as_aux_lemma => kernel_rfl)
theorem proved : Rows.WitnessSequentialSaid :=
  OpenClaim.holds_of_wide 10 Tryz.f10 rfl rfl rfl rfl rfl rfl rfl ⟨rfl, rfl, rfl, rfl, rfl⟩ rfl rfl rfl rfl rfl (by kernel_rfl) Tryz.func10 facts
    (of_decide_eq_true (by kernel_rfl)) (by unfold Func.isWrapper; first | (rw [if_pos (by decide +kernel)]; kernel_rfl) | (rw [if_neg (by decide +kernel)]; exact ⟨rfl, rfl⟩))
    (fun os started H enc _ => lifted os started H enc)
#print axioms proved
end Go.Proofs.YtdeiocppghhfdaaGreat.witnessSequential
