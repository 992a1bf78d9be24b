/- Texts, one behind another. -/
import Derived.Test.YtdeiocppghhfdaaGreatChecked
import Derived.Test.YtdeiocppghhfdaaGreatZcax
import Derived.Test.YtdeiocppghhfdaaGreatZcay
import Derived.Test.YtdeiocppghhfdaaGreatZcaa
import Derived.Test.YtdeiocppghhfdaaGreatZcba
import Derived.Test.YtdeiocppghhfdaaGreatZcbd
import Derived.Test.YtdeiocppghhfdaaGreatZcbe
import Derived.Test.YtdeiocppghhfdaaGreatZcac
import Derived.DeepKeys4
import Derived.Maps.Own
import Derived.Maps.OwnOps
import Derived.Carry
import Derived.WalkKit
import Derived.Laws.EntriesVeiled
import Derived.Maps.AppendAt
set_option linter.unusedVariables false
set_option linter.unusedSimpArgs false
set_option maxRecDepth 100000
set_option maxHeartbeats 8000000
namespace Go.Proofs.YtdeiocppghhfdaaGreat.Lin
section
variable {α : Type} (n : Nat) (next : α → Nat → Option α) (rdy : Nat → Nat → Bool) (fl : Nat → Bool)
def cand (u i : Nat) : Bool := !u.testBit i && rdy u i
def fr (u : Nat) : Nat := ((List.range n).filter fun i => !u.testBit i).length
def sr : Nat → α → Nat → Option (List Nat)
 | 0, _, u => if fl u then some [] else none
 | k + 1, s, u => if fl u then some [] else (List.range n).findSome? fun i => if cand rdy u i then (next s i).bind fun t => (sr k t (u ||| 2 ^ i)).map (i :: ·) else none
def S (s : α) (u : Nat) : Option (List Nat) := sr n next rdy fl (fr n u) s u
def ct : Nat → α → Nat → Nat
 | 0, _, u => if fl u then 1 else 0
 | k + 1, s, u => (if fl u then 1 else 0) + ((List.range n).map fun i => if cand rdy u i then (match next s i with | none => 0 | some t => ct k t (u ||| 2 ^ i)) else 0).sum
def C (s : α) (u : Nat) : Nat := ct n next rdy fl (fr n u) s u
end
section
variable {α : Type} {n : Nat} {next : α → Nat → Option α} {rdy : Nat → Nat → Bool} {fl : Nat → Bool}
end
end Go.Proofs.YtdeiocppghhfdaaGreat.Lin
namespace Go.Proofs.YtdeiocppghhfdaaGreat.Lin
open Hs (CallV befB checkP)
def opV (c : CallV) : OpV := ⟨c.okind, c.oslot, c.oat, c.on, c.oid, c.ograv, c.otext⟩
def resV (c : CallV) : ResV := ⟨c.err, c.rev, c.rslot, c.rat, c.rgrav, c.rtext, c.mb, c.mr, c.ml⟩
def itV (c : CallV) : ItV := ⟨c.ik, c.ifrom, c.ito, c.da, c.ps.length, c.dc⟩
def getC (L : List CallV) (i : Nat) : CallV := L.getD i default
theorem getC_at {L : List CallV} {i : Nat} {c : CallV} (h : L[i]? = some c) : getC L i = c := by unfold getC; rw [List.getD_eq_getElem?_getD, h]; rfl
def mk (u : Nat) (o : List Nat) : Nat := o.foldl (fun a i => a ||| 2 ^ i) u
theorem getC_some {L : List CallV} {i : Nat} (h : i < L.length) : L[i]? = some (getC L i) := by
 unfold getC; rw [List.getD_eq_getElem?_getD, List.getElem?_eq_getElem h]; rfl
end Go.Proofs.YtdeiocppghhfdaaGreat.Lin
namespace Go.Proofs.YtdeiocppghhfdaaGreat.Lin
open Hs
def zQ (cs : List CallV) (i : Nat) : Bool := decide ((getC cs i).okind = 16) && decide ((getC cs i).err = 0)
def closeP (cs : List CallV) (E : List Nat) : Option Nat := E.find? (zQ cs)
def mvQ (cs : List CallV) (z i : Nat) : Bool := decide ((getC cs z).took < (getC cs i).took) && decide ((getC cs i).invoked < (getC cs z).took) && decide ((getC cs i).err ≠ 13)
def afQ (cs : List CallV) (z i : Nat) : Bool := decide ((getC cs z).took < (getC cs i).took) || (decide ((getC cs i).took = (getC cs z).took) && decide ((getC cs z).rank < (getC cs i).rank))
structure Pts where
 b : List Nat
 m : List Nat
 a : List Nat
def stepW (cs : List CallV) (z : Nat) (p : Pts) (i : Nat) : Pts :=
 if i = z then p else if mvQ cs z i then { p with m := p.m ++ [i] } else if (!p.a.isEmpty || afQ cs z i) then { p with a := p.a ++ [i] } else { p with b := p.b ++ [i] }
def ptsW (cs : List CallV) (z : Nat) (E : List Nat) : Pts := E.foldl (stepW cs z) ⟨[], [], []⟩
theorem pts_step {cs : List CallV} {z k i : Nat} {E : List Nat} (h : E[k]? = some i) : ptsW cs z (E.take (k + 1)) = stepW cs z (ptsW cs z (E.take k)) i := by
 unfold ptsW
 rw [List.take_add_one, h, Option.toList_some, List.foldl_append]
 rfl
def ordW (cs : List CallV) (E : List Nat) : List Nat := match closeP cs E with | none => E | some z => (ptsW cs z E).b ++ (ptsW cs z E).m ++ [z] ++ (ptsW cs z E).a
def accO (cs : List CallV) (st : MS) (i : Nat) : Bool × MS := accS st (getC cs i).thread (opV (getC cs i)) (resV (getC cs i)) (itV (getC cs i))
def playE (cs : List CallV) : MS → List Nat → Option Nat
 | _, [] => none
 | st, i :: r => if (accO cs st i).1 then playE cs (accO cs st i).2 r else some i
def playL (cs : List CallV) : MS → List Nat → List MS
 | st, [] => [st]
 | st, i :: r => st :: (if (accO cs st i).1 then playL cs (accO cs st i).2 r else [])
def playS (cs : List CallV) (st : MS) (o : List Nat) : MS := o.foldl (fun s i => (accO cs s i).2) st
def perfE (c : CfgV) (cs : List CallV) (E : List Nat) : Int × Int :=
 if cfgE c ≠ 0 then (0, cfgE c) else if (checkP cs).2 ≠ 0 then checkP cs else match playE cs (newS c) (ordW cs E) with | some i => ((i : Int), 26) | none => (0, 0)
def textsS (l : List MS) : List ByteArray := l.foldl (fun out m => if m.number = (out.length : Int) then out ++ [m.text] else out) []
theorem lex_irrefl (cs : List CallV) (i : Nat) : lexB cs i i = false := by simp [lexB]
theorem lex_asymm {cs : List CallV} {i j : Nat} (h : lexB cs i j = true) : lexB cs j i = false := by
 unfold lexB at h ⊢
 simp only [decide_eq_true_eq, decide_eq_false_iff_not] at h ⊢
 omega
theorem getC_tk {cs : List CallV} {i : Nat} (hi : i < cs.length) : tk cs i = (getC cs i).took ∧ rk cs i = (getC cs i).rank := tk_at (getC_some hi)
theorem eff_in {cs : List CallV} {E : List Nat} (h : EffIs cs E) {i : Nat} : i ∈ E ↔ i < cs.length ∧ 0 ≤ (getC cs i).took := by
 rw [eff_mem h]
 constructor
 ·rintro ⟨c, hc, hq⟩
  have := getC_at hc
  exact ⟨(List.getElem?_eq_some_iff.1 hc).1, by rw [this]; exact of_decide_eq_true hq⟩
 ·rintro ⟨h1, h2⟩
  exact ⟨_, getC_some h1, decide_eq_true h2⟩
structure ZAt (cs : List CallV) (E : List Nat) (z : Nat) (P Q : List Nat) : Prop where
 eq : E = P ++ z :: Q
 no : ∀ i ∈ P, zQ cs i = false
 is : zQ cs z = true
 lo : ∀ i ∈ P, lexB cs i z = true
 hi : ∀ i ∈ Q, lexB cs z i = true
theorem close_at {cs : List CallV} {E : List Nat} {z : Nat} (hE : EffIs cs E) (h : closeP cs E = some z) : ∃ P Q, ZAt cs E z P Q := by
 obtain ⟨h1, P, Q, rfl, h2⟩ := List.find?_eq_some_iff_append.1 h
 have h3 := List.pairwise_append.1 hE.2
 exact ⟨P, Q, rfl, fun i hi => by simpa using h2 i hi, h1, fun i hi => h3.2.2 i hi z (by simp), (List.pairwise_cons.1 h3.2.1).1⟩
theorem lex_get {cs : List CallV} {i j : Nat} (hi : i < cs.length) (hj : j < cs.length) (h : lexB cs i j = true) : (getC cs i).took < (getC cs j).took ∨ ((getC cs i).took = (getC cs j).took ∧ (getC cs i).rank < (getC cs j).rank) := by
 unfold lexB at h
 rw [(getC_tk hi).1, (getC_tk hi).2, (getC_tk hj).1, (getC_tk hj).2] at h
 exact of_decide_eq_true h
theorem fold_b (cs : List CallV) (z : Nat) : ∀ (P : List Nat) (b : List Nat), (∀ i ∈ P, i ≠ z ∧ mvQ cs z i = false ∧ afQ cs z i = false) → P.foldl (stepW cs z) ⟨b, [], []⟩ = ⟨b ++ P, [], []⟩
 | [], b, _ => by simp
 | i :: P, b, h => by
  obtain ⟨h1, h2, h3⟩ := h i (by simp)
  have e : stepW cs z ⟨b, [], []⟩ i = ⟨b ++ [i], [], []⟩ := by unfold stepW; rw [if_neg h1, h2, h3]; rfl
  rw [List.foldl_cons, e, fold_b cs z P _ (fun j hj => h j (by simp [hj])), List.append_assoc]
  rfl
theorem fold_a (cs : List CallV) (z : Nat) : ∀ (Q : List Nat) (b m a : List Nat), (∀ i ∈ Q, i ≠ z ∧ afQ cs z i = true) → Q.foldl (stepW cs z) ⟨b, m, a⟩ = ⟨b, m ++ Q.filter (mvQ cs z), a ++ Q.filter fun i => !mvQ cs z i⟩
 | [], b, m, a, _ => by simp
 | i :: Q, b, m, a, h => by
  obtain ⟨h1, h3⟩ := h i (by simp)
  rw [List.foldl_cons]
  cases hm : mvQ cs z i with
  | true =>
   have e : stepW cs z ⟨b, m, a⟩ i = ⟨b, m ++ [i], a⟩ := by unfold stepW; rw [if_neg h1, hm]; rfl
   rw [e, fold_a cs z Q _ _ _ (fun j hj => h j (by simp [hj])), List.filter_cons_of_pos hm, List.filter_cons_of_neg (by rw [hm]; simp), List.append_assoc]
   rfl
  | false =>
   have e : stepW cs z ⟨b, m, a⟩ i = ⟨b, m, a ++ [i]⟩ := by unfold stepW; rw [if_neg h1, hm, h3, Bool.or_true]; rfl
   rw [e, fold_a cs z Q _ _ _ (fun j hj => h j (by simp [hj])), List.filter_cons_of_neg (by rw [hm]; simp), List.filter_cons_of_pos (by rw [hm]; rfl), List.append_assoc]
   rfl
theorem zat_pts {cs : List CallV} {E P Q : List Nat} {z : Nat} (hE : EffIs cs E) (h : ZAt cs E z P Q) : ptsW cs z E = ⟨P, Q.filter (mvQ cs z), Q.filter fun i => !mvQ cs z i⟩ := by
 have hz : z < cs.length := ((eff_in hE).1 (by rw [h.eq]; simp)).1
 have hl : ∀ i ∈ E, i < cs.length := fun i hi => ((eff_in hE).1 hi).1
 have hn : ∀ i, lexB cs i z = true ∨ lexB cs z i = true → i ≠ z := fun i hi e => by
  subst e
  rw [lex_irrefl] at hi
  rcases hi with h | h <;> cases h
 unfold ptsW
 rw [h.eq, List.foldl_append, fold_b, List.nil_append, List.foldl_cons]
 ·have e : stepW cs z ⟨P, [], []⟩ z = ⟨P, [], []⟩ := by unfold stepW; rw [if_pos rfl]
  rw [e, fold_a]
  ·simp
  ·intro i hi
   refine ⟨hn i (.inr (h.hi i hi)), ?_⟩
   have := lex_get hz (hl i (by rw [h.eq]; simp [hi])) (h.hi i hi)
   unfold afQ
   simp only [Bool.or_eq_true, Bool.and_eq_true, decide_eq_true_eq]
   omega
 ·intro i hi
  have := lex_get (hl i (by rw [h.eq]; simp [hi])) hz (h.lo i hi)
  refine ⟨hn i (.inl (h.lo i hi)), ?_, ?_⟩
  ·unfold mvQ
   have : decide ((getC cs z).took < (getC cs i).took) = false := by simp; omega
   rw [this]; rfl
  ·unfold afQ
   simp only [Bool.or_eq_false_iff, Bool.and_eq_false_iff, decide_eq_false_iff_not]
   omega
theorem ord_none {cs : List CallV} {E : List Nat} (h : closeP cs E = none) : ordW cs E = E := by unfold ordW; rw [h]
theorem ord_some {cs : List CallV} {E P Q : List Nat} {z : Nat} (hE : EffIs cs E) (h : closeP cs E = some z) (hz : ZAt cs E z P Q) : ordW cs E = P ++ Q.filter (mvQ cs z) ++ [z] ++ Q.filter fun i => !mvQ cs z i := by
 unfold ordW
 rw [h]
 simp only [zat_pts hE hz]
theorem filter_perm {α : Type} (p : α → Bool) : ∀ l : List α, (l.filter p ++ l.filter fun x => !p x).Perm l
 | [] => .nil
 | x :: l => by
  cases hp : p x with
  | true => rw [List.filter_cons_of_pos hp, List.filter_cons_of_neg (by rw [hp]; simp), List.cons_append]; exact (filter_perm p l).cons x
  | false =>
   rw [List.filter_cons_of_neg (by rw [hp]; simp), List.filter_cons_of_pos (by rw [hp]; rfl)]
   exact List.perm_middle.trans ((filter_perm p l).cons x)
theorem ord_perm {cs : List CallV} {E : List Nat} (hE : EffIs cs E) : (ordW cs E).Perm E := by
 cases hc : closeP cs E with
 | none => rw [ord_none hc]
 | some z =>
  obtain ⟨P, Q, hz⟩ := close_at hE hc
  rw [ord_some hE hc hz, hz.eq, List.append_assoc, List.append_assoc]
  refine List.Perm.append_left P ?_
  rw [List.singleton_append]
  exact List.perm_middle.trans ((filter_perm _ Q).cons z)
theorem ord_len {cs : List CallV} {E : List Nat} (hE : EffIs cs E) : (ordW cs E).length = E.length := (ord_perm hE).length_eq
theorem ord_in {cs : List CallV} {E : List Nat} (hE : EffIs cs E) {i : Nat} : i ∈ ordW cs E ↔ i < cs.length ∧ 0 ≤ (getC cs i).took := by rw [(ord_perm hE).mem_iff, eff_in hE]
theorem bef_took {cs : List CallV} (h0 : (checkP cs).2 = 0) {i j : Nat} (hi : i < cs.length) (hj : j < cs.length) (hq : 0 ≤ (getC cs j).took) (h : befB (getC cs i) (getC cs j) = true) : 0 ≤ (getC cs i).took ∧ (getC cs i).took < (getC cs j).took := by
 have := bef_lex h0 (getC_some hi) (getC_some hj) (decide_eq_true hq) h
 rw [(getC_tk hi).1, (getC_tk hj).1] at this
 exact ⟨of_decide_eq_true this.1, this.2⟩
def NoBack (cs : List CallV) (o : List Nat) : Prop := o.Pairwise fun x y => befB (getC cs y) (getC cs x) = false
theorem eff_back {cs : List CallV} {E : List Nat} (h0 : (checkP cs).2 = 0) (hE : EffIs cs E) : NoBack cs E := by
 have hl : ∀ i ∈ E, i < cs.length ∧ 0 ≤ (getC cs i).took := fun i hi => (eff_in hE).1 hi
 refine List.Pairwise.imp_of_mem (fun {a b} ha hb h => ?_) hE.2
 obtain ⟨ha1, ha2⟩ := hl a ha
 obtain ⟨hb1, hb2⟩ := hl b hb
 cases hbb : befB (getC cs b) (getC cs a) with
 | false => rfl
 | true =>
  have h1 := bef_took h0 hb1 ha1 ha2 hbb
  have h2 := lex_get ha1 hb1 h
  omega
theorem mv_parts {cs : List CallV} {z i : Nat} (h : mvQ cs z i = true) : (getC cs z).took < (getC cs i).took ∧ (getC cs i).invoked < (getC cs z).took ∧ (getC cs i).err ≠ 13 := by
 unfold mvQ at h
 simp only [Bool.and_eq_true, decide_eq_true_eq] at h
 exact ⟨h.1.1, h.1.2, h.2⟩
theorem ord_back {cs : List CallV} {E : List Nat} (h0 : (checkP cs).2 = 0) (hE : EffIs cs E) : NoBack cs (ordW cs E) := by
 have hb := eff_back h0 hE
 cases hc : closeP cs E with
 | none => rw [ord_none hc]; exact hb
 | some z =>
  obtain ⟨P, Q, hz⟩ := close_at hE hc
  have hl : ∀ i ∈ E, i < cs.length ∧ 0 ≤ (getC cs i).took := fun i hi => (eff_in hE).1 hi
  rw [ord_some hE hc hz]
  unfold NoBack at hb ⊢
  rw [hz.eq] at hb
  obtain ⟨b1, b2, b3⟩ := List.pairwise_append.1 hb
  obtain ⟨b4, b5⟩ := List.pairwise_cons.1 b2
  have hQ : ∀ i ∈ Q, i < cs.length ∧ 0 ≤ (getC cs i).took := fun i hi => hl i (by rw [hz.eq]; simp [hi])
  have hzl := hl z (by rw [hz.eq]; simp)
  have hfo : ∀ i, i < cs.length → formedB (getC cs i) = true := fun i hi => good_formed h0 (getC_some hi)
  have hzM : ∀ x ∈ Q.filter (mvQ cs z), befB (getC cs z) (getC cs x) = false := fun x hx => by
   obtain ⟨hx1, hx2⟩ := List.mem_filter.1 hx
   obtain ⟨m1, m2, m3⟩ := mv_parts hx2
   cases hbb : befB (getC cs z) (getC cs x) with
   | false => rfl
   | true =>
    unfold befB at hbb
    simp only [Bool.and_eq_true, decide_eq_true_eq] at hbb
    have := formed_answered (hfo z hzl.1) hbb.1
    omega
  have hAM : ∀ x ∈ Q.filter (mvQ cs z), ∀ y ∈ Q, befB (getC cs y) (getC cs x) = false := fun x hx y hy => by
   obtain ⟨hx1, hx2⟩ := List.mem_filter.1 hx
   obtain ⟨m1, m2, m3⟩ := mv_parts hx2
   have h2 := lex_get hzl.1 (hQ y hy).1 (hz.hi y hy)
   cases hbb : befB (getC cs y) (getC cs x) with
   | false => rfl
   | true =>
    unfold befB at hbb
    simp only [Bool.and_eq_true, decide_eq_true_eq] at hbb
    have := formed_answered (hfo y (hQ y hy).1) hbb.1
    omega
  have hPQ : ∀ x ∈ P, ∀ y ∈ Q, befB (getC cs y) (getC cs x) = false := fun x hx y hy => b3 x hx y (by simp [hy])
  have hsub : ∀ (p : Nat → Bool) y, y ∈ Q.filter p → y ∈ Q := fun p y hy => (List.mem_filter.1 hy).1
  refine List.pairwise_append.2 ⟨List.pairwise_append.2 ⟨List.pairwise_append.2 ⟨b1, b5.filter _, fun x hx y hy => hPQ x hx y (hsub _ y hy)⟩, List.pairwise_singleton _ _, fun x hx y hy => ?_⟩, b5.filter _, fun x hx y hy => ?_⟩
  ·rw [List.mem_singleton.1 hy]
   rcases List.mem_append.1 hx with hx | hx
   ·exact b3 x hx z (by simp)
   ·exact hzM x hx
  ·rcases List.mem_append.1 hx with hx | hx
   ·rcases List.mem_append.1 hx with hx | hx
    ·exact hPQ x hx y (hsub _ y hy)
    ·exact hAM x hx y (hsub _ y hy)
   ·rw [List.mem_singleton.1 hx]
    exact b4 y (hsub _ y hy)
end Go.Proofs.YtdeiocppghhfdaaGreat.Lin
namespace Go.Proofs.YtdeiocppghhfdaaGreat.Lin
open Go.RowKit Go.Lib Go.Shelf
open Hs
attribute [local go_sem, local simp] Hs.callL_0 Hs.callL_1 Hs.callL_2 Hs.callL_3 Hs.callL_4 Hs.callL_5 Hs.callL_6 Hs.callL_7 Hs.callL_8 Hs.callL_9 Hs.callL_10 Hs.callL_11 Hs.callL_12 Hs.callL_13 Hs.callL_14 Hs.callL_15 Hs.callL_16 Hs.callL_17 Hs.callL_18 Hs.callL_19 Hs.callL_20 Hs.callL_21 Hs.callL_22 Hs.callL_23 Hs.callL_24 Hs.callL_25 Hs.callL_26 Hs.resL_0 Hs.resL_1 Hs.resL_2 Hs.resL_3 Hs.resL_4 Hs.resL_5 Hs.resL_6 Hs.resL_7 Hs.resL_8 Hs.resL_9 Hs.resL_10 Hs.resL_11 Hs.resL_12 Hs.callG_0 Hs.callG_1 Hs.callG_2 Hs.callG_3 Hs.callG_4 Hs.callG_5 Hs.callG_6 Hs.callG_7 Hs.callG_8 Hs.callG_9 Hs.callG_10 Hs.callG_11 Hs.callG_12 Hs.callG_13 Hs.callG_14 Hs.callG_15 Hs.callG_16 Hs.callG_17 Hs.callG_18 Hs.callG_19 Hs.callG_20 Hs.callG_21 Hs.callG_22 Hs.callG_23 Hs.callG_24 Hs.callG_25 Hs.callG_26 Hs.resG_0 Hs.resG_1 Hs.resG_2 Hs.resG_3 Hs.resG_4 Hs.resG_5 Hs.resG_6 Hs.resG_7 Hs.resG_8 Hs.resG_9 Hs.resG_10 Hs.resG_11 Hs.resG_12 Hs.callL_len Hs.resL_len
attribute [local go_sem ↓] Hs.loadCall_eq Hs.loadRes_eq
attribute [local go_sem] Hs.ld_new Hs.ld_first Hs.ld_second Hs.ldr_new Hs.st_new
theorem crow_at {W : World} {p : Option Addr} {cap : Nat} {cs : List CallV} (h : CRow W p cap cs) (hn : 0 < cs.length) : ∃ b off, p = some ⟨b, off, none⟩ ∧ cs.length ≤ cap ∧ b < W.heap.size ∧ CAt W b off cs := by
 rcases h with ⟨_, _, h⟩ | h
 ·rw [h] at hn; simp at hn
 ·exact h
end Go.Proofs.YtdeiocppghhfdaaGreat.Lin
namespace Go.Proofs.YtdeiocppghhfdaaGreat.Lin
open Go.RowKit Go.Lib Go.Shelf
open Hs
attribute [local go_sem, local simp] Hs.callL_0 Hs.callL_1 Hs.callL_2 Hs.callL_3 Hs.callL_4 Hs.callL_5 Hs.callL_6 Hs.callL_7 Hs.callL_8 Hs.callL_9 Hs.callL_10 Hs.callL_11 Hs.callL_12 Hs.callL_13 Hs.callL_14 Hs.callL_15 Hs.callL_16 Hs.callL_17 Hs.callL_18 Hs.callL_19 Hs.callL_20 Hs.callL_21 Hs.callL_22 Hs.callL_23 Hs.callL_24 Hs.callL_25 Hs.callL_26 Hs.resL_0 Hs.resL_1 Hs.resL_2 Hs.resL_3 Hs.resL_4 Hs.resL_5 Hs.resL_6 Hs.resL_7 Hs.resL_8 Hs.resL_9 Hs.resL_10 Hs.resL_11 Hs.resL_12 Hs.callG_0 Hs.callG_1 Hs.callG_2 Hs.callG_3 Hs.callG_4 Hs.callG_5 Hs.callG_6 Hs.callG_7 Hs.callG_8 Hs.callG_9 Hs.callG_10 Hs.callG_11 Hs.callG_12 Hs.callG_13 Hs.callG_14 Hs.callG_15 Hs.callG_16 Hs.callG_17 Hs.callG_18 Hs.callG_19 Hs.callG_20 Hs.callG_21 Hs.callG_22 Hs.callG_23 Hs.callG_24 Hs.callG_25 Hs.callG_26 Hs.resG_0 Hs.resG_1 Hs.resG_2 Hs.resG_3 Hs.resG_4 Hs.resG_5 Hs.resG_6 Hs.resG_7 Hs.resG_8 Hs.resG_9 Hs.resG_10 Hs.resG_11 Hs.resG_12 Hs.callL_len Hs.resL_len
attribute [local go_sem ↓] Hs.loadCall_eq Hs.loadRes_eq
attribute [local go_sem] Hs.ld_new Hs.ld_first Hs.ld_second Hs.ldr_new Hs.st_new
theorem ok_op {c : CallV} (h : c.Ok) : OpIn (opV c) := ⟨h.kd.1, h.kd.2, h.id.1, h.id.2, h.gr, h.sl, h.at_, h.nn⟩
def opL (c : CallV) : List Value := [.int .u8 c.okind, .int .i64 c.oslot, .int .i64 c.oat, .int .i64 c.on, .int .u32 c.oid, .int .u8 c.ograv, .string c.otext]
def loadOp (v : Value) : Sem Value := Instr.loadAt 54 v
theorem loadOp_eq (v : Value) : Instr.loadAt 54 v = loadOp v := rfl
theorem ldo_call {W : World} {b : Nat} (c : CallV) (h : W.heap[b]? = some (.cells (callL c).toArray 56 (0, 0))) : (loadOp (.pointer (some ⟨b, 2, none⟩))).run Tryz.prog W = .ok (.agg (opL c).toArray) W :=
 run_loadAt_mid W b 2 54 (opL c) _ (fun j v hv => by
  rw [blk_cell h]
  have hlt := (List.getElem?_eq_some_iff.1 hv).1
  have : (opL c)[j]? = (callL c)[2 + j]? := by
   rw [show opL c = ((callL c).drop 2).take 7 from rfl, List.getElem?_take, List.getElem?_drop]
   rw [if_pos (by simpa [opL] using hlt)]
  rw [← this]
  exact hv) Tryz.underlying54 rfl (by kernel_rfl)
attribute [local go_sem ↓] loadOp_eq
end Go.Proofs.YtdeiocppghhfdaaGreat.Lin
namespace Go.Proofs.YtdeiocppghhfdaaGreat.Lin
open Go.RowKit Go.Lib Go.Shelf
open Hs
open KitI (iv own_below)
abbrev tInt : TypeId := 3
section
variable {n0 s : Nat} {w0 : World} {p : Option Addr} {cap : Nat} {cs : List CallV} {nm nm' : Nat} {v v' : Value} {W W' : World}
theorem crow_get {W : World} {b off cap : Nat} {cs : List CallV} (h : CRow W (some ⟨b, off, none⟩) cap cs) : CAt W b off cs := by
 rcases h with ⟨h, _⟩ | ⟨b', off', h, _, _, hA⟩
 ·cases h
 ·injection h with h; injection h with h1 h2; subst h1 h2; exact hA
end
end Go.Proofs.YtdeiocppghhfdaaGreat.Lin
namespace Go.Proofs.YtdeiocppghhfdaaGreat.Lin
open Go.RowKit Go.Lib Go.Shelf
open Hs
open KitI (iv IRow own_below)
attribute [local go_sem, local simp] Hs.callL_0 Hs.callL_1 Hs.callL_2 Hs.callL_3 Hs.callL_4 Hs.callL_5 Hs.callL_6 Hs.callL_7 Hs.callL_8 Hs.callL_9 Hs.callL_10 Hs.callL_11 Hs.callL_12 Hs.callL_13 Hs.callL_14 Hs.callL_15 Hs.callL_16 Hs.callL_17 Hs.callL_18 Hs.callL_19 Hs.callL_20 Hs.callL_21 Hs.callL_22 Hs.callL_23 Hs.callL_24 Hs.callL_25 Hs.callL_26 Hs.resL_0 Hs.resL_1 Hs.resL_2 Hs.resL_3 Hs.resL_4 Hs.resL_5 Hs.resL_6 Hs.resL_7 Hs.resL_8 Hs.resL_9 Hs.resL_10 Hs.resL_11 Hs.resL_12 Hs.callG_0 Hs.callG_1 Hs.callG_2 Hs.callG_3 Hs.callG_4 Hs.callG_5 Hs.callG_6 Hs.callG_7 Hs.callG_8 Hs.callG_9 Hs.callG_10 Hs.callG_11 Hs.callG_12 Hs.callG_13 Hs.callG_14 Hs.callG_15 Hs.callG_16 Hs.callG_17 Hs.callG_18 Hs.callG_19 Hs.callG_20 Hs.callG_21 Hs.callG_22 Hs.callG_23 Hs.callG_24 Hs.callG_25 Hs.callG_26 Hs.resG_0 Hs.resG_1 Hs.resG_2 Hs.resG_3 Hs.resG_4 Hs.resG_5 Hs.resG_6 Hs.resG_7 Hs.resG_8 Hs.resG_9 Hs.resG_10 Hs.resG_11 Hs.resG_12 Hs.callL_len Hs.resL_len
attribute [local go_sem ↓] Hs.loadCall_eq Hs.loadRes_eq
attribute [local go_sem] Hs.ld_new Hs.ld_first Hs.ld_second Hs.ldr_new Hs.st_new
theorem irow_at {W : World} {p : Option Addr} {zs : List Int} (h : IRd W p zs) (hn : 0 < zs.length) : ∃ b off, p = some ⟨b, off, none⟩ ∧ ∀ W', Below W.heap.size W W' → ∀ j u, zs[j]? = some u → W'.cell? ⟨b, off + j, none⟩ = some (.int .i64 u) := by
 rcases h with h2 | ⟨b, off, h1, h2⟩
 ·rw [h2] at hn; simp at hn
 ·refine ⟨b, off, h1, fun W' hB j u hj => ?_⟩
  have := h2 j u hj
  exact (hB.cell (KitI.cell_size this)).trans this
end Go.Proofs.YtdeiocppghhfdaaGreat.Lin
namespace Go.Proofs.YtdeiocppghhfdaaGreat.Lin
open Go.RowKit Go.Lib Go.Shelf
open Hs
open KitI (iv IRow own_below)
attribute [local go_sem, local simp] Hs.callL_0 Hs.callL_1 Hs.callL_2 Hs.callL_3 Hs.callL_4 Hs.callL_5 Hs.callL_6 Hs.callL_7 Hs.callL_8 Hs.callL_9 Hs.callL_10 Hs.callL_11 Hs.callL_12 Hs.callL_13 Hs.callL_14 Hs.callL_15 Hs.callL_16 Hs.callL_17 Hs.callL_18 Hs.callL_19 Hs.callL_20 Hs.callL_21 Hs.callL_22 Hs.callL_23 Hs.callL_24 Hs.callL_25 Hs.callL_26 Hs.resL_0 Hs.resL_1 Hs.resL_2 Hs.resL_3 Hs.resL_4 Hs.resL_5 Hs.resL_6 Hs.resL_7 Hs.resL_8 Hs.resL_9 Hs.resL_10 Hs.resL_11 Hs.resL_12 Hs.callG_0 Hs.callG_1 Hs.callG_2 Hs.callG_3 Hs.callG_4 Hs.callG_5 Hs.callG_6 Hs.callG_7 Hs.callG_8 Hs.callG_9 Hs.callG_10 Hs.callG_11 Hs.callG_12 Hs.callG_13 Hs.callG_14 Hs.callG_15 Hs.callG_16 Hs.callG_17 Hs.callG_18 Hs.callG_19 Hs.callG_20 Hs.callG_21 Hs.callG_22 Hs.callG_23 Hs.callG_24 Hs.callG_25 Hs.callG_26 Hs.resG_0 Hs.resG_1 Hs.resG_2 Hs.resG_3 Hs.resG_4 Hs.resG_5 Hs.resG_6 Hs.resG_7 Hs.resG_8 Hs.resG_9 Hs.resG_10 Hs.resG_11 Hs.resG_12 Hs.callL_len Hs.resL_len
attribute [local go_sem ↓] Hs.loadCall_eq Hs.loadRes_eq
attribute [local go_sem] Hs.ld_new Hs.ld_first Hs.ld_second Hs.ldr_new Hs.st_new
def smallC (n : Nat) (c : CfgV) : CfgV := { c with text := c.text.extract 0 (min c.text.size n) }
def cfg36 : CfgV := ⟨16, 9, 2, 1, 2, 2, 2, ⟨#[97, 98]⟩⟩
def zeroC : CallV := { thread := 0, index := 0, okind := 0, oslot := 0, oat := 0, on := 0, oid := 0, ograv := 0, otext := ⟨#[]⟩, invoked := 0, took := 0, rank := 0, answered := 0, steps := 0, err := 0, rev := 0, rslot := 0, rat := 0, rgrav := 0, rtext := ⟨#[]⟩, mb := 0, mr := 0, ml := 0, ik := 0, ifrom := 0, ito := 0, ps := [], da := none, dc := 0 }
end Go.Proofs.YtdeiocppghhfdaaGreat.Lin
namespace Go.Proofs.YtdeiocppghhfdaaGreat.Lin
open Go.RowKit Go.Lib Go.Shelf
open Hs
open KitI (iv IRow own_below)
attribute [local go_sem, local simp] Hs.callL_0 Hs.callL_1 Hs.callL_2 Hs.callL_3 Hs.callL_4 Hs.callL_5 Hs.callL_6 Hs.callL_7 Hs.callL_8 Hs.callL_9 Hs.callL_10 Hs.callL_11 Hs.callL_12 Hs.callL_13 Hs.callL_14 Hs.callL_15 Hs.callL_16 Hs.callL_17 Hs.callL_18 Hs.callL_19 Hs.callL_20 Hs.callL_21 Hs.callL_22 Hs.callL_23 Hs.callL_24 Hs.callL_25 Hs.callL_26 Hs.resL_0 Hs.resL_1 Hs.resL_2 Hs.resL_3 Hs.resL_4 Hs.resL_5 Hs.resL_6 Hs.resL_7 Hs.resL_8 Hs.resL_9 Hs.resL_10 Hs.resL_11 Hs.resL_12 Hs.callG_0 Hs.callG_1 Hs.callG_2 Hs.callG_3 Hs.callG_4 Hs.callG_5 Hs.callG_6 Hs.callG_7 Hs.callG_8 Hs.callG_9 Hs.callG_10 Hs.callG_11 Hs.callG_12 Hs.callG_13 Hs.callG_14 Hs.callG_15 Hs.callG_16 Hs.callG_17 Hs.callG_18 Hs.callG_19 Hs.callG_20 Hs.callG_21 Hs.callG_22 Hs.callG_23 Hs.callG_24 Hs.callG_25 Hs.callG_26 Hs.resG_0 Hs.resG_1 Hs.resG_2 Hs.resG_3 Hs.resG_4 Hs.resG_5 Hs.resG_6 Hs.resG_7 Hs.resG_8 Hs.resG_9 Hs.resG_10 Hs.resG_11 Hs.resG_12 Hs.callL_len Hs.resL_len
attribute [local go_sem ↓] Hs.loadCall_eq Hs.loadRes_eq
attribute [local go_sem] Hs.ld_new Hs.ld_first Hs.ld_second Hs.ldr_new Hs.st_new
theorem irow_own {w : World} {base n : Nat} {v : Value} {zs : List Nat} (h : w.ownsRow base tInt 1 v n (zs.map fun (x : Nat) => iv x)) (hn : n = zs.length) : IRow w v (zs.map fun (x : Nat) => (x : Int)) :=
 IRow.own (base := base) (e := tInt) (n := n) (by rw [List.map_map]; exact h) (by rw [List.length_map]; exact hn)
theorem below_alloc (W : World) (o : Obj) : Below W.heap.size W (W.alloc o) := (Below.refl _ _).alloc (Nat.le_refl _) _
section
variable {W : World} {B : Nat}
theorem eqiT (va vb : Value) (zs : List Int) (ha : IRow W va zs) (hb : IRow W vb zs) (hs : zs.length ≤ 1000000) : Calls Tryz.prog 24 #[va, vb] W fun e w' => e = .returned (.bool true) ∧ Below W.heap.size W w' := by
 have h := KitI.eqi_any W va vb zs zs ha hb hs hs
 rwa [decide_eq_true rfl] at h
end
attribute [local irreducible] callL cfg36
end Go.Proofs.YtdeiocppghhfdaaGreat.Lin
namespace Go.Proofs.YtdeiocppghhfdaaGreat.Lin
open Go.RowKit Go.Lib Go.Shelf
open Hs
open KitI (iv IRow own_below infoI)
attribute [local go_sem, local simp] Hs.callL_0 Hs.callL_1 Hs.callL_2 Hs.callL_3 Hs.callL_4 Hs.callL_5 Hs.callL_6 Hs.callL_7 Hs.callL_8 Hs.callL_9 Hs.callL_10 Hs.callL_11 Hs.callL_12 Hs.callL_13 Hs.callL_14 Hs.callL_15 Hs.callL_16 Hs.callL_17 Hs.callL_18 Hs.callL_19 Hs.callL_20 Hs.callL_21 Hs.callL_22 Hs.callL_23 Hs.callL_24 Hs.callL_25 Hs.callL_26 Hs.resL_0 Hs.resL_1 Hs.resL_2 Hs.resL_3 Hs.resL_4 Hs.resL_5 Hs.resL_6 Hs.resL_7 Hs.resL_8 Hs.resL_9 Hs.resL_10 Hs.resL_11 Hs.resL_12 Hs.callG_0 Hs.callG_1 Hs.callG_2 Hs.callG_3 Hs.callG_4 Hs.callG_5 Hs.callG_6 Hs.callG_7 Hs.callG_8 Hs.callG_9 Hs.callG_10 Hs.callG_11 Hs.callG_12 Hs.callG_13 Hs.callG_14 Hs.callG_15 Hs.callG_16 Hs.callG_17 Hs.callG_18 Hs.callG_19 Hs.callG_20 Hs.callG_21 Hs.callG_22 Hs.callG_23 Hs.callG_24 Hs.callG_25 Hs.callG_26 Hs.resG_0 Hs.resG_1 Hs.resG_2 Hs.resG_3 Hs.resG_4 Hs.resG_5 Hs.resG_6 Hs.resG_7 Hs.resG_8 Hs.resG_9 Hs.resG_10 Hs.resG_11 Hs.resG_12 Hs.callL_len Hs.resL_len
attribute [local go_sem ↓] Hs.loadCall_eq Hs.loadRes_eq
attribute [local go_sem] Hs.ld_new Hs.ld_first Hs.ld_second Hs.ldr_new Hs.st_new
def clI : Option Nat → Int
 | none => -1
 | some z => z
theorem cast_at {E : List Nat} {k i : Nat} (h : E[k]? = some i) : (E.map fun (x : Nat) => (x : Int))[k]? = some (i : Int) := by rw [List.getElem?_map, h]; rfl
theorem close_drop {cs : List CallV} {E : List Nat} {k i : Nat} (h : E[k]? = some i) : closeP cs (E.drop k) = if zQ cs i then some i else closeP cs (E.drop (k + 1)) := by
 have hlt := (List.getElem?_eq_some_iff.1 h).1
 have e : E.drop k = i :: E.drop (k + 1) := by rw [List.drop_eq_getElem_cons hlt]; congr 1; exact Option.some.inj ((List.getElem?_eq_getElem hlt).symm.trans h)
 rw [e]
 unfold closeP
 rw [List.find?_cons]
 cases zQ cs i <;> rfl
theorem closing_any (po p : Option Addr) (co cap : Nat) (E : List Nat) (cs : List CallV) (w : World) (hO : IRd w po (E.map fun (x : Nat) => (x : Int))) (hC : CRow w p cap cs) (hE : ∀ i ∈ E, i < cs.length) (hs : E.length ≤ 1000000) (hs2 : cs.length ≤ 1000000) :
  Calls Tryz.prog 77 #[.slice po E.length co, .slice p cs.length cap] w fun e w' => e = .returned (.int .i64 (clI (closeP cs E))) ∧ Below w.heap.size w w' := by
 go_enter Tryz.func77, Tryz.ntmps77
 go_wp2
 go_loopw [4, 6, 9] (fun x4 x6 i wr => ∃ k : Nat, i = .int .i64 k ∧ k ≤ E.length ∧ Below w.heap.size w wr ∧ closeP cs (E.drop k) = closeP cs E) (fun x4 x6 i wr => E.length - (intOf i).toNat)
 case atStart => exact ⟨0, rfl, by omega, Below.refl _ _, rfl⟩
 case round =>
  obtain ⟨k, rfl, hk, hB, hcl⟩ := hrel
  by_cases hlt : k < E.length
  ·obtain ⟨i, hi⟩ : ∃ i, E[k]? = some i := ⟨_, List.getElem?_eq_getElem hlt⟩
   obtain ⟨bo, oo, rfl, hc⟩ := irow_at hO (by rw [List.length_map]; omega)
   have hck := hc wr hB k _ (cast_at hi)
   have hic := hE i (List.mem_of_getElem? hi)
   obtain ⟨bq, off, rfl, hcap, hbq, hA⟩ := crow_at hC (by omega)
   have c2 := (hA.below hB hbq).cell (getC_some hic) 2 (by omega)
   have c14 := (hA.below hB hbq).cell (getC_some hic) 14 (by omega)
   rw [callL_2] at c2
   rw [callL_14] at c14
   have hst := close_drop (cs := cs) hi
   rw [hcl] at hst
   have hz : zQ cs i = (decide ((getC cs i).okind = 16) && decide ((getC cs i).err = 0)) := rfl
   generalize getC cs i = c at *
   have Hst := Lib.hid hst
   have Hz := Lib.hid hz
   clear hst hz hcl hc hi hA hO hC hE
   by_cases h16 : c.okind = 16
   ·have d16 : (c.okind == 16) = true := by simpa using h16
    by_cases he : c.err = 0
    ·have de : (c.err == 0) = true := by simpa using he
     have e : closeP cs E = some i := by rw [Hst.out, if_pos (by rw [Hz.out, h16, he]; rfl)]
     clear h16 he
     go_wp2
     go_returns
     exact ⟨by rw [e]; rfl, hB⟩
    ·have de : (c.err == 0) = false := by simpa using he
     have e : closeP cs (E.drop (k + 1)) = closeP cs E := by rw [Hst.out, if_neg (by rw [Hz.out]; simp [he])]
     have Ex := Lib.hid e
     clear h16 he e
     go_wp2
     go_roundw
     case rel => exact ⟨k + 1, by go_num, by omega, hB, Ex.out⟩
     case measure => simp [intOf]; omega
   ·have d16 : (c.okind == 16) = false := by simpa using h16
    have e : closeP cs (E.drop (k + 1)) = closeP cs E := by rw [Hst.out, if_neg (by rw [Hz.out]; simp [h16])]
    have Ex := Lib.hid e
    clear h16 e
    go_wp2
    go_roundw
    case rel => exact ⟨k + 1, by go_num, by omega, hB, Ex.out⟩
    case measure => simp [intOf]; omega
  ·have hke : k = E.length := by omega
   subst hke
   have e : closeP cs E = none := by rw [← hcl, List.drop_length]; rfl
   go_wp2
   go_returns
   exact ⟨by rw [e]; rfl, hB⟩
end Go.Proofs.YtdeiocppghhfdaaGreat.Lin
namespace Go.Proofs.YtdeiocppghhfdaaGreat.Lin
open Go.RowKit Go.Lib Go.Shelf
open Hs
open KitI (iv IRow own_below infoI)
attribute [local go_sem, local simp] Hs.callL_0 Hs.callL_1 Hs.callL_2 Hs.callL_3 Hs.callL_4 Hs.callL_5 Hs.callL_6 Hs.callL_7 Hs.callL_8 Hs.callL_9 Hs.callL_10 Hs.callL_11 Hs.callL_12 Hs.callL_13 Hs.callL_14 Hs.callL_15 Hs.callL_16 Hs.callL_17 Hs.callL_18 Hs.callL_19 Hs.callL_20 Hs.callL_21 Hs.callL_22 Hs.callL_23 Hs.callL_24 Hs.callL_25 Hs.callL_26 Hs.resL_0 Hs.resL_1 Hs.resL_2 Hs.resL_3 Hs.resL_4 Hs.resL_5 Hs.resL_6 Hs.resL_7 Hs.resL_8 Hs.resL_9 Hs.resL_10 Hs.resL_11 Hs.resL_12 Hs.callG_0 Hs.callG_1 Hs.callG_2 Hs.callG_3 Hs.callG_4 Hs.callG_5 Hs.callG_6 Hs.callG_7 Hs.callG_8 Hs.callG_9 Hs.callG_10 Hs.callG_11 Hs.callG_12 Hs.callG_13 Hs.callG_14 Hs.callG_15 Hs.callG_16 Hs.callG_17 Hs.callG_18 Hs.callG_19 Hs.callG_20 Hs.callG_21 Hs.callG_22 Hs.callG_23 Hs.callG_24 Hs.callG_25 Hs.callG_26 Hs.resG_0 Hs.resG_1 Hs.resG_2 Hs.resG_3 Hs.resG_4 Hs.resG_5 Hs.resG_6 Hs.resG_7 Hs.resG_8 Hs.resG_9 Hs.resG_10 Hs.resG_11 Hs.resG_12 Hs.callL_len Hs.resL_len
attribute [local go_sem ↓] Hs.loadCall_eq Hs.loadRes_eq
attribute [local go_sem] Hs.ld_new Hs.ld_first Hs.ld_second Hs.ldr_new Hs.st_new
attribute [local go_sem ↓] loadOp_eq
def ETy (T : TypeId) : Prop := T = 68 ∨ T = 9 ∨ T = 81
def MTy (T : TypeId) : Prop := T = 136 ∨ T = 74 ∨ T = 139 ∨ T = 168
instance (T : TypeId) : Decidable (ETy T) := by unfold ETy; infer_instance
instance (T : TypeId) : Decidable (MTy T) := by unfold MTy; infer_instance
structure FrT (bad : TypeId → Prop) (m : Nat) (W W' : World) : Prop where
 bl : Below m W W'
 ty : ∀ (k : Nat) (cs : Array Value) (T : TypeId) (r : Nat × Nat), W.heap[k]? = some (.cells cs T r) → ¬ bad T → W'.heap[k]? = some (.cells cs T r)
section
variable {bad : TypeId → Prop} {m : Nat} {A B D : World}
theorem FrT.refl (bad : TypeId → Prop) (m : Nat) (W : World) : FrT bad m W W := ⟨Below.refl _ _, fun _ _ _ _ h _ => h⟩
theorem FrT.trans (h : FrT bad m A B) (k : FrT bad m B D) : FrT bad m A D := ⟨h.bl.trans k.bl, fun j cs T r h1 h2 => k.ty j cs T r (h.ty j cs T r h1 h2) h2⟩
theorem FrT.mono {n : Nat} (h : FrT bad m A B) (hn : n ≤ m) : FrT bad n A B := ⟨h.bl.mono hn, h.ty⟩
theorem FrT.below (h : Below A.heap.size A B) (hm : m ≤ A.heap.size) : FrT bad m A B := ⟨h.mono hm, fun k cs T r hk _ => (h.block k (Array.getElem?_eq_some_iff.1 hk).1).trans hk⟩
theorem FrT.own (h : FrT bad m A B) {base sz n : Nat} {e : TypeId} {x : Value} {xs : List Value} (ho : A.ownsRow base e sz x n xs) (he : ¬ bad e) : B.ownsRow base e sz x n xs := by
 refine ⟨ho.1, ?_⟩
 rcases ho.2 with hn | ⟨g, cap, cur, rfl, hB, hg, rest⟩
 ·exact .inl hn
 ·exact .inr ⟨g, cap, cur, rfl, hB, h.ty _ _ _ _ hg he, rest⟩
theorem FrT.model (h : FrT ETy m A B) {b : Nat} {M : MM} (hM : MdAt A b M) : MdAt B b M :=
 ⟨h.ty _ _ _ _ hM.blk (by decide), h.own hM.marks (by decide), h.own hM.seats (by decide), fun S hS => h.own (hM.slots S hS) (by decide), fun S hS x hx => h.own (hM.smarks S hS x hx) (by decide), hM.some_, hM.nodup⟩
end
theorem own_type {W : World} {base sz n k : Nat} {e : TypeId} {x : Value} {xs : List Value} (ho : W.ownsRow base e sz x n xs) (hk : x.ownBlock = some k) : ∃ cs, W.heap[k]? = some (.cells cs e (0, 0)) := by
 rcases ho.2 with ⟨h, _⟩ | ⟨g, cap, cur, rfl, hB, hg, rest⟩
 ·rw [h] at hk; cases hk
 ·simp [Value.ownBlock] at hk
  subst hk
  exact ⟨cur, hg⟩
theorem fp_type {W : World} {b : Nat} {M : MM} (h : MdAt W b M) {k : Nat} (hk : M.fp b k) : ∃ cs T, MTy T ∧ W.heap[k]? = some (.cells cs T (0, 0)) := by
 rcases hk with rfl | hk | ⟨S, hS, hk⟩
 ·exact ⟨_, _, .inl rfl, h.blk⟩
 ·obtain ⟨cs, hc⟩ := own_type h.seats hk
  exact ⟨cs, _, .inr (.inr (.inl rfl)), hc⟩
 ·obtain ⟨cs, hc⟩ := own_type (h.slots S hS) hk
  exact ⟨cs, _, .inr (.inr (.inr rfl)), hc⟩
theorem frm_keep {W W' : World} {b n : Nat} {M : MM} (h : MdAt W b M) (hk : KeepF (M.fp b) W W') (hf : ∀ k, M.fp b k → n ≤ k) (hn : n ≤ W.heap.size) : FrT MTy n W W' := by
 refine ⟨⟨hk.os, hk.tape, hk.output, hk.size, fun k hkn => hk.block k (by omega) fun hf2 => ?_⟩, fun k cs T r hc hT => (hk.block k (Array.getElem?_eq_some_iff.1 hc).1 fun hf2 => ?_).trans hc⟩
 ·have := hf k hf2; omega
 ·obtain ⟨cs2, T2, h1, h2⟩ := fp_type h hf2
  rw [hc] at h2
  injection h2 with h2
  injection h2 with _ h2 _
  subst h2
  exact hT h1
structure EachC (m n : Nat) (f : FuncId) (fs : Array Value) (Inv : List (Nat × MS) → World → Prop) : Prop where
 ent : ∀ args W, (callFunc f args).run Tryz.prog W = .ok (.enter f args) W
 keep : ∀ l W W', Inv l W → FrT MTy n W W' → Inv l W'
 call : ∀ W b M K l, n ≤ W.heap.size → Inv l W → MdAt W b M → MSok M.st K → l.length ≤ 2000 → Calls Tryz.prog f (#[.pointer (some ⟨b, 0, none⟩)] ++ fs) W fun e W' => e = .returned (.tuple #[]) ∧ Inv (l ++ [(b, M.st)]) W' ∧ FrT ETy m W W'
theorem ldo_at {W : World} {b off k : Nat} {cs : List CallV} {c : CallV} (h : CAt W b off cs) (hk : cs[k]? = some c) : (loadOp (.pointer (some ⟨b, off + k * 27 + 2, none⟩))).run Tryz.prog W = .ok (.agg (opL c).toArray) W :=
 run_loadAt_mid W b (off + k * 27 + 2) 54 (opL c) _ (fun j v hv => by
  have hlt := (List.getElem?_eq_some_iff.1 hv).1
  have hl : j < 7 := by simpa [opL] using hlt
  have h1 := h.cell hk (2 + j) (by omega)
  rw [← Nat.add_assoc] at h1
  rw [h1]
  have : (opL c)[j]? = (callL c)[2 + j]? := by
   rw [show opL c = ((callL c).drop 2).take 7 from rfl, List.getElem?_take, List.getElem?_drop]
   rw [if_pos hl]
  rw [← this]
  exact hv) Tryz.underlying54 rfl (by kernel_rfl)
theorem ldr_at {W : World} {b off k : Nat} {cs : List CallV} {c : CallV} (h : CAt W b off cs) (hk : cs[k]? = some c) : (loadRes (.pointer (some ⟨b, off + k * 27 + 14, none⟩))).run Tryz.prog W = .ok (.agg (Hs.resL c).toArray) W :=
 run_loadAt_mid W b (off + k * 27 + 14) 51 (Hs.resL c) _ (fun j v hv => by
  have hlt := (List.getElem?_eq_some_iff.1 hv).1
  have hl : j < 13 := by simpa [Hs.resL] using hlt
  have h1 := h.cell hk (14 + j) (by omega)
  rw [← Nat.add_assoc] at h1
  rw [h1]
  have : (Hs.resL c)[j]? = (callL c)[14 + j]? := by
   rw [show Hs.resL c = ((callL c).drop 14).take 13 from rfl, List.getElem?_take, List.getElem?_drop]
   rw [if_pos hl]
  rw [← this]
  exact hv) Tryz.underlying51 rfl (by kernel_rfl)
end Go.Proofs.YtdeiocppghhfdaaGreat.Lin
