/- Texts, one behind another: WiP WiA WiC WiB WiD. -/
import Derived.Test.YtdeiocppghhfdaaGreatQa
import Derived.Test.YtdeiocppghhfdaaGreatQd
import Derived.Test.YtdeiocppghhfdaaGreatPul
import Derived.Test.YtdeiocppghhfdaaGreatPug
import Derived.Maps.AppendAt
namespace Go.Proofs.YtdeiocppghhfdaaGreat.Lin
set_option linter.unusedVariables false
set_option linter.unusedSimpArgs false
open Hs

def zQ (cs : List CallV) (i : Nat) : Bool := decide ((getC cs i).okind = 16) && decide ((getC cs i).err = 0)
def closeP (cs : List CallV) (E : List Nat) : Option Nat := E.find? (zQ cs)
def mvQ (cs : List CallV) (z i : Nat) : Bool := decide ((getC cs z).took < (getC cs i).took) && decide ((getC cs i).invoked < (getC cs z).took) && decide ((getC cs i).err ≠ 13)
def afQ (cs : List CallV) (z i : Nat) : Bool := decide ((getC cs z).took < (getC cs i).took) || (decide ((getC cs i).took = (getC cs z).took) && decide ((getC cs z).rank < (getC cs i).rank))
structure Pts where
  b : List Nat
  m : List Nat
  a : List Nat
def stepW (cs : List CallV) (z : Nat) (p : Pts) (i : Nat) : Pts :=
  if i = z then p else if mvQ cs z i then { p with m := p.m ++ [i] } else if (!p.a.isEmpty || afQ cs z i) then { p with a := p.a ++ [i] } else { p with b := p.b ++ [i] }
def ptsW (cs : List CallV) (z : Nat) (E : List Nat) : Pts := E.foldl (stepW cs z) ⟨[], [], []⟩
theorem pts_step {cs : List CallV} {z k i : Nat} {E : List Nat} (h : E[k]? = some i) : ptsW cs z (E.take (k + 1)) = stepW cs z (ptsW cs z (E.take k)) i := by
  unfold ptsW
  rw [List.take_add_one, h, Option.toList_some, List.foldl_append]
  rfl
def ordW (cs : List CallV) (E : List Nat) : List Nat := match closeP cs E with | none => E | some z => (ptsW cs z E).b ++ (ptsW cs z E).m ++ [z] ++ (ptsW cs z E).a
def accO (cs : List CallV) (st : MS) (i : Nat) : Bool × MS := accS st (getC cs i).thread (opV (getC cs i)) (resV (getC cs i)) (itV (getC cs i))
def playE (cs : List CallV) : MS → List Nat → Option Nat
  | _, [] => none
  | st, i :: r => if (accO cs st i).1 then playE cs (accO cs st i).2 r else some i
def playL (cs : List CallV) : MS → List Nat → List MS
  | st, [] => [st]
  | st, i :: r => st :: (if (accO cs st i).1 then playL cs (accO cs st i).2 r else [])
def playS (cs : List CallV) (st : MS) (o : List Nat) : MS := o.foldl (fun s i => (accO cs s i).2) st
def perfE (c : CfgV) (cs : List CallV) (E : List Nat) : Int × Int :=
  if cfgE c ≠ 0 then (0, cfgE c) else if (checkP cs).2 ≠ 0 then checkP cs else match playE cs (newS c) (ordW cs E) with | some i => ((i : Int), 26) | none => (0, 0)
def textsS (l : List MS) : List ByteArray := l.foldl (fun out m => if m.number = (out.length : Int) then out ++ [m.text] else out) []

/-! ### the order of the effects -/
theorem lex_irrefl (cs : List CallV) (i : Nat) : lexB cs i i = false := by simp [lexB]
theorem lex_asymm {cs : List CallV} {i j : Nat} (h : lexB cs i j = true) : lexB cs j i = false := by
  unfold lexB at h ⊢
  simp only [decide_eq_true_eq, decide_eq_false_iff_not] at h ⊢
  omega
theorem eff_unique {cs : List CallV} {X Y : List Nat} (hX : EffIs cs X) (hY : EffIs cs Y) : X = Y :=
  (hX.1.trans hY.1.symm).eq_of_pairwise (fun a b _ _ h1 h2 => by rw [lex_asymm h1] at h2; cases h2) hX.2 hY.2
theorem getC_tk {cs : List CallV} {i : Nat} (hi : i < cs.length) : tk cs i = (getC cs i).took ∧ rk cs i = (getC cs i).rank := tk_at (getC_some hi)
theorem eff_in {cs : List CallV} {E : List Nat} (h : EffIs cs E) {i : Nat} : i ∈ E ↔ i < cs.length ∧ 0 ≤ (getC cs i).took := by
  rw [eff_mem h]
  constructor
  · rintro ⟨c, hc, hq⟩
    have := getC_at hc
    exact ⟨(List.getElem?_eq_some_iff.1 hc).1, by rw [this]; exact of_decide_eq_true hq⟩
  · rintro ⟨h1, h2⟩
    exact ⟨_, getC_some h1, decide_eq_true h2⟩
structure ZAt (cs : List CallV) (E : List Nat) (z : Nat) (P Q : List Nat) : Prop where
  eq : E = P ++ z :: Q
  no : ∀ i ∈ P, zQ cs i = false
  is : zQ cs z = true
  lo : ∀ i ∈ P, lexB cs i z = true
  hi : ∀ i ∈ Q, lexB cs z i = true
theorem close_at {cs : List CallV} {E : List Nat} {z : Nat} (hE : EffIs cs E) (h : closeP cs E = some z) : ∃ P Q, ZAt cs E z P Q := by
  obtain ⟨h1, P, Q, rfl, h2⟩ := List.find?_eq_some_iff_append.1 h
  have h3 := List.pairwise_append.1 hE.2
  exact ⟨P, Q, rfl, fun i hi => by simpa using h2 i hi, h1, fun i hi => h3.2.2 i hi z (by simp), (List.pairwise_cons.1 h3.2.1).1⟩
theorem lex_get {cs : List CallV} {i j : Nat} (hi : i < cs.length) (hj : j < cs.length) (h : lexB cs i j = true) : (getC cs i).took < (getC cs j).took ∨ ((getC cs i).took = (getC cs j).took ∧ (getC cs i).rank < (getC cs j).rank) := by
  unfold lexB at h
  rw [(getC_tk hi).1, (getC_tk hi).2, (getC_tk hj).1, (getC_tk hj).2] at h
  exact of_decide_eq_true h
theorem fold_b (cs : List CallV) (z : Nat) : ∀ (P : List Nat) (b : List Nat), (∀ i ∈ P, i ≠ z ∧ mvQ cs z i = false ∧ afQ cs z i = false) → P.foldl (stepW cs z) ⟨b, [], []⟩ = ⟨b ++ P, [], []⟩
  | [], b, _ => by simp
  | i :: P, b, h => by
    obtain ⟨h1, h2, h3⟩ := h i (by simp)
    have e : stepW cs z ⟨b, [], []⟩ i = ⟨b ++ [i], [], []⟩ := by unfold stepW; rw [if_neg h1, h2, h3]; rfl
    rw [List.foldl_cons, e, fold_b cs z P _ (fun j hj => h j (by simp [hj])), List.append_assoc]
    rfl
theorem fold_a (cs : List CallV) (z : Nat) : ∀ (Q : List Nat) (b m a : List Nat), (∀ i ∈ Q, i ≠ z ∧ afQ cs z i = true) → Q.foldl (stepW cs z) ⟨b, m, a⟩ = ⟨b, m ++ Q.filter (mvQ cs z), a ++ Q.filter fun i => !mvQ cs z i⟩
  | [], b, m, a, _ => by simp
  | i :: Q, b, m, a, h => by
    obtain ⟨h1, h3⟩ := h i (by simp)
    rw [List.foldl_cons]
    cases hm : mvQ cs z i with
    | true =>
      have e : stepW cs z ⟨b, m, a⟩ i = ⟨b, m ++ [i], a⟩ := by unfold stepW; rw [if_neg h1, hm]; rfl
      rw [e, fold_a cs z Q _ _ _ (fun j hj => h j (by simp [hj])), List.filter_cons_of_pos hm, List.filter_cons_of_neg (by rw [hm]; simp), List.append_assoc]
      rfl
    | false =>
      have e : stepW cs z ⟨b, m, a⟩ i = ⟨b, m, a ++ [i]⟩ := by unfold stepW; rw [if_neg h1, hm, h3, Bool.or_true]; rfl
      rw [e, fold_a cs z Q _ _ _ (fun j hj => h j (by simp [hj])), List.filter_cons_of_neg (by rw [hm]; simp), List.filter_cons_of_pos (by rw [hm]; rfl), List.append_assoc]
      rfl
theorem zat_pts {cs : List CallV} {E P Q : List Nat} {z : Nat} (hE : EffIs cs E) (h : ZAt cs E z P Q) : ptsW cs z E = ⟨P, Q.filter (mvQ cs z), Q.filter fun i => !mvQ cs z i⟩ := by
  have hz : z < cs.length := ((eff_in hE).1 (by rw [h.eq]; simp)).1
  have hl : ∀ i ∈ E, i < cs.length := fun i hi => ((eff_in hE).1 hi).1
  have hn : ∀ i, lexB cs i z = true ∨ lexB cs z i = true → i ≠ z := fun i hi e => by
    subst e
    rw [lex_irrefl] at hi
    rcases hi with h | h <;> cases h
  unfold ptsW
  rw [h.eq, List.foldl_append, fold_b, List.nil_append, List.foldl_cons]
  · have e : stepW cs z ⟨P, [], []⟩ z = ⟨P, [], []⟩ := by unfold stepW; rw [if_pos rfl]
    rw [e, fold_a]
    · simp
    · intro i hi
      refine ⟨hn i (.inr (h.hi i hi)), ?_⟩
      have := lex_get hz (hl i (by rw [h.eq]; simp [hi])) (h.hi i hi)
      unfold afQ
      simp only [Bool.or_eq_true, Bool.and_eq_true, decide_eq_true_eq]
      omega
  · intro i hi
    have := lex_get (hl i (by rw [h.eq]; simp [hi])) hz (h.lo i hi)
    refine ⟨hn i (.inl (h.lo i hi)), ?_, ?_⟩
    · unfold mvQ
      have : decide ((getC cs z).took < (getC cs i).took) = false := by simp; omega
      rw [this]; rfl
    · unfold afQ
      simp only [Bool.or_eq_false_iff, Bool.and_eq_false_iff, decide_eq_false_iff_not]
      omega
theorem ord_none {cs : List CallV} {E : List Nat} (h : closeP cs E = none) : ordW cs E = E := by unfold ordW; rw [h]
theorem ord_some {cs : List CallV} {E P Q : List Nat} {z : Nat} (hE : EffIs cs E) (h : closeP cs E = some z) (hz : ZAt cs E z P Q) : ordW cs E = P ++ Q.filter (mvQ cs z) ++ [z] ++ Q.filter fun i => !mvQ cs z i := by
  unfold ordW
  rw [h]
  simp only [zat_pts hE hz]
theorem filter_perm {α : Type} (p : α → Bool) : ∀ l : List α, (l.filter p ++ l.filter fun x => !p x).Perm l
  | [] => .nil
  | x :: l => by
    cases hp : p x with
    | true => rw [List.filter_cons_of_pos hp, List.filter_cons_of_neg (by rw [hp]; simp), List.cons_append]; exact (filter_perm p l).cons x
    | false =>
      rw [List.filter_cons_of_neg (by rw [hp]; simp), List.filter_cons_of_pos (by rw [hp]; rfl)]
      exact List.perm_middle.trans ((filter_perm p l).cons x)
theorem ord_perm {cs : List CallV} {E : List Nat} (hE : EffIs cs E) : (ordW cs E).Perm E := by
  cases hc : closeP cs E with
  | none => rw [ord_none hc]
  | some z =>
    obtain ⟨P, Q, hz⟩ := close_at hE hc
    rw [ord_some hE hc hz, hz.eq, List.append_assoc, List.append_assoc]
    refine List.Perm.append_left P ?_
    rw [List.singleton_append]
    exact List.perm_middle.trans ((filter_perm _ Q).cons z)
theorem ord_len {cs : List CallV} {E : List Nat} (hE : EffIs cs E) : (ordW cs E).length = E.length := (ord_perm hE).length_eq
theorem ord_in {cs : List CallV} {E : List Nat} (hE : EffIs cs E) {i : Nat} : i ∈ ordW cs E ↔ i < cs.length ∧ 0 ≤ (getC cs i).took := by rw [(ord_perm hE).mem_iff, eff_in hE]
theorem ord_nodup {cs : List CallV} {E : List Nat} (hE : EffIs cs E) : (ordW cs E).Nodup := (ord_perm hE).nodup_iff.2 (eff_nodup hE)
theorem bef_took {cs : List CallV} (h0 : (checkP cs).2 = 0) {i j : Nat} (hi : i < cs.length) (hj : j < cs.length) (hq : 0 ≤ (getC cs j).took) (h : befB (getC cs i) (getC cs j) = true) : 0 ≤ (getC cs i).took ∧ (getC cs i).took < (getC cs j).took := by
  have := bef_lex h0 (getC_some hi) (getC_some hj) (decide_eq_true hq) h
  rw [(getC_tk hi).1, (getC_tk hj).1] at this
  exact ⟨of_decide_eq_true this.1, this.2⟩
def NoBack (cs : List CallV) (o : List Nat) : Prop := o.Pairwise fun x y => befB (getC cs y) (getC cs x) = false
theorem eff_back {cs : List CallV} {E : List Nat} (h0 : (checkP cs).2 = 0) (hE : EffIs cs E) : NoBack cs E := by
  have hl : ∀ i ∈ E, i < cs.length ∧ 0 ≤ (getC cs i).took := fun i hi => (eff_in hE).1 hi
  refine List.Pairwise.imp_of_mem (fun {a b} ha hb h => ?_) hE.2
  obtain ⟨ha1, ha2⟩ := hl a ha
  obtain ⟨hb1, hb2⟩ := hl b hb
  cases hbb : befB (getC cs b) (getC cs a) with
  | false => rfl
  | true =>
    have h1 := bef_took h0 hb1 ha1 ha2 hbb
    have h2 := lex_get ha1 hb1 h
    omega
theorem mv_parts {cs : List CallV} {z i : Nat} (h : mvQ cs z i = true) : (getC cs z).took < (getC cs i).took ∧ (getC cs i).invoked < (getC cs z).took ∧ (getC cs i).err ≠ 13 := by
  unfold mvQ at h
  simp only [Bool.and_eq_true, decide_eq_true_eq] at h
  exact ⟨h.1.1, h.1.2, h.2⟩
theorem ord_back {cs : List CallV} {E : List Nat} (h0 : (checkP cs).2 = 0) (hE : EffIs cs E) : NoBack cs (ordW cs E) := by
  have hb := eff_back h0 hE
  cases hc : closeP cs E with
  | none => rw [ord_none hc]; exact hb
  | some z =>
    obtain ⟨P, Q, hz⟩ := close_at hE hc
    have hl : ∀ i ∈ E, i < cs.length ∧ 0 ≤ (getC cs i).took := fun i hi => (eff_in hE).1 hi
    rw [ord_some hE hc hz]
    unfold NoBack at hb ⊢
    rw [hz.eq] at hb
    obtain ⟨b1, b2, b3⟩ := List.pairwise_append.1 hb
    obtain ⟨b4, b5⟩ := List.pairwise_cons.1 b2
    have hQ : ∀ i ∈ Q, i < cs.length ∧ 0 ≤ (getC cs i).took := fun i hi => hl i (by rw [hz.eq]; simp [hi])
    have hzl := hl z (by rw [hz.eq]; simp)
    have hfo : ∀ i, i < cs.length → formedB (getC cs i) = true := fun i hi => good_formed h0 (getC_some hi)
    have hzM : ∀ x ∈ Q.filter (mvQ cs z), befB (getC cs z) (getC cs x) = false := fun x hx => by
      obtain ⟨hx1, hx2⟩ := List.mem_filter.1 hx
      obtain ⟨m1, m2, m3⟩ := mv_parts hx2
      cases hbb : befB (getC cs z) (getC cs x) with
      | false => rfl
      | true =>
        unfold befB at hbb
        simp only [Bool.and_eq_true, decide_eq_true_eq] at hbb
        have := formed_answered (hfo z hzl.1) hbb.1
        omega
    have hAM : ∀ x ∈ Q.filter (mvQ cs z), ∀ y ∈ Q, befB (getC cs y) (getC cs x) = false := fun x hx y hy => by
      obtain ⟨hx1, hx2⟩ := List.mem_filter.1 hx
      obtain ⟨m1, m2, m3⟩ := mv_parts hx2
      have h2 := lex_get hzl.1 (hQ y hy).1 (hz.hi y hy)
      cases hbb : befB (getC cs y) (getC cs x) with
      | false => rfl
      | true =>
        unfold befB at hbb
        simp only [Bool.and_eq_true, decide_eq_true_eq] at hbb
        have := formed_answered (hfo y (hQ y hy).1) hbb.1
        omega
    have hPQ : ∀ x ∈ P, ∀ y ∈ Q, befB (getC cs y) (getC cs x) = false := fun x hx y hy => b3 x hx y (by simp [hy])
    have hsub : ∀ (p : Nat → Bool) y, y ∈ Q.filter p → y ∈ Q := fun p y hy => (List.mem_filter.1 hy).1
    refine List.pairwise_append.2 ⟨List.pairwise_append.2 ⟨List.pairwise_append.2 ⟨b1, b5.filter _, fun x hx y hy => hPQ x hx y (hsub _ y hy)⟩, List.pairwise_singleton _ _, fun x hx y hy => ?_⟩, b5.filter _, fun x hx y hy => ?_⟩
    · rw [List.mem_singleton.1 hy]
      rcases List.mem_append.1 hx with hx | hx
      · exact b3 x hx z (by simp)
      · exact hzM x hx
    · rcases List.mem_append.1 hx with hx | hx
      · rcases List.mem_append.1 hx with hx | hx
        · exact hPQ x hx y (hsub _ y hy)
        · exact hAM x hx y (hsub _ y hy)
      · rw [List.mem_singleton.1 hx]
        exact b4 y (hsub _ y hy)
theorem agrees_back {cs : List CallV} {o : List Nat} (h0 : (checkP cs).2 = 0) (hn : o.Nodup) (hi : ∀ i, i ∈ o ↔ i < cs.length ∧ 0 ≤ (getC cs i).took) (hb : NoBack cs o) : agreesP (o.map fun (n : Nat) => (n : Int)) cs = (true, 0) := by
  have hord : ordE cs.length [] (o.map fun (n : Nat) => (n : Int)) = 0 := by
    refine ordE_zero _ _ (fun x hx => ?_) (fun x _ h => by cases h) (nodup_cast.2 hn)
    obtain ⟨i, hio, rfl⟩ := List.mem_map.1 hx
    have := ((hi i).1 hio).1
    omega
  unfold agreesP
  rw [if_pos h0, if_pos hord]
  congr 1
  refine (pairs_iff h0 (fun i hio => ((hi i).1 hio).1) hn).2 fun k j hk => ?_
  obtain ⟨hlt, hkj⟩ := List.getElem?_eq_some_iff.1 hk
  have hjo : j ∈ o := by rw [← hkj]; exact List.getElem_mem ..
  obtain ⟨hj1, hj2⟩ := (hi j).1 hjo
  unfold rdyB
  rw [List.all_eq_true]
  intro i hil
  have hil := List.mem_range.1 hil
  rw [mk_bit, Nat.zero_testBit, Bool.false_or]
  cases hbb : befB (getC cs i) (getC cs j) with
  | false => simp
  | true =>
    have h1 := bef_took h0 hil hj1 hj2 hbb
    have hio : i ∈ o := (hi i).2 ⟨hil, h1.1⟩
    obtain ⟨m, hm, hmi⟩ := List.getElem_of_mem hio
    have hmk : m < k := by
      rcases Nat.lt_trichotomy m k with h | h | h
      · exact h
      · exfalso
        subst h
        rw [hmi] at hkj
        subst hkj
        rw [bef_self h0 hil] at hbb
        cases hbb
      · exfalso
        have := List.pairwise_iff_getElem.1 hb k m hlt hm h
        rw [hmi, hkj, hbb] at this
        cases this
    have : i ∈ o.take k := by
      rw [List.mem_take_iff_getElem]
      exact ⟨m, by omega, hmi⟩
    simp [this]
theorem ord_agrees {cs : List CallV} {E : List Nat} (h0 : (checkP cs).2 = 0) (hE : EffIs cs E) : agreesP ((ordW cs E).map fun (n : Nat) => (n : Int)) cs = (true, 0) :=
  agrees_back h0 (ord_nodup hE) (fun _ => ord_in hE) (ord_back h0 hE)
end Go.Proofs.YtdeiocppghhfdaaGreat.Lin
namespace Go.Proofs.YtdeiocppghhfdaaGreat.Lin
set_option linter.unusedVariables false
set_option linter.unusedSimpArgs false
open Go.RowKit Go.Lib Go.Shelf
open Hs
open KitI (iv IRow own_below infoI)
attribute [local go_sem, local simp] Hs.callL_0 Hs.callL_1 Hs.callL_2 Hs.callL_3 Hs.callL_4 Hs.callL_5 Hs.callL_6 Hs.callL_7 Hs.callL_8 Hs.callL_9 Hs.callL_10 Hs.callL_11 Hs.callL_12 Hs.callL_13 Hs.callL_14 Hs.callL_15 Hs.callL_16 Hs.callL_17 Hs.callL_18 Hs.callL_19 Hs.callL_20 Hs.callL_21 Hs.callL_22 Hs.callL_23 Hs.callL_24 Hs.callL_25 Hs.callL_26 Hs.resL_0 Hs.resL_1 Hs.resL_2 Hs.resL_3 Hs.resL_4 Hs.resL_5 Hs.resL_6 Hs.resL_7 Hs.resL_8 Hs.resL_9 Hs.resL_10 Hs.resL_11 Hs.resL_12 Hs.callG_0 Hs.callG_1 Hs.callG_2 Hs.callG_3 Hs.callG_4 Hs.callG_5 Hs.callG_6 Hs.callG_7 Hs.callG_8 Hs.callG_9 Hs.callG_10 Hs.callG_11 Hs.callG_12 Hs.callG_13 Hs.callG_14 Hs.callG_15 Hs.callG_16 Hs.callG_17 Hs.callG_18 Hs.callG_19 Hs.callG_20 Hs.callG_21 Hs.callG_22 Hs.callG_23 Hs.callG_24 Hs.callG_25 Hs.callG_26 Hs.resG_0 Hs.resG_1 Hs.resG_2 Hs.resG_3 Hs.resG_4 Hs.resG_5 Hs.resG_6 Hs.resG_7 Hs.resG_8 Hs.resG_9 Hs.resG_10 Hs.resG_11 Hs.resG_12 Hs.callL_len Hs.resL_len
attribute [local go_sem ↓] Hs.loadCall_eq Hs.loadRes_eq
attribute [local go_sem] Hs.ld_new Hs.ld_first Hs.ld_second Hs.ldr_new Hs.st_new
def clI : Option Nat → Int
  | none => -1
  | some z => z
theorem cast_at {E : List Nat} {k i : Nat} (h : E[k]? = some i) : (E.map fun (x : Nat) => (x : Int))[k]? = some (i : Int) := by rw [List.getElem?_map, h]; rfl
theorem close_drop {cs : List CallV} {E : List Nat} {k i : Nat} (h : E[k]? = some i) : closeP cs (E.drop k) = if zQ cs i then some i else closeP cs (E.drop (k + 1)) := by
  have hlt := (List.getElem?_eq_some_iff.1 h).1
  have e : E.drop k = i :: E.drop (k + 1) := by rw [List.drop_eq_getElem_cons hlt]; congr 1; exact Option.some.inj ((List.getElem?_eq_getElem hlt).symm.trans h)
  rw [e]
  unfold closeP
  rw [List.find?_cons]
  cases zQ cs i <;> rfl
set_option maxRecDepth 100000 in
set_option maxHeartbeats 2000000 in
theorem closing_any (po p : Option Addr) (co cap : Nat) (E : List Nat) (cs : List CallV) (w : World) (hO : IRd w po (E.map fun (x : Nat) => (x : Int))) (hC : CRow w p cap cs) (hE : ∀ i ∈ E, i < cs.length) (hs : E.length ≤ 1000000) (hs2 : cs.length ≤ 1000000) :
    Calls Tryz.prog 77 #[.slice po E.length co, .slice p cs.length cap] w fun e w' => e = .returned (.int .i64 (clI (closeP cs E))) ∧ Below w.heap.size w w' := by
  go_enter Tryz.func77, Tryz.ntmps77
  go_wp2
  go_loopw [4, 6, 9] (fun x4 x6 i wr => ∃ k : Nat, i = .int .i64 k ∧ k ≤ E.length ∧ Below w.heap.size w wr ∧ closeP cs (E.drop k) = closeP cs E) (fun x4 x6 i wr => E.length - (intOf i).toNat)
  case atStart => exact ⟨0, rfl, by omega, Below.refl _ _, rfl⟩
  case round =>
    obtain ⟨k, rfl, hk, hB, hcl⟩ := hrel
    by_cases hlt : k < E.length
    · obtain ⟨i, hi⟩ : ∃ i, E[k]? = some i := ⟨_, List.getElem?_eq_getElem hlt⟩
      obtain ⟨bo, oo, rfl, hc⟩ := irow_at hO (by rw [List.length_map]; omega)
      have hck := hc wr hB k _ (cast_at hi)
      have hic := hE i (List.mem_of_getElem? hi)
      obtain ⟨bq, off, rfl, hcap, hbq, hA⟩ := crow_at hC (by omega)
      have c2 := (hA.below hB hbq).cell (getC_some hic) 2 (by omega)
      have c14 := (hA.below hB hbq).cell (getC_some hic) 14 (by omega)
      rw [callL_2] at c2
      rw [callL_14] at c14
      have hst := close_drop (cs := cs) hi
      rw [hcl] at hst
      have hz : zQ cs i = (decide ((getC cs i).okind = 16) && decide ((getC cs i).err = 0)) := rfl
      generalize getC cs i = c at *
      have Hst := Lib.hid hst
      have Hz := Lib.hid hz
      clear hst hz hcl hc hi hA hO hC hE
      by_cases h16 : c.okind = 16
      · have d16 : (c.okind == 16) = true := by simpa using h16
        by_cases he : c.err = 0
        · have de : (c.err == 0) = true := by simpa using he
          have e : closeP cs E = some i := by rw [Hst.out, if_pos (by rw [Hz.out, h16, he]; rfl)]
          clear h16 he
          go_wp2
          go_returns
          exact ⟨by rw [e]; rfl, hB⟩
        · have de : (c.err == 0) = false := by simpa using he
          have e : closeP cs (E.drop (k + 1)) = closeP cs E := by rw [Hst.out, if_neg (by rw [Hz.out]; simp [he])]
          have Ex := Lib.hid e
          clear h16 he e
          go_wp2
          go_roundw
          case rel => exact ⟨k + 1, by go_num, by omega, hB, Ex.out⟩
          case measure => simp [intOf]; omega
      · have d16 : (c.okind == 16) = false := by simpa using h16
        have e : closeP cs (E.drop (k + 1)) = closeP cs E := by rw [Hst.out, if_neg (by rw [Hz.out]; simp [h16])]
        have Ex := Lib.hid e
        clear h16 e
        go_wp2
        go_roundw
        case rel => exact ⟨k + 1, by go_num, by omega, hB, Ex.out⟩
        case measure => simp [intOf]; omega
    · have hke : k = E.length := by omega
      subst hke
      have e : closeP cs E = none := by rw [← hcl, List.drop_length]; rfl
      go_wp2
      go_returns
      exact ⟨by rw [e]; rfl, hB⟩
end Go.Proofs.YtdeiocppghhfdaaGreat.Lin
namespace Go.Proofs.YtdeiocppghhfdaaGreat.Lin
set_option linter.unusedVariables false
set_option linter.unusedSimpArgs false
open Go.RowKit Go.Lib Go.Shelf
open Hs
open KitI (iv IRow own_below infoI)
attribute [local go_sem, local simp] Hs.callL_0 Hs.callL_1 Hs.callL_2 Hs.callL_3 Hs.callL_4 Hs.callL_5 Hs.callL_6 Hs.callL_7 Hs.callL_8 Hs.callL_9 Hs.callL_10 Hs.callL_11 Hs.callL_12 Hs.callL_13 Hs.callL_14 Hs.callL_15 Hs.callL_16 Hs.callL_17 Hs.callL_18 Hs.callL_19 Hs.callL_20 Hs.callL_21 Hs.callL_22 Hs.callL_23 Hs.callL_24 Hs.callL_25 Hs.callL_26 Hs.resL_0 Hs.resL_1 Hs.resL_2 Hs.resL_3 Hs.resL_4 Hs.resL_5 Hs.resL_6 Hs.resL_7 Hs.resL_8 Hs.resL_9 Hs.resL_10 Hs.resL_11 Hs.resL_12 Hs.callG_0 Hs.callG_1 Hs.callG_2 Hs.callG_3 Hs.callG_4 Hs.callG_5 Hs.callG_6 Hs.callG_7 Hs.callG_8 Hs.callG_9 Hs.callG_10 Hs.callG_11 Hs.callG_12 Hs.callG_13 Hs.callG_14 Hs.callG_15 Hs.callG_16 Hs.callG_17 Hs.callG_18 Hs.callG_19 Hs.callG_20 Hs.callG_21 Hs.callG_22 Hs.callG_23 Hs.callG_24 Hs.callG_25 Hs.callG_26 Hs.resG_0 Hs.resG_1 Hs.resG_2 Hs.resG_3 Hs.resG_4 Hs.resG_5 Hs.resG_6 Hs.resG_7 Hs.resG_8 Hs.resG_9 Hs.resG_10 Hs.resG_11 Hs.resG_12 Hs.callL_len Hs.resL_len
attribute [local go_sem ↓] Hs.loadCall_eq Hs.loadRes_eq
attribute [local go_sem] Hs.ld_new Hs.ld_first Hs.ld_second Hs.ldr_new Hs.st_new
attribute [local go_sem ↓] loadOp_eq
/-! ### two kinds of blocks -/
def ETy (T : TypeId) : Prop := T = 68 ∨ T = 9 ∨ T = 81
def MTy (T : TypeId) : Prop := T = 136 ∨ T = 74 ∨ T = 139 ∨ T = 168
instance (T : TypeId) : Decidable (ETy T) := by unfold ETy; infer_instance
instance (T : TypeId) : Decidable (MTy T) := by unfold MTy; infer_instance
structure FrT (bad : TypeId → Prop) (m : Nat) (W W' : World) : Prop where
  bl : Below m W W'
  ty : ∀ (k : Nat) (cs : Array Value) (T : TypeId) (r : Nat × Nat), W.heap[k]? = some (.cells cs T r) → ¬ bad T → W'.heap[k]? = some (.cells cs T r)
section
variable {bad : TypeId → Prop} {m : Nat} {A B D : World}
theorem FrT.refl (bad : TypeId → Prop) (m : Nat) (W : World) : FrT bad m W W := ⟨Below.refl _ _, fun _ _ _ _ h _ => h⟩
theorem FrT.trans (h : FrT bad m A B) (k : FrT bad m B D) : FrT bad m A D := ⟨h.bl.trans k.bl, fun j cs T r h1 h2 => k.ty j cs T r (h.ty j cs T r h1 h2) h2⟩
theorem FrT.mono {n : Nat} (h : FrT bad m A B) (hn : n ≤ m) : FrT bad n A B := ⟨h.bl.mono hn, h.ty⟩
theorem FrT.below (h : Below A.heap.size A B) (hm : m ≤ A.heap.size) : FrT bad m A B := ⟨h.mono hm, fun k cs T r hk _ => (h.block k (Array.getElem?_eq_some_iff.1 hk).1).trans hk⟩
theorem FrT.own (h : FrT bad m A B) {base sz n : Nat} {e : TypeId} {x : Value} {xs : List Value} (ho : A.ownsRow base e sz x n xs) (he : ¬ bad e) : B.ownsRow base e sz x n xs := by
  refine ⟨ho.1, ?_⟩
  rcases ho.2 with hn | ⟨g, cap, cur, rfl, hB, hg, rest⟩
  · exact .inl hn
  · exact .inr ⟨g, cap, cur, rfl, hB, h.ty _ _ _ _ hg he, rest⟩
theorem FrT.model (h : FrT ETy m A B) {b : Nat} {M : MM} (hM : MdAt A b M) : MdAt B b M :=
  ⟨h.ty _ _ _ _ hM.blk (by decide), h.own hM.marks (by decide), h.own hM.seats (by decide), fun S hS => h.own (hM.slots S hS) (by decide), fun S hS x hx => h.own (hM.smarks S hS x hx) (by decide), hM.some_, hM.nodup⟩
end
theorem own_type {W : World} {base sz n k : Nat} {e : TypeId} {x : Value} {xs : List Value} (ho : W.ownsRow base e sz x n xs) (hk : x.ownBlock = some k) : ∃ cs, W.heap[k]? = some (.cells cs e (0, 0)) := by
  rcases ho.2 with ⟨h, _⟩ | ⟨g, cap, cur, rfl, hB, hg, rest⟩
  · rw [h] at hk; cases hk
  · simp [Value.ownBlock] at hk
    subst hk
    exact ⟨cur, hg⟩
theorem fp_type {W : World} {b : Nat} {M : MM} (h : MdAt W b M) {k : Nat} (hk : M.fp b k) : ∃ cs T, MTy T ∧ W.heap[k]? = some (.cells cs T (0, 0)) := by
  rcases hk with rfl | hk | ⟨S, hS, hk⟩
  · exact ⟨_, _, .inl rfl, h.blk⟩
  · obtain ⟨cs, hc⟩ := own_type h.seats hk
    exact ⟨cs, _, .inr (.inr (.inl rfl)), hc⟩
  · obtain ⟨cs, hc⟩ := own_type (h.slots S hS) hk
    exact ⟨cs, _, .inr (.inr (.inr rfl)), hc⟩
theorem frm_keep {W W' : World} {b n : Nat} {M : MM} (h : MdAt W b M) (hk : KeepF (M.fp b) W W') (hf : ∀ k, M.fp b k → n ≤ k) (hn : n ≤ W.heap.size) : FrT MTy n W W' := by
  refine ⟨⟨hk.os, hk.tape, hk.output, hk.size, fun k hkn => hk.block k (by omega) fun hf2 => ?_⟩, fun k cs T r hc hT => (hk.block k (Array.getElem?_eq_some_iff.1 hc).1 fun hf2 => ?_).trans hc⟩
  · have := hf k hf2; omega
  · obtain ⟨cs2, T2, h1, h2⟩ := fp_type h hf2
    rw [hc] at h2
    injection h2 with h2
    injection h2 with _ h2 _
    subst h2
    exact hT h1
structure EachC (m n : Nat) (f : FuncId) (fs : Array Value) (Inv : List (Nat × MS) → World → Prop) : Prop where
  ent : ∀ args W, (callFunc f args).run Tryz.prog W = .ok (.enter f args) W
  keep : ∀ l W W', Inv l W → FrT MTy n W W' → Inv l W'
  call : ∀ W b M K l, n ≤ W.heap.size → Inv l W → MdAt W b M → MSok M.st K → l.length ≤ 2000 → Calls Tryz.prog f (#[.pointer (some ⟨b, 0, none⟩)] ++ fs) W fun e W' => e = .returned (.tuple #[]) ∧ Inv (l ++ [(b, M.st)]) W' ∧ FrT ETy m W W'
/-! ### reading an operation and a result out of a row of calls -/
theorem ldo_at {W : World} {b off k : Nat} {cs : List CallV} {c : CallV} (h : CAt W b off cs) (hk : cs[k]? = some c) : (loadOp (.pointer (some ⟨b, off + k * 27 + 2, none⟩))).run Tryz.prog W = .ok (.agg (opL c).toArray) W :=
  run_loadAt_mid W b (off + k * 27 + 2) 54 (opL c) _ (fun j v hv => by
    have hlt := (List.getElem?_eq_some_iff.1 hv).1
    have hl : j < 7 := by simpa [opL] using hlt
    have h1 := h.cell hk (2 + j) (by omega)
    rw [← Nat.add_assoc] at h1
    rw [h1]
    have : (opL c)[j]? = (callL c)[2 + j]? := by
      rw [show opL c = ((callL c).drop 2).take 7 from rfl, List.getElem?_take, List.getElem?_drop]
      rw [if_pos hl]
    rw [← this]
    exact hv) Tryz.underlying54 rfl (by kernel_rfl)
theorem ldr_at {W : World} {b off k : Nat} {cs : List CallV} {c : CallV} (h : CAt W b off cs) (hk : cs[k]? = some c) : (loadRes (.pointer (some ⟨b, off + k * 27 + 14, none⟩))).run Tryz.prog W = .ok (.agg (Hs.resL c).toArray) W :=
  run_loadAt_mid W b (off + k * 27 + 14) 51 (Hs.resL c) _ (fun j v hv => by
    have hlt := (List.getElem?_eq_some_iff.1 hv).1
    have hl : j < 13 := by simpa [Hs.resL] using hlt
    have h1 := h.cell hk (14 + j) (by omega)
    rw [← Nat.add_assoc] at h1
    rw [h1]
    have : (Hs.resL c)[j]? = (callL c)[14 + j]? := by
      rw [show Hs.resL c = ((callL c).drop 14).take 13 from rfl, List.getElem?_take, List.getElem?_drop]
      rw [if_pos hl]
    rw [← this]
    exact hv) Tryz.underlying51 rfl (by kernel_rfl)
end Go.Proofs.YtdeiocppghhfdaaGreat.Lin
namespace Go.Proofs.YtdeiocppghhfdaaGreat.Lin
set_option linter.unusedVariables false
set_option linter.unusedSimpArgs false
open Go.RowKit Go.Lib Go.Shelf
open Hs
open KitI (iv IRow own_below infoI)
attribute [local go_sem, local simp] Hs.callL_0 Hs.callL_1 Hs.callL_2 Hs.callL_3 Hs.callL_4 Hs.callL_5 Hs.callL_6 Hs.callL_7 Hs.callL_8 Hs.callL_9 Hs.callL_10 Hs.callL_11 Hs.callL_12 Hs.callL_13 Hs.callL_14 Hs.callL_15 Hs.callL_16 Hs.callL_17 Hs.callL_18 Hs.callL_19 Hs.callL_20 Hs.callL_21 Hs.callL_22 Hs.callL_23 Hs.callL_24 Hs.callL_25 Hs.callL_26 Hs.resL_0 Hs.resL_1 Hs.resL_2 Hs.resL_3 Hs.resL_4 Hs.resL_5 Hs.resL_6 Hs.resL_7 Hs.resL_8 Hs.resL_9 Hs.resL_10 Hs.resL_11 Hs.resL_12 Hs.callG_0 Hs.callG_1 Hs.callG_2 Hs.callG_3 Hs.callG_4 Hs.callG_5 Hs.callG_6 Hs.callG_7 Hs.callG_8 Hs.callG_9 Hs.callG_10 Hs.callG_11 Hs.callG_12 Hs.callG_13 Hs.callG_14 Hs.callG_15 Hs.callG_16 Hs.callG_17 Hs.callG_18 Hs.callG_19 Hs.callG_20 Hs.callG_21 Hs.callG_22 Hs.callG_23 Hs.callG_24 Hs.callG_25 Hs.callG_26 Hs.resG_0 Hs.resG_1 Hs.resG_2 Hs.resG_3 Hs.resG_4 Hs.resG_5 Hs.resG_6 Hs.resG_7 Hs.resG_8 Hs.resG_9 Hs.resG_10 Hs.resG_11 Hs.resG_12 Hs.callL_len Hs.resL_len
attribute [local go_sem ↓] Hs.loadCall_eq Hs.loadRes_eq
attribute [local go_sem] Hs.ld_new Hs.ld_first Hs.ld_second Hs.ldr_new Hs.st_new
theorem wpList_append_rows {P : Program} {w : World} {ops : Array Oper} {rest : List Oper} {o : Oper} {a : Act} {Q : Exit → Act → World → Prop} (hgd : o.guard = none) (s x : Operand) (t : TypeId)
    (ho : o.op = .call { callee := .builtin .append, args := #[s, x], argTypes := #[t, t] })
    (base : Nat) (e : TypeId) (i : TypeInfo) (z : Value) (size bytes : Nat) (ht : P.underlying t = some (.slice e)) (hi : P.info? e = some i) (hz : i.zero = some z)
    (hsize : i.size = size) (hby : i.bytes = bytes) (hzs : z.cells.size = size) (hsz : 0 < size)
    (v : Value) (n : Nat) (xs : List Value) (hs : a.eval s = v) (hown : w.ownsRow base e size v n xs)
    (vx : Value) (m base2 : Nat) (news : List Value) (hx : a.eval x = vx) (hox : w.ownsRow base2 e size vx m news) (h1 : ∀ u ∈ news, u.oneCell' = true)
    (h63 : n + m ≤ maxLen) (hbytes : (n + m) * bytes ≤ 140737488355328) (hbase : base ≤ w.heap.size)
    (h : ∀ v' w', w'.ownsRow base e size v' (n + m) (xs ++ news) → w.grownBy w' v.ownBlock → (v'.ownBlock = v.ownBlock ∨ v'.ownBlock = some w.heap.size) → wpList P ops Q rest (a.put o.dst v') w') :
    wpList P ops Q (o :: rest) a w := by
  rcases hox.2 with ⟨hv, hm⟩ | ⟨g, cap, cur, hv, _⟩
  · subst hv
    subst hm
    have hn : news = [] := List.eq_nil_of_length_eq_zero (by simpa using hox.1)
    subst hn
    have hrun := run_append_owned_none (P := P) (w := w) base t o.type e i size ht hi v n xs hown
    refine wpList_plain hgd fun K hK => ?_
    unfold Oper.wp execOp
    simp only [ho, resolve, invoke, builtin, Sem.run_bind, Sem.run_pure, Result.andThen_ok, List.map_toArray, List.map_cons, List.map_nil, hs, hx, hrun]
    exact hK _ _ (h v w (by rw [List.append_nil]; exact hown) ⟨rfl, rfl, rfl, Nat.le_refl _, fun _ _ _ => rfl⟩ (.inl rfl))
  · subst hv
    exact wpList_append_own_at (w := w) hgd s x t ho base e i z size bytes ht hi hz hsize hby hzs hsz v n xs hs hown ⟨g, 0, none⟩ m cap news hx hox.1 (hox.cells (g := g) rfl) h1 h63 hbytes hbase (fun v' w' h2 h3 _ h5 => h v' w' h2 h3 h5)
structure O3 (base : Nat) (W : World) (vb vm va : Value) (p : Pts) : Prop where
  b : W.ownsRow base tInt 1 vb p.b.length (p.b.map nv)
  m : W.ownsRow base tInt 1 vm p.m.length (p.m.map nv)
  a : W.ownsRow base tInt 1 va p.a.length (p.a.map nv)
  bm : vb.ownBlock = none ∨ vb.ownBlock ≠ vm.ownBlock
  ba : vb.ownBlock = none ∨ vb.ownBlock ≠ va.ownBlock
  ma : vm.ownBlock = none ∨ vm.ownBlock ≠ va.ownBlock
theorem part_symm {x y : Option Nat} (h : x = none ∨ x ≠ y) : y = none ∨ y ≠ x := by
  rcases h with h | h
  · subst h
    cases y with
    | none => exact .inl rfl
    | some k => exact .inr (by simp)
  · exact .inr fun e => h e.symm
theorem part_new {W : World} {base n : Nat} {x : Value} {xs : List Value} {y y' : Option Nat} (hx : W.ownsRow base tInt 1 x n xs) (h : x.ownBlock = none ∨ x.ownBlock ≠ y) (hat : y' = y ∨ y' = some W.heap.size) : x.ownBlock = none ∨ x.ownBlock ≠ y' := by
  rcases hat with rfl | rfl
  · exact h
  · cases hb : x.ownBlock with
    | none => exact .inl rfl
    | some k => exact .inr fun e => by have := (hx.lt k hb).2; injection e with e; omega
section
variable {base : Nat} {W W' : World} {vb vm va v' : Value} {p : Pts} {i : Nat}
theorem O3.nil (base : Nat) (W : World) : O3 base W (.slice none 0 0) (.slice none 0 0) (.slice none 0 0) ⟨[], [], []⟩ :=
  ⟨World.ownsRow_nil _ _ _ _, World.ownsRow_nil _ _ _ _, World.ownsRow_nil _ _ _ _, .inl rfl, .inl rfl, .inl rfl⟩
theorem O3.on (h : O3 base W vb vm va p) (hb : Below W.heap.size W W') : O3 base W' vb vm va p := ⟨own_below h.b hb, own_below h.m hb, own_below h.a hb, h.bm, h.ba, h.ma⟩
theorem nv_snoc {l : List Nat} : l.map nv ++ [nv i] = (l ++ [i]).map nv := by rw [List.map_append]; rfl
theorem O3.addB (h : O3 base W vb vm va p) (ho : W'.ownsRow base tInt 1 v' (p.b.length + 1) (p.b.map nv ++ [nv i])) (hg : W.grownBy W' vb.ownBlock) (hat : v'.ownBlock = vb.ownBlock ∨ v'.ownBlock = some W.heap.size) : O3 base W' v' vm va { p with b := p.b ++ [i] } :=
  ⟨by rw [nv_snoc] at ho; simpa using ho, h.m.kept hg (part_symm h.bm), h.a.kept hg (part_symm h.ba), part_symm (part_new h.m (part_symm h.bm) hat), part_symm (part_new h.a (part_symm h.ba) hat), h.ma⟩
theorem O3.addM (h : O3 base W vb vm va p) (ho : W'.ownsRow base tInt 1 v' (p.m.length + 1) (p.m.map nv ++ [nv i])) (hg : W.grownBy W' vm.ownBlock) (hat : v'.ownBlock = vm.ownBlock ∨ v'.ownBlock = some W.heap.size) : O3 base W' vb v' va { p with m := p.m ++ [i] } :=
  ⟨h.b.kept hg h.bm, by rw [nv_snoc] at ho; simpa using ho, h.a.kept hg (part_symm h.ma), part_new h.b h.bm hat, h.ba, part_symm (part_new h.a (part_symm h.ma) hat)⟩
theorem O3.addA (h : O3 base W vb vm va p) (ho : W'.ownsRow base tInt 1 v' (p.a.length + 1) (p.a.map nv ++ [nv i])) (hg : W.grownBy W' va.ownBlock) (hat : v'.ownBlock = va.ownBlock ∨ v'.ownBlock = some W.heap.size) : O3 base W' vb vm v' { p with a := p.a ++ [i] } :=
  ⟨h.b.kept hg h.ba, h.m.kept hg h.ma, by rw [nv_snoc] at ho; simpa using ho, h.bm, part_new h.b h.ba hat, part_new h.m h.ma hat⟩
end
def OrdPost (w : World) (cs : List CallV) (e : Ending) (w' : World) : Prop :=
  ((checkP cs).2 = 22 ∧ e = .returned (.tuple #[.slice none 0 0, .int .i64 22]) ∧ Below w.heap.size w w') ∨
  ((checkP cs).2 = 0 ∧ ∃ v E, EffIs cs E ∧ e = .returned (.tuple #[v, .int .i64 0]) ∧ w'.ownsRow w.heap.size tInt 1 v (ordW cs E).length ((ordW cs E).map nv) ∧ Below w.heap.size w w')
def ORl (cs : List CallV) (E : List Nat) (z base : Nat) (w : World) (vb vm va i : Value) (wr : World) : Prop :=
  ∃ (k : Nat) (p : Pts), i = .int .i64 k ∧ k ≤ E.length ∧ Below w.heap.size w wr ∧ O3 base wr vb vm va p ∧ ptsW cs z (E.take k) = p
structure KK (nb bq o : Nat) (c d : CallV) (W0 : World) : Prop where
  new : W0.heap[nb]? = some (.cells (callL c).toArray 56 (0, 0))
  d10 : W0.cell? ⟨bq, o + 10, none⟩ = some (.int .i64 d.took)
  d11 : W0.cell? ⟨bq, o + 11, none⟩ = some (.int .i64 d.rank)
theorem KK.k14 {nb bq o : Nat} {c d : CallV} {W0 W : World} (h : KK nb bq o c d W0) (hb : Below W0.heap.size W0 W) : W.cell? ⟨nb, 10, none⟩ = some (.int .i64 c.took) ∧ W.cell? ⟨nb, 9, none⟩ = some (.int .i64 c.invoked) ∧ W.cell? ⟨nb, 14, none⟩ = some (.int .i64 c.err) ∧ W.cell? ⟨bq, o + 10, none⟩ = some (.int .i64 d.took) := by
  have hn := blk_below h.new hb (Array.getElem?_eq_some_iff.1 h.new).1
  exact ⟨by rw [blk_cell hn]; rfl, by rw [blk_cell hn]; rfl, by rw [blk_cell hn]; rfl, (hb.cell (cell_size h.d10)).trans h.d10⟩
theorem KK.k16 {nb bq o : Nat} {c d : CallV} {W0 W : World} (h : KK nb bq o c d W0) (hb : Below W0.heap.size W0 W) : W.cell? ⟨nb, 10, none⟩ = some (.int .i64 c.took) ∧ W.cell? ⟨nb, 11, none⟩ = some (.int .i64 c.rank) ∧ W.cell? ⟨bq, o + 10, none⟩ = some (.int .i64 d.took) ∧ W.cell? ⟨bq, o + 11, none⟩ = some (.int .i64 d.rank) := by
  have hn := blk_below h.new hb (Array.getElem?_eq_some_iff.1 h.new).1
  exact ⟨by rw [blk_cell hn]; rfl, by rw [blk_cell hn]; rfl, (hb.cell (cell_size h.d10)).trans h.d10, (hb.cell (cell_size h.d11)).trans h.d11⟩
theorem pts_len {cs : List CallV} {z : Nat} : ∀ (E : List Nat) (p : Pts), (E.foldl (stepW cs z) p).b.length + (E.foldl (stepW cs z) p).m.length + (E.foldl (stepW cs z) p).a.length ≤ p.b.length + p.m.length + p.a.length + E.length
  | [], p => by simp
  | i :: E, p => by
    have h := pts_len (cs := cs) (z := z) E (stepW cs z p i)
    have h2 : (stepW cs z p i).b.length + (stepW cs z p i).m.length + (stepW cs z p i).a.length ≤ p.b.length + p.m.length + p.a.length + 1 := by
      unfold stepW
      split
      · omega
      · split
        · simp; omega
        · split <;> simp <;> omega
    rw [List.foldl_cons, List.length_cons]
    omega
set_option maxRecDepth 100000 in
set_option maxHeartbeats 8000000 in
theorem order_any (p : Option Addr) (cap : Nat) (cs : List CallV) (w : World) (hC : CRow w p cap cs) (hs : cs.length ≤ 1000) (hok : ∀ c ∈ cs, c.Ok) :
    Calls Tryz.prog 36 #[.slice p cs.length cap] w (OrdPost w cs) := by
  obtain ⟨i0, hi, hz0, hz1, hz2⟩ := info_parts infoI
  have hef := effects_any p cap cs w hC (by omega) hok
  go_enter Tryz.func36, Tryz.ntmps36
  go_wp2_with fail
  refine hef.mono ?_
  clear hef
  rintro e w1 (⟨h22, rfl, hb1⟩ | ⟨h0, v, E, hE, rfl, hO, hb1⟩)
  · go_wp2_with fail
    go_returns
    exact .inl ⟨h22, rfl, hb1⟩
  · obtain ⟨ae, qe, rfl⟩ := own_slice hO
    have hO1 : IRd w1 ae (E.map fun (x : Nat) => (x : Int)) := IRd.of (irow_own hO rfl)
    have hEl : E.length ≤ cs.length := eff_len hE
    have hcl := closing_any ae p qe cap E cs w1 hO1 (hC.on hb1) (fun i hi => ((eff_in hE).1 hi).1) (by omega) (by omega)
    cases hc : closeP cs E with
    | none =>
      rw [hc] at hcl
      have hord := ord_none hc
      have Hc := Lib.hid hc
      clear hc
      go_wp2_with fail
      refine hcl.mono ?_
      rintro e w2 ⟨rfl, hb2⟩
      go_wp2_with fail
      go_returns
      refine .inr ⟨h0, _, E, hE, rfl, ?_, hb1.trans (hb2.mono hb1.size)⟩
      rw [hord]
      exact own_mono (by omega) (own_below hO hb2)
    | some z =>
      have ecl : clI (some z) = (z : Int) := rfl
      rw [hc, ecl] at hcl
      have hzE : z ∈ E := List.mem_of_find?_eq_some hc
      obtain ⟨hzl, _⟩ := (eff_in hE).1 hzE
      have hord : ordW cs E = (ptsW cs z E).b ++ (ptsW cs z E).m ++ [z] ++ (ptsW cs z E).a := by unfold ordW; rw [hc]
      have Hc := Lib.hid hc
      have Hord := Lib.hid hord
      clear hc hord
      go_wp2_with fail
      refine hcl.mono ?_
      clear hcl
      rintro e w2 ⟨rfl, hb2⟩
      have hbw : Below w.heap.size w w2 := hb1.trans (hb2.mono hb1.size)
      obtain ⟨base, hbase⟩ : ∃ base, w2.heap.size = base := ⟨_, rfl⟩
      have hO2 := hO1.on hb2
      have hC2 := hC.on hbw
      clear hO1 hO hb1 hb2
      go_wp2_with fail
      go_loopw [7, 8, 9, 11, 12, 29] (fun vb vm va x11 x12 i wr => ORl cs E z base w2 vb vm va i wr) (fun vb vm va x11 x12 i wr => E.length - (intOf i).toNat)
      case atStart => exact ⟨0, ⟨[], [], []⟩, rfl, by omega, Below.refl _ _, O3.nil _ _, rfl⟩
      case round =>
        obtain ⟨k, pt, rfl, hk, hB, hO3, hpt⟩ := hrel
        obtain ⟨av, qv, rfl⟩ := own_slice hO3.a
        by_cases hlt : k < E.length
        · obtain ⟨i, hiE⟩ : ∃ i, E[k]? = some i := ⟨_, List.getElem?_eq_getElem hlt⟩
          obtain ⟨bo, oo, rfl, hcc⟩ := irow_at hO2 (by rw [List.length_map]; omega)
          have hck := hcc wr hB k _ (cast_at hiE)
          have hic : i < cs.length := ((eff_in hE).1 (List.mem_of_getElem? hiE)).1
          obtain ⟨bq, off, rfl, hcap, hbq, hA⟩ := crow_at hC2 (by omega)
          have hAr := hA.below hB hbq
          have hld := hAr.load (getC_some hic)
          have hst := pts_step (cs := cs) (z := z) hiE
          rw [hpt] at hst
          have hpl : pt.b.length + pt.m.length + pt.a.length ≤ 1000 := by
            have := pts_len (cs := cs) (z := z) (E.take k) ⟨[], [], []⟩
            have e : (E.take k).foldl (stepW cs z) ⟨[], [], []⟩ = pt := hpt
            rw [e, List.length_take] at this
            simp only [List.length_nil] at this
            omega
          have z10 := hAr.cell (getC_some hzl) 10 (by omega)
          have z11 := hAr.cell (getC_some hzl) 11 (by omega)
          rw [callL_10] at z10
          rw [callL_11] at z11
          have hcL : getC cs i = getC cs i := rfl
          have hst2 : stepW cs z pt i = if i = z then pt else if mvQ cs z i then { pt with m := pt.m ++ [i] } else if (!pt.a.isEmpty || afQ cs z i) then { pt with a := pt.a ++ [i] } else { pt with b := pt.b ++ [i] } := rfl
          have hmv : mvQ cs z i = (decide ((getC cs z).took < (getC cs i).took) && decide ((getC cs i).invoked < (getC cs z).took) && decide ((getC cs i).err ≠ 13)) := rfl
          have haf : afQ cs z i = (decide ((getC cs z).took < (getC cs i).took) || (decide ((getC cs i).took = (getC cs z).took) && decide ((getC cs z).rank < (getC cs i).rank))) := rfl
          rw [hst2] at hst
          have h0b : Below wr.heap.size wr (wr.alloc (.cells (callL (getC cs i)).toArray 56)) := (Below.refl _ _).alloc (Nat.le_refl _) _
          have hKK : KK wr.heap.size bq (off + z * 27) (getC cs i) (getC cs z) (wr.alloc (.cells (callL (getC cs i)).toArray 56)) := ⟨blk_new _ _ _, (h0b.cell (cell_size z10)).trans z10, (h0b.cell (cell_size z11)).trans z11⟩
          have hB0 := hB.trans (h0b.mono hB.size)
          have hO0 := hO3.on h0b
          generalize getC cs i = c at *
          generalize getC cs z = d at *
          have Hst := Lib.hid hst
          have Hmv := Lib.hid hmv
          have Haf := Lib.hid haf
          have Hpl := Lib.hid hpl
          clear hst hst2 hmv haf hpl hcL hcc hO2 hC2 hA hAr hpt hO3 z10 z11
          by_cases hiz : i = z
          · subst hiz
            go_wp2_with fail
            go_roundw
            case rel => exact ⟨k + 1, pt, by go_num, by omega, hB0, hO0, by rw [Hst.out, if_pos rfl]⟩
            case measure => simp [intOf]; omega
          · have n1 : ((i : Int) == (z : Int)) = false := by rw [beq_eq_false_iff_ne]; omega
            have n2 : (i == z) = false := by simpa using hiz
            have n3 : (i = z) = False := by simpa using hiz
            have Hiz := Lib.hid hiz
            clear hiz
            go_wp2_with fail
            have HK := Lib.hid hKK
            clear hKK hld hck
            generalize wr.alloc (.cells (callL c).toArray 56) = W0 at *
            generalize wr.heap.size = nb at *
            have hbs : w2.heap.size ≤ W0.heap.size := hB0.size
            by_cases h1 : d.took < c.took
            · have e1 : decide (d.took < c.took) = true := by simpa using h1
              by_cases h2 : c.invoked < d.took
              · have e2 : decide (c.invoked < d.took) = true := by simpa using h2
                by_cases h3 : c.err = 13
                · have e3 : (c.err != 13) = false := by simpa using h3
                  have em : mvQ cs z i = false := by rw [Hmv.out, e1, e2]; simpa using h3
                  clear h1 h2 h3
                  by_cases h4 : 0 < pt.a.length
                  · have e4 : decide (0 < pt.a.length) = true := by simpa using h4
                    have hta : (!pt.a.isEmpty || afQ cs z i) = true := by
                      have : pt.a.isEmpty = false := by cases ha : pt.a with | nil => rw [ha] at h4; simp at h4 | cons x l => rfl
                      rw [this]; rfl
                    have hs2 : ptsW cs z (E.take (k + 1)) = { pt with a := pt.a ++ [i] } := by rw [Hst.out, if_neg Hiz.out, if_neg (by rw [em]; simp), if_pos hta]
                    have Hs2 := Lib.hid hs2
                    clear hs2 em hta
                    clear h4
                    refine wp_region_noPanic ?_
                    refine wp_region_held_drew (S := fun W => W.cell? ⟨nb, 10, none⟩ = some (.int .i64 c.took) ∧ W.cell? ⟨nb, 9, none⟩ = some (.int .i64 c.invoked) ∧ W.cell? ⟨nb, 14, none⟩ = some (.int .i64 c.err) ∧ W.cell? ⟨bq, off + z * 27 + 10, none⟩ = some (.int .i64 d.took)) (by kernel_rfl) ?_ (fun hHeld => ?_)
                    · first | exact HK.out.k14 (Below.refl _ _).drew | exact HK.out.k14 (Below.refl _ _)
                    iterate 25 (first | (refine np_sn ?_; (try simp only [nSO])) | ((first | refine np_n ?_ ?_ ?_ | refine np_t 0 ?_ ?_ ?_); rotate_left 1; (· (intro w hSw; (try dsimp only at hSw); go_simp; all_goals with_reducible rfl)); (try simp only [nSO])))
                    refine wpAnyH_done (by kernel_rfl) ?_ _
                    refine NoPanic.normal ?_
                    go_wp2_with fail
                    refine wp_region_noPanic ?_
                    refine wp_region_held_drew (S := fun W => W.cell? ⟨nb, 10, none⟩ = some (.int .i64 c.took) ∧ W.cell? ⟨nb, 11, none⟩ = some (.int .i64 c.rank) ∧ W.cell? ⟨bq, off + z * 27 + 10, none⟩ = some (.int .i64 d.took) ∧ W.cell? ⟨bq, off + z * 27 + 11, none⟩ = some (.int .i64 d.rank)) (by kernel_rfl) ?_ (fun hHeld => ?_)
                    · first | exact HK.out.k16 (Below.refl _ _).drew | exact HK.out.k16 (Below.refl _ _).drew.drew
                    iterate 34 (first | (refine np_sn ?_; (try simp only [nSO])) | ((first | refine np_n ?_ ?_ ?_ | refine np_t 0 ?_ ?_ ?_); rotate_left 1; (· (intro w hSw; (try dsimp only at hSw); go_simp; all_goals with_reducible rfl)); (try simp only [nSO])))
                    refine wpAnyH_done (by kernel_rfl) ?_ _
                    refine NoPanic.normal ?_
                    have hbd := (Below.refl W0.heap.size W0).drew.drew
                    have hO2 := hO0.on hbd
                    have hB2 := hB0.drew.drew
                    clear hHeld
                    generalize W0.drew.drew = W1 at *
                    have hl2 := Hpl.out
                    go_wp2_with (at_builtin; (refine wpList_append_own_at _ rfl _ _ 28 rfl base tInt i0 (.int .i64 0) 1 8 Tryz.underlying28 hi hz0 hz1 hz2 rfl (by decide) _ _ _ rfl (hO2.a.alloc _) ⟨_, 0, none⟩ 1 1 [nv i] rfl rfl (cell_one_new _ _ _) (by simp [Value.oneCell', nv]) (by unfold maxLen; omega) (by omega) (by have := hB2.size; simp; omega) ?_; intro v5 w5 hO5 hg5 _ hat5))
                    have hO6 := (hO2.on (below_alloc _ _)).addA hO5 hg5 hat5
                    have hB6 := (hB2.alloc hB2.size (.cells #[.int .i64 (i : Int)] tInt)).grown hg5 (by have := hB2.size; simp; omega) (fun k hk => by have := (hO2.a.lt k hk).1; omega)
                    go_roundw
                    case rel => exact ⟨k + 1, _, by go_num, by omega, hB6, hO6, Hs2.out⟩
                    case measure => simp [intOf]; omega
                  · have e4 : decide (0 < pt.a.length) = false := by simpa using h4
                    have hta : (!pt.a.isEmpty || afQ cs z i) = true := by
                      rw [Haf.out, e1]; simp
                    have hs2 : ptsW cs z (E.take (k + 1)) = { pt with a := pt.a ++ [i] } := by rw [Hst.out, if_neg Hiz.out, if_neg (by rw [em]; simp), if_pos hta]
                    have Hs2 := Lib.hid hs2
                    clear hs2 em hta
                    clear h4
                    refine wp_region_noPanic ?_
                    refine wp_region_held_drew (S := fun W => W.cell? ⟨nb, 10, none⟩ = some (.int .i64 c.took) ∧ W.cell? ⟨nb, 9, none⟩ = some (.int .i64 c.invoked) ∧ W.cell? ⟨nb, 14, none⟩ = some (.int .i64 c.err) ∧ W.cell? ⟨bq, off + z * 27 + 10, none⟩ = some (.int .i64 d.took)) (by kernel_rfl) ?_ (fun hHeld => ?_)
                    · first | exact HK.out.k14 (Below.refl _ _).drew | exact HK.out.k14 (Below.refl _ _)
                    iterate 25 (first | (refine np_sn ?_; (try simp only [nSO])) | ((first | refine np_n ?_ ?_ ?_ | refine np_t 0 ?_ ?_ ?_); rotate_left 1; (· (intro w hSw; (try dsimp only at hSw); go_simp; all_goals with_reducible rfl)); (try simp only [nSO])))
                    refine wpAnyH_done (by kernel_rfl) ?_ _
                    refine NoPanic.normal ?_
                    go_wp2_with fail
                    refine wp_region_noPanic ?_
                    refine wp_region_held_drew (S := fun W => W.cell? ⟨nb, 10, none⟩ = some (.int .i64 c.took) ∧ W.cell? ⟨nb, 11, none⟩ = some (.int .i64 c.rank) ∧ W.cell? ⟨bq, off + z * 27 + 10, none⟩ = some (.int .i64 d.took) ∧ W.cell? ⟨bq, off + z * 27 + 11, none⟩ = some (.int .i64 d.rank)) (by kernel_rfl) ?_ (fun hHeld => ?_)
                    · first | exact HK.out.k16 (Below.refl _ _).drew | exact HK.out.k16 (Below.refl _ _).drew.drew
                    iterate 34 (first | (refine np_sn ?_; (try simp only [nSO])) | ((first | refine np_n ?_ ?_ ?_ | refine np_t 0 ?_ ?_ ?_); rotate_left 1; (· (intro w hSw; (try dsimp only at hSw); go_simp; all_goals with_reducible rfl)); (try simp only [nSO])))
                    refine wpAnyH_done (by kernel_rfl) ?_ _
                    refine NoPanic.normal ?_
                    have hbd := (Below.refl W0.heap.size W0).drew.drew
                    have hO2 := hO0.on hbd
                    have hB2 := hB0.drew.drew
                    clear hHeld
                    generalize W0.drew.drew = W1 at *
                    have hl2 := Hpl.out
                    go_wp2_with (at_builtin; (refine wpList_append_own_at _ rfl _ _ 28 rfl base tInt i0 (.int .i64 0) 1 8 Tryz.underlying28 hi hz0 hz1 hz2 rfl (by decide) _ _ _ rfl (hO2.a.alloc _) ⟨_, 0, none⟩ 1 1 [nv i] rfl rfl (cell_one_new _ _ _) (by simp [Value.oneCell', nv]) (by unfold maxLen; omega) (by omega) (by have := hB2.size; simp; omega) ?_; intro v5 w5 hO5 hg5 _ hat5))
                    have hO6 := (hO2.on (below_alloc _ _)).addA hO5 hg5 hat5
                    have hB6 := (hB2.alloc hB2.size (.cells #[.int .i64 (i : Int)] tInt)).grown hg5 (by have := hB2.size; simp; omega) (fun k hk => by have := (hO2.a.lt k hk).1; omega)
                    go_roundw
                    case rel => exact ⟨k + 1, _, by go_num, by omega, hB6, hO6, Hs2.out⟩
                    case measure => simp [intOf]; omega
                · have e3 : (c.err != 13) = true := by simpa using h3
                  have em : mvQ cs z i = true := by rw [Hmv.out, e1, e2]; simpa using h3
                  have hs2 : ptsW cs z (E.take (k + 1)) = { pt with m := pt.m ++ [i] } := by rw [Hst.out, if_neg Hiz.out, em]; rfl
                  have Hs2 := Lib.hid hs2
                  clear h1 h2 h3 em hs2
                  refine wp_region_noPanic ?_
                  refine wp_region_held_drew (S := fun W => W.cell? ⟨nb, 10, none⟩ = some (.int .i64 c.took) ∧ W.cell? ⟨nb, 9, none⟩ = some (.int .i64 c.invoked) ∧ W.cell? ⟨nb, 14, none⟩ = some (.int .i64 c.err) ∧ W.cell? ⟨bq, off + z * 27 + 10, none⟩ = some (.int .i64 d.took)) (by kernel_rfl) ?_ (fun hHeld => ?_)
                  · first | exact HK.out.k14 (Below.refl _ _).drew | exact HK.out.k14 (Below.refl _ _)
                  iterate 25 (first | (refine np_sn ?_; (try simp only [nSO])) | ((first | refine np_n ?_ ?_ ?_ | refine np_t 0 ?_ ?_ ?_); rotate_left 1; (· (intro w hSw; (try dsimp only at hSw); go_simp; all_goals with_reducible rfl)); (try simp only [nSO])))
                  refine wpAnyH_done (by kernel_rfl) ?_ _
                  refine NoPanic.normal ?_
                  have hbd := (Below.refl W0.heap.size W0).drew
                  have hO2 := hO0.on hbd
                  have hB2 := hB0.drew
                  generalize W0.drew = W1 at *
                  have hl2 := Hpl.out
                  go_wp2_with (at_builtin; (refine wpList_append_own_at _ rfl _ _ 28 rfl base tInt i0 (.int .i64 0) 1 8 Tryz.underlying28 hi hz0 hz1 hz2 rfl (by decide) _ _ _ rfl (hO2.m.alloc _) ⟨_, 0, none⟩ 1 1 [nv i] rfl rfl (cell_one_new _ _ _) (by simp [Value.oneCell', nv]) (by unfold maxLen; omega) (by omega) (by have := hB2.size; simp; omega) ?_; intro v5 w5 hO5 hg5 _ hat5))
                  have hO6 := (hO2.on (below_alloc _ _)).addM hO5 hg5 hat5
                  have hB6 := (hB2.alloc hB2.size (.cells #[.int .i64 (i : Int)] tInt)).grown hg5 (by have := hB2.size; simp; omega) (fun k hk => by have := (hO2.m.lt k hk).1; omega)
                  go_roundw
                  case rel => exact ⟨k + 1, _, by go_num, by omega, hB6, hO6, Hs2.out⟩
                  case measure => simp [intOf]; omega
              · have e2 : decide (c.invoked < d.took) = false := by simpa using h2
                have em : mvQ cs z i = false := by rw [Hmv.out, e1, e2]; rfl
                clear h1 h2
                by_cases h4 : 0 < pt.a.length
                · have e4 : decide (0 < pt.a.length) = true := by simpa using h4
                  have hta : (!pt.a.isEmpty || afQ cs z i) = true := by
                    have : pt.a.isEmpty = false := by cases ha : pt.a with | nil => rw [ha] at h4; simp at h4 | cons x l => rfl
                    rw [this]; rfl
                  have hs2 : ptsW cs z (E.take (k + 1)) = { pt with a := pt.a ++ [i] } := by rw [Hst.out, if_neg Hiz.out, if_neg (by rw [em]; simp), if_pos hta]
                  have Hs2 := Lib.hid hs2
                  clear hs2 em hta
                  clear h4
                  refine wp_region_noPanic ?_
                  refine wp_region_held_drew (S := fun W => W.cell? ⟨nb, 10, none⟩ = some (.int .i64 c.took) ∧ W.cell? ⟨nb, 9, none⟩ = some (.int .i64 c.invoked) ∧ W.cell? ⟨nb, 14, none⟩ = some (.int .i64 c.err) ∧ W.cell? ⟨bq, off + z * 27 + 10, none⟩ = some (.int .i64 d.took)) (by kernel_rfl) ?_ (fun hHeld => ?_)
                  · first | exact HK.out.k14 (Below.refl _ _).drew | exact HK.out.k14 (Below.refl _ _)
                  iterate 25 (first | (refine np_sn ?_; (try simp only [nSO])) | ((first | refine np_n ?_ ?_ ?_ | refine np_t 0 ?_ ?_ ?_); rotate_left 1; (· (intro w hSw; (try dsimp only at hSw); go_simp; all_goals with_reducible rfl)); (try simp only [nSO])))
                  refine wpAnyH_done (by kernel_rfl) ?_ _
                  refine NoPanic.normal ?_
                  go_wp2_with fail
                  refine wp_region_noPanic ?_
                  refine wp_region_held_drew (S := fun W => W.cell? ⟨nb, 10, none⟩ = some (.int .i64 c.took) ∧ W.cell? ⟨nb, 11, none⟩ = some (.int .i64 c.rank) ∧ W.cell? ⟨bq, off + z * 27 + 10, none⟩ = some (.int .i64 d.took) ∧ W.cell? ⟨bq, off + z * 27 + 11, none⟩ = some (.int .i64 d.rank)) (by kernel_rfl) ?_ (fun hHeld => ?_)
                  · first | exact HK.out.k16 (Below.refl _ _).drew | exact HK.out.k16 (Below.refl _ _).drew.drew
                  iterate 34 (first | (refine np_sn ?_; (try simp only [nSO])) | ((first | refine np_n ?_ ?_ ?_ | refine np_t 0 ?_ ?_ ?_); rotate_left 1; (· (intro w hSw; (try dsimp only at hSw); go_simp; all_goals with_reducible rfl)); (try simp only [nSO])))
                  refine wpAnyH_done (by kernel_rfl) ?_ _
                  refine NoPanic.normal ?_
                  have hbd := (Below.refl W0.heap.size W0).drew.drew
                  have hO2 := hO0.on hbd
                  have hB2 := hB0.drew.drew
                  clear hHeld
                  generalize W0.drew.drew = W1 at *
                  have hl2 := Hpl.out
                  go_wp2_with (at_builtin; (refine wpList_append_own_at _ rfl _ _ 28 rfl base tInt i0 (.int .i64 0) 1 8 Tryz.underlying28 hi hz0 hz1 hz2 rfl (by decide) _ _ _ rfl (hO2.a.alloc _) ⟨_, 0, none⟩ 1 1 [nv i] rfl rfl (cell_one_new _ _ _) (by simp [Value.oneCell', nv]) (by unfold maxLen; omega) (by omega) (by have := hB2.size; simp; omega) ?_; intro v5 w5 hO5 hg5 _ hat5))
                  have hO6 := (hO2.on (below_alloc _ _)).addA hO5 hg5 hat5
                  have hB6 := (hB2.alloc hB2.size (.cells #[.int .i64 (i : Int)] tInt)).grown hg5 (by have := hB2.size; simp; omega) (fun k hk => by have := (hO2.a.lt k hk).1; omega)
                  go_roundw
                  case rel => exact ⟨k + 1, _, by go_num, by omega, hB6, hO6, Hs2.out⟩
                  case measure => simp [intOf]; omega
                · have e4 : decide (0 < pt.a.length) = false := by simpa using h4
                  have hta : (!pt.a.isEmpty || afQ cs z i) = true := by
                    rw [Haf.out, e1]; simp
                  have hs2 : ptsW cs z (E.take (k + 1)) = { pt with a := pt.a ++ [i] } := by rw [Hst.out, if_neg Hiz.out, if_neg (by rw [em]; simp), if_pos hta]
                  have Hs2 := Lib.hid hs2
                  clear hs2 em hta
                  clear h4
                  refine wp_region_noPanic ?_
                  refine wp_region_held_drew (S := fun W => W.cell? ⟨nb, 10, none⟩ = some (.int .i64 c.took) ∧ W.cell? ⟨nb, 9, none⟩ = some (.int .i64 c.invoked) ∧ W.cell? ⟨nb, 14, none⟩ = some (.int .i64 c.err) ∧ W.cell? ⟨bq, off + z * 27 + 10, none⟩ = some (.int .i64 d.took)) (by kernel_rfl) ?_ (fun hHeld => ?_)
                  · first | exact HK.out.k14 (Below.refl _ _).drew | exact HK.out.k14 (Below.refl _ _)
                  iterate 25 (first | (refine np_sn ?_; (try simp only [nSO])) | ((first | refine np_n ?_ ?_ ?_ | refine np_t 0 ?_ ?_ ?_); rotate_left 1; (· (intro w hSw; (try dsimp only at hSw); go_simp; all_goals with_reducible rfl)); (try simp only [nSO])))
                  refine wpAnyH_done (by kernel_rfl) ?_ _
                  refine NoPanic.normal ?_
                  go_wp2_with fail
                  refine wp_region_noPanic ?_
                  refine wp_region_held_drew (S := fun W => W.cell? ⟨nb, 10, none⟩ = some (.int .i64 c.took) ∧ W.cell? ⟨nb, 11, none⟩ = some (.int .i64 c.rank) ∧ W.cell? ⟨bq, off + z * 27 + 10, none⟩ = some (.int .i64 d.took) ∧ W.cell? ⟨bq, off + z * 27 + 11, none⟩ = some (.int .i64 d.rank)) (by kernel_rfl) ?_ (fun hHeld => ?_)
                  · first | exact HK.out.k16 (Below.refl _ _).drew | exact HK.out.k16 (Below.refl _ _).drew.drew
                  iterate 34 (first | (refine np_sn ?_; (try simp only [nSO])) | ((first | refine np_n ?_ ?_ ?_ | refine np_t 0 ?_ ?_ ?_); rotate_left 1; (· (intro w hSw; (try dsimp only at hSw); go_simp; all_goals with_reducible rfl)); (try simp only [nSO])))
                  refine wpAnyH_done (by kernel_rfl) ?_ _
                  refine NoPanic.normal ?_
                  have hbd := (Below.refl W0.heap.size W0).drew.drew
                  have hO2 := hO0.on hbd
                  have hB2 := hB0.drew.drew
                  clear hHeld
                  generalize W0.drew.drew = W1 at *
                  have hl2 := Hpl.out
                  go_wp2_with (at_builtin; (refine wpList_append_own_at _ rfl _ _ 28 rfl base tInt i0 (.int .i64 0) 1 8 Tryz.underlying28 hi hz0 hz1 hz2 rfl (by decide) _ _ _ rfl (hO2.a.alloc _) ⟨_, 0, none⟩ 1 1 [nv i] rfl rfl (cell_one_new _ _ _) (by simp [Value.oneCell', nv]) (by unfold maxLen; omega) (by omega) (by have := hB2.size; simp; omega) ?_; intro v5 w5 hO5 hg5 _ hat5))
                  have hO6 := (hO2.on (below_alloc _ _)).addA hO5 hg5 hat5
                  have hB6 := (hB2.alloc hB2.size (.cells #[.int .i64 (i : Int)] tInt)).grown hg5 (by have := hB2.size; simp; omega) (fun k hk => by have := (hO2.a.lt k hk).1; omega)
                  go_roundw
                  case rel => exact ⟨k + 1, _, by go_num, by omega, hB6, hO6, Hs2.out⟩
                  case measure => simp [intOf]; omega
            · have e1 : decide (d.took < c.took) = false := by simpa using h1
              have em : mvQ cs z i = false := by rw [Hmv.out, e1]; rfl
              by_cases h4 : 0 < pt.a.length
              · have e4 : decide (0 < pt.a.length) = true := by simpa using h4
                have hta : (!pt.a.isEmpty || afQ cs z i) = true := by
                  have : pt.a.isEmpty = false := by cases ha : pt.a with | nil => rw [ha] at h4; simp at h4 | cons x l => rfl
                  rw [this]; rfl
                have hs2 : ptsW cs z (E.take (k + 1)) = { pt with a := pt.a ++ [i] } := by rw [Hst.out, if_neg Hiz.out, if_neg (by rw [em]; simp), if_pos hta]
                have Hs2 := Lib.hid hs2
                clear hs2 em hta
                clear h4 h1
                refine wp_region_noPanic ?_
                refine wp_region_held_drew (S := fun W => W.cell? ⟨nb, 10, none⟩ = some (.int .i64 c.took) ∧ W.cell? ⟨nb, 9, none⟩ = some (.int .i64 c.invoked) ∧ W.cell? ⟨nb, 14, none⟩ = some (.int .i64 c.err) ∧ W.cell? ⟨bq, off + z * 27 + 10, none⟩ = some (.int .i64 d.took)) (by kernel_rfl) ?_ (fun hHeld => ?_)
                · first | exact HK.out.k14 (Below.refl _ _).drew | exact HK.out.k14 (Below.refl _ _)
                iterate 25 (first | (refine np_sn ?_; (try simp only [nSO])) | ((first | refine np_n ?_ ?_ ?_ | refine np_t 0 ?_ ?_ ?_); rotate_left 1; (· (intro w hSw; (try dsimp only at hSw); go_simp; all_goals with_reducible rfl)); (try simp only [nSO])))
                refine wpAnyH_done (by kernel_rfl) ?_ _
                refine NoPanic.normal ?_
                go_wp2_with fail
                refine wp_region_noPanic ?_
                refine wp_region_held_drew (S := fun W => W.cell? ⟨nb, 10, none⟩ = some (.int .i64 c.took) ∧ W.cell? ⟨nb, 11, none⟩ = some (.int .i64 c.rank) ∧ W.cell? ⟨bq, off + z * 27 + 10, none⟩ = some (.int .i64 d.took) ∧ W.cell? ⟨bq, off + z * 27 + 11, none⟩ = some (.int .i64 d.rank)) (by kernel_rfl) ?_ (fun hHeld => ?_)
                · first | exact HK.out.k16 (Below.refl _ _).drew | exact HK.out.k16 (Below.refl _ _).drew.drew
                iterate 34 (first | (refine np_sn ?_; (try simp only [nSO])) | ((first | refine np_n ?_ ?_ ?_ | refine np_t 0 ?_ ?_ ?_); rotate_left 1; (· (intro w hSw; (try dsimp only at hSw); go_simp; all_goals with_reducible rfl)); (try simp only [nSO])))
                refine wpAnyH_done (by kernel_rfl) ?_ _
                refine NoPanic.normal ?_
                have hbd := (Below.refl W0.heap.size W0).drew.drew
                have hO2 := hO0.on hbd
                have hB2 := hB0.drew.drew
                clear hHeld
                generalize W0.drew.drew = W1 at *
                have hl2 := Hpl.out
                go_wp2_with (at_builtin; (refine wpList_append_own_at _ rfl _ _ 28 rfl base tInt i0 (.int .i64 0) 1 8 Tryz.underlying28 hi hz0 hz1 hz2 rfl (by decide) _ _ _ rfl (hO2.a.alloc _) ⟨_, 0, none⟩ 1 1 [nv i] rfl rfl (cell_one_new _ _ _) (by simp [Value.oneCell', nv]) (by unfold maxLen; omega) (by omega) (by have := hB2.size; simp; omega) ?_; intro v5 w5 hO5 hg5 _ hat5))
                have hO6 := (hO2.on (below_alloc _ _)).addA hO5 hg5 hat5
                have hB6 := (hB2.alloc hB2.size (.cells #[.int .i64 (i : Int)] tInt)).grown hg5 (by have := hB2.size; simp; omega) (fun k hk => by have := (hO2.a.lt k hk).1; omega)
                go_roundw
                case rel => exact ⟨k + 1, _, by go_num, by omega, hB6, hO6, Hs2.out⟩
                case measure => simp [intOf]; omega
              · have e4 : decide (0 < pt.a.length) = false := by simpa using h4
                have e7 : pt.a.isEmpty = true := by cases ha : pt.a with | nil => rfl | cons x l => rw [ha] at h4; simp at h4
                by_cases h5 : c.took = d.took
                · have e5 : (c.took == d.took) = true := by simpa using h5
                  by_cases h6 : d.rank < c.rank
                  · have e6 : decide (d.rank < c.rank) = true := by simpa using h6
                    have hta : (!pt.a.isEmpty || afQ cs z i) = true := by rw [Haf.out, e1, e6, e7]; simpa using h5
                    have hs2 : ptsW cs z (E.take (k + 1)) = { pt with a := pt.a ++ [i] } := by rw [Hst.out, if_neg Hiz.out, if_neg (by rw [em]; simp), if_pos hta]
                    have Hs2 := Lib.hid hs2
                    clear hs2 em hta
                    clear h4 h1 h5 h6 e7
                    refine wp_region_noPanic ?_
                    refine wp_region_held_drew (S := fun W => W.cell? ⟨nb, 10, none⟩ = some (.int .i64 c.took) ∧ W.cell? ⟨nb, 9, none⟩ = some (.int .i64 c.invoked) ∧ W.cell? ⟨nb, 14, none⟩ = some (.int .i64 c.err) ∧ W.cell? ⟨bq, off + z * 27 + 10, none⟩ = some (.int .i64 d.took)) (by kernel_rfl) ?_ (fun hHeld => ?_)
                    · first | exact HK.out.k14 (Below.refl _ _).drew | exact HK.out.k14 (Below.refl _ _)
                    iterate 25 (first | (refine np_sn ?_; (try simp only [nSO])) | ((first | refine np_n ?_ ?_ ?_ | refine np_t 0 ?_ ?_ ?_); rotate_left 1; (· (intro w hSw; (try dsimp only at hSw); go_simp; all_goals with_reducible rfl)); (try simp only [nSO])))
                    refine wpAnyH_done (by kernel_rfl) ?_ _
                    refine NoPanic.normal ?_
                    go_wp2_with fail
                    refine wp_region_noPanic ?_
                    refine wp_region_held_drew (S := fun W => W.cell? ⟨nb, 10, none⟩ = some (.int .i64 c.took) ∧ W.cell? ⟨nb, 11, none⟩ = some (.int .i64 c.rank) ∧ W.cell? ⟨bq, off + z * 27 + 10, none⟩ = some (.int .i64 d.took) ∧ W.cell? ⟨bq, off + z * 27 + 11, none⟩ = some (.int .i64 d.rank)) (by kernel_rfl) ?_ (fun hHeld => ?_)
                    · first | exact HK.out.k16 (Below.refl _ _).drew | exact HK.out.k16 (Below.refl _ _).drew.drew
                    iterate 34 (first | (refine np_sn ?_; (try simp only [nSO])) | ((first | refine np_n ?_ ?_ ?_ | refine np_t 0 ?_ ?_ ?_); rotate_left 1; (· (intro w hSw; (try dsimp only at hSw); go_simp; all_goals with_reducible rfl)); (try simp only [nSO])))
                    refine wpAnyH_done (by kernel_rfl) ?_ _
                    refine NoPanic.normal ?_
                    have hbd := (Below.refl W0.heap.size W0).drew.drew
                    have hO2 := hO0.on hbd
                    have hB2 := hB0.drew.drew
                    clear hHeld
                    generalize W0.drew.drew = W1 at *
                    have hl2 := Hpl.out
                    go_wp2_with (at_builtin; (refine wpList_append_own_at _ rfl _ _ 28 rfl base tInt i0 (.int .i64 0) 1 8 Tryz.underlying28 hi hz0 hz1 hz2 rfl (by decide) _ _ _ rfl (hO2.a.alloc _) ⟨_, 0, none⟩ 1 1 [nv i] rfl rfl (cell_one_new _ _ _) (by simp [Value.oneCell', nv]) (by unfold maxLen; omega) (by omega) (by have := hB2.size; simp; omega) ?_; intro v5 w5 hO5 hg5 _ hat5))
                    have hO6 := (hO2.on (below_alloc _ _)).addA hO5 hg5 hat5
                    have hB6 := (hB2.alloc hB2.size (.cells #[.int .i64 (i : Int)] tInt)).grown hg5 (by have := hB2.size; simp; omega) (fun k hk => by have := (hO2.a.lt k hk).1; omega)
                    go_roundw
                    case rel => exact ⟨k + 1, _, by go_num, by omega, hB6, hO6, Hs2.out⟩
                    case measure => simp [intOf]; omega
                  · have e6 : decide (d.rank < c.rank) = false := by simpa using h6
                    have htb : (!pt.a.isEmpty || afQ cs z i) = false := by rw [Haf.out, e1, e6, e7]; simp
                    have hs2 : ptsW cs z (E.take (k + 1)) = { pt with b := pt.b ++ [i] } := by rw [Hst.out, if_neg Hiz.out, if_neg (by rw [em]; simp), if_neg (by rw [htb]; simp)]
                    have Hs2 := Lib.hid hs2
                    clear hs2 em htb
                    clear h4 h1 h5 h6 e7
                    refine wp_region_noPanic ?_
                    refine wp_region_held_drew (S := fun W => W.cell? ⟨nb, 10, none⟩ = some (.int .i64 c.took) ∧ W.cell? ⟨nb, 9, none⟩ = some (.int .i64 c.invoked) ∧ W.cell? ⟨nb, 14, none⟩ = some (.int .i64 c.err) ∧ W.cell? ⟨bq, off + z * 27 + 10, none⟩ = some (.int .i64 d.took)) (by kernel_rfl) ?_ (fun hHeld => ?_)
                    · first | exact HK.out.k14 (Below.refl _ _).drew | exact HK.out.k14 (Below.refl _ _)
                    iterate 25 (first | (refine np_sn ?_; (try simp only [nSO])) | ((first | refine np_n ?_ ?_ ?_ | refine np_t 0 ?_ ?_ ?_); rotate_left 1; (· (intro w hSw; (try dsimp only at hSw); go_simp; all_goals with_reducible rfl)); (try simp only [nSO])))
                    refine wpAnyH_done (by kernel_rfl) ?_ _
                    refine NoPanic.normal ?_
                    go_wp2_with fail
                    refine wp_region_noPanic ?_
                    refine wp_region_held_drew (S := fun W => W.cell? ⟨nb, 10, none⟩ = some (.int .i64 c.took) ∧ W.cell? ⟨nb, 11, none⟩ = some (.int .i64 c.rank) ∧ W.cell? ⟨bq, off + z * 27 + 10, none⟩ = some (.int .i64 d.took) ∧ W.cell? ⟨bq, off + z * 27 + 11, none⟩ = some (.int .i64 d.rank)) (by kernel_rfl) ?_ (fun hHeld => ?_)
                    · first | exact HK.out.k16 (Below.refl _ _).drew | exact HK.out.k16 (Below.refl _ _).drew.drew
                    iterate 34 (first | (refine np_sn ?_; (try simp only [nSO])) | ((first | refine np_n ?_ ?_ ?_ | refine np_t 0 ?_ ?_ ?_); rotate_left 1; (· (intro w hSw; (try dsimp only at hSw); go_simp; all_goals with_reducible rfl)); (try simp only [nSO])))
                    refine wpAnyH_done (by kernel_rfl) ?_ _
                    refine NoPanic.normal ?_
                    have hbd := (Below.refl W0.heap.size W0).drew.drew
                    have hO2 := hO0.on hbd
                    have hB2 := hB0.drew.drew
                    clear hHeld
                    generalize W0.drew.drew = W1 at *
                    have hl2 := Hpl.out
                    go_wp2_with (at_builtin; (refine wpList_append_own_at _ rfl _ _ 28 rfl base tInt i0 (.int .i64 0) 1 8 Tryz.underlying28 hi hz0 hz1 hz2 rfl (by decide) _ _ _ rfl (hO2.b.alloc _) ⟨_, 0, none⟩ 1 1 [nv i] rfl rfl (cell_one_new _ _ _) (by simp [Value.oneCell', nv]) (by unfold maxLen; omega) (by omega) (by have := hB2.size; simp; omega) ?_; intro v5 w5 hO5 hg5 _ hat5))
                    have hO6 := (hO2.on (below_alloc _ _)).addB hO5 hg5 hat5
                    have hB6 := (hB2.alloc hB2.size (.cells #[.int .i64 (i : Int)] tInt)).grown hg5 (by have := hB2.size; simp; omega) (fun k hk => by have := (hO2.b.lt k hk).1; omega)
                    go_roundw
                    case rel => exact ⟨k + 1, _, by go_num, by omega, hB6, hO6, Hs2.out⟩
                    case measure => simp [intOf]; omega
                · have e5 : (c.took == d.took) = false := by simpa using h5
                  have htb : (!pt.a.isEmpty || afQ cs z i) = false := by rw [Haf.out, e1, e7]; simpa using fun h => absurd h h5
                  have hs2 : ptsW cs z (E.take (k + 1)) = { pt with b := pt.b ++ [i] } := by rw [Hst.out, if_neg Hiz.out, if_neg (by rw [em]; simp), if_neg (by rw [htb]; simp)]
                  have Hs2 := Lib.hid hs2
                  clear hs2 em htb
                  clear h4 h1 h5 e7
                  refine wp_region_noPanic ?_
                  refine wp_region_held_drew (S := fun W => W.cell? ⟨nb, 10, none⟩ = some (.int .i64 c.took) ∧ W.cell? ⟨nb, 9, none⟩ = some (.int .i64 c.invoked) ∧ W.cell? ⟨nb, 14, none⟩ = some (.int .i64 c.err) ∧ W.cell? ⟨bq, off + z * 27 + 10, none⟩ = some (.int .i64 d.took)) (by kernel_rfl) ?_ (fun hHeld => ?_)
                  · first | exact HK.out.k14 (Below.refl _ _).drew | exact HK.out.k14 (Below.refl _ _)
                  iterate 25 (first | (refine np_sn ?_; (try simp only [nSO])) | ((first | refine np_n ?_ ?_ ?_ | refine np_t 0 ?_ ?_ ?_); rotate_left 1; (· (intro w hSw; (try dsimp only at hSw); go_simp; all_goals with_reducible rfl)); (try simp only [nSO])))
                  refine wpAnyH_done (by kernel_rfl) ?_ _
                  refine NoPanic.normal ?_
                  go_wp2_with fail
                  refine wp_region_noPanic ?_
                  refine wp_region_held_drew (S := fun W => W.cell? ⟨nb, 10, none⟩ = some (.int .i64 c.took) ∧ W.cell? ⟨nb, 11, none⟩ = some (.int .i64 c.rank) ∧ W.cell? ⟨bq, off + z * 27 + 10, none⟩ = some (.int .i64 d.took) ∧ W.cell? ⟨bq, off + z * 27 + 11, none⟩ = some (.int .i64 d.rank)) (by kernel_rfl) ?_ (fun hHeld => ?_)
                  · first | exact HK.out.k16 (Below.refl _ _).drew | exact HK.out.k16 (Below.refl _ _).drew.drew
                  iterate 34 (first | (refine np_sn ?_; (try simp only [nSO])) | ((first | refine np_n ?_ ?_ ?_ | refine np_t 0 ?_ ?_ ?_); rotate_left 1; (· (intro w hSw; (try dsimp only at hSw); go_simp; all_goals with_reducible rfl)); (try simp only [nSO])))
                  refine wpAnyH_done (by kernel_rfl) ?_ _
                  refine NoPanic.normal ?_
                  have hbd := (Below.refl W0.heap.size W0).drew.drew
                  have hO2 := hO0.on hbd
                  have hB2 := hB0.drew.drew
                  clear hHeld
                  generalize W0.drew.drew = W1 at *
                  have hl2 := Hpl.out
                  go_wp2_with (at_builtin; (refine wpList_append_own_at _ rfl _ _ 28 rfl base tInt i0 (.int .i64 0) 1 8 Tryz.underlying28 hi hz0 hz1 hz2 rfl (by decide) _ _ _ rfl (hO2.b.alloc _) ⟨_, 0, none⟩ 1 1 [nv i] rfl rfl (cell_one_new _ _ _) (by simp [Value.oneCell', nv]) (by unfold maxLen; omega) (by omega) (by have := hB2.size; simp; omega) ?_; intro v5 w5 hO5 hg5 _ hat5))
                  have hO6 := (hO2.on (below_alloc _ _)).addB hO5 hg5 hat5
                  have hB6 := (hB2.alloc hB2.size (.cells #[.int .i64 (i : Int)] tInt)).grown hg5 (by have := hB2.size; simp; omega) (fun k hk => by have := (hO2.b.lt k hk).1; omega)
                  go_roundw
                  case rel => exact ⟨k + 1, _, by go_num, by omega, hB6, hO6, Hs2.out⟩
                  case measure => simp [intOf]; omega
        · have hke : k = E.length := by omega
          subst hke
          rw [List.take_length] at hpt
          have ho := Hord.out
          rw [hpt] at ho
          have hpl : pt.b.length + pt.m.length + pt.a.length ≤ 1000 := by
            have := pts_len (cs := cs) (z := z) E ⟨[], [], []⟩
            have e : E.foldl (stepW cs z) ⟨[], [], []⟩ = pt := hpt
            rw [e] at this
            simp only [List.length_nil] at this
            omega
          have Ho := Lib.hid ho
          clear ho hpt hO2 hC2
          have hbw0 := hbw
          go_wp2_with (first
            | (at_builtin; (refine wpList_append_rows rfl _ _ 28 rfl base tInt i0 (.int .i64 0) 1 8 Tryz.underlying28 hi hz0 hz1 hz2 rfl (by decide) _ pt.b.length (pt.b.map nv) rfl hO3.b _ pt.m.length base (pt.m.map nv) rfl hO3.m (by intro u hu; obtain ⟨x, _, rfl⟩ := List.mem_map.1 hu; rfl) (by unfold maxLen; omega) (by omega) (by have := hB.size; omega) ?_); intro v1 W1 hr1 hg1 hat1; have ha1 := hO3.a.kept hg1 (part_symm hO3.ba); have hba := part_new hO3.a (part_symm hO3.ba) hat1; have hBx := hB.grown hg1 (by have := hB.size; omega) (fun k hk => by have := (hO3.b.lt k hk).1; omega); clear hO3 hB)
            | (at_builtin; (refine wpList_append_rows rfl _ _ 28 rfl base tInt i0 (.int .i64 0) 1 8 Tryz.underlying28 hi hz0 hz1 hz2 rfl (by decide) _ _ _ rfl hr2 _ pt.a.length base (pt.a.map nv) rfl ha2 (by intro u hu; obtain ⟨x, _, rfl⟩ := List.mem_map.1 hu; rfl) (by unfold maxLen; omega) (by omega) (by have := hBy.size; omega) ?_); intro v3 W3 hr3 hg3 hat3; have hBz := hBy.grown hg3 (by have := hBy.size; omega) (fun k hk => by have := (hr2.lt k hk).1; omega))
            | (at_builtin; (refine wpList_append_own_at _ rfl _ _ 28 rfl base tInt i0 (.int .i64 0) 1 8 Tryz.underlying28 hi hz0 hz1 hz2 rfl (by decide) _ _ _ rfl (hr1.alloc _) ⟨_, 0, none⟩ 1 1 [nv z] rfl rfl (cell_one_new _ _ _) (by simp [Value.oneCell', nv]) (by unfold maxLen; omega) (by omega) (by have := hBx.size; simp; omega) ?_); intro v2 W2 hr2 hg2 _ hat2; have ha2 := (ha1.alloc _).kept hg2 hba; have hBy := (hBx.alloc hBx.size (.cells #[.int .i64 (z : Int)] tInt)).grown hg2 (by have := hBx.size; simp; omega) (fun k hk => by have := (hr1.lt k hk).1; omega); clear hr1 ha1 hBx))
          go_returns
          refine .inr ⟨h0, v3, E, hE, rfl, ?_, hbw.trans (hBz.mono hbw.size)⟩
          rw [Ho.out]
          have h9 := own_mono (B := w.heap.size) (by have := hbw.size; omega) hr3
          rw [show (pt.b ++ pt.m ++ [z] ++ pt.a).map nv = pt.b.map nv ++ pt.m.map nv ++ [nv z] ++ pt.a.map nv by simp only [List.map_append, List.map_cons, List.map_nil], show (pt.b ++ pt.m ++ [z] ++ pt.a).length = pt.b.length + pt.m.length + 1 + pt.a.length by simp only [List.length_append, List.length_singleton]]
          exact h9
end Go.Proofs.YtdeiocppghhfdaaGreat.Lin
namespace Go.Proofs.YtdeiocppghhfdaaGreat.Lin
set_option linter.unusedVariables false
set_option linter.unusedSimpArgs false
open Go.RowKit Go.Lib Go.Shelf
open Hs
open KitI (iv IRow own_below infoI)
attribute [local go_sem, local simp] Hs.callL_0 Hs.callL_1 Hs.callL_2 Hs.callL_3 Hs.callL_4 Hs.callL_5 Hs.callL_6 Hs.callL_7 Hs.callL_8 Hs.callL_9 Hs.callL_10 Hs.callL_11 Hs.callL_12 Hs.callL_13 Hs.callL_14 Hs.callL_15 Hs.callL_16 Hs.callL_17 Hs.callL_18 Hs.callL_19 Hs.callL_20 Hs.callL_21 Hs.callL_22 Hs.callL_23 Hs.callL_24 Hs.callL_25 Hs.callL_26 Hs.resL_0 Hs.resL_1 Hs.resL_2 Hs.resL_3 Hs.resL_4 Hs.resL_5 Hs.resL_6 Hs.resL_7 Hs.resL_8 Hs.resL_9 Hs.resL_10 Hs.resL_11 Hs.resL_12 Hs.callG_0 Hs.callG_1 Hs.callG_2 Hs.callG_3 Hs.callG_4 Hs.callG_5 Hs.callG_6 Hs.callG_7 Hs.callG_8 Hs.callG_9 Hs.callG_10 Hs.callG_11 Hs.callG_12 Hs.callG_13 Hs.callG_14 Hs.callG_15 Hs.callG_16 Hs.callG_17 Hs.callG_18 Hs.callG_19 Hs.callG_20 Hs.callG_21 Hs.callG_22 Hs.callG_23 Hs.callG_24 Hs.callG_25 Hs.callG_26 Hs.resG_0 Hs.resG_1 Hs.resG_2 Hs.resG_3 Hs.resG_4 Hs.resG_5 Hs.resG_6 Hs.resG_7 Hs.resG_8 Hs.resG_9 Hs.resG_10 Hs.resG_11 Hs.resG_12 Hs.callL_len Hs.resL_len
attribute [local go_sem ↓] Hs.loadCall_eq Hs.loadRes_eq
attribute [local go_sem] Hs.ld_new Hs.ld_first Hs.ld_second Hs.ldr_new Hs.st_new
attribute [local go_sem ↓] loadOp_eq
theorem acc_at {b : Nat} {M : MM} {c : CallV} {n : Nat} {W : World} (h : MdAt W b M) (hf : ∀ k, M.fp b k → n ≤ k) (hn : n ≤ W.heap.size) (hok : MSok M.st 100000) (hc : c.Ok) (hd : c.ps.length ≤ 1000000) :
    Calls Tryz.prog 53 #[.pointer (some ⟨b, 0, none⟩), .int .i64 c.thread, .agg (opL c).toArray, .agg (Hs.resL c).toArray] W fun e W' => ∃ M', e = .returned (.bool (accS M.st c.thread (opV c) (resV c) (itV c)).1) ∧ MdAt W' b M' ∧ (∀ k, M'.fp b k → n ≤ k) ∧ M'.st = (accS M.st c.thread (opV c) (resV c) (itV c)).2 ∧ FrT MTy n W W' := by
  refine (accept_any b c.thread M (opV c) (resV c) (itV c) W h hok (ok_op hc) (by show c.ps.length ≤ maxLen; unfold maxLen; omega)).mono ?_
  rintro e W' ⟨rfl, M', hM, hst, hk, hf2⟩
  exact ⟨M', rfl, hM, fun k hk => (hf2 k hk).elim (hf k) (fun h' => Nat.le_trans hn h'), hst, frm_keep h hk hf hn⟩
theorem acc_ok {st : MS} {c : CallV} {K : Int} (h : MSok st K) (hc : c.Ok) : MSok (accS st c.thread (opV c) (resV c) (itV c)).2 (K + 1) := by
  unfold accS
  split
  · exact doS_ok h (ok_op hc)
  · exact h.mono (by omega)
def PerfPost (m : Nat) (w : World) (c : CfgV) (cs : List CallV) (Inv : List (Nat × MS) → World → Prop) (e : Ending) (w' : World) : Prop :=
  (cfgE c ≠ 0 ∧ e = .returned (.tuple #[.slice none 0 0, .int .i64 0, .int .i64 (cfgE c)]) ∧ Inv [] w' ∧ Below m w w') ∨
  (cfgE c = 0 ∧ (checkP cs).2 ≠ 0 ∧ e = .returned (.tuple #[.slice none 0 0, .int .i64 (checkP cs).1, .int .i64 (checkP cs).2]) ∧ Inv [] w' ∧ Below m w w') ∨
  (cfgE c = 0 ∧ (checkP cs).2 = 0 ∧ ∃ E b M v, EffIs cs E ∧ e = .returned (.tuple #[v, .int .i64 (perfE c cs E).1, .int .i64 (perfE c cs E).2]) ∧ Inv ((playL cs (newS c) (ordW cs E)).map fun s => (b, s)) w' ∧ Below m w w' ∧ MdAt w' b M ∧ MSok M.st 100000 ∧
    ((perfE c cs E).2 = 0 → M.st = playS cs (newS c) (ordW cs E) ∧ w'.ownsRow w.heap.size tInt 1 v (ordW cs E).length ((ordW cs E).map nv)))
structure PRl (m n : Nat) (w : World) (cs : List CallV) (Inv : List (Nat × MS) → World → Prop) (st0 : MS) (o : List Nat) (ao : Option Addr) (qo b k : Nat) (M : MM) (L : List MS) (wr : World) : Prop where
  at_ : MdAt wr b M
  own : ∀ j, M.fp b j → n ≤ j
  ok : MSok M.st k
  inv : Inv (L.map fun s => (b, s)) wr
  bl : Below m w wr
  le : n ≤ wr.heap.size
  row : wr.ownsRow n tInt 1 (.slice ao o.length qo) o.length (o.map nv)
  pe : playE cs M.st (o.drop k) = playE cs st0 o
  pl : L ++ (playL cs M.st (o.drop k)).tail = playL cs st0 o
  ps : playS cs M.st (o.drop k) = playS cs st0 o
  len : L.length = k + 1
def PRel2 (m n : Nat) (w : World) (cs : List CallV) (Inv : List (Nat × MS) → World → Prop) (st0 : MS) (o : List Nat) (ao : Option Addr) (qo b : Nat) (x6 x7 x8 i : Value) (wr : World) : Prop :=
  ∃ (k : Nat) (M : MM) (L : List MS), i = .int .i64 k ∧ k ≤ o.length ∧ x6 = .slice ao o.length qo ∧ x7 = .int .i64 0 ∧ x8 = .int .i64 0 ∧ PRl m n w cs Inv st0 o ao qo b k M L wr
theorem playL_cons {cs : List CallV} {st : MS} {i : Nat} {r : List Nat} : playL cs st (i :: r) = st :: (if (accO cs st i).1 then playL cs (accO cs st i).2 r else []) := rfl
theorem playL_head (cs : List CallV) (st : MS) (o : List Nat) : playL cs st o = st :: (playL cs st o).tail := by cases o <;> rfl
theorem drop_at {o : List Nat} {k i : Nat} (h : o[k]? = some i) : o.drop k = i :: o.drop (k + 1) := by
  have hlt := (List.getElem?_eq_some_iff.1 h).1
  rw [List.drop_eq_getElem_cons hlt]; congr 1; exact Option.some.inj ((List.getElem?_eq_getElem hlt).symm.trans h)
set_option maxRecDepth 100000 in
set_option maxHeartbeats 4000000 in
theorem perform_any (m : Nat) (c : CfgV) (p : Option Addr) (cap : Nat) (cs : List CallV) (f : FuncId) (fs : Array Value) (Inv : List (Nat × MS) → World → Prop) (w : World) (hm : m ≤ w.heap.size) (hC : ∀ W, Below m w W → CRow W p cap cs) (hE : EachC m w.heap.size f fs Inv) (hI : Inv [] w)
    (hs : cs.length ≤ 1000) (hok : ∀ x ∈ cs, x.Ok) (hd : ∀ x ∈ cs, x.ps.length ≤ 1000000) :
    Calls Tryz.prog 81 #[c.v, .slice p cs.length cap, .func (.func f) #[] fs] w (PerfPost m w c cs Inv) := by
  have hB0 : Below w.heap.size w (w.alloc (.cells #[.int .i64 c.slots, .int .u64 c.gens, .int .i64 c.clients, .int .i64 c.readers, .int .i64 c.queue, .int .i64 c.batch, .int .i64 c.feed, .string c.text] 24)) := (Below.refl w.heap.size w).alloc (Nat.le_refl _) _
  have hk0 := fun W (h : Below w.heap.size w W) => hE.keep [] w W hI (FrT.below h (Nat.le_refl _))
  by_cases hc : cfgE c = 0
  · have hnew := new_ok c w _ hc hB0
    unfold CfgV.v at *
    rcases check_two cs with h2 | h2
    · have hck := fun W (h : Below w.heap.size w W) => check_any p cap cs W (hC W (h.mono hm)) (by omega) hok
      have hor := fun W (h : Below w.heap.size w W) => order_any p cap cs W (hC W (h.mono hm)) hs hok
      have h2c : checkP cs = (0, 0) := by
        rcases hx : checkP cs with ⟨a, b⟩
        unfold checkP at hx h2
        split at hx
        · rename_i i hi; rw [hi] at h2; cases h2
        · exact hx.symm
      rw [h2c] at hck
      go_enter Tryz.func81, Tryz.ntmps81
      go_wp2_with (first | (go_at_call 49; refine hnew.mono ?_; rintro e w1 ⟨b, M, rfl, hR, hst, hb1⟩; clear hb1) | (go_at_call 75; refine (hck _ hR.bl).mono ?_; rintro e w2 ⟨rfl, hb2⟩))
      have hR2 := hR.on hb2
      clear hR hb2 hck hnew
      refine (hor _ hR2.bl).mono ?_
      rintro e w3 (⟨h22, _, _⟩ | ⟨_, v, E, hEff, rfl, hO, hb3⟩)
      · rw [h2] at h22; cases h22
      · obtain ⟨ao, qo, rfl⟩ := own_slice hO
        have hR3 := hR2.on hb3
        have hO3 := own_mono (B := w.heap.size) (by have := hR2.bl.size; omega) hO
        clear hO hb3 hor
        have hol : (ordW cs E).length ≤ 1000 := by rw [ord_len hEff]; have := eff_len hEff; omega
        have hoi : ∀ i ∈ ordW cs E, i < cs.length := fun i hi => ((ord_in hEff).1 hi).1
        have hpe : perfE c cs E = match playE cs (newS c) (ordW cs E) with | some i => ((i : Int), 26) | none => (0, 0) := by unfold perfE; rw [if_neg (by rw [hc]; simp), if_neg (by rw [h2]; simp)]; (try rfl)
        have HP := Lib.hid hpe
        have HF := Lib.hid hEff
        clear hpe hEff
        have hIn := hk0 _ hR3.bl
        have hMok : MSok M.st 0 := by rw [hst]; exact newS_ok hc
        have hcl := hE.call w3 b M 0 [] hR3.bl.size hIn hR3.at_ hMok (by simp)
        have hent := hE.ent
        go_wp2_with (go_at_fn f; refine hcl.mono ?_; rintro e w4 ⟨rfl, hIn4, hfr4⟩)
        have hPR : PRl m w.heap.size w cs Inv (newS c) (ordW cs E) ao qo b 0 M [newS c] w4 := ⟨hfr4.model hR3.at_, hR3.own, hMok, by rw [hst] at hIn4; exact hIn4, (hR3.bl.mono hm).trans hfr4.bl, Nat.le_trans hR3.bl.size hfr4.bl.size, hfr4.own hO3 (by decide), by rw [hst]; rfl, by rw [hst, List.drop_zero]; exact (playL_head cs (newS c) (ordW cs E)).symm, by rw [hst]; rfl, rfl⟩
        clear hfr4 hIn4 hcl hIn hMok hR3 hR2 hO3 hst hk0 hB0
        generalize hoo : ordW cs E = o at *
        have HO := Lib.hid hoo
        clear hoo
        go_loopw [6, 7, 8, 13, 44] (fun x6 x7 x8 x13 i wr => PRel2 m w.heap.size w cs Inv (newS c) o ao qo b x6 x7 x8 i wr) (fun x6 x7 x8 x13 i wr => o.length - (intOf i).toNat)
        case atStart => exact ⟨0, M, [newS c], rfl, by omega, rfl, rfl, rfl, hPR⟩
        case round =>
          clear hPR
          obtain ⟨k, M2, L, rfl, hk, rfl, rfl, rfl, hP⟩ := hrel
          by_cases hlt : k < o.length
          · obtain ⟨i, hi⟩ : ∃ i, o[k]? = some i := ⟨_, List.getElem?_eq_getElem hlt⟩
            have hic := hoi i (List.mem_of_getElem? hi)
            have hI1 : IRd wr ao (o.map fun (x : Nat) => (x : Int)) := IRd.of (irow_own hP.row rfl)
            obtain ⟨bo, oo, rfl, hcc⟩ := irow_at hI1 (by rw [List.length_map]; omega)
            have hck := hcc wr (Below.refl _ _) k _ (cast_at hi)
            obtain ⟨bq, off, rfl, hcap, hbq, hA⟩ := crow_at (hC wr hP.bl) (by omega)
            have hS := fun W (hb : Below m w W) => (show W.cell? ⟨bq, off + i * 27, none⟩ = some (.int .i64 (getC cs i).thread) ∧ (loadOp (.pointer (some ⟨bq, off + i * 27 + 2, none⟩))).run Tryz.prog W = .ok (.agg (opL (getC cs i)).toArray) W ∧ (loadRes (.pointer (some ⟨bq, off + i * 27 + 14, none⟩))).run Tryz.prog W = .ok (.agg (Hs.resL (getC cs i)).toArray) W from by
              have hA := crow_get (hC W hb)
              have h0 := hA.cell (getC_some hic) 0 (by omega)
              rw [callL_0, Nat.add_zero] at h0
              exact ⟨h0, ldo_at hA (getC_some hic), ldr_at hA (getC_some hic)⟩)
            have hcm : getC cs i ∈ cs := List.mem_of_getElem? (getC_some hic)
            have hok2 := hok _ hcm
            have hbd : Below m w wr.drew := hP.bl.drew
            have hMk : MSok M2.st 100000 := hP.ok.mono (by omega)
            have hAcc := acc_at (c := getC cs i) (hP.at_.below (Below.refl _ _).drew) hP.own hP.le hMk hok2 (hd _ hcm)
            have hAk := acc_ok (c := getC cs i) hP.ok hok2
            have hac : accO cs M2.st i = accS M2.st (getC cs i).thread (opV (getC cs i)) (resV (getC cs i)) (itV (getC cs i)) := rfl
            have hdr := drop_at hi
            have hpe1 : playE cs M2.st (o.drop k) = if (accO cs M2.st i).1 then playE cs (accO cs M2.st i).2 (o.drop (k + 1)) else some i := by rw [hdr]; rfl
            have hpl1 : playL cs M2.st (o.drop k) = M2.st :: (if (accO cs M2.st i).1 then playL cs (accO cs M2.st i).2 (o.drop (k + 1)) else []) := by rw [hdr]; rfl
            have hps1 : playS cs M2.st (o.drop k) = playS cs (accO cs M2.st i).2 (o.drop (k + 1)) := by rw [hdr]; rfl
            rw [hP.pe] at hpe1
            rw [hP.ps] at hps1
            have hpl2 := hP.pl
            rw [hpl1, List.tail_cons] at hpl2
            have hin3 := hE.keep
            rw [← hac] at hAcc hAk
            have Hpe1 := Lib.hid hpe1
            have Hps1 := Lib.hid hps1
            have Hpl2 := Lib.hid hpl2
            have Hac := Lib.hid hac
            generalize getC cs i = q at *
            generalize hX : accO cs M2.st i = X at *
            clear hpe1 hps1 hpl2 hpl1 hdr hcc hI1 hA hac
            obtain ⟨ya, yst⟩ := X
            have Hx := Lib.hid hX
            clear hX
            cases ya with
            | true =>
              go_wp2_with fail
              refine wp_region_noPanic ?_
              refine wp_region_held_drew (S := fun W => W.cell? ⟨bq, off + i * 27, none⟩ = some (.int .i64 q.thread) ∧ (loadOp (.pointer (some ⟨bq, off + i * 27 + 2, none⟩))).run Tryz.prog W = .ok (.agg (opL q).toArray) W ∧ (loadRes (.pointer (some ⟨bq, off + i * 27 + 14, none⟩))).run Tryz.prog W = .ok (.agg (Hs.resL q).toArray) W) (by kernel_rfl) ?_ (fun hHeld => ?_)
              · first | exact hS _ hP.bl | exact hS _ hbd | exact hS _ hb5
              iterate 16 (first | (refine np_sn ?_; (try simp only [nSO])) | ((first | refine np_n ?_ ?_ ?_ | refine np_t 0 ?_ ?_ ?_); rotate_left 1; (· (intro w hSw; (try dsimp only at hSw); go_simp; all_goals with_reducible rfl)); (try simp only [nSO])))
              first | (refine np_s 16 ?_; (try simp only [nSO])) | (refine np_step (i := 16) rfl (by kernel_rfl) (fun K hK => ?_); rw [if_pos (by rfl)]; go_simp; ((go_at_call 53; refine hAcc.mono ?_; rintro e w5 ⟨M3, rfl, hM3, hf3, hst3, hfr5⟩; have hb5 := hbd.trans (hfr5.bl.mono hm))); (try go_wp2_with fail); refine hK.out _ _ ?_ (fun hHeld => ?_); (· (first | exact hS _ hP.bl | exact hS _ hbd | exact hS _ hb5)); clear hK K; (try simp only [nSO]))
              first | (refine np_sn ?_; (try simp only [nSO])) | (refine np_n ?_ ?_ ?_; rotate_left 1; (· (intro w hSw; (try dsimp only at hSw); go_simp; all_goals with_reducible rfl)); (try simp only [nSO]))
              refine wpAnyH_done (by kernel_rfl) ?_ _
              refine NoPanic.normal ?_
              have hle5 : w.heap.size ≤ w5.heap.size := Nat.le_trans hP.le hfr5.bl.size
              have hin5 := hE.keep _ _ _ (hE.keep _ _ _ hP.inv (FrT.below (Below.refl _ _).drew hP.le)) hfr5
              have hrow5 := hfr5.own (own_below hP.row (Below.refl _ _).drew) (by decide)
              have hMk3 : MSok M3.st ((k : Int) + 1) := by rw [hst3]; exact hAk
              have hcl := hE.call w5 b M3 _ _ hle5 hin5 hM3 hMk3 (by rw [List.length_map, hP.len]; omega)
              have hPl := hP.len
              clear hAcc hS hin3
              go_wp2_with (go_at_fn f; refine hcl.mono ?_; rintro e w6 ⟨rfl, hIn6, hfr6⟩)
              go_roundw
              case rel =>
                refine ⟨k + 1, M3, L ++ [M3.st], by go_num, by omega, rfl, rfl, rfl, ⟨hfr6.model hM3, hf3, by simpa using hMk3, by rw [List.map_append]; exact hIn6, hb5.trans hfr6.bl, Nat.le_trans hle5 hfr6.bl.size, hfr6.own hrow5 (by decide), ?_, ?_, ?_, by rw [List.length_append, hPl]; rfl⟩⟩
                · rw [hst3]; exact (Hpe1.out).symm
                · have h9 := Hpl2.out
                  simp only [if_true] at h9
                  rw [← h9, hst3, List.append_assoc]
                  congr 1
                  exact (playL_head cs yst _).symm
                · rw [hst3]; exact Hps1.out.symm
              case measure => simp [intOf]; omega
            | false =>
              go_wp2_with fail
              refine wp_region_noPanic ?_
              refine wp_region_held_drew (S := fun W => W.cell? ⟨bq, off + i * 27, none⟩ = some (.int .i64 q.thread) ∧ (loadOp (.pointer (some ⟨bq, off + i * 27 + 2, none⟩))).run Tryz.prog W = .ok (.agg (opL q).toArray) W ∧ (loadRes (.pointer (some ⟨bq, off + i * 27 + 14, none⟩))).run Tryz.prog W = .ok (.agg (Hs.resL q).toArray) W) (by kernel_rfl) ?_ (fun hHeld => ?_)
              · first | exact hS _ hP.bl | exact hS _ hbd | exact hS _ hb5
              iterate 16 (first | (refine np_sn ?_; (try simp only [nSO])) | ((first | refine np_n ?_ ?_ ?_ | refine np_t 0 ?_ ?_ ?_); rotate_left 1; (· (intro w hSw; (try dsimp only at hSw); go_simp; all_goals with_reducible rfl)); (try simp only [nSO])))
              first | (refine np_s 16 ?_; (try simp only [nSO])) | (refine np_step (i := 16) rfl (by kernel_rfl) (fun K hK => ?_); rw [if_pos (by rfl)]; go_simp; ((go_at_call 53; refine hAcc.mono ?_; rintro e w5 ⟨M3, rfl, hM3, hf3, hst3, hfr5⟩; have hb5 := hbd.trans (hfr5.bl.mono hm))); (try go_wp2_with fail); refine hK.out _ _ ?_ (fun hHeld => ?_); (· (first | exact hS _ hP.bl | exact hS _ hbd | exact hS _ hb5)); clear hK K; (try simp only [nSO]))
              first | (refine np_sn ?_; (try simp only [nSO])) | (refine np_n ?_ ?_ ?_; rotate_left 1; (· (intro w hSw; (try dsimp only at hSw); go_simp; all_goals with_reducible rfl)); (try simp only [nSO]))
              refine wpAnyH_done (by kernel_rfl) ?_ _
              refine NoPanic.normal ?_
              have hin5 := hE.keep _ _ _ (hE.keep _ _ _ hP.inv (FrT.below (Below.refl _ _).drew hP.le)) hfr5
              have hMk3 : MSok M3.st ((k : Int) + 1) := by rw [hst3]; exact hAk
              clear hAcc hS hin3
              go_wp2_with fail
              go_returns
              have hpz : playE cs (newS c) o = some i := Hpe1.out
              have h8 := HP.out
              rw [hpz] at h8
              have h9 := Hpl2.out
              simp only [Bool.false_eq_true, if_false, List.append_nil] at h9
              refine .inr (.inr ⟨hc, h2, E, b, M3, _, HF.out, by rw [h8]; rfl, ?_, hb5, hM3, hMk3.mono (by omega), fun h => by rw [h8] at h; cases h⟩)
              rw [HO.out, ← h9]
              exact hin5
          · have hke : k = o.length := by omega
            subst hke
            have e1 : playE cs (newS c) o = none := by rw [← hP.pe, List.drop_length]; rfl
            have e2 : L = playL cs (newS c) o := by have := hP.pl; rw [List.drop_length] at this; rw [← this]; exact (List.append_nil L).symm
            have e3 : M2.st = playS cs (newS c) o := by rw [← hP.ps, List.drop_length]; rfl
            have h8 := HP.out
            rw [e1] at h8
            go_wp2_with fail
            go_returns
            refine .inr (.inr ⟨hc, h2, E, b, M2, _, HF.out, by rw [h8]; rfl, ?_, hP.bl, hP.at_, hP.ok.mono (by omega), fun _ => ⟨?_, ?_⟩⟩)
            · rw [HO.out, ← e2]; exact hP.inv
            · rw [HO.out]; exact e3
            · rw [HO.out]; exact hP.row
    · have hck := fun W (h : Below w.heap.size w W) => check_any p cap cs W (hC W (h.mono hm)) (by omega) hok
      have h2n : (checkP cs).2 ≠ 0 := by rw [h2]; decide
      have hdn : ((checkP cs).2 != 0) = true := by rw [h2]; rfl
      generalize hce : (checkP cs).1 = ce at *
      generalize hcf : (checkP cs).2 = cf at *
      subst h2
      go_enter Tryz.func81, Tryz.ntmps81
      go_wp2_with (first | (go_at_call 49; refine hnew.mono ?_; rintro e w1 ⟨b, M, rfl, hR, hst, hb1⟩; clear hb1) | (go_at_call 75; refine (hck _ hR.bl).mono ?_; rintro e w2 ⟨rfl, hb2⟩))
      go_returns
      exact .inr (.inl ⟨hc, by rw [hcf]; decide, by rw [hce, hcf]; rfl, hk0 _ (hR.on hb2).bl, (hR.on hb2).bl.mono hm⟩)
  · have hnew := fun W => new_no c W hc
    have hd1 : (cfgE c != 0) = true := by simpa using hc
    generalize hce : cfgE c = ce at *
    unfold CfgV.v at *
    go_enter Tryz.func81, Tryz.ntmps81
    go_wp2_with (go_at_call 49; refine (hnew _).mono ?_; rintro e w1 ⟨rfl, hb1⟩)
    go_returns
    have hb2 := hB0.trans (hb1.mono hB0.size)
    exact .inl ⟨by rw [hce]; exact hc, by rw [hce]; rfl, hk0 _ hb2, hb2.mono hm⟩
end Go.Proofs.YtdeiocppghhfdaaGreat.Lin
