/- Texts of LinearInOrder, one behind another. -/
import Derived.Test.YtdeiocppghhfdaaGreatRows
import Derived.Test.YtdeiocppghhfdaaGreatPua
import Derived.Test.YtdeiocppghhfdaaGreatChecked
import Derived.Test.YtdeiocppghhfdaaGreatPhg
import Derived.Test.YtdeiocppghhfdaaGreatPul
import Derived.Test.YtdeiocppghhfdaaGreatPma
import Derived.Test.YtdeiocppghhfdaaGreatPug
import Derived.Test.YtdeiocppghhfdaaGreatPwa
import Derived.Test.YtdeiocppghhfdaaGreatPva
import Derived.Test.YtdeiocppghhfdaaGreatPhd
import Derived.Below
import Derived.ChangeSame
import Derived.WalkKit
import Derived.ProofKit
import Derived.OpenShut
import Derived.ShutString
import Derived.SizedLaws
import Derived.DeepKeys4
import Derived.Maps.Own
import Derived.Maps.OwnOps
import Derived.Carry
import Derived.Laws.EntriesVeiled
import Derived.Maps.AppendAt
namespace Go.Proofs.YtdeiocppghhfdaaGreat
set_option linter.unusedVariables false
set_option linter.unusedSimpArgs false
set_option maxRecDepth 100000
set_option maxHeartbeats 8000000
open Go.RowKit Go.WideShapes Go.ChangeShapes
section
variable {H : Type} {enc : TypeId × Value → H} {P : Program}
theorem post_of_below {f : Func} {s : ChangeSpec} {apart fresh handsOn again : Bool} {W W' : World} {args : Array Value} {v : Value} {ds gs : List (DataW H)} {before pa pv : List MemPlace}
    (hW : DataW.Whole enc P f.params.toList s.vars apart W args.toList ds gs before)
    (hres : ∀ (b : Nat) (sp : Nat → Bool) (hd : Bool), DataW.TrodAll enc P W' b sp hd f.resultTypes.toList (v.resultList f.resultTypes.size) (s.fn H (ds ++ gs)).results [])
    (hargs : ∀ sp : Nat → Bool, (∀ p ∈ before, sp p.block = true) → DataW.TrodAll enc P W' 0 sp true f.params.toList args.toList (s.fn H (ds ++ gs)).args pa)
    (hvars : ∀ sp : Nat → Bool, (∀ p ∈ before, sp p.block = true) → DataW.TrodVars enc P W' sp s.vars (s.fn H (ds ++ gs)).vars pv)
    (hps : before = pa ++ pv) (hb : Below W.heap.size W W')
    (hok : ∀ (j : Nat) (t : TypeId) (r : Value), f.resultTypes[j]? = some t → (v.resultList f.resultTypes.size)[j]? = some r → Value.okWide P W' .any 0 t r) :
    s.post enc P f apart fresh handsOn again W args v W' := by
  have hlt : ∀ p ∈ before, p.block < W.heap.size := fun p hp => hW.lt p hp
  have hold : ∀ p ∈ before, (fun b => decide (b < W.heap.size)) p.block = true := fun p hp => by simpa using hlt p hp
  refine ⟨ds, gs, before, [], pa, pv, hW, hres _ _ _, hargs _ hold, hvars _ hold, World.keptBut_mono (fun p hp => ⟨hp, ?_⟩) (hb.frame (· ∈ before)), fun _ => ?_⟩
  · rw [hps, List.mem_append] at hp
    exact Or.inr hp
  · obtain ⟨_, _, _, _, _, hz, hn⟩ := hW
    refine ⟨hok, _, _, ([] ++ pa) ++ pv, ⟨[] ++ pa, pv, trodAll_append (hargs _ (fun _ _ => rfl)) (hres _ _ _), hvars _ (fun _ _ => rfl), rfl, ?_, ?_⟩, ?_⟩
    · intro b off hp
      have hin : MemPlace.cell b off ∈ before := by rw [hps]; simpa using hp
      rw [hb.frozen (hlt _ hin)]
      exact hz b off hin
    · intro ha
      have := hn ha
      rw [hps] at this
      simpa using this
    · intro p hp _
      rw [hps]
      simpa using hp
end
end Go.Proofs.YtdeiocppghhfdaaGreat
namespace Go.Proofs.YtdeiocppghhfdaaGreat.Lin
set_option linter.unusedVariables false
set_option linter.unusedSimpArgs false
set_option maxRecDepth 100000
set_option maxHeartbeats 8000000
section
variable {α : Type} (n : Nat) (next : α → Nat → Option α) (rdy : Nat → Nat → Bool) (fl : Nat → Bool)
def cand (u i : Nat) : Bool := !u.testBit i && rdy u i
def fr (u : Nat) : Nat := ((List.range n).filter fun i => !u.testBit i).length
def sr : Nat → α → Nat → Option (List Nat)
  | 0, _, u => if fl u then some [] else none
  | k + 1, s, u => if fl u then some [] else (List.range n).findSome? fun i => if cand rdy u i then (next s i).bind fun t => (sr k t (u ||| 2 ^ i)).map (i :: ·) else none
def S (s : α) (u : Nat) : Option (List Nat) := sr n next rdy fl (fr n u) s u
def ct : Nat → α → Nat → Nat
  | 0, _, u => if fl u then 1 else 0
  | k + 1, s, u => (if fl u then 1 else 0) + ((List.range n).map fun i => if cand rdy u i then (match next s i with | none => 0 | some t => ct k t (u ||| 2 ^ i)) else 0).sum
def C (s : α) (u : Nat) : Nat := ct n next rdy fl (fr n u) s u
def chain : α → Nat → List Nat → Bool
  | _, u, [] => fl u
  | s, u, i :: r => decide (i < n) && cand rdy u i && (match next s i with | none => false | some t => chain t (u ||| 2 ^ i) r)
def tryS (s : α) (u i : Nat) : Option (List Nat) := if cand rdy u i then (next s i).bind fun t => (S n next rdy fl t (u ||| 2 ^ i)).map (i :: ·) else none
def tryC (s : α) (u i : Nat) : Nat := if cand rdy u i then (match next s i with | none => 0 | some t => C n next rdy fl t (u ||| 2 ^ i)) else 0
end
theorem bit_or (u i j : Nat) : (u ||| 2 ^ i).testBit j = (u.testBit j || decide (i = j)) := by rw [Nat.testBit_or, Nat.testBit_two_pow]
theorem fr_or {n u i : Nat} (hi : i < n) (hu : u.testBit i = false) : fr n (u ||| 2 ^ i) + 1 = fr n u := by
  unfold fr
  have h1 : (List.range n).filter (fun j => !(u ||| 2 ^ i).testBit j) = ((List.range n).filter fun j => !u.testBit j).filter (fun j => j != i) := by
    rw [List.filter_filter]
    apply List.filter_congr
    intro j _
    rw [bit_or]
    by_cases h : i = j
    · subst h; simp
    · have h' : j ≠ i := fun e => h e.symm
      simp [h, h']
  have hn : ((List.range n).filter fun j => !u.testBit j).Nodup := List.nodup_range.filter _
  have hm : i ∈ (List.range n).filter fun j => !u.testBit j := List.mem_filter.2 ⟨List.mem_range.2 hi, by rw [hu]; rfl⟩
  rw [h1]
  have h2 : ((List.range n).filter fun j => !u.testBit j).filter (fun j => j != i) = ((List.range n).filter fun j => !u.testBit j).erase i := (hn.erase_eq_filter i).symm
  rw [h2, List.length_erase_of_mem hm]
  have := List.length_pos_of_mem hm
  omega
theorem fr_zero {n u i : Nat} (h : fr n u = 0) (hi : i < n) : u.testBit i = true := by
  unfold fr at h
  have h1 := List.eq_nil_of_length_eq_zero h
  cases hb : u.testBit i
  · have : i ∈ (List.range n).filter fun j => !u.testBit j := List.mem_filter.2 ⟨List.mem_range.2 hi, by rw [hb]; rfl⟩
    rw [h1] at this; cases this
  · rfl
section
variable {α : Type} {n : Nat} {next : α → Nat → Option α} {rdy : Nat → Nat → Bool} {fl : Nat → Bool}
theorem cand_bit {u i : Nat} (h : cand rdy u i = true) : u.testBit i = false := by unfold cand at h; simp at h; exact h.1
theorem findSome_congr {β : Type} {f g : Nat → Option β} : ∀ {l : List Nat}, (∀ i ∈ l, f i = g i) → l.findSome? f = l.findSome? g
  | [], _ => rfl
  | a :: l, h => by rw [List.findSome?_cons, List.findSome?_cons, h a (by simp), findSome_congr fun i hi => h i (by simp [hi])]
theorem S_eq (s : α) (u : Nat) : S n next rdy fl s u = if fl u then some [] else (List.range n).findSome? (tryS n next rdy fl s u) := by
  show sr n next rdy fl (fr n u) s u = _
  cases hk : fr n u with
  | zero =>
    show (if fl u then some [] else none) = _
    split
    · rfl
    · symm
      rw [List.findSome?_eq_none_iff]
      intro i hi
      have := fr_zero hk (List.mem_range.1 hi)
      unfold tryS cand
      rw [this]; rfl
  | succ k =>
    show (if fl u then some [] else (List.range n).findSome? _) = _
    split
    · rfl
    · refine findSome_congr fun i hi => ?_
      unfold tryS
      split
      · rename_i hc
        have h1 := fr_or (List.mem_range.1 hi) (cand_bit hc)
        have h2 : fr n (u ||| 2 ^ i) = k := by omega
        unfold S
        rw [h2]
      · rfl
theorem C_eq (s : α) (u : Nat) : C n next rdy fl s u = (if fl u then 1 else 0) + ((List.range n).map (tryC n next rdy fl s u)).sum := by
  show ct n next rdy fl (fr n u) s u = _
  cases hk : fr n u with
  | zero =>
    show (if fl u then 1 else 0) = _
    have h : ((List.range n).map (tryC n next rdy fl s u)).sum = 0 := by
      rw [List.sum_eq_zero_iff_forall_eq_nat]
      intro x hx
      obtain ⟨i, hi, rfl⟩ := List.mem_map.1 hx
      have := fr_zero hk (List.mem_range.1 hi)
      unfold tryC cand
      rw [this]; rfl
    omega
  | succ k =>
    show (if fl u then 1 else 0) + ((List.range n).map _).sum = _
    congr 2
    refine List.map_congr_left fun i hi => ?_
    unfold tryC
    split
    · rename_i hc
      have h1 := fr_or (List.mem_range.1 hi) (cand_bit hc)
      have h2 : fr n (u ||| 2 ^ i) = k := by omega
      unfold C
      rw [h2]
    · rfl
theorem S_some {s : α} {u i : Nat} {a : List Nat} (hf : fl u = false) (hi : i < n) (h0 : ∀ j, j < i → tryS n next rdy fl s u j = none) (h1 : tryS n next rdy fl s u i = some a) : S n next rdy fl s u = some a := by
  rw [S_eq, if_neg (by rw [hf]; decide)]
  have e : List.range n = List.range i ++ (i :: (List.range n).drop (i + 1)) := by
    conv => lhs; rw [← List.take_append_drop i (List.range n)]
    rw [List.take_range, Nat.min_eq_left (Nat.le_of_lt hi), List.drop_eq_getElem_cons (by simpa using hi)]
    simp
  rw [e, List.findSome?_append]
  have h2 : (List.range i).findSome? (tryS n next rdy fl s u) = none := by
    rw [List.findSome?_eq_none_iff]
    intro j hj
    exact h0 j (List.mem_range.1 hj)
  rw [h2, List.findSome?_cons, h1]
  rfl
theorem S_none {s : α} {u : Nat} (hf : fl u = false) (h0 : ∀ j, j < n → tryS n next rdy fl s u j = none) : S n next rdy fl s u = none := by
  rw [S_eq, if_neg (by rw [hf]; decide), List.findSome?_eq_none_iff]
  exact fun j hj => h0 j (List.mem_range.1 hj)
theorem S_full {s : α} {u : Nat} (hf : fl u = true) : S n next rdy fl s u = some [] := by rw [S_eq, if_pos hf]
theorem S_split {s : α} {u : Nat} {a : List Nat} (hf : fl u = false) (h : S n next rdy fl s u = some a) : ∃ i, i < n ∧ tryS n next rdy fl s u i = some a ∧ ∀ j, j < i → tryS n next rdy fl s u j = none := by
  cases hx : (List.range n).find? fun i => (tryS n next rdy fl s u i).isSome with
  | none =>
    rw [S_none hf (fun j hj => by
      have := List.find?_eq_none.1 hx j (List.mem_range.2 hj)
      cases hy : tryS n next rdy fl s u j
      · rfl
      · rw [hy] at this; simp at this)] at h
    cases h
  | some i =>
    have h1 := List.find?_some hx
    have h2 := List.mem_range.1 (List.mem_of_find?_eq_some hx)
    have h3 : ∀ j, j < i → tryS n next rdy fl s u j = none := by
      intro j hj
      obtain ⟨_, l1, l2, e, h4⟩ := List.find?_eq_some_iff_append.1 hx
      have hl : l1 = List.range i := by
        have e2 : (List.range n)[l1.length]? = some i := by rw [e]; simp
        have h5 : l1.length < n := by have := (List.getElem?_eq_some_iff.1 e2).1; simpa using this
        have h6 : l1.length = i := by rw [List.getElem?_range h5] at e2; exact Option.some.inj e2
        have h7 : (List.range n).take l1.length = l1 := by rw [e]; simp
        rw [← h7, h6, List.take_range, Nat.min_eq_left (Nat.le_of_lt h2)]
      have := h4 j (by rw [hl]; exact List.mem_range.2 hj)
      cases hy : tryS n next rdy fl s u j
      · rfl
      · rw [hy] at this; simp at this
    cases hy : tryS n next rdy fl s u i with
    | none => rw [hy] at h1; simp at h1
    | some b =>
      rw [S_some hf h2 h3 hy] at h
      exact ⟨i, h2, hy.trans h, h3⟩
theorem try_some {s : α} {u i : Nat} {a : List Nat} (h : tryS n next rdy fl s u i = some a) : cand rdy u i = true ∧ ∃ t b, next s i = some t ∧ S n next rdy fl t (u ||| 2 ^ i) = some b ∧ a = i :: b := by
  unfold tryS at h
  split at h
  · rename_i hc
    cases hn : next s i with
    | none => rw [hn] at h; cases h
    | some t =>
      rw [hn] at h
      cases hS : S n next rdy fl t (u ||| 2 ^ i) with
      | none => simp [hS] at h
      | some b => simp [hS] at h; exact ⟨hc, t, b, rfl, hS, h.symm⟩
  · cases h
theorem S_chain : ∀ (k : Nat) {s : α} {u : Nat} {a : List Nat}, fr n u ≤ k → S n next rdy fl s u = some a → chain n next rdy fl s u a = true := by
  intro k
  induction k with
  | zero =>
    intro s u a hk h
    cases hf : fl u
    · obtain ⟨i, hi, h1, _⟩ := S_split hf h
      have := cand_bit (try_some h1).1
      rw [fr_zero (by omega) hi] at this; cases this
    · rw [S_full hf] at h
      cases h; exact hf
  | succ k ih =>
    intro s u a hk h
    cases hf : fl u
    · obtain ⟨i, hi, h1, _⟩ := S_split hf h
      obtain ⟨hc, t, b, hn, hS, rfl⟩ := try_some h1
      have h2 := fr_or hi (cand_bit hc)
      have h3 := ih (by omega) hS
      unfold chain
      simp [hi, hc, hn, h3]
    · rw [S_full hf] at h
      cases h; exact hf
def lessL : List Nat → List Nat → Bool
  | _, [] => false
  | [], _ :: _ => true
  | a :: r, b :: q => if a = b then lessL r q else decide (a < b)
theorem chain_S : ∀ (o : List Nat) {s : α} {u : Nat}, chain n next rdy fl s u o = true → ∃ a, S n next rdy fl s u = some a ∧ (a = o ∨ lessL a o = true)
  | [], s, u, h => ⟨[], S_full h, .inl rfl⟩
  | i :: r, s, u, h => by
    unfold chain at h
    simp only [Bool.and_eq_true, decide_eq_true_eq] at h
    obtain ⟨⟨hi, hc⟩, h⟩ := h
    cases hf : fl u
    · cases hn : next s i with
      | none => rw [hn] at h; cases h
      | some t =>
        rw [hn] at h
        obtain ⟨b, hb, hl⟩ := chain_S r h
        have ht : tryS n next rdy fl s u i = some (i :: b) := by unfold tryS; rw [if_pos hc, hn]; simp [hb]
        cases hS : S n next rdy fl s u with
        | none =>
          exfalso
          rw [S_eq, if_neg (by rw [hf]; decide), List.findSome?_eq_none_iff] at hS
          have := hS i (List.mem_range.2 hi)
          rw [ht] at this; cases this
        | some a =>
          obtain ⟨j, hj, h1, h2⟩ := S_split hf hS
          refine ⟨a, rfl, ?_⟩
          obtain ⟨_, t', b', _, _, rfl⟩ := try_some h1
          rcases Nat.lt_trichotomy j i with hji | rfl | hji
          · exact .inr (by unfold lessL; rw [if_neg (by omega)]; simpa using hji)
          · rw [ht] at h1
            cases h1
            rcases hl with rfl | hl
            · exact .inl rfl
            · exact .inr (by unfold lessL; rw [if_pos rfl]; exact hl)
          · rw [h2 i hji] at ht; cases ht
    · exact ⟨[], S_full hf, .inr rfl⟩
theorem sum_pos {f : Nat → Nat} {l : List Nat} {i : Nat} (hi : i ∈ l) : f i ≤ (l.map f).sum := by
  induction l with
  | nil => cases hi
  | cons a l ih =>
    rw [List.map_cons, List.sum_cons]
    rcases List.mem_cons.1 hi with rfl | h
    · omega
    · have := ih h; omega
theorem chain_C : ∀ (o : List Nat) {s : α} {u : Nat}, chain n next rdy fl s u o = true → 1 ≤ C n next rdy fl s u
  | [], s, u, h => by
    have h' : fl u = true := h
    rw [C_eq, if_pos h']; omega
  | i :: r, s, u, h => by
    unfold chain at h
    simp only [Bool.and_eq_true, decide_eq_true_eq] at h
    obtain ⟨⟨hi, hc⟩, h⟩ := h
    cases hn : next s i with
    | none => rw [hn] at h; cases h
    | some t =>
      rw [hn] at h
      have h1 := chain_C r h
      have h2 : tryC n next rdy fl s u i = C n next rdy fl t (u ||| 2 ^ i) := by unfold tryC; rw [if_pos hc, hn]
      have h3 := sum_pos (f := tryC n next rdy fl s u) (List.mem_range.2 hi)
      rw [C_eq]; omega
theorem C_chain : ∀ (k : Nat) {s : α} {u : Nat}, fr n u ≤ k → 1 ≤ C n next rdy fl s u → ∃ a, chain n next rdy fl s u a = true := by
  intro k
  induction k with
  | zero =>
    intro s u hk h
    cases hf : fl u
    · exfalso
      rw [C_eq, hf] at h
      have h0 : ((List.range n).map (tryC n next rdy fl s u)).sum = 0 := by
        rw [List.sum_eq_zero_iff_forall_eq_nat]
        intro x hx
        obtain ⟨i, hi, rfl⟩ := List.mem_map.1 hx
        have := fr_zero (show fr n u = 0 by omega) (List.mem_range.1 hi)
        unfold tryC cand
        rw [this]; rfl
      rw [h0] at h; simp at h
    · exact ⟨[], hf⟩
  | succ k ih =>
    intro s u hk h
    cases hf : fl u
    · rw [C_eq, hf] at h
      have h0 : ∃ i, i < n ∧ 1 ≤ tryC n next rdy fl s u i := by
        refine Classical.byContradiction fun hno => ?_
        have h0 : ((List.range n).map (tryC n next rdy fl s u)).sum = 0 := by
          rw [List.sum_eq_zero_iff_forall_eq_nat]
          intro x hx
          obtain ⟨i, hi, rfl⟩ := List.mem_map.1 hx
          refine Classical.byContradiction fun h1 => hno ⟨i, List.mem_range.1 hi, by omega⟩
        rw [h0] at h; simp at h
      obtain ⟨i, hi, h1⟩ := h0
      unfold tryC at h1
      split at h1
      · rename_i hc
        cases hn : next s i with
        | none => rw [hn] at h1; simp at h1
        | some t =>
          rw [hn] at h1
          have h2 := fr_or hi (cand_bit hc)
          obtain ⟨a, ha⟩ := ih (by omega) h1
          exact ⟨i :: a, by unfold chain; simp [hi, hc, hn, ha]⟩
      · omega
    · exact ⟨[], hf⟩
end
end Go.Proofs.YtdeiocppghhfdaaGreat.Lin
namespace Go.Proofs.YtdeiocppghhfdaaGreat.Lin
set_option linter.unusedVariables false
set_option linter.unusedSimpArgs false
set_option maxRecDepth 100000
set_option maxHeartbeats 8000000
open Hs (CallV befB checkP agreesP okPairs pairB ordE plc)
def opV (c : CallV) : OpV := ⟨c.okind, c.oslot, c.oat, c.on, c.oid, c.ograv, c.otext⟩
def resV (c : CallV) : ResV := ⟨c.err, c.rev, c.rslot, c.rat, c.rgrav, c.rtext, c.mb, c.mr, c.ml⟩
def itV (c : CallV) : ItV := ⟨c.ik, c.ifrom, c.ito, c.da, c.ps.length, c.dc⟩
def nextS (st : MS) (c : CallV) : Option MS :=
  if c.answered < 0 then some (doS st c.thread (opV c)).2
  else if (accS st c.thread (opV c) (resV c) (itV c)).1 then some (accS st c.thread (opV c) (resV c) (itV c)).2 else none
def getC (L : List CallV) (i : Nat) : CallV := L.getD i default
theorem getC_at {L : List CallV} {i : Nat} {c : CallV} (h : L[i]? = some c) : getC L i = c := by unfold getC; rw [List.getD_eq_getElem?_getD, h]; rfl
def nx (L : List CallV) (st : MS) (i : Nat) : Option MS := nextS st (getC L i)
def rdyB (L : List CallV) (u i : Nat) : Bool := (List.range L.length).all fun j => u.testBit j || !befB (getC L j) (getC L i)
def fullB (L : List CallV) (u : Nat) : Bool := (List.range L.length).all fun j => u.testBit j || decide ((getC L j).answered < 0)
def allB (L : List CallV) : Nat → Nat
  | 0 => 0
  | k + 1 => if 0 ≤ (getC L k).answered then allB L k ||| 2 ^ k else allB L k
theorem allB_bit (L : List CallV) : ∀ (k j : Nat), (allB L k).testBit j = (decide (j < k) && decide (0 ≤ (getC L j).answered))
  | 0, j => by simp [allB]
  | k + 1, j => by
    unfold allB
    split
    · rename_i h
      rw [bit_or, allB_bit L k j]
      by_cases hj : k = j
      · subst hj; simp [h]
      · have h1 : decide (j < k + 1) = decide (j < k) := decide_eq_decide.2 (by omega)
        rw [h1]; simp [hj]
    · rename_i h
      rw [allB_bit L k j]
      by_cases hj : k = j
      · subst hj; simp [h]
      · have h1 : decide (j < k + 1) = decide (j < k) := decide_eq_decide.2 (by omega)
        rw [h1]
theorem full_mask (L : List CallV) (u : Nat) : decide (u &&& allB L L.length = allB L L.length) = fullB L u := by
  rw [Bool.eq_iff_iff, decide_eq_true_eq]
  unfold fullB
  rw [List.all_eq_true]
  constructor
  · intro h j hj
    have h1 := congrArg (fun x => x.testBit j) h
    simp only [Nat.testBit_and, allB_bit] at h1
    have hj' := List.mem_range.1 hj
    by_cases ha : (getC L j).answered < 0
    · simp [ha]
    · have : decide (0 ≤ (getC L j).answered) = true := by simpa using ha
      rw [this] at h1
      simp [hj'] at h1
      simp [h1]
  · intro h
    apply Nat.eq_of_testBit_eq
    intro j
    rw [Nat.testBit_and, allB_bit]
    by_cases hj : j < L.length
    · have h1 := h j (List.mem_range.2 hj)
      by_cases ha : (getC L j).answered < 0
      · have : decide (0 ≤ (getC L j).answered) = false := by simpa using ha
        simp [this]
      · have h2 : u.testBit j = true := by simpa [ha] using h1
        simp [h2]
    · simp [hj]
def startE (c : CfgV) (L : List CallV) : Int := if cfgE c ≠ 0 then cfgE c else if (checkP L).2 ≠ 0 then (checkP L).2 else if 10 < L.length then 5 else 0
abbrev SS (L : List CallV) (st : MS) (u : Nat) : Option (List Nat) := S L.length (nx L) (rdyB L) (fullB L) st u
abbrev CC (L : List CallV) (st : MS) (u : Nat) : Nat := C L.length (nx L) (rdyB L) (fullB L) st u
abbrev chainC (L : List CallV) (st : MS) (u : Nat) (o : List Nat) : Bool := chain L.length (nx L) (rdyB L) (fullB L) st u o
def findP (c : CfgV) (L : List CallV) : List Nat × Bool × Int :=
  if startE c L ≠ 0 then ([], false, startE c L) else match SS L (newS c) 0 with | some a => (a, true, 0) | none => ([], false, 0)
def countP (c : CfgV) (most : Int) (L : List CallV) : Int × Int :=
  if startE c L ≠ 0 then (0, startE c L) else if most < 1 ∨ 1000000 < most then (0, 2) else (min (CC L (newS c) 0 : Int) most, 0)
def runO (L : List CallV) : MS → List Int → Option MS
  | st, [] => some st
  | st, i :: r => (nx L st i.toNat).bind fun t => runO L t r
def hasAll (L : List CallV) (o : List Int) : Bool := (List.range L.length).all fun j => decide ((getC L j).answered < 0) || o.contains (j : Int)
def validE (c : CfgV) (o : List Int) (L : List CallV) : Int :=
  if startE c L ≠ 0 then startE c L else if (agreesP o L).2 ≠ 0 then (agreesP o L).2 else if (agreesP o L).1 = false then 26 else
  match runO L (newS c) o with | none => 26 | some _ => if hasAll L o then 0 else 26
def mk (u : Nat) (o : List Nat) : Nat := o.foldl (fun a i => a ||| 2 ^ i) u
theorem mk_bit : ∀ (o : List Nat) (u j : Nat), (mk u o).testBit j = (u.testBit j || o.contains j)
  | [], u, j => by simp [mk]
  | i :: r, u, j => by
    show (mk (u ||| 2 ^ i) r).testBit j = _
    rw [mk_bit r, bit_or, List.contains_cons, Bool.or_assoc]
    congr 2
    rw [Bool.eq_iff_iff]; simp; exact eq_comm
theorem chain_run {L : List CallV} : ∀ (o : List Nat) {st : MS} {u : Nat}, chainC L st u o = true ↔ (∀ i ∈ o, i < L.length) ∧ o.Nodup ∧ (∀ i ∈ o, u.testBit i = false) ∧ (∀ k i, o[k]? = some i → rdyB L (mk u (o.take k)) i = true) ∧ (runO L st (o.map fun (n : Nat) => (n : Int))).isSome = true ∧ fullB L (mk u o) = true
  | [], st, u => by simp [chainC, chain, runO, mk]
  | i :: r, st, u => by
    have hch : chainC L st u (i :: r) = (decide (i < L.length) && cand (rdyB L) u i && (match nx L st i with | none => false | some t => chainC L t (u ||| 2 ^ i) r)) := by
      unfold chainC
      rw [chain]; cases nx L st i <;> rfl
    rw [hch]
    have hrun : runO L st ((i :: r).map fun (n : Nat) => (n : Int)) = (nx L st i).bind fun t => runO L t (r.map fun (n : Nat) => (n : Int)) := rfl
    rw [hrun]
    constructor
    · intro h
      simp only [Bool.and_eq_true, decide_eq_true_eq] at h
      obtain ⟨⟨hi, hc⟩, h⟩ := h
      cases hn : nx L st i with
      | none => rw [hn] at h; cases h
      | some t =>
        rw [hn] at h
        obtain ⟨h1, h2, h3, h4, h5, h6⟩ := (chain_run r).1 h
        have hb := cand_bit hc
        have hr : rdyB L u i = true := by unfold cand at hc; simp at hc; exact hc.2
        refine ⟨?_, ?_, ?_, ?_, ?_, h6⟩
        · intro j hj; rcases List.mem_cons.1 hj with rfl | hj
          · exact hi
          · exact h1 j hj
        · refine List.nodup_cons.2 ⟨fun hm => ?_, h2⟩
          have := h3 i hm
          rw [bit_or] at this; simp at this
        · intro j hj; rcases List.mem_cons.1 hj with rfl | hj
          · exact hb
          · have := h3 j hj; rw [bit_or] at this; simp at this; exact this.1
        · intro k j hk
          cases k with
          | zero => simp at hk; subst hk; exact hr
          | succ k => exact h4 k j (by simpa using hk)
        · exact h5
    · rintro ⟨h1, h2, h3, h4, h5, h6⟩
      cases hn : nx L st i with
      | none => rw [hn] at h5; simp at h5
      | some t =>
        rw [hn] at h5
        obtain ⟨n1, n2⟩ := List.nodup_cons.1 h2
        have hb := h3 i (by simp)
        have hr := h4 0 i (by simp)
        have ht := (chain_run (L := L) r (st := t) (u := u ||| 2 ^ i)).2 ⟨fun j hj => h1 j (by simp [hj]), n2, fun j hj => by
          rw [bit_or, h3 j (by simp [hj])]
          have : i ≠ j := fun e => n1 (e ▸ hj)
          simp [this], fun k j hk => h4 (k + 1) j (by simpa using hk), h5, h6⟩
        have hc : cand (rdyB L) u i = true := by unfold cand; rw [hb]; exact hr
        simp [h1 i (by simp), hc, ht]
theorem ordE_inv {n : Nat} : ∀ (r seen : List Int), ordE n seen r = 0 → (∀ x ∈ r, 0 ≤ x ∧ x < (n : Int)) ∧ (∀ x ∈ r, x ∉ seen) ∧ r.Nodup
  | [], _, _ => ⟨fun _ h => (by cases h), fun _ h => (by cases h), List.nodup_nil⟩
  | x :: r, seen, h => by
    unfold ordE at h
    split at h
    · cases h
    · rename_i h0
      split at h
      · cases h
      · rename_i h1
        obtain ⟨a1, a2, a3⟩ := ordE_inv r (seen ++ [x]) h
        refine ⟨?_, ?_, ?_⟩
        · intro y hy; rcases List.mem_cons.1 hy with rfl | hy
          · omega
          · exact a1 y hy
        · intro y hy; rcases List.mem_cons.1 hy with rfl | hy
          · exact h1
          · exact fun hm => a2 y hy (by simp [hm])
        · exact List.nodup_cons.2 ⟨fun hm => a2 x hm (by simp), a3⟩
theorem getC_some {L : List CallV} {i : Nat} (h : i < L.length) : L[i]? = some (getC L i) := by
  unfold getC; rw [List.getD_eq_getElem?_getD, List.getElem?_eq_getElem h]; rfl
theorem bef_self {L : List CallV} (h0 : (checkP L).2 = 0) {i : Nat} (hi : i < L.length) : befB (getC L i) (getC L i) = false := by
  unfold befB
  rw [Bool.and_eq_false_iff]
  by_cases ha : 0 ≤ (getC L i).answered
  · have := Hs.formed_answered (Hs.good_formed h0 (getC_some hi)) ha
    right; simpa using this.2.2
  · left; simpa using ha
end Go.Proofs.YtdeiocppghhfdaaGreat.Lin
namespace Go.Proofs.YtdeiocppghhfdaaGreat.Lin
set_option linter.unusedVariables false
set_option linter.unusedSimpArgs false
set_option maxRecDepth 100000
set_option maxHeartbeats 8000000
open Hs
def zQ (cs : List CallV) (i : Nat) : Bool := decide ((getC cs i).okind = 16) && decide ((getC cs i).err = 0)
def closeP (cs : List CallV) (E : List Nat) : Option Nat := E.find? (zQ cs)
def mvQ (cs : List CallV) (z i : Nat) : Bool := decide ((getC cs z).took < (getC cs i).took) && decide ((getC cs i).invoked < (getC cs z).took) && decide ((getC cs i).err ≠ 13)
def afQ (cs : List CallV) (z i : Nat) : Bool := decide ((getC cs z).took < (getC cs i).took) || (decide ((getC cs i).took = (getC cs z).took) && decide ((getC cs z).rank < (getC cs i).rank))
structure Pts where
  b : List Nat
  m : List Nat
  a : List Nat
def stepW (cs : List CallV) (z : Nat) (p : Pts) (i : Nat) : Pts :=
  if i = z then p else if mvQ cs z i then { p with m := p.m ++ [i] } else if (!p.a.isEmpty || afQ cs z i) then { p with a := p.a ++ [i] } else { p with b := p.b ++ [i] }
def ptsW (cs : List CallV) (z : Nat) (E : List Nat) : Pts := E.foldl (stepW cs z) ⟨[], [], []⟩
theorem pts_step {cs : List CallV} {z k i : Nat} {E : List Nat} (h : E[k]? = some i) : ptsW cs z (E.take (k + 1)) = stepW cs z (ptsW cs z (E.take k)) i := by
  unfold ptsW
  rw [List.take_add_one, h, Option.toList_some, List.foldl_append]
  rfl
def ordW (cs : List CallV) (E : List Nat) : List Nat := match closeP cs E with | none => E | some z => (ptsW cs z E).b ++ (ptsW cs z E).m ++ [z] ++ (ptsW cs z E).a
def accO (cs : List CallV) (st : MS) (i : Nat) : Bool × MS := accS st (getC cs i).thread (opV (getC cs i)) (resV (getC cs i)) (itV (getC cs i))
def playE (cs : List CallV) : MS → List Nat → Option Nat
  | _, [] => none
  | st, i :: r => if (accO cs st i).1 then playE cs (accO cs st i).2 r else some i
def playL (cs : List CallV) : MS → List Nat → List MS
  | st, [] => [st]
  | st, i :: r => st :: (if (accO cs st i).1 then playL cs (accO cs st i).2 r else [])
def playS (cs : List CallV) (st : MS) (o : List Nat) : MS := o.foldl (fun s i => (accO cs s i).2) st
def perfE (c : CfgV) (cs : List CallV) (E : List Nat) : Int × Int :=
  if cfgE c ≠ 0 then (0, cfgE c) else if (checkP cs).2 ≠ 0 then checkP cs else match playE cs (newS c) (ordW cs E) with | some i => ((i : Int), 26) | none => (0, 0)
theorem lex_irrefl (cs : List CallV) (i : Nat) : lexB cs i i = false := by simp [lexB]
theorem lex_asymm {cs : List CallV} {i j : Nat} (h : lexB cs i j = true) : lexB cs j i = false := by
  unfold lexB at h ⊢
  simp only [decide_eq_true_eq, decide_eq_false_iff_not] at h ⊢
  omega
theorem getC_tk {cs : List CallV} {i : Nat} (hi : i < cs.length) : tk cs i = (getC cs i).took ∧ rk cs i = (getC cs i).rank := tk_at (getC_some hi)
theorem eff_in {cs : List CallV} {E : List Nat} (h : EffIs cs E) {i : Nat} : i ∈ E ↔ i < cs.length ∧ 0 ≤ (getC cs i).took := by
  rw [eff_mem h]
  constructor
  · rintro ⟨c, hc, hq⟩
    have := getC_at hc
    exact ⟨(List.getElem?_eq_some_iff.1 hc).1, by rw [this]; exact of_decide_eq_true hq⟩
  · rintro ⟨h1, h2⟩
    exact ⟨_, getC_some h1, decide_eq_true h2⟩
structure ZAt (cs : List CallV) (E : List Nat) (z : Nat) (P Q : List Nat) : Prop where
  eq : E = P ++ z :: Q
  no : ∀ i ∈ P, zQ cs i = false
  is : zQ cs z = true
  lo : ∀ i ∈ P, lexB cs i z = true
  hi : ∀ i ∈ Q, lexB cs z i = true
theorem close_at {cs : List CallV} {E : List Nat} {z : Nat} (hE : EffIs cs E) (h : closeP cs E = some z) : ∃ P Q, ZAt cs E z P Q := by
  obtain ⟨h1, P, Q, rfl, h2⟩ := List.find?_eq_some_iff_append.1 h
  have h3 := List.pairwise_append.1 hE.2
  exact ⟨P, Q, rfl, fun i hi => by simpa using h2 i hi, h1, fun i hi => h3.2.2 i hi z (by simp), (List.pairwise_cons.1 h3.2.1).1⟩
theorem lex_get {cs : List CallV} {i j : Nat} (hi : i < cs.length) (hj : j < cs.length) (h : lexB cs i j = true) : (getC cs i).took < (getC cs j).took ∨ ((getC cs i).took = (getC cs j).took ∧ (getC cs i).rank < (getC cs j).rank) := by
  unfold lexB at h
  rw [(getC_tk hi).1, (getC_tk hi).2, (getC_tk hj).1, (getC_tk hj).2] at h
  exact of_decide_eq_true h
theorem fold_b (cs : List CallV) (z : Nat) : ∀ (P : List Nat) (b : List Nat), (∀ i ∈ P, i ≠ z ∧ mvQ cs z i = false ∧ afQ cs z i = false) → P.foldl (stepW cs z) ⟨b, [], []⟩ = ⟨b ++ P, [], []⟩
  | [], b, _ => by simp
  | i :: P, b, h => by
    obtain ⟨h1, h2, h3⟩ := h i (by simp)
    have e : stepW cs z ⟨b, [], []⟩ i = ⟨b ++ [i], [], []⟩ := by unfold stepW; rw [if_neg h1, h2, h3]; rfl
    rw [List.foldl_cons, e, fold_b cs z P _ (fun j hj => h j (by simp [hj])), List.append_assoc]
    rfl
theorem fold_a (cs : List CallV) (z : Nat) : ∀ (Q : List Nat) (b m a : List Nat), (∀ i ∈ Q, i ≠ z ∧ afQ cs z i = true) → Q.foldl (stepW cs z) ⟨b, m, a⟩ = ⟨b, m ++ Q.filter (mvQ cs z), a ++ Q.filter fun i => !mvQ cs z i⟩
  | [], b, m, a, _ => by simp
  | i :: Q, b, m, a, h => by
    obtain ⟨h1, h3⟩ := h i (by simp)
    rw [List.foldl_cons]
    cases hm : mvQ cs z i with
    | true =>
      have e : stepW cs z ⟨b, m, a⟩ i = ⟨b, m ++ [i], a⟩ := by unfold stepW; rw [if_neg h1, hm]; rfl
      rw [e, fold_a cs z Q _ _ _ (fun j hj => h j (by simp [hj])), List.filter_cons_of_pos hm, List.filter_cons_of_neg (by rw [hm]; simp), List.append_assoc]
      rfl
    | false =>
      have e : stepW cs z ⟨b, m, a⟩ i = ⟨b, m, a ++ [i]⟩ := by unfold stepW; rw [if_neg h1, hm, h3, Bool.or_true]; rfl
      rw [e, fold_a cs z Q _ _ _ (fun j hj => h j (by simp [hj])), List.filter_cons_of_neg (by rw [hm]; simp), List.filter_cons_of_pos (by rw [hm]; rfl), List.append_assoc]
      rfl
theorem zat_pts {cs : List CallV} {E P Q : List Nat} {z : Nat} (hE : EffIs cs E) (h : ZAt cs E z P Q) : ptsW cs z E = ⟨P, Q.filter (mvQ cs z), Q.filter fun i => !mvQ cs z i⟩ := by
  have hz : z < cs.length := ((eff_in hE).1 (by rw [h.eq]; simp)).1
  have hl : ∀ i ∈ E, i < cs.length := fun i hi => ((eff_in hE).1 hi).1
  have hn : ∀ i, lexB cs i z = true ∨ lexB cs z i = true → i ≠ z := fun i hi e => by
    subst e
    rw [lex_irrefl] at hi
    rcases hi with h | h <;> cases h
  unfold ptsW
  rw [h.eq, List.foldl_append, fold_b, List.nil_append, List.foldl_cons]
  · have e : stepW cs z ⟨P, [], []⟩ z = ⟨P, [], []⟩ := by unfold stepW; rw [if_pos rfl]
    rw [e, fold_a]
    · simp
    · intro i hi
      refine ⟨hn i (.inr (h.hi i hi)), ?_⟩
      have := lex_get hz (hl i (by rw [h.eq]; simp [hi])) (h.hi i hi)
      unfold afQ
      simp only [Bool.or_eq_true, Bool.and_eq_true, decide_eq_true_eq]
      omega
  · intro i hi
    have := lex_get (hl i (by rw [h.eq]; simp [hi])) hz (h.lo i hi)
    refine ⟨hn i (.inl (h.lo i hi)), ?_, ?_⟩
    · unfold mvQ
      have : decide ((getC cs z).took < (getC cs i).took) = false := by simp; omega
      rw [this]; rfl
    · unfold afQ
      simp only [Bool.or_eq_false_iff, Bool.and_eq_false_iff, decide_eq_false_iff_not]
      omega
theorem ord_none {cs : List CallV} {E : List Nat} (h : closeP cs E = none) : ordW cs E = E := by unfold ordW; rw [h]
theorem ord_some {cs : List CallV} {E P Q : List Nat} {z : Nat} (hE : EffIs cs E) (h : closeP cs E = some z) (hz : ZAt cs E z P Q) : ordW cs E = P ++ Q.filter (mvQ cs z) ++ [z] ++ Q.filter fun i => !mvQ cs z i := by
  unfold ordW
  rw [h]
  simp only [zat_pts hE hz]
theorem filter_perm {α : Type} (p : α → Bool) : ∀ l : List α, (l.filter p ++ l.filter fun x => !p x).Perm l
  | [] => .nil
  | x :: l => by
    cases hp : p x with
    | true => rw [List.filter_cons_of_pos hp, List.filter_cons_of_neg (by rw [hp]; simp), List.cons_append]; exact (filter_perm p l).cons x
    | false =>
      rw [List.filter_cons_of_neg (by rw [hp]; simp), List.filter_cons_of_pos (by rw [hp]; rfl)]
      exact List.perm_middle.trans ((filter_perm p l).cons x)
theorem ord_perm {cs : List CallV} {E : List Nat} (hE : EffIs cs E) : (ordW cs E).Perm E := by
  cases hc : closeP cs E with
  | none => rw [ord_none hc]
  | some z =>
    obtain ⟨P, Q, hz⟩ := close_at hE hc
    rw [ord_some hE hc hz, hz.eq, List.append_assoc, List.append_assoc]
    refine List.Perm.append_left P ?_
    rw [List.singleton_append]
    exact List.perm_middle.trans ((filter_perm _ Q).cons z)
theorem ord_len {cs : List CallV} {E : List Nat} (hE : EffIs cs E) : (ordW cs E).length = E.length := (ord_perm hE).length_eq
theorem ord_in {cs : List CallV} {E : List Nat} (hE : EffIs cs E) {i : Nat} : i ∈ ordW cs E ↔ i < cs.length ∧ 0 ≤ (getC cs i).took := by rw [(ord_perm hE).mem_iff, eff_in hE]
theorem bef_took {cs : List CallV} (h0 : (checkP cs).2 = 0) {i j : Nat} (hi : i < cs.length) (hj : j < cs.length) (hq : 0 ≤ (getC cs j).took) (h : befB (getC cs i) (getC cs j) = true) : 0 ≤ (getC cs i).took ∧ (getC cs i).took < (getC cs j).took := by
  have := bef_lex h0 (getC_some hi) (getC_some hj) (decide_eq_true hq) h
  rw [(getC_tk hi).1, (getC_tk hj).1] at this
  exact ⟨of_decide_eq_true this.1, this.2⟩
def NoBack (cs : List CallV) (o : List Nat) : Prop := o.Pairwise fun x y => befB (getC cs y) (getC cs x) = false
theorem eff_back {cs : List CallV} {E : List Nat} (h0 : (checkP cs).2 = 0) (hE : EffIs cs E) : NoBack cs E := by
  have hl : ∀ i ∈ E, i < cs.length ∧ 0 ≤ (getC cs i).took := fun i hi => (eff_in hE).1 hi
  refine List.Pairwise.imp_of_mem (fun {a b} ha hb h => ?_) hE.2
  obtain ⟨ha1, ha2⟩ := hl a ha
  obtain ⟨hb1, hb2⟩ := hl b hb
  cases hbb : befB (getC cs b) (getC cs a) with
  | false => rfl
  | true =>
    have h1 := bef_took h0 hb1 ha1 ha2 hbb
    have h2 := lex_get ha1 hb1 h
    omega
end Go.Proofs.YtdeiocppghhfdaaGreat.Lin
namespace Go.Proofs.YtdeiocppghhfdaaGreat.Lin
set_option linter.unusedVariables false
set_option linter.unusedSimpArgs false
set_option maxRecDepth 100000
set_option maxHeartbeats 8000000
open Go.RowKit Go.Lib Go.Shelf
open Hs
attribute [local go_sem, local simp] Hs.callL_0 Hs.callL_1 Hs.callL_2 Hs.callL_3 Hs.callL_4 Hs.callL_5 Hs.callL_6 Hs.callL_7 Hs.callL_8 Hs.callL_9 Hs.callL_10 Hs.callL_11 Hs.callL_12 Hs.callL_13 Hs.callL_14 Hs.callL_15 Hs.callL_16 Hs.callL_17 Hs.callL_18 Hs.callL_19 Hs.callL_20 Hs.callL_21 Hs.callL_22 Hs.callL_23 Hs.callL_24 Hs.callL_25 Hs.callL_26 Hs.resL_0 Hs.resL_1 Hs.resL_2 Hs.resL_3 Hs.resL_4 Hs.resL_5 Hs.resL_6 Hs.resL_7 Hs.resL_8 Hs.resL_9 Hs.resL_10 Hs.resL_11 Hs.resL_12 Hs.callG_0 Hs.callG_1 Hs.callG_2 Hs.callG_3 Hs.callG_4 Hs.callG_5 Hs.callG_6 Hs.callG_7 Hs.callG_8 Hs.callG_9 Hs.callG_10 Hs.callG_11 Hs.callG_12 Hs.callG_13 Hs.callG_14 Hs.callG_15 Hs.callG_16 Hs.callG_17 Hs.callG_18 Hs.callG_19 Hs.callG_20 Hs.callG_21 Hs.callG_22 Hs.callG_23 Hs.callG_24 Hs.callG_25 Hs.callG_26 Hs.resG_0 Hs.resG_1 Hs.resG_2 Hs.resG_3 Hs.resG_4 Hs.resG_5 Hs.resG_6 Hs.resG_7 Hs.resG_8 Hs.resG_9 Hs.resG_10 Hs.resG_11 Hs.resG_12 Hs.callL_len Hs.resL_len
attribute [local go_sem ↓] Hs.loadCall_eq Hs.loadRes_eq
attribute [local go_sem] Hs.ld_new Hs.ld_first Hs.ld_second Hs.ldr_new Hs.st_new
theorem of_nat64 (a : Nat) : BitVec.ofInt 64 (a : Int) = BitVec.ofNat 64 a := by simp
theorem bits_or (a b : Nat) (ha : a < 2 ^ 62) (hb : b < 2 ^ 62) : bits .or .i64 (a : Int) (b : Int) = ((a ||| b : Nat) : Int) := by
  have h : a ||| b < 2 ^ 62 := Nat.or_lt_two_pow ha hb
  show IntKind.i64.wrap ((BitVec.ofInt 64 (a : Int) ||| BitVec.ofInt 64 (b : Int)).toNat : Int) = _
  rw [of_nat64, of_nat64, BitVec.toNat_or, BitVec.toNat_ofNat, BitVec.toNat_ofNat, Nat.mod_eq_of_lt (by omega), Nat.mod_eq_of_lt (by omega), IntKind.wrap_i64]
  omega
theorem bits_and (a b : Nat) (ha : a < 2 ^ 62) (hb : b < 2 ^ 62) : bits .and .i64 (a : Int) (b : Int) = ((a &&& b : Nat) : Int) := by
  have h : a &&& b < 2 ^ 62 := Nat.and_lt_two_pow _ hb
  show IntKind.i64.wrap ((BitVec.ofInt 64 (a : Int) &&& BitVec.ofInt 64 (b : Int)).toNat : Int) = _
  rw [of_nat64, of_nat64, BitVec.toNat_and, BitVec.toNat_ofNat, BitVec.toNat_ofNat, Nat.mod_eq_of_lt (by omega), Nat.mod_eq_of_lt (by omega), IntKind.wrap_i64]
  omega
theorem shr_one (u i : Nat) (hu : u < 2 ^ 62) : bits .and .i64 ((u : Int) / 2 ^ i) 1 = if u.testBit i then 1 else 0 := by
  have h1 : ((u : Int) / 2 ^ i) = ((u / 2 ^ i : Nat) : Int) := by simp
  rw [h1]
  have := bits_and (u / 2 ^ i) 1 (Nat.lt_of_le_of_lt (Nat.div_le_self ..) hu) (by omega)
  rw [show ((1 : Nat) : Int) = 1 from rfl] at this
  rw [this, Nat.and_one_is_mod, Nat.testBit_eq_decide_div_mod_eq]
  have : u / 2 ^ i % 2 = 0 ∨ u / 2 ^ i % 2 = 1 := by omega
  rcases this with h | h <;> simp [h]
theorem rdy_no {L : List CallV} {u i j : Nat} (hj : j < L.length) (hu : u.testBit j = false) (h : befB (getC L j) (getC L i) = true) : rdyB L u i = false := by
  unfold rdyB
  rw [List.all_eq_false]
  exact ⟨j, List.mem_range.2 hj, by simp [hu, h]⟩
theorem rdy_yes {L : List CallV} {u i : Nat} (h : ∀ j, j < L.length → (u.testBit j || !befB (getC L j) (getC L i)) = true) : rdyB L u i = true := by
  unfold rdyB
  rw [List.all_eq_true]
  exact fun j hj => h j (List.mem_range.1 hj)
theorem allB_lt (cs : List CallV) : ∀ (k n : Nat), k ≤ n → allB cs k < 2 ^ n
  | 0, n, _ => Nat.two_pow_pos n
  | k + 1, n, h => by
    unfold allB
    split
    · exact Nat.or_lt_two_pow (allB_lt cs k n (by omega)) (Nat.pow_lt_pow_right (by omega) (by omega))
    · exact allB_lt cs k n (by omega)
theorem sh_one {k : Nat} (h : k ≤ 60) : wrap64 (2 ^ k) = ((2 ^ k : Nat) : Int) := by
  have h1 : (2 : Nat) ^ k ≤ 2 ^ 60 := Nat.pow_le_pow_right (by omega) h
  have h2 : ((2 : Int) ^ k) = ((2 ^ k : Nat) : Int) := by simp
  rw [h2]
  generalize (2 : Nat) ^ k = z at *
  unfold wrap64
  omega
theorem sh_w {k : Nat} (h : k ≤ 60) : IntKind.i64.wrap (2 ^ k) = ((2 ^ k : Nat) : Int) := by
  have h1 := sh_one h
  rw [IntKind.wrap_i64]
  unfold wrap64 at h1
  exact h1
theorem crow_at {W : World} {p : Option Addr} {cap : Nat} {cs : List CallV} (h : CRow W p cap cs) (hn : 0 < cs.length) : ∃ b off, p = some ⟨b, off, none⟩ ∧ cs.length ≤ cap ∧ b < W.heap.size ∧ CAt W b off cs := by
  rcases h with ⟨_, _, h⟩ | h
  · rw [h] at hn; simp at hn
  · exact h
theorem ready_any (p : Option Addr) (cap : Nat) (cs : List CallV) (u i : Nat) (w : World) (hC : CRow w p cap cs) (hs : cs.length ≤ 60) (hu : u < 2 ^ 62) (hi : i < cs.length) :
    Calls Tryz.prog 65 #[.slice p cs.length cap, .int .i64 u, .int .i64 i] w fun e w' => e = .returned (.bool (rdyB cs u i)) ∧ Below w.heap.size w w' := by
  obtain ⟨b, off, rfl, hcap, hb, hA⟩ := crow_at hC (by omega)
  have hic := getC_some hi
  have hld := fun W (hB : Below w.heap.size w W) => (hA.below hB hb).load hic
  generalize hd : getC cs i = d at hld
  have Hd := Lib.hid hd
  clear hd hic hC
  go_enter Tryz.func65, Tryz.ntmps65
  go_wp2
  go_loopw [7, 10, 13, 14, 15, 16, 17, 18, 19, 20, 21, 22, 23, 24, 25, 26, 27, 28] (fun x7 j x13 x14 x15 x16 x17 x18 x19 x20 x21 x22 x23 x24 x25 x26 x27 x28 wr => ∃ k : Nat, j = .int .i64 k ∧ k ≤ cs.length ∧ Below w.heap.size w wr ∧ ∀ x, x < k → (u.testBit x || !befB (getC cs x) d) = true) (fun x7 j x13 x14 x15 x16 x17 x18 x19 x20 x21 x22 x23 x24 x25 x26 x27 x28 wr => cs.length - (intOf j).toNat)
  case atStart => exact ⟨0, rfl, by omega, Below.refl _ _, fun x h => by omega⟩
  case round =>
    obtain ⟨k, rfl, hk, hB, hall⟩ := hrel
    by_cases hlt : k < cs.length
    · have hldk := (hA.below hB hb).load (getC_some hlt)
      have hldi := hld wr hB
      have hbit := shr_one u k hu
      have hbf := fun W => before_any (getC cs k) d W
      generalize hc : getC cs k = c at hldk hbf
      have Hc := Lib.hid hc
      clear hc
      have hbw0 := hB.drew
      have hld0 := hld wr.drew hbw0
      have hldk0 := (hA.below hbw0 hb).load (getC_some hlt)
      rw [Hc.out] at hldk0
      cases hub : u.testBit k with
      | true =>
        rw [hub] at hbit
        simp only [if_true] at hbit
        clear hld hbf hldi
        go_wp2
        refine wp_region_noPanic ?_
        refine wp_region_held_drew (S := fun W => (loadCall (.pointer (some ⟨b, off + k * 27, none⟩))).run Tryz.prog W = .ok (.agg (callL c).toArray) W) (by kernel_rfl) ?_ (fun hHeld => ?_)
        · first | exact hldk | exact hldk0
        iterate 14 (first | (refine np_sn ?_; (try simp only [nSO])) | ((first | refine np_n ?_ ?_ ?_ | refine np_t 0 ?_ ?_ ?_); rotate_left 1; (· (intro w hSw; (try dsimp only at hSw); go_simp; all_goals with_reducible rfl)); (try simp only [nSO])))
        first | (refine np_s 14 ?_; (try simp only [nSO])) | (refine np_step (i := 14) rfl (by kernel_rfl) (fun K hK => ?_); rw [if_pos (by rfl)]; go_simp; (fail); (try go_wp2_with fail); refine hK.out _ _ ?_ (fun hHeld => ?_); (· (first | exact hldk | exact hldk0)); clear hK K; (try simp only [nSO]))
        first | (refine np_sn ?_; (try simp only [nSO])) | (refine np_n ?_ ?_ ?_; rotate_left 1; (· (intro w hSw; (try dsimp only at hSw); go_simp; all_goals with_reducible rfl)); (try simp only [nSO]))
        refine wpAnyH_done (by kernel_rfl) ?_ _
        refine NoPanic.normal ?_
        go_wp2
        go_roundw
        case rel => exact ⟨k + 1, by go_num, by omega, hbw0, fun x hx => by
          rcases Nat.lt_or_ge x k with h | h
          · exact hall x h
          · have : x = k := by omega
            subst this; rw [hub]; rfl⟩
        case measure => simp [intOf]; omega
      | false =>
        rw [hub] at hbit
        simp only [Bool.false_eq_true, if_false] at hbit
        generalize hy : befB c d = y at hbf
        have Hy := Lib.hid hy
        clear hy
        have hk1 : ∀ W', Below wr.drew.heap.size wr.drew W' → Below w.heap.size w W' := fun W' h => hbw0.trans (h.mono hbw0.size)
        cases y with
        | true =>
          go_wp2
          refine wp_region_noPanic ?_
          refine wp_region_held_drew (S := fun W => (loadCall (.pointer (some ⟨b, off + k * 27, none⟩))).run Tryz.prog W = .ok (.agg (callL c).toArray) W ∧ (loadCall (.pointer (some ⟨b, off + i * 27, none⟩))).run Tryz.prog W = .ok (.agg (callL d).toArray) W) (by kernel_rfl) ?_ (fun hHeld => ?_)
          · first | exact ⟨hldk, hldi⟩ | exact ⟨hldk0, hld0⟩ | exact ⟨by have := (hA.below (hk1 _ hbc) hb).load (getC_some hlt); rw [Hc.out] at this; exact this, hld _ (hk1 _ hbc)⟩
          iterate 14 (first | (refine np_sn ?_; (try simp only [nSO])) | ((first | refine np_n ?_ ?_ ?_ | refine np_t 0 ?_ ?_ ?_); rotate_left 1; (· (intro w hSw; (try dsimp only at hSw); go_simp; all_goals with_reducible rfl)); (try simp only [nSO])))
          first | (refine np_s 14 ?_; (try simp only [nSO])) | (refine np_step (i := 14) rfl (by kernel_rfl) (fun K hK => ?_); rw [if_pos (by rfl)]; go_simp; (go_at_call 106; refine (hbf _).mono ?_; rintro e w1 ⟨rfl, hbc⟩); (try go_wp2_with fail); refine hK.out _ _ ?_ (fun hHeld => ?_); (· (first | exact ⟨hldk, hldi⟩ | exact ⟨hldk0, hld0⟩ | exact ⟨by have := (hA.below (hk1 _ hbc) hb).load (getC_some hlt); rw [Hc.out] at this; exact this, hld _ (hk1 _ hbc)⟩)); clear hK K; (try simp only [nSO]))
          first | (refine np_sn ?_; (try simp only [nSO])) | (refine np_n ?_ ?_ ?_; rotate_left 1; (· (intro w hSw; (try dsimp only at hSw); go_simp; all_goals with_reducible rfl)); (try simp only [nSO]))
          refine wpAnyH_done (by kernel_rfl) ?_ _
          refine NoPanic.normal ?_
          have hbx := hk1 _ hbc
          go_wp2
          go_returns
          exact ⟨by rw [rdy_no hlt hub (by rw [Hc.out, Hd.out]; exact Hy.out)]; rfl, hbx⟩
        | false =>
          go_wp2
          refine wp_region_noPanic ?_
          refine wp_region_held_drew (S := fun W => (loadCall (.pointer (some ⟨b, off + k * 27, none⟩))).run Tryz.prog W = .ok (.agg (callL c).toArray) W ∧ (loadCall (.pointer (some ⟨b, off + i * 27, none⟩))).run Tryz.prog W = .ok (.agg (callL d).toArray) W) (by kernel_rfl) ?_ (fun hHeld => ?_)
          · first | exact ⟨hldk, hldi⟩ | exact ⟨hldk0, hld0⟩ | exact ⟨by have := (hA.below (hk1 _ hbc) hb).load (getC_some hlt); rw [Hc.out] at this; exact this, hld _ (hk1 _ hbc)⟩
          iterate 14 (first | (refine np_sn ?_; (try simp only [nSO])) | ((first | refine np_n ?_ ?_ ?_ | refine np_t 0 ?_ ?_ ?_); rotate_left 1; (· (intro w hSw; (try dsimp only at hSw); go_simp; all_goals with_reducible rfl)); (try simp only [nSO])))
          first | (refine np_s 14 ?_; (try simp only [nSO])) | (refine np_step (i := 14) rfl (by kernel_rfl) (fun K hK => ?_); rw [if_pos (by rfl)]; go_simp; (go_at_call 106; refine (hbf _).mono ?_; rintro e w1 ⟨rfl, hbc⟩); (try go_wp2_with fail); refine hK.out _ _ ?_ (fun hHeld => ?_); (· (first | exact ⟨hldk, hldi⟩ | exact ⟨hldk0, hld0⟩ | exact ⟨by have := (hA.below (hk1 _ hbc) hb).load (getC_some hlt); rw [Hc.out] at this; exact this, hld _ (hk1 _ hbc)⟩)); clear hK K; (try simp only [nSO]))
          first | (refine np_sn ?_; (try simp only [nSO])) | (refine np_n ?_ ?_ ?_; rotate_left 1; (· (intro w hSw; (try dsimp only at hSw); go_simp; all_goals with_reducible rfl)); (try simp only [nSO]))
          refine wpAnyH_done (by kernel_rfl) ?_ _
          refine NoPanic.normal ?_
          have hbx := hk1 _ hbc
          go_wp2
          go_roundw
          case rel => exact ⟨k + 1, by go_num, by omega, hbx, fun x hx => by
            rcases Nat.lt_or_ge x k with h | h
            · exact hall x h
            · have : x = k := by omega
              subst this; rw [Hc.out, Hy.out]; simp⟩
          case measure => simp [intOf]; omega
    · have hke : k = cs.length := by omega
      subst hke
      go_wp2
      go_returns
      exact ⟨by rw [rdy_yes (fun j hj => by rw [Hd.out]; exact hall j hj)]; rfl, hB⟩
theorem answered_any (p : Option Addr) (cap : Nat) (cs : List CallV) (w : World) (hC : CRow w p cap cs) (hs : cs.length ≤ 60) :
    Calls Tryz.prog 62 #[.slice p cs.length cap] w fun e w' => e = .returned (.int .i64 (allB cs cs.length : Nat)) ∧ Below w.heap.size w w' := by
  go_enter Tryz.func62, Tryz.ntmps62
  go_wp2
  go_loopw [3, 4, 5, 8] (fun x3 x4 x5 j wr => ∃ k : Nat, j = .int .i64 k ∧ k ≤ cs.length ∧ x3 = .int .i64 (allB cs k : Nat) ∧ Below w.heap.size w wr) (fun x3 x4 x5 j wr => cs.length - (intOf j).toNat)
  case atStart => exact ⟨0, rfl, by omega, rfl, Below.refl _ _⟩
  case round =>
    obtain ⟨k, rfl, hk, rfl, hB⟩ := hrel
    by_cases hlt : k < cs.length
    · obtain ⟨b, off, rfl, hcap, hb, hA⟩ := crow_at hC (by omega)
      have hldk := (hA.below hB hb).load (getC_some hlt)
      have hal : allB cs (k + 1) = if 0 ≤ (getC cs k).answered then allB cs k ||| 2 ^ k else allB cs k := rfl
      generalize getC cs k = c at hldk hal
      have hsz : allB cs k < 2 ^ 60 := allB_lt cs k 60 (by omega)
      have hpw : (2 : Nat) ^ k < 2 ^ 60 := Nat.pow_lt_pow_right (by omega) (by omega)
      have hor := bits_or (allB cs k) (2 ^ k) (by omega) (by omega)
      have hBa : Below w.heap.size w (wr.alloc (.cells (callL c).toArray 56)) := hB.alloc hB.size _
      have Hal := Lib.hid hal
      clear hal
      by_cases ha : 0 ≤ c.answered
      · go_wp2
        go_roundw
        case rel => exact ⟨k + 1, by go_num, by omega, by rw [Hal.out, if_pos ha, ← hor, sh_one (by omega)], hBa⟩
        case measure => simp [intOf]; omega
      · go_wp2
        go_roundw
        case rel => exact ⟨k + 1, by go_num, by omega, by rw [Hal.out, if_neg ha], hBa⟩
        case measure => simp [intOf]; omega
    · have hke : k = cs.length := by omega
      subst hke
      go_wp2
      go_returns
      exact ⟨rfl, hB⟩
end Go.Proofs.YtdeiocppghhfdaaGreat.Lin
namespace Go.Proofs.YtdeiocppghhfdaaGreat.Lin
set_option linter.unusedVariables false
set_option linter.unusedSimpArgs false
set_option maxRecDepth 100000
set_option maxHeartbeats 8000000
open Go.RowKit Go.Lib Go.Shelf
open Hs
attribute [local go_sem, local simp] Hs.callL_0 Hs.callL_1 Hs.callL_2 Hs.callL_3 Hs.callL_4 Hs.callL_5 Hs.callL_6 Hs.callL_7 Hs.callL_8 Hs.callL_9 Hs.callL_10 Hs.callL_11 Hs.callL_12 Hs.callL_13 Hs.callL_14 Hs.callL_15 Hs.callL_16 Hs.callL_17 Hs.callL_18 Hs.callL_19 Hs.callL_20 Hs.callL_21 Hs.callL_22 Hs.callL_23 Hs.callL_24 Hs.callL_25 Hs.callL_26 Hs.resL_0 Hs.resL_1 Hs.resL_2 Hs.resL_3 Hs.resL_4 Hs.resL_5 Hs.resL_6 Hs.resL_7 Hs.resL_8 Hs.resL_9 Hs.resL_10 Hs.resL_11 Hs.resL_12 Hs.callG_0 Hs.callG_1 Hs.callG_2 Hs.callG_3 Hs.callG_4 Hs.callG_5 Hs.callG_6 Hs.callG_7 Hs.callG_8 Hs.callG_9 Hs.callG_10 Hs.callG_11 Hs.callG_12 Hs.callG_13 Hs.callG_14 Hs.callG_15 Hs.callG_16 Hs.callG_17 Hs.callG_18 Hs.callG_19 Hs.callG_20 Hs.callG_21 Hs.callG_22 Hs.callG_23 Hs.callG_24 Hs.callG_25 Hs.callG_26 Hs.resG_0 Hs.resG_1 Hs.resG_2 Hs.resG_3 Hs.resG_4 Hs.resG_5 Hs.resG_6 Hs.resG_7 Hs.resG_8 Hs.resG_9 Hs.resG_10 Hs.resG_11 Hs.resG_12 Hs.callL_len Hs.resL_len
attribute [local go_sem ↓] Hs.loadCall_eq Hs.loadRes_eq
attribute [local go_sem] Hs.ld_new Hs.ld_first Hs.ld_second Hs.ldr_new Hs.st_new
theorem ok_op {c : CallV} (h : c.Ok) : OpIn (opV c) := ⟨h.kd.1, h.kd.2, h.id.1, h.id.2, h.gr, h.sl, h.at_, h.nn⟩
def opL (c : CallV) : List Value := [.int .u8 c.okind, .int .i64 c.oslot, .int .i64 c.oat, .int .i64 c.on, .int .u32 c.oid, .int .u8 c.ograv, .string c.otext]
def loadOp (v : Value) : Sem Value := Instr.loadAt 54 v
theorem loadOp_eq (v : Value) : Instr.loadAt 54 v = loadOp v := rfl
theorem ldo_call {W : World} {b : Nat} (c : CallV) (h : W.heap[b]? = some (.cells (callL c).toArray 56 (0, 0))) : (loadOp (.pointer (some ⟨b, 2, none⟩))).run Tryz.prog W = .ok (.agg (opL c).toArray) W :=
  run_loadAt_mid W b 2 54 (opL c) _ (fun j v hv => by
    rw [blk_cell h]
    have hlt := (List.getElem?_eq_some_iff.1 hv).1
    have : (opL c)[j]? = (callL c)[2 + j]? := by
      rw [show opL c = ((callL c).drop 2).take 7 from rfl, List.getElem?_take, List.getElem?_drop]
      rw [if_pos (by simpa [opL] using hlt)]
    rw [← this]
    exact hv) Tryz.underlying54 rfl (by kernel_rfl)
attribute [local go_sem ↓] loadOp_eq
theorem do_call {b : Nat} {M : MM} {c : CallV} {w0 W : World} {K : Int} (h : Run w0 W b M) (hok : MSok M.st K) (hK : K ≤ 100000) (hc : c.Ok) :
    Calls Tryz.prog 50 #[.pointer (some ⟨b, 0, none⟩), .int .i64 c.thread, .agg (opL c).toArray] W fun e W' => ∃ v M', e = .returned v ∧ Run w0 W' b M' ∧ M'.st = (doS M.st c.thread (opV c)).2 := by
  refine (do_run b c.thread M (opV c) w0 W K h hok hK (ok_op hc)).mono ?_
  rintro e W' ⟨M', rfl, h1, h2, _, _⟩
  exact ⟨_, M', rfl, h1, h2⟩
theorem acc_call {b : Nat} {M : MM} {c : CallV} {w0 W : World} (h : Run w0 W b M) (hok : MSok M.st 100000) (hc : c.Ok) (hn : c.ps.length ≤ 1000000) :
    Calls Tryz.prog 53 #[.pointer (some ⟨b, 0, none⟩), .int .i64 c.thread, .agg (opL c).toArray, .agg (Hs.resL c).toArray] W fun e W' => ∃ M', e = .returned (.bool (accS M.st c.thread (opV c) (resV c) (itV c)).1) ∧ Run w0 W' b M' ∧ M'.st = (accS M.st c.thread (opV c) (resV c) (itV c)).2 := by
  refine (acc_run b c.thread M (opV c) (resV c) (itV c) w0 W h hok (ok_op hc) (by show c.ps.length ≤ maxLen; unfold maxLen; omega)).mono ?_
  rintro e W' ⟨M', rfl, h1, h2, _⟩
  exact ⟨M', rfl, h1, h2⟩
theorem copy_new {b : Nat} {M : MM} {W : World} {K : Int} (h : MdAt W b M) (hok : MSok M.st K) : Calls Tryz.prog 102 #[.pointer (some ⟨b, 0, none⟩)] W fun e W' => ∃ b2 N, e = .returned (.pointer (some ⟨b2, 0, none⟩)) ∧ Run W W' b2 N ∧ N.st = M.st := by
  refine (copy_any b M W K h hok).mono ?_
  rintro e W' ⟨b2, N, rfl, hN, hst, hb, hf⟩
  exact ⟨b2, N, rfl, ⟨hN, hf, hb⟩, hst⟩
theorem Run.up {w0 w W : World} {b : Nat} {M : MM} (h : Run w W b M) (hb : Below w0.heap.size w0 w) : Run w0 W b M := ⟨h.at_, fun k hk => Nat.le_trans hb.size (h.own k hk), hb.trans (h.bl.mono hb.size)⟩
def NextPost (st : MS) (c : CallV) (w : World) (e : Ending) (w' : World) : Prop :=
  ∃ b' M', e = .returned (.tuple #[.pointer (some ⟨b', 0, none⟩), .bool (nextS st c).isSome]) ∧ Run w w' b' M' ∧ ∀ t, nextS st c = some t → M'.st = t
theorem next_any (b : Nat) (M : MM) (c : CallV) (w : World) (K : Int) (h : MdAt w b M) (hok : MSok M.st K) (hK : K ≤ 100000) (hc : c.Ok) (hn : c.ps.length ≤ 1000000) :
    Calls Tryz.prog 66 #[.pointer (some ⟨b, 0, none⟩), .agg (callL c).toArray] w (NextPost M.st c w) := by
  have hB0 : Below w.heap.size w (w.alloc (.cells (callL c).toArray 56)) := (Below.refl _ _).alloc (Nat.le_refl _) _
  have hcp := copy_new (h.below hB0) hok
  have hz := blk_new w (callL c) 56
  go_enter Tryz.func66, Tryz.ntmps66
  by_cases ha : c.answered < 0
  · go_wp2_with (first | (go_at_call 102; refine hcp.mono ?_; rintro e w1 ⟨b2, N, rfl, hR, hst⟩; have hz1 := blk_below hz hR.bl (by simp); have hR2 := Run.up hR hB0; have e12 : w1.cell? ⟨w.heap.size, 12, none⟩ = some (.int .i64 c.answered) := (blk_cell hz1 12).trans (callL_12 c); have e0 : w1.cell? ⟨w.heap.size, 0, none⟩ = some (.int .i64 c.thread) := (blk_cell hz1 0).trans (callL_0 c); have lo := ldo_call c hz1; have lr := ldr_call c hz1; clear hz1 hR hcp) | (go_at_call 50; refine (do_call hR2 (by rw [hst]; exact hok) hK hc).mono ?_; rintro e w2 ⟨v, M2, rfl, hR3, hst2⟩))
    go_returns
    refine ⟨b2, M2, ?_, hR3, fun t ht => ?_⟩
    · unfold nextS; rw [if_pos ha]; rfl
    · unfold nextS at ht; rw [if_pos ha] at ht; rw [hst2, hst]; exact Option.some.inj ht
  · go_wp2_with (first | (go_at_call 102; refine hcp.mono ?_; rintro e w1 ⟨b2, N, rfl, hR, hst⟩; have hz1 := blk_below hz hR.bl (by simp); have hR2 := Run.up hR hB0; have e12 : w1.cell? ⟨w.heap.size, 12, none⟩ = some (.int .i64 c.answered) := (blk_cell hz1 12).trans (callL_12 c); have e0 : w1.cell? ⟨w.heap.size, 0, none⟩ = some (.int .i64 c.thread) := (blk_cell hz1 0).trans (callL_0 c); have lo := ldo_call c hz1; have lr := ldr_call c hz1; clear hz1 hR hcp) | (go_at_call 53; refine (acc_call hR2 (by rw [hst]; exact hok.mono hK) hc hn).mono ?_; rintro e w2 ⟨M2, rfl, hR3, hst2⟩))
    go_returns
    refine ⟨b2, M2, ?_, hR3, fun t ht => ?_⟩
    · unfold nextS; rw [if_neg (by omega)]; (try rw [hst]); split <;> rename_i h <;> simp [h]
    · unfold nextS at ht; rw [if_neg (by omega)] at ht
      split at ht
      · rw [hst2, hst]; exact Option.some.inj ht
      · cases ht
def StartPost (c : CfgV) (cs : List CallV) (w : World) (e : Ending) (w' : World) : Prop :=
  (startE c cs ≠ 0 ∧ e = .returned (.tuple #[.pointer none, .int .i64 (startE c cs)]) ∧ Below w.heap.size w w') ∨
  (startE c cs = 0 ∧ ∃ b M, e = .returned (.tuple #[.pointer (some ⟨b, 0, none⟩), .int .i64 0]) ∧ Run w w' b M ∧ M.st = newS c)
theorem start_any (c : CfgV) (p : Option Addr) (cap : Nat) (cs : List CallV) (w : World) (hC : CRow w p cap cs) (hs : cs.length ≤ 1000) (hok : ∀ x ∈ cs, x.Ok) :
    Calls Tryz.prog 61 #[c.v, .slice p cs.length cap] w (StartPost c cs w) := by
  have hB0 : Below w.heap.size w (w.alloc (.cells #[.int .i64 c.slots, .int .u64 c.gens, .int .i64 c.clients, .int .i64 c.readers, .int .i64 c.queue, .int .i64 c.batch, .int .i64 c.feed, .string c.text] 24)) := (Below.refl w.heap.size w).alloc (Nat.le_refl _) _
  have hck := fun W (h : Below w.heap.size w W) => check_any p cap cs W (hC.on h) (by omega) hok
  have hS : startE c cs = if cfgE c ≠ 0 then cfgE c else if (checkP cs).2 ≠ 0 then (checkP cs).2 else if 10 < cs.length then 5 else 0 := rfl
  by_cases hc : cfgE c = 0
  · have hnew := new_ok c w _ hc hB0
    rw [if_neg (by rw [hc]; simp)] at hS
    unfold CfgV.v at *
    rcases check_two cs with h2 | h2
    · rw [if_neg (by rw [h2]; simp)] at hS
      by_cases hl : 10 < cs.length
      · rw [if_pos hl] at hS
        go_enter Tryz.func61, Tryz.ntmps61
        go_wp2_with (first | (go_at_call 49; refine hnew.mono ?_; rintro e w1 ⟨b, M, rfl, hR, hst, hb1⟩; clear hb1) | (go_at_call 75; refine (hck _ hR.bl).mono ?_; rw [h2]; rintro e w2 ⟨rfl, hb2⟩))
        go_returns
        exact .inl ⟨by rw [hS]; simp, by rw [hS]; rfl, (hR.on hb2).bl⟩
      · rw [if_neg hl] at hS
        go_enter Tryz.func61, Tryz.ntmps61
        go_wp2_with (first | (go_at_call 49; refine hnew.mono ?_; rintro e w1 ⟨b, M, rfl, hR, hst, hb1⟩; clear hb1) | (go_at_call 75; refine (hck _ hR.bl).mono ?_; rw [h2]; rintro e w2 ⟨rfl, hb2⟩))
        go_returns
        exact .inr ⟨hS, b, M, rfl, hR.on hb2, hst⟩
    · rw [h2, if_pos (by simp)] at hS
      go_enter Tryz.func61, Tryz.ntmps61
      go_wp2_with (first | (go_at_call 49; refine hnew.mono ?_; rintro e w1 ⟨b, M, rfl, hR, hst, hb1⟩; clear hb1) | (go_at_call 75; refine (hck _ hR.bl).mono ?_; rw [h2]; rintro e w2 ⟨rfl, hb2⟩))
      go_returns
      exact .inl ⟨by rw [hS]; simp, by rw [hS]; rfl, (hR.on hb2).bl⟩
  · have hnew := fun W => new_no c W hc
    rw [if_pos hc] at hS
    have hd : (cfgE c != 0) = true := by simpa using hc
    generalize cfgE c = ce at *
    unfold CfgV.v at *
    go_enter Tryz.func61, Tryz.ntmps61
    go_wp2_with (go_at_call 49; refine (hnew _).mono ?_; rintro e w1 ⟨rfl, hb1⟩)
    go_returns
    exact .inl ⟨by rw [hS]; exact hc, by rw [hS]; rfl, hB0.trans (hb1.mono hB0.size)⟩
end Go.Proofs.YtdeiocppghhfdaaGreat.Lin
namespace Go.Proofs.YtdeiocppghhfdaaGreat.Lin
set_option linter.unusedVariables false
set_option linter.unusedSimpArgs false
set_option maxRecDepth 100000
set_option maxHeartbeats 8000000
open Go.Maps Go.ChangeMaps Go.MapKept
open Go.WideElems (Fit rd rg pl rd_val rd_key)
abbrev tSt : TypeId := 105
theorem laidOut : laidOutB Tryz.prog = true := by kernel_rfl
theorem keyedSt : Keyed Tryz.prog tSt := Keyed.of_law (deep_law_laid laidOut (m := 2) (by omega) (of_decide_eq_true (by kernel_rfl)) (by kernel_rfl) (by kernel_rfl))
def stV (u : Int) (s : ByteArray) : Value := .agg #[.int .i64 u, .string s]
theorem key_mk (u : Int) (s : ByteArray) (hu : (Lit.int .i64 u).wf = true) (hs : s.size ≤ maxLen) : ∃ kl, keyOf Tryz.prog tSt (stV u s) = some kl := by
  unfold keyOf stV
  rw [Tryz.underlying105]
  have h1 : Tryz.prog.keyType tSt = true := by kernel_rfl
  have h2 : (Value.agg #[.int .i64 u, .string s]).formed Tryz.prog tSt = true := by
    simp [Value.formed, Tryz.underlying105]
    kernel_rfl
  have h3 : Tryz.prog.keyLits (Tryz.prog.types.size + 1) tSt (Value.agg #[.int .i64 u, .string s]).cells.toList = some [.int .i64 u, .string s.data.toList] := by
    obtain ⟨n, hn⟩ : ∃ n, Tryz.prog.types.size = n + 1 := ⟨_, rfl⟩
    rw [hn]
    have e2 : Tryz.prog.cellsOf tSt = 2 := by kernel_rfl
    have e3 : Tryz.prog.cellsOf 3 = 1 := by kernel_rfl
    have e5 : Tryz.prog.cellsOf 9 = 1 := by kernel_rfl
    simp [Program.keyLits, Tryz.underlying105, Tryz.underlying3, Tryz.underlying9, Value.cells, e2, e3, e5, hu, hs]
  rw [h1, h2, h3]
  exact ⟨_, rfl⟩
def MapP (w : World) (E : TypeId) (b n : Nat) (Pr : Int → ByteArray → Value → Prop) : Prop :=
  ∃ es clock, w.heap[b]? = some (.map es clock) ∧ Fit (H := Unit) Tryz.prog tSt (plainElem Tryz.prog E) es clock ∧ es.size ≤ n ∧ ∀ e ∈ es.toList, ∃ u s, e.key = stV u s ∧ Pr u s e.val
theorem MapP.made (w : World) (E : TypeId) (Pr : Int → ByteArray → Value → Prop) : MapP (w.alloc (.map #[] 0)) E w.heap.size 0 Pr :=
  ⟨#[], 0, (MapKept.heap_alloc w _).1, ⟨by simp, stamped_empty 0, by simp⟩, Nat.le_refl _, by simp⟩
theorem MapP.mono {w : World} {E : TypeId} {b n m : Nat} {Pr : Int → ByteArray → Value → Prop} (h : MapP w E b n Pr) (hm : n ≤ m) : MapP w E b m Pr := by
  obtain ⟨es, clock, hb, F, hs, hP⟩ := h
  exact ⟨es, clock, hb, F, Nat.le_trans hs hm, hP⟩
theorem MapP.keep {w w' : World} {E : TypeId} {b n : Nat} {Pr : Int → ByteArray → Value → Prop} (h : MapP w E b n Pr) (hk : w'.heap[b]? = w.heap[b]?) : MapP w' E b n Pr := by
  obtain ⟨es, clock, hb, F, hs, hP⟩ := h
  exact ⟨es, clock, hk.trans hb, F, hs, hP⟩
theorem MapP.lt {w : World} {E : TypeId} {b n : Nat} {Pr : Int → ByteArray → Value → Prop} (h : MapP w E b n Pr) : b < w.heap.size := by
  obtain ⟨es, clock, hb, _⟩ := h
  exact (Array.getElem?_eq_some_iff.1 hb).1
section
variable {w : World} {t E : TypeId} {b n : Nat} {Pr : Int → ByteArray → Value → Prop}
theorem stV_inj {u v : Int} {s r : ByteArray} (h : stV u s = stV v r) : u = v ∧ s = r := by
  unfold stV at h; injection h with h; simp at h; exact h
theorem MapP.look (h : MapP w E b n Pr) (c : Bool) (ht : Tryz.prog.underlying t = some (.map tSt E)) {z : Value} (hz : (zeroValue E).run Tryz.prog w = .ok z w) {u : Int} {s : ByteArray} (hu : (Lit.int .i64 u).wf = true) (hs : s.size ≤ maxLen) :
    (Instr.lookup t (.map (some b)) (stV u s) c).run Tryz.prog w = .ok (if c then .tuple #[z, .bool false] else z) w ∨
    ∃ v y, Pr u s v ∧ plainElem (H := Unit) Tryz.prog E v = some y ∧ (Instr.lookup t (.map (some b)) (stV u s) c).run Tryz.prog w = .ok (if c then .tuple #[v, .bool true] else v) w := by
  obtain ⟨es, clock, hb, F, hn, hP⟩ := h
  obtain ⟨kl, hkl⟩ := key_mk u s hu hs
  rcases fit_look c keyedSt ht hz hb F hkl with ⟨hr, _⟩ | ⟨e0, y, hm, hk, hr, hy, _⟩
  · exact .inl hr
  · obtain ⟨u', s', e1, hp⟩ := hP e0 hm
    obtain ⟨rfl, rfl⟩ := stV_inj (hk.symm.trans e1)
    exact .inr ⟨e0.val, y, hp, hy, hr⟩
theorem MapP.store (h : MapP w E b n Pr) (ht : Tryz.prog.underlying t = some (.map tSt E)) (hn : n < maxLen) {u : Int} {s : ByteArray} {val : Value} {y : DataW Unit × List MemPlace} (hu : (Lit.int .i64 u).wf = true) (hs : s.size ≤ maxLen) (hv : plainElem Tryz.prog E val = some y) (hp : Pr u s val) :
    ∃ w', (Instr.mapUpdate t (.map (some b)) (stV u s) val).run Tryz.prog w = .ok () w' ∧ MapP w' E b (n + 1) Pr ∧ w.grownBy w' (some b) := by
  obtain ⟨es, clock, hb, F, hsz, hP⟩ := h
  obtain ⟨kl, hkl⟩ := key_mk u s hu hs
  obtain ⟨es', clock', hrun, F', hput, _, _, hmem⟩ := fit_store (R' := plainElem Tryz.prog E) keyedSt ht hb F (Nat.lt_of_le_of_lt hsz hn) (fun _ _ _ _ hz => hz) hkl hv
  refine ⟨_, hrun, ⟨es', clock', heap_setBlock_same hb _, F', ?_, ?_⟩, ⟨rfl, rfl, rfl, by simp [setBlock], fun i _ hi => heap_setBlock_other hb _ (fun e => hi (by rw [e]))⟩⟩
  · have e1 : es'.size = ((es'.toList.map (rg Tryz.prog tSt (plainElem (H := Unit) Tryz.prog E))).foldr DataW.insert []).length := by rw [length_sorted]; simp
    rw [e1, hput]
    unfold putKey
    rw [length_insert]
    have e2 := List.length_filter_le (notKey kl) ((es.toList.map (rg Tryz.prog tSt (plainElem (H := Unit) Tryz.prog E))).foldr DataW.insert [])
    rw [length_sorted] at e2
    simp at e2
    omega
  · intro x hx
    rcases hmem x hx with ⟨h1, _⟩ | ⟨h1, h2⟩
    · exact hP x h1
    · exact ⟨u, s, h1, by rw [h2]; exact hp⟩
end
theorem wpList_look_bool (w : World) {ops : Array Oper} {rest : List Oper} {o : Oper} {a : Act} {Q : Exit → Act → World → Prop} (hg : o.guard = none) (m x : Operand) (t : TypeId) (hop : o.op = Op.lookup t m x false)
    (E : TypeId) (ht : Tryz.prog.underlying t = some (.map tSt E)) (hE : Tryz.prog.underlying E = some .bool) (hz : (zeroValue E).run Tryz.prog w = .ok (.bool false) w) {b n : Nat} {Pr : Int → ByteArray → Value → Prop} (hm : a.eval m = .map (some b)) (h : MapP w E b n Pr) (u : Int) (s : ByteArray) (hx : a.eval x = stV u s) (hu : (Lit.int .i64 u).wf = true) (hs : s.size ≤ maxLen)
    (hK : ∀ y : Bool, (y = false ∨ Pr u s (.bool y)) → wpList Tryz.prog ops Q rest (a.put o.dst (.bool y)) w) : wpList Tryz.prog ops Q (o :: rest) a w := by
  refine wpList_plain hg fun K' hK' => ?_
  have hl : ∃ y : Bool, (Instr.lookup t (.map (some b)) (stV u s) false).run Tryz.prog w = .ok (.bool y) w ∧ (y = false ∨ Pr u s (.bool y)) := by
    rcases h.look false ht hz hu hs with hr | ⟨v, y, hp, hy, hr⟩
    · exact ⟨false, hr, .inl rfl⟩
    · unfold plainElem at hy
      rw [hE] at hy
      cases v <;> simp at hy
      exact ⟨_, hr, .inr hp⟩
  obtain ⟨y, hr, hy⟩ := hl
  unfold Oper.wp
  simp [execOp, hop, hm, hx, hr, Result.andThen]
  exact hK' _ _ (hK y hy)
theorem wpList_look_int (w : World) {ops : Array Oper} {rest : List Oper} {o : Oper} {a : Act} {Q : Exit → Act → World → Prop} (hg : o.guard = none) (m x : Operand) (t : TypeId) (hop : o.op = Op.lookup t m x true)
    (E : TypeId) (ht : Tryz.prog.underlying t = some (.map tSt E)) (hE : Tryz.prog.underlying E = some (.int .i64)) (hz : (zeroValue E).run Tryz.prog w = .ok (.int .i64 0) w) {b n : Nat} {Pr : Int → ByteArray → Value → Prop} (hm : a.eval m = .map (some b)) (h : MapP w E b n Pr) (u : Int) (s : ByteArray) (hx : a.eval x = stV u s) (hu : (Lit.int .i64 u).wf = true) (hs : s.size ≤ maxLen)
    (hK : ∀ (y : Bool) (c : Int), (y = true → Pr u s (.int .i64 c)) → wpList Tryz.prog ops Q rest (a.put o.dst (.tuple #[.int .i64 c, .bool y])) w) : wpList Tryz.prog ops Q (o :: rest) a w := by
  refine wpList_plain hg fun K' hK' => ?_
  have hl : ∃ (y : Bool) (c : Int), (Instr.lookup t (.map (some b)) (stV u s) true).run Tryz.prog w = .ok (.tuple #[.int .i64 c, .bool y]) w ∧ (y = true → Pr u s (.int .i64 c)) := by
    rcases h.look true ht hz hu hs with hr | ⟨v, y, hp, hy, hr⟩
    · exact ⟨false, 0, hr, by simp⟩
    · obtain ⟨c, rfl, _, _⟩ := plainElem_int_inv hE hy
      exact ⟨true, c, hr, fun _ => hp⟩
  obtain ⟨y, c, hr, hy⟩ := hl
  unfold Oper.wp
  simp [execOp, hop, hm, hx, hr, Result.andThen]
  exact hK' _ _ (hK y c hy)
theorem wpList_store_st (w : World) {ops : Array Oper} {rest : List Oper} {o : Oper} {a : Act} {Q : Exit → Act → World → Prop} (hg : o.guard = none) (m x v : Operand) (t : TypeId) (hop : o.op = Op.mapUpdate t m x v)
    (E : TypeId) (ht : Tryz.prog.underlying t = some (.map tSt E)) {b n : Nat} {Pr : Int → ByteArray → Value → Prop} (hm : a.eval m = .map (some b)) (h : MapP w E b n Pr) (hn : n < maxLen) (u : Int) (s : ByteArray) (val : Value) (hx : a.eval x = stV u s) (hv : a.eval v = val) (hu : (Lit.int .i64 u).wf = true) (hs : s.size ≤ maxLen)
    {y : DataW Unit × List MemPlace} (hval : plainElem Tryz.prog E val = some y) (hp : Pr u s val)
    (hK : ∀ w', MapP w' E b (n + 1) Pr → w.grownBy w' (some b) → wpList Tryz.prog ops Q rest (a.put o.dst undef) w') : wpList Tryz.prog ops Q (o :: rest) a w := by
  refine wpList_plain hg fun K' hK' => ?_
  obtain ⟨w', hrun, r1, r2⟩ := h.store ht hn hu hs hval hp
  unfold Oper.wp
  simp [execOp, hop, hm, hx, hv, hrun, Result.andThen]
  exact hK' _ _ (hK w' r1 r2)
end Go.Proofs.YtdeiocppghhfdaaGreat.Lin
namespace Go.Proofs.YtdeiocppghhfdaaGreat.Lin
set_option linter.unusedVariables false
set_option linter.unusedSimpArgs false
set_option maxRecDepth 100000
set_option maxHeartbeats 8000000
open Go.RowKit Go.Lib Go.Shelf
open Hs
open KitI (iv own_below)
abbrev tInt : TypeId := 3
abbrev tSl : TypeId := 28
structure FK (n0 s : Nat) (W W' : World) : Prop where
  bel : Below n0 W W'
  low : ∀ j, j < s + 4 → j ≠ n0 + 2 → j ≠ s → W'.heap[j]? = W.heap[j]?
  high : ∀ j (cs : Array Value) T r, s + 4 ≤ j → W.heap[j]? = some (.cells cs T r) → T ≠ tInt → W'.heap[j]? = some (.cells cs T r)
theorem FK.refl (n0 s : Nat) (W : World) : FK n0 s W W := ⟨Below.refl _ _, fun _ _ _ _ => rfl, fun _ _ _ _ _ h _ => h⟩
theorem FK.trans {n0 s : Nat} {A B C : World} (h : FK n0 s A B) (k : FK n0 s B C) : FK n0 s A C :=
  ⟨h.bel.trans k.bel, fun j h1 h2 h3 => (k.low j h1 h2 h3).trans (h.low j h1 h2 h3), fun j cs T r h1 h2 h3 => k.high j cs T r h1 (h.high j cs T r h1 h2 h3) h3⟩
theorem FK.below {n0 s : Nat} {W W' : World} (h : Below W.heap.size W W') (h1 : s + 4 ≤ W.heap.size) (h2 : n0 ≤ s) : FK n0 s W W' :=
  ⟨h.mono (by omega), fun j hj _ _ => h.block j (by omega), fun j cs T r _ hc _ => (h.block j (Array.getElem?_eq_some_iff.1 hc).1).trans hc⟩
theorem FK.row {n0 s n : Nat} {W W' : World} {v : Value} {xs : List Value} (ho : W.ownsRow (s + 4) tInt 1 v n xs) (hg : W.grownBy W' v.ownBlock) (h1 : s + 4 ≤ W.heap.size) (h2 : n0 ≤ s) : FK n0 s W W' := by
  have hrow : ∀ j, some j = v.ownBlock → s + 4 ≤ j ∧ ∃ cur, W.heap[j]? = some (.cells cur tInt (0, 0)) := fun j e => by
    rcases ho.2 with ⟨h1, _⟩ | ⟨g, cap, cur, h1, h3, h4, _⟩
    · rw [h1] at e; cases e
    · rw [h1] at e; injection e with e; subst e; exact ⟨h3, cur, h4⟩
  refine ⟨⟨hg.os, hg.tape, hg.output, hg.size, fun j hj => hg.block j (by omega) fun e => ?_⟩, fun j hj _ _ => hg.block j (by omega) fun e => ?_, fun j cs T r _ hc hT => (hg.block j (Array.getElem?_eq_some_iff.1 hc).1 fun e => ?_).trans hc⟩
  · have := (hrow j e).1; omega
  · have := (hrow j e).1; omega
  · obtain ⟨_, cur, h⟩ := hrow j e
    rw [hc] at h; injection h with h; injection h with _ h _; exact hT h
theorem FK.box {n0 s : Nat} (W : World) (v : Value) (h2 : n0 + 3 ≤ s) : FK n0 s W (W.setCell ⟨n0 + 2, 0, none⟩ v) := by
  refine ⟨(Below.refl n0 W).setCell (p := ⟨n0 + 2, 0, none⟩) (by simp) v, fun j _ h _ => Below.heap_setCell W _ v j h, fun j cs T r h1 hc _ => (Below.heap_setCell W _ v j ?_).trans hc⟩
  show j ≠ n0 + 2
  omega
theorem FK.map {n0 s : Nat} {W W' : World} (hg : W.grownBy W' (some s)) (hs : s + 4 ≤ W.heap.size) (h2 : n0 ≤ s) : FK n0 s W W' := by
  refine ⟨⟨hg.os, hg.tape, hg.output, hg.size, fun j hj => hg.block j (by omega) fun e => ?_⟩, fun j hj _ h => hg.block j (by omega) fun e => h (Option.some.inj e), fun j cs T r h1 hc _ => (hg.block j (Array.getElem?_eq_some_iff.1 hc).1 fun e => ?_).trans hc⟩
  · injection e with e; omega
  · injection e with e; omega
def DeadPr (cs : List CallV) (u : Int) (k : ByteArray) (_ : Value) : Prop := ∀ (x : Nat) (st : MS), (x : Int) = u → MSok st 100000 → k = strOf (keyL st) → SS cs st x = none
abbrev findFn : FuncId := 63
def findV (n0 s : Nat) : Value := .func (.func findFn) #[] #[.pointer (some ⟨s + 1, 0, none⟩), .pointer (some ⟨s + 2, 0, none⟩), .pointer (some ⟨n0 + 1, 0, none⟩), .pointer (some ⟨n0 + 2, 0, none⟩), .pointer (some ⟨s + 3, 0, none⟩)]
structure FE (n0 s : Nat) (w0 : World) (p : Option Addr) (cap : Nat) (cs : List CallV) (nm : Nat) (v : Value) (W : World) : Prop where
  bel : Below n0 w0 W
  le : s + 4 ≤ W.heap.size
  cl : W.cell? ⟨n0 + 1, 0, none⟩ = some (.slice p cs.length cap)
  co : W.heap[n0 + 2]? = some (.cells #[v] tSl (0, 0))
  mp : MapP W 4 s nm (DeadPr cs)
  ca : W.cell? ⟨s + 1, 0, none⟩ = some (.int .i64 (allB cs cs.length : Nat))
  cd : W.cell? ⟨s + 2, 0, none⟩ = some (.map (some s))
  cf : W.cell? ⟨s + 3, 0, none⟩ = some (findV n0 s)
section
variable {n0 s : Nat} {w0 : World} {p : Option Addr} {cap : Nat} {cs : List CallV} {nm nm' : Nat} {v v' : Value} {W W' : World}
theorem FE.step (h : FE n0 s w0 p cap cs nm v W) (k : FK n0 s W W') (hs : n0 + 3 ≤ s) (hb : W'.heap[n0 + 2]? = some (.cells #[v'] tSl (0, 0))) (hm : MapP W' 4 s nm' (DeadPr cs)) : FE n0 s w0 p cap cs nm' v' W' := by
  have hc : ∀ j o, j < s + 4 → j ≠ n0 + 2 → j ≠ s → W'.cell? ⟨j, o, none⟩ = W.cell? ⟨j, o, none⟩ := fun j o h1 h2 h3 => World.cell?_of_block (a := ⟨j, o, none⟩) (k.low j h1 h2 h3)
  refine ⟨h.bel.trans k.bel, Nat.le_trans h.le k.bel.size, ?_, hb, hm, ?_, ?_, ?_⟩
  · rw [hc _ _ (by omega) (by omega) (by omega)]; exact h.cl
  · rw [hc _ _ (by omega) (by omega) (by omega)]; exact h.ca
  · rw [hc _ _ (by omega) (by omega) (by omega)]; exact h.cd
  · rw [hc _ _ (by omega) (by omega) (by omega)]; exact h.cf
theorem FE.on (h : FE n0 s w0 p cap cs nm v W) (hb : Below W.heap.size W W') (hs : n0 + 3 ≤ s) : FE n0 s w0 p cap cs nm v W' :=
  h.step (FK.below hb h.le (by omega)) hs ((hb.block _ (by have := h.le; omega)).trans h.co) (h.mp.keep (hb.block _ h.mp.lt))
theorem FE.grown {n : Nat} {xs : List Value} (h : FE n0 s w0 p cap cs nm v W) (ho : W.ownsRow (s + 4) tInt 1 v' n xs) (hg : W.grownBy W' v'.ownBlock) (hs : n0 + 3 ≤ s) : FE n0 s w0 p cap cs nm v W' := by
  have hlow : ∀ j, j < s + 4 → W'.heap[j]? = W.heap[j]? := fun j hj => hg.block j (by have := h.le; omega) fun e => by
    rcases ho.2 with ⟨h1, _⟩ | ⟨g, cap, cur, h1, h3, h4, _⟩
    · rw [h1] at e; cases e
    · rw [h1] at e; injection e with e; simp at e; omega
  exact h.step (FK.row ho hg h.le (by omega)) hs ((hlow _ (by omega)).trans h.co) (h.mp.keep (hlow _ (by omega)))
theorem FE.box (h : FE n0 s w0 p cap cs nm v W) (hs : n0 + 3 ≤ s) (u : Value) : FE n0 s w0 p cap cs nm u (W.setCell ⟨n0 + 2, 0, none⟩ u) :=
  h.step (FK.box W u hs) hs (by have := blk_set (L := [v]) h.co 0 u; simpa using this) (h.mp.keep (Below.heap_setCell W _ u s (by simp; omega)))
theorem FE.store (h : FE n0 s w0 p cap cs nm v W) (hs : n0 + 3 ≤ s) (hg : W.grownBy W' (some s)) (hm : MapP W' 4 s nm' (DeadPr cs)) : FE n0 s w0 p cap cs nm' v W' :=
  h.step (FK.map hg h.le (by omega)) hs ((hg.block _ (by have := h.le; omega) (fun e => by injection e with e; omega)).trans h.co) hm
theorem FE.blk (h : FE n0 s w0 p cap cs nm v W) (k : FK n0 s W W') {j : Nat} {c : Array Value} {T : TypeId} {r : Nat × Nat} (hj : W.heap[j]? = some (.cells c T r)) (h1 : T ≠ tInt) (h2 : T ≠ tSl) : W'.heap[j]? = some (.cells c T r) := by
  by_cases hlt : j < s + 4
  · refine (k.low j hlt (fun e => ?_) (fun e => ?_)).trans hj
    · subst e; rw [h.co] at hj; injection hj with hj; injection hj with _ hj _; exact h2 hj.symm
    · subst e
      obtain ⟨es, ck, hm, _⟩ := h.mp
      rw [hm] at hj; cases hj
  · exact k.high j c T r (by omega) hj h1
theorem FE.row (h : FE n0 s w0 p cap cs nm v W) (k : FK n0 s W W') {base sz n : Nat} {e : TypeId} {x : Value} {xs : List Value} (ho : W.ownsRow base e sz x n xs) (h1 : e ≠ tInt) (h2 : e ≠ tSl) : W'.ownsRow base e sz x n xs := by
  refine ⟨ho.1, ?_⟩
  rcases ho.2 with hn | ⟨g, cap, cur, rfl, hB, hg, rest⟩
  · exact .inl hn
  · exact .inr ⟨g, cap, cur, rfl, hB, h.blk k hg h1 h2, rest⟩
theorem FE.model (h : FE n0 s w0 p cap cs nm v W) (k : FK n0 s W W') {b : Nat} {M : MM} (hM : MdAt W b M) : MdAt W' b M :=
  ⟨h.blk k hM.blk (by decide) (by decide), h.row k hM.marks (by decide) (by decide), h.row k hM.seats (by decide) (by decide), fun S hS => h.row k (hM.slots S hS) (by decide) (by decide), fun S hS x hx => h.row k (hM.smarks S hS x hx) (by decide) (by decide), hM.some_, hM.nodup⟩
theorem own_box {n : Nat} {W : World} {x u : Value} {xs : List Value} (h : W.ownsRow (s + 4) tInt 1 x n xs) (hs : n0 + 3 ≤ s) : (W.setCell ⟨n0 + 2, 0, none⟩ u).ownsRow (s + 4) tInt 1 x n xs := by
  refine ⟨h.1, ?_⟩
  rcases h.2 with hn | ⟨g, cap, cur, rfl, hB, hg, rest⟩
  · exact .inl hn
  · exact .inr ⟨g, cap, cur, rfl, hB, (Below.heap_setCell W _ u g (by show g ≠ n0 + 2; omega)).trans hg, rest⟩
theorem own_map {n : Nat} {W W' : World} {x : Value} {xs : List Value} (h : W.ownsRow (s + 4) tInt 1 x n xs) (hg : W.grownBy W' (some s)) : W'.ownsRow (s + 4) tInt 1 x n xs := by
  refine ⟨h.1, ?_⟩
  rcases h.2 with hn | ⟨g, cap, cur, rfl, hB, hc, rest⟩
  · exact .inl hn
  · exact .inr ⟨g, cap, cur, rfl, hB, (hg.block g (Array.getElem?_eq_some_iff.1 hc).1 (fun e => by injection e with e; omega)).trans hc, rest⟩
theorem next_ok {st t : MS} {c : CallV} {K : Int} (h : MSok st K) (hc : c.Ok) (hn : nextS st c = some t) : MSok t (K + 1) := by
  unfold nextS at hn
  split at hn
  · cases hn; exact doS_ok h (ok_op hc)
  · split at hn
    · cases hn
      unfold accS
      split
      · exact doS_ok h (ok_op hc)
      · exact h.mono (by omega)
    · cases hn
theorem crow_get {W : World} {b off cap : Nat} {cs : List CallV} (h : CRow W (some ⟨b, off, none⟩) cap cs) : CAt W b off cs := by
  rcases h with ⟨h, _⟩ | ⟨b', off', h, _, _, hA⟩
  · cases h
  · injection h with h; injection h with h1 h2; subst h1 h2; exact hA
theorem own_cap {base n : Nat} {W : World} {e : TypeId} {a : Option Addr} {cap : Nat} {xs : List Value} (h : W.ownsRow base e 1 (.slice a n cap) n xs) : n ≤ cap := by
  rcases h.2 with ⟨_, hn⟩ | ⟨g, c, cur, h1, hB, hc, h4, h5, h6, h7⟩
  · omega
  · injection h1 with h1 h2 h3; omega
theorem own_cut {base n : Nat} {W : World} {e : TypeId} {a : Option Addr} {cap : Nat} {xs : List Value} {y : Value} (h : W.ownsRow base e 1 (.slice a (n + 1) cap) (n + 1) (xs ++ [y])) : W.ownsRow base e 1 (.slice a n cap) n xs := by
  have hl : xs.length = n := by have := h.1; simp at this; omega
  refine ⟨by omega, ?_⟩
  rcases h.2 with ⟨_, hn⟩ | ⟨g, c, cur, h1, hB, hc, h4, h5, h6, h7⟩
  · omega
  · injection h1 with h1 h2 h3
    subst h1 h3
    refine .inr ⟨g, cap, cur, rfl, hB, hc, by omega, h5, h6, ?_⟩
    rw [Nat.mul_one] at h7 ⊢
    have := congrArg (List.take n) h7
    rw [List.take_take, List.take_append_of_le_length (by omega), List.take_of_length_le (l := xs) (by omega), Nat.min_eq_left (by omega)] at this
    exact this
end
end Go.Proofs.YtdeiocppghhfdaaGreat.Lin
namespace Go.Proofs.YtdeiocppghhfdaaGreat.Lin
set_option linter.unusedVariables false
set_option linter.unusedSimpArgs false
set_option maxRecDepth 100000
set_option maxHeartbeats 8000000
open Go.RowKit Go.Lib Go.Shelf
open Hs
open KitI (iv own_below)
attribute [local go_sem, local simp] Hs.callL_0 Hs.callL_1 Hs.callL_2 Hs.callL_3 Hs.callL_4 Hs.callL_5 Hs.callL_6 Hs.callL_7 Hs.callL_8 Hs.callL_9 Hs.callL_10 Hs.callL_11 Hs.callL_12 Hs.callL_13 Hs.callL_14 Hs.callL_15 Hs.callL_16 Hs.callL_17 Hs.callL_18 Hs.callL_19 Hs.callL_20 Hs.callL_21 Hs.callL_22 Hs.callL_23 Hs.callL_24 Hs.callL_25 Hs.callL_26 Hs.resL_0 Hs.resL_1 Hs.resL_2 Hs.resL_3 Hs.resL_4 Hs.resL_5 Hs.resL_6 Hs.resL_7 Hs.resL_8 Hs.resL_9 Hs.resL_10 Hs.resL_11 Hs.resL_12 Hs.callG_0 Hs.callG_1 Hs.callG_2 Hs.callG_3 Hs.callG_4 Hs.callG_5 Hs.callG_6 Hs.callG_7 Hs.callG_8 Hs.callG_9 Hs.callG_10 Hs.callG_11 Hs.callG_12 Hs.callG_13 Hs.callG_14 Hs.callG_15 Hs.callG_16 Hs.callG_17 Hs.callG_18 Hs.callG_19 Hs.callG_20 Hs.callG_21 Hs.callG_22 Hs.callG_23 Hs.callG_24 Hs.callG_25 Hs.callG_26 Hs.resG_0 Hs.resG_1 Hs.resG_2 Hs.resG_3 Hs.resG_4 Hs.resG_5 Hs.resG_6 Hs.resG_7 Hs.resG_8 Hs.resG_9 Hs.resG_10 Hs.resG_11 Hs.resG_12 Hs.callL_len Hs.resL_len
attribute [local go_sem ↓] Hs.loadCall_eq Hs.loadRes_eq
attribute [local go_sem] Hs.ld_new Hs.ld_first Hs.ld_second Hs.ldr_new Hs.st_new
def FPost (n0 s : Nat) (w0 : World) (p : Option Addr) (cap : Nat) (cs : List CallV) (nm k : Nat) (pre : List Nat) (st : MS) (u : Nat) (W : World) (e : Ending) (W' : World) : Prop :=
  e = .returned (.bool (SS cs st u).isSome) ∧ ∃ nm' v', nm' ≤ nm + 11 ^ k ∧ FE n0 s w0 p cap cs nm' v' W' ∧ FK n0 s W W' ∧
    W'.ownsRow (s + 4) tInt 1 v' (pre ++ (SS cs st u).getD []).length ((pre ++ (SS cs st u).getD []).map fun (x : Nat) => iv x)
def FCall (n0 s : Nat) (w0 : World) (p : Option Addr) (cap : Nat) (cs : List CallV) (k : Nat) : Prop :=
  ∀ (W : World) (b : Nat) (M : MM) (st : MS) (u nm : Nat) (v : Value) (pre : List Nat) (K : Int), MdAt W b M → M.st = st → MSok st K → K + k ≤ 100000 → fr cs.length u ≤ k → u < 2 ^ 10 → FE n0 s w0 p cap cs nm v W → nm + 11 ^ k ≤ 11 ^ 12 →
    W.ownsRow (s + 4) tInt 1 v pre.length (pre.map fun (x : Nat) => iv x) → pre.length + k ≤ 10 →
    Calls Tryz.prog findFn #[.pointer (some ⟨b, 0, none⟩), .int .i64 u, .pointer (some ⟨s + 1, 0, none⟩), .pointer (some ⟨s + 2, 0, none⟩), .pointer (some ⟨n0 + 1, 0, none⟩), .pointer (some ⟨n0 + 2, 0, none⟩), .pointer (some ⟨s + 3, 0, none⟩)] W (FPost n0 s w0 p cap cs nm k pre st u W)
def FRel (n0 s : Nat) (w0 : World) (p : Option Addr) (cap : Nat) (cs : List CallV) (nm k : Nat) (pre : List Nat) (st : MS) (u : Nat) (w2 : World) (i : Value) (wr : World) : Prop :=
  ∃ (j nm' : Nat) (v' : Value), i = .int .i64 j ∧ j ≤ cs.length ∧ nm' ≤ nm + j * k ∧ FE n0 s w0 p cap cs nm' v' wr ∧ FK n0 s w2 wr ∧ wr.ownsRow (s + 4) tInt 1 v' pre.length (pre.map fun (x : Nat) => iv x) ∧
    ∀ x, x < j → tryS cs.length (nx cs) (rdyB cs) (fullB cs) st u x = none
theorem frel_next {n0 s : Nat} {w0 : World} {p : Option Addr} {cap : Nat} {cs : List CallV} {nm k : Nat} {pre : List Nat} {st : MS} {u : Nat} {w2 wr : World} {j nm' : Nat} {v' : Value} (hE : FE n0 s w0 p cap cs nm' v' wr) (hk : FK n0 s w2 wr) (hO : wr.ownsRow (s + 4) tInt 1 v' pre.length (pre.map fun (x : Nat) => iv x))
    (ht : ∀ x, x < j → tryS cs.length (nx cs) (rdyB cs) (fullB cs) st u x = none) (h : tryS cs.length (nx cs) (rdyB cs) (fullB cs) st u j = none) (hj : j < cs.length) (hn : nm' ≤ nm + (j + 1) * k) :
    FRel n0 s w0 p cap cs nm k pre st u w2 (.int .i64 ((j : Int) + 1)) wr :=
  ⟨j + 1, nm', v', by go_num, by omega, hn, hE, hk, hO, fun x hx => by
    rcases Nat.lt_or_ge x j with h' | h'
    · exact ht x h'
    · have : x = j := by omega
      subst this; exact h⟩
theorem wf_nat {u : Nat} (h : u < 2 ^ 62) : (Lit.int .i64 (u : Int)).wf = true := by
  exact WalkArith.wf_i64 (by omega)
theorem flat_le {α : Type} (f : α → List Int) (c : Nat) : ∀ l : List α, (∀ x ∈ l, (f x).length ≤ c) → (l.flatMap f).length ≤ l.length * c
  | [], _ => by simp
  | x :: l, h => by
    have h1 := flat_le f c l fun y hy => h y (by simp [hy])
    have h2 := h x (by simp)
    rw [List.flatMap_cons, List.length_append, List.length_cons, Nat.succ_mul]; omega
theorem key_size (s : MS) {K : Int} (h : MSok s K) : (strOf (keyL s)).size ≤ maxLen := by
  have h1 : (strOf (keyL s)).size = (keyL s).length := by
    have := congrArg List.length (str_of (keyL s))
    rw [List.length_map, Array.length_toList] at this
    exact this
  have h2 := hdK_len h
  have h3 := flat_le seK 600000 s.seats fun x hx => seK_len h hx
  have h4 := Nat.mul_le_mul_right 600000 h.clients
  have h5 : (keyL s).length = (hdK s).length + (s.seats.flatMap seK).length := by unfold keyL; rw [List.length_append]
  unfold maxLen
  omega
theorem find_step {n0 s : Nat} {w0 : World} {p : Option Addr} {cap : Nat} {cs : List CallV} {k : Nat} (hs : n0 + 3 ≤ s) (hC : ∀ W, Below n0 w0 W → CRow W p cap cs) (hl : cs.length ≤ 10) (hok : ∀ c ∈ cs, c.Ok) (hd : ∀ c ∈ cs, c.ps.length ≤ 1000000)
    (ih : ∀ j, j < k → FCall n0 s w0 p cap cs j) : FCall n0 s w0 p cap cs k := by
  intro W b M st u nm v pre K hM hst hMok hK hfr hu hE hnm hO hpre
  subst hst
  obtain ⟨i0, hi, hz0, hz1, hz2⟩ := info_parts KitI.infoI
  obtain ⟨X, hX1, hX2⟩ : ∃ X, (∀ j, k = j + 1 → X = 11 ^ j) ∧ 10 * X + 1 ≤ 11 ^ k := by
    cases k with
    | zero => exact ⟨0, fun j h => by omega, by decide⟩
    | succ k => exact ⟨11 ^ k, fun j h => by cases h; rfl, by have := Nat.two_pow_pos k; have : 0 < 11 ^ k := Nat.pow_pos (by omega); rw [Nat.pow_succ]; omega⟩
  have hfm := full_mask cs u
  have hal := allB_lt cs cs.length 10 hl
  have hand := bits_and u (allB cs cs.length) (by omega) (by omega)
  have c1 := hE.ca
  have hbool : (bits .and .i64 (u : Int) (allB cs cs.length : Nat) == ((allB cs cs.length : Nat) : Int)) = fullB cs u := by
    rw [hand, ← hfm, Bool.eq_iff_iff]; simp; omega
  cases hf : fullB cs u with
  | true =>
    rw [hf] at hbool
    have hS : SS cs M.st u = some [] := S_full hf
    go_enter Tryz.func63, Tryz.ntmps63
    go_wp2
    go_returns
    refine ⟨by rw [hS]; rfl, nm, v, Nat.le_add_right _ _, hE, FK.refl _ _ _, ?_⟩
    rw [hS]; simpa using hO
  | false =>
    rw [hf] at hbool
    have hwf := wf_nat (u := u) (by omega)
    have hkey := key_any b M W K hM hMok
    go_enter Tryz.func63, Tryz.ntmps63
    go_wp2_with (first | (go_at_call 64; refine hkey.mono ?_; rintro e w1 ⟨rfl, hb1⟩; have hb2 : Below W.heap.size W (w1.alloc (.cells #[.int .i64 u, .string (strOf (keyL M.st))] 105)) := hb1.alloc hb1.size _; have hE2 := hE.on hb2 hs; have c2 := hE2.cd; have c3 := hE2.cl; have hM2 := hM.below hb2; have hk2 := FK.below hb2 hE.le (by omega : n0 ≤ s); have hO2 := own_below hO hb2) | (at_lookup; refine wpList_look_bool _ rfl _ _ 102 rfl 4 Tryz.underlying102 Tryz.underlying4 (by kernel_rfl) rfl hE2.mp u (strOf (keyL M.st)) rfl hwf (key_size M.st hMok) ?_; intro y hy))
    · have hyt : y = true := by assumption
      rcases hy with hy | hy
      · rw [hyt] at hy; cases hy
      · have hS : SS cs M.st u = none := hy u M.st rfl (hMok.mono (by omega)) rfl
        go_returns
        refine ⟨by rw [hS]; rfl, nm, v, Nat.le_add_right _ _, hE2, hk2, ?_⟩
        rw [hS]; simpa using hO2
    · clear hy hkey hbool hand hfm c1 c2 c3 hM hE hO
      have hzz := heap_alloc_new w1 (.cells #[.int .i64 (u : Int), .string (strOf (keyL M.st))] 105)
      generalize w1.alloc (.cells #[.int .i64 (u : Int), .string (strOf (keyL M.st))] 105) = w2 at *
      generalize w1.heap.size = z at *
      go_loopw [28] (fun i wr => FRel n0 s w0 p cap cs nm X pre M.st u w2 i wr) (fun i wr => cs.length - (intOf i).toNat)
      case atStart => exact ⟨0, nm, v, rfl, by omega, by omega, hE2, FK.refl _ _ _, hO2, fun j hj => by omega⟩
      case round =>
        obtain ⟨j, nm', v', rfl, hj, hnm', hE3, hk3, hO3, htry⟩ := hrel
        by_cases hlt : j < cs.length
        · have hbit := shr_one u j (by omega)
          have c3 := hE3.cl
          cases hub : u.testBit j with
          | true =>
            rw [hub] at hbit
            simp only [if_true] at hbit
            have ht : tryS cs.length (nx cs) (rdyB cs) (fullB cs) M.st u j = none := by unfold tryS cand; rw [hub]; rfl
            go_wp2
            go_roundw
            case rel => exact frel_next hE3 hk3 hO3 htry ht hlt (by rw [Nat.succ_mul]; omega)
            case measure => simp [intOf]; omega
          | false =>
            rw [hub] at hbit
            simp only [Bool.false_eq_true, if_false] at hbit
            have hrd := fun W (h : Below n0 w0 W) => ready_any p cap cs u j W (hC W h) (by omega) (by omega) hlt
            generalize hr : rdyB cs u j = r at hrd
            cases r with
            | false =>
              have ht : tryS cs.length (nx cs) (rdyB cs) (fullB cs) M.st u j = none := by unfold tryS cand; rw [hub, hr]; rfl
              go_wp2_with (go_at_call 65; refine (hrd _ hE3.bel).mono ?_; rintro e w3 ⟨rfl, hb3⟩)
              have hk3' := hk3.trans (FK.below hb3 hE3.le (by omega))
              have hO3' := own_below hO3 hb3
              have hE3' := hE3.on hb3 hs
              go_roundw
              case rel => exact frel_next hE3' hk3' hO3' htry ht hlt (by rw [Nat.succ_mul]; omega)
              case measure => simp [intOf]; omega
            | true =>
              have hcand : cand (rdyB cs) u j = true := by unfold cand; rw [hub, hr]; rfl
              have hfr2 := fr_or hlt hub
              obtain ⟨k', rfl⟩ : ∃ k', k = k' + 1 := ⟨k - 1, by omega⟩
              have hXe := hX1 k' rfl
              have hM3 := hE2.model hk3 hM2
              obtain ⟨bq, off, rfl, hcap, _, _⟩ := crow_at (hC w0 (Below.refl _ _)) (by omega)
              have hld := fun W (h : Below n0 w0 W) => (crow_get (hC W h)).load (getC_some hlt)
              have hcm : getC cs j ∈ cs := List.mem_of_getElem? (getC_some hlt)
              have hcok := hok _ hcm
              have hcd := hd _ hcm
              have hnx : ∀ st, nx cs st j = nextS st (getC cs j) := fun _ => rfl
              generalize getC cs j = c at *
              cases hn : nextS M.st c with
              | none =>
                have ht : tryS cs.length (nx cs) (rdyB cs) (fullB cs) M.st u j = none := by unfold tryS; rw [if_pos hcand, hnx, hn]; rfl
                go_wp2_with (first | (go_at_call 65; refine (hrd _ hE3.bel).mono ?_; rintro e w3 ⟨rfl, hb3⟩; have hk3' := hk3.trans (FK.below hb3 hE3.le (by omega)); have hO3' := own_below hO3 hb3; have hE3' := hE3.on hb3 hs; have hM3' := hM3.below hb3; have c3' := hE3'.cl; have ld3 := hld _ hE3'.bel) | (go_at_call 66; refine (next_any b M c _ K hM3' hMok (by omega) hcok hcd).mono ?_; rintro e w4 ⟨b4, M4, he, hR4, hst4⟩; rw [hn] at he hst4; subst he))
                have hE4 := hE3'.on hR4.bl hs
                have hk4 := hk3'.trans (FK.below hR4.bl hE3'.le (by omega))
                have hO4 := own_below hO3' hR4.bl
                go_roundw
                case rel => exact frel_next hE4 hk4 hO4 htry ht hlt (by rw [Nat.succ_mul]; omega)
                case measure => simp [intOf]; omega
              | some t =>
                have hor : bits .or .i64 (u : Int) (IntKind.i64.wrap (2 ^ j)) = ((u ||| 2 ^ j : Nat) : Int) := by
                  rw [sh_w (by omega)]
                  exact bits_or u (2 ^ j) (by omega) (Nat.pow_lt_pow_right (by omega) (by omega))
                have hu2 : u ||| 2 ^ j < 2 ^ 10 := Nat.or_lt_two_pow hu (Nat.pow_lt_pow_right (by omega) (by omega))
                have htok := next_ok hMok hcok hn
                have hlp : pre.length + 1 ≤ 10 := by omega
                cases hSS : SS cs t (u ||| 2 ^ j) with
                | some a =>
                  have hS : SS cs M.st u = some (j :: a) := S_some hf hlt htry (by unfold tryS; rw [if_pos hcand, hnx, hn]; simp [hSS])
                  go_wp2_with (first | (go_at_call 65; refine (hrd _ hE3.bel).mono ?_; rintro e w3 ⟨rfl, hb3⟩; have hk3' := hk3.trans (FK.below hb3 hE3.le (by omega)); have hO3' := own_below hO3 hb3; have hE3' := hE3.on hb3 hs; have hM3' := hM3.below hb3; have c3' := hE3'.cl; have ld3 := hld _ hE3'.bel) | (go_at_call 66; refine (next_any b M c _ K hM3' hMok (by omega) hcok hcd).mono ?_; rintro e w4 ⟨b4, M4, he, hR4, hst4⟩; rw [hn] at he hst4; subst he; have hE4 := hE3'.on hR4.bl hs; have hk4 := hk3'.trans (FK.below hR4.bl hE3'.le (by omega)); have hO4 := own_below hO3' hR4.bl; have c4 : w4.cell? ⟨n0 + 2, 0, none⟩ = some v' := blk_cell (L := [v']) hE4.co 0) | (at_builtin; go_loud (refine wpList_append_own _ rfl _ _ tSl rfl (s + 4) tInt i0 (.int .i64 0) 1 8 Tryz.underlying28 hi hz0 hz1 hz2 rfl (by decide) _ _ _ rfl (hO4.alloc _) ⟨_, 0, none⟩ 1 1 [.int .i64 (j : Int)] rfl rfl (cell_one_new _ _ _) (by simp [Value.oneCell']) (by unfold maxLen; omega) (by omega) (by have := hE4.le; simp; omega) ?_; intro v5 w5 hO5 hg5 _; obtain ⟨a5, q5, rfl⟩ := own_slice hO5; have hba : Below w4.heap.size w4 (w4.alloc (.cells #[.int .i64 (j : Int)] 3)) := (Below.refl _ _).alloc (Nat.le_refl _) _; have hE5 := (hE4.on hba hs).grown (hO4.alloc _) hg5 hs; have hk45 := (FK.below hba hE4.le (by omega : n0 ≤ s)).trans (FK.row (hO4.alloc _) hg5 (hE4.on hba hs).le (by omega)); have c5 : w5.cell? ⟨n0 + 2, 0, none⟩ = some v' := blk_cell (L := [v']) hE5.co 0; have f5 : w5.frozen? ⟨n0 + 2, 0, none⟩ = false := blk_frozen (L := [v']) hE5.co 0)))
                  have hE6 := hE5.box hs (.slice a5 (pre.length + 1) q5)
                  have hk46 := hk45.trans (FK.box w5 (.slice a5 (pre.length + 1) q5) hs)
                  have hO6 := own_box (u := .slice a5 (pre.length + 1) q5) hO5 hs
                  generalize w5.setCell ⟨n0 + 2, 0, none⟩ (.slice a5 (pre.length + 1) q5) = w6 at *
                  have hbd : Below w6.heap.size w6 w6.drew := (Below.refl _ _).drew
                  have hkd := FK.below hbd hE6.le (by omega : n0 ≤ s)
                  have hE6d := hE6.on hbd hs
                  have hih := ih k' (by omega) w6.drew b4 M4 t (u ||| 2 ^ j) nm' _ (pre ++ [j]) (K + 1) ((hE4.model hk46 hR4.at_).below hbd) (hst4 t rfl) htok (by omega) (by omega) hu2 hE6d (by rw [Nat.pow_succ] at hnm; have := Nat.mul_le_mul_right X (show j ≤ 9 by omega); omega) (by have := own_below hO6 hbd; simpa [iv] using this) (by simp; omega)
                  clear ih hE5 hE4 hO5 hg5 hk45 c5 f5 c4
                  refine wp_region_noPanic ?_
                  refine wp_region_held_drew (S := fun W => W.cell? ⟨s + 3, 0, none⟩ = some (.func (.func 63) #[] #[.pointer (some ⟨s + 1, 0, none⟩), .pointer (some ⟨s + 2, 0, none⟩), .pointer (some ⟨n0 + 1, 0, none⟩), .pointer (some ⟨n0 + 2, 0, none⟩), .pointer (some ⟨s + 3, 0, none⟩)])) (by kernel_rfl) ?_ (fun hHeld => ?_)
                  · first | exact hE6.cf | exact hE6d.cf | exact hE7.cf
                  iterate 6 (first | (refine np_sn ?_; (try simp only [nSO])) | ((first | refine np_n ?_ ?_ ?_ | refine np_t 0 ?_ ?_ ?_); rotate_left 1; (· (intro w hSw; (try dsimp only at hSw); go_simp; all_goals with_reducible rfl)); (try simp only [nSO])))
                  first | (refine np_s 6 ?_; (try simp only [nSO])) | (refine np_step (i := 6) rfl (by kernel_rfl) (fun K hK => ?_); rw [if_pos (by rfl)]; go_simp; ((go_at_call 63; refine hih.mono ?_; rintro e w7 ⟨he, nm7, v7, hn7, hE7, hk7, hO7⟩; rw [hSS] at he; subst he)); (try go_wp2_with fail); refine hK.out _ _ ?_ (fun hHeld => ?_); (· (first | exact hE6.cf | exact hE6d.cf | exact hE7.cf)); clear hK K; (try simp only [nSO]))
                  refine wpAnyH_done (by kernel_rfl) ?_ _
                  refine NoPanic.normal ?_
                  have hE7' := hE7
                  go_wp2
                  go_returns
                  refine ⟨by rw [hS]; rfl, nm7, v7, ?_, hE7, hk2.trans (hk4.trans (hk46.trans (hkd.trans hk7))), ?_⟩
                  · rw [Nat.pow_succ]; have := Nat.mul_le_mul_right X (show j ≤ 9 by omega); omega
                  · rw [hS]; rw [hSS] at hO7; simpa using hO7
                | none =>
                  have ht : tryS cs.length (nx cs) (rdyB cs) (fullB cs) M.st u j = none := by unfold tryS; rw [if_pos hcand, hnx, hn]; simp [hSS]
                  go_wp2_with (first | (go_at_call 65; refine (hrd _ hE3.bel).mono ?_; rintro e w3 ⟨rfl, hb3⟩; have hk3' := hk3.trans (FK.below hb3 hE3.le (by omega)); have hO3' := own_below hO3 hb3; have hE3' := hE3.on hb3 hs; have hM3' := hM3.below hb3; have c3' := hE3'.cl; have ld3 := hld _ hE3'.bel) | (go_at_call 66; refine (next_any b M c _ K hM3' hMok (by omega) hcok hcd).mono ?_; rintro e w4 ⟨b4, M4, he, hR4, hst4⟩; rw [hn] at he hst4; subst he; have hE4 := hE3'.on hR4.bl hs; have hk4 := hk3'.trans (FK.below hR4.bl hE3'.le (by omega)); have hO4 := own_below hO3' hR4.bl; have c4 : w4.cell? ⟨n0 + 2, 0, none⟩ = some v' := blk_cell (L := [v']) hE4.co 0) | (at_builtin; go_loud (refine wpList_append_own _ rfl _ _ tSl rfl (s + 4) tInt i0 (.int .i64 0) 1 8 Tryz.underlying28 hi hz0 hz1 hz2 rfl (by decide) _ _ _ rfl (hO4.alloc _) ⟨_, 0, none⟩ 1 1 [.int .i64 (j : Int)] rfl rfl (cell_one_new _ _ _) (by simp [Value.oneCell']) (by unfold maxLen; omega) (by omega) (by have := hE4.le; simp; omega) ?_; intro v5 w5 hO5 hg5 _; obtain ⟨a5, q5, rfl⟩ := own_slice hO5; have hba : Below w4.heap.size w4 (w4.alloc (.cells #[.int .i64 (j : Int)] 3)) := (Below.refl _ _).alloc (Nat.le_refl _) _; have hE5 := (hE4.on hba hs).grown (hO4.alloc _) hg5 hs; have hk45 := (FK.below hba hE4.le (by omega : n0 ≤ s)).trans (FK.row (hO4.alloc _) hg5 (hE4.on hba hs).le (by omega)); have c5 : w5.cell? ⟨n0 + 2, 0, none⟩ = some v' := blk_cell (L := [v']) hE5.co 0; have f5 : w5.frozen? ⟨n0 + 2, 0, none⟩ = false := blk_frozen (L := [v']) hE5.co 0)))
                  have hE6 := hE5.box hs (.slice a5 (pre.length + 1) q5)
                  have hk46 := hk45.trans (FK.box w5 (.slice a5 (pre.length + 1) q5) hs)
                  have hO6 := own_box (u := .slice a5 (pre.length + 1) q5) hO5 hs
                  generalize w5.setCell ⟨n0 + 2, 0, none⟩ (.slice a5 (pre.length + 1) q5) = w6 at *
                  have hbd : Below w6.heap.size w6 w6.drew := (Below.refl _ _).drew
                  have hkd := FK.below hbd hE6.le (by omega : n0 ≤ s)
                  have hE6d := hE6.on hbd hs
                  have hih := ih k' (by omega) w6.drew b4 M4 t (u ||| 2 ^ j) nm' _ (pre ++ [j]) (K + 1) ((hE4.model hk46 hR4.at_).below hbd) (hst4 t rfl) htok (by omega) (by omega) hu2 hE6d (by rw [Nat.pow_succ] at hnm; have := Nat.mul_le_mul_right X (show j ≤ 9 by omega); omega) (by have := own_below hO6 hbd; simpa [iv] using this) (by simp; omega)
                  clear ih hE5 hE4 hO5 hg5 hk45 c5 f5 c4
                  refine wp_region_noPanic ?_
                  refine wp_region_held_drew (S := fun W => W.cell? ⟨s + 3, 0, none⟩ = some (.func (.func 63) #[] #[.pointer (some ⟨s + 1, 0, none⟩), .pointer (some ⟨s + 2, 0, none⟩), .pointer (some ⟨n0 + 1, 0, none⟩), .pointer (some ⟨n0 + 2, 0, none⟩), .pointer (some ⟨s + 3, 0, none⟩)])) (by kernel_rfl) ?_ (fun hHeld => ?_)
                  · first | exact hE6.cf | exact hE6d.cf | exact hE7.cf
                  iterate 6 (first | (refine np_sn ?_; (try simp only [nSO])) | ((first | refine np_n ?_ ?_ ?_ | refine np_t 0 ?_ ?_ ?_); rotate_left 1; (· (intro w hSw; (try dsimp only at hSw); go_simp; all_goals with_reducible rfl)); (try simp only [nSO])))
                  first | (refine np_s 6 ?_; (try simp only [nSO])) | (refine np_step (i := 6) rfl (by kernel_rfl) (fun K hK => ?_); rw [if_pos (by rfl)]; go_simp; ((go_at_call 63; refine hih.mono ?_; rintro e w7 ⟨he, nm7, v7, hn7, hE7, hk7, hO7⟩; rw [hSS] at he; subst he)); (try go_wp2_with fail); refine hK.out _ _ ?_ (fun hHeld => ?_); (· (first | exact hE6.cf | exact hE6d.cf | exact hE7.cf)); clear hK K; (try simp only [nSO]))
                  refine wpAnyH_done (by kernel_rfl) ?_ _
                  refine NoPanic.normal ?_
                  have hO8 : w7.ownsRow (s + 4) tInt 1 v7 (pre.length + 1) ((pre.map fun (x : Nat) => iv x) ++ [iv j]) := by rw [hSS] at hO7; simpa using hO7
                  obtain ⟨a7, q7, rfl⟩ := own_slice hO8
                  have c7 : w7.cell? ⟨n0 + 2, 0, none⟩ = some (.slice a7 (pre.length + 1) q7) := blk_cell (L := [.slice a7 (pre.length + 1) q7]) hE7.co 0
                  have f7 : w7.frozen? ⟨n0 + 2, 0, none⟩ = false := blk_frozen (L := [.slice a7 (pre.length + 1) q7]) hE7.co 0
                  have hcap7 := own_cap hO8
                  have hk8 := hk4.trans (hk46.trans (hkd.trans (hk7.trans (FK.box w7 (.slice a7 pre.length q7) hs))))
                  have hE8 := hE7.box hs (.slice a7 pre.length q7)
                  have hO9 := own_box (u := .slice a7 pre.length q7) (own_cut hO8) hs
                  have hnm8 : nm7 ≤ nm + (j + 1) * X := by rw [Nat.succ_mul]; omega
                  clear hSS hn hO8 hO7 hk7 hkd hk46 hk4
                  go_wp2
                  go_roundw
                  case rel => exact frel_next hE8 hk8 hO9 htry ht hlt hnm8
                  case measure => simp [intOf]; omega
        · have hke : j = cs.length := by omega
          subst hke
          have hS : SS cs M.st u = none := S_none hf htry
          have hlx := Nat.mul_le_mul_right X hl
          have hPr : DeadPr cs u (strOf (keyL M.st)) (.bool true) := fun x st hx hst hk => by
            have e := (key_iff hMok hst (by omega) (by omega)).1 hk
            subst e
            have e2 : x = u := by omega
            rw [e2]; exact hS
          have hzb := hE2.blk hk3 hzz (by decide) (by decide)
          have e0 : wr.cell? ⟨z, 0, none⟩ = some (.int .i64 u) := blk_cell (L := [.int .i64 u, .string (strOf (keyL M.st))]) hzb 0
          have e1 : wr.cell? ⟨z, 1, none⟩ = some (.string (strOf (keyL M.st))) := blk_cell (L := [.int .i64 u, .string (strOf (keyL M.st))]) hzb 1
          have c3 := hE3.cd
          go_wp2_with (at_mapUpdate; refine wpList_store_st _ rfl _ _ _ 102 rfl 4 Tryz.underlying102 rfl hE3.mp (by unfold maxLen; omega) u (strOf (keyL M.st)) (.bool true) rfl rfl hwf (key_size M.st hMok) (plainElem_bool Tryz.underlying4 true) hPr ?_; intro w9 hm9 hg9)
          go_returns
          refine ⟨by rw [hS]; rfl, _, v', ?_, hE3.store hs hg9 hm9, hk2.trans (hk3.trans (FK.map hg9 hE3.le (by omega))), ?_⟩
          · omega
          · rw [hS]; have := own_map hO3 hg9; simpa using this
end Go.Proofs.YtdeiocppghhfdaaGreat.Lin
namespace Go.Proofs.YtdeiocppghhfdaaGreat.Lin
set_option linter.unusedVariables false
set_option linter.unusedSimpArgs false
set_option maxRecDepth 100000
set_option maxHeartbeats 8000000
open Go.RowKit Go.Lib Go.Shelf
open Hs
open KitI (iv own_below)
attribute [local go_sem, local simp] Hs.callL_0 Hs.callL_1 Hs.callL_2 Hs.callL_3 Hs.callL_4 Hs.callL_5 Hs.callL_6 Hs.callL_7 Hs.callL_8 Hs.callL_9 Hs.callL_10 Hs.callL_11 Hs.callL_12 Hs.callL_13 Hs.callL_14 Hs.callL_15 Hs.callL_16 Hs.callL_17 Hs.callL_18 Hs.callL_19 Hs.callL_20 Hs.callL_21 Hs.callL_22 Hs.callL_23 Hs.callL_24 Hs.callL_25 Hs.callL_26 Hs.resL_0 Hs.resL_1 Hs.resL_2 Hs.resL_3 Hs.resL_4 Hs.resL_5 Hs.resL_6 Hs.resL_7 Hs.resL_8 Hs.resL_9 Hs.resL_10 Hs.resL_11 Hs.resL_12 Hs.callG_0 Hs.callG_1 Hs.callG_2 Hs.callG_3 Hs.callG_4 Hs.callG_5 Hs.callG_6 Hs.callG_7 Hs.callG_8 Hs.callG_9 Hs.callG_10 Hs.callG_11 Hs.callG_12 Hs.callG_13 Hs.callG_14 Hs.callG_15 Hs.callG_16 Hs.callG_17 Hs.callG_18 Hs.callG_19 Hs.callG_20 Hs.callG_21 Hs.callG_22 Hs.callG_23 Hs.callG_24 Hs.callG_25 Hs.callG_26 Hs.resG_0 Hs.resG_1 Hs.resG_2 Hs.resG_3 Hs.resG_4 Hs.resG_5 Hs.resG_6 Hs.resG_7 Hs.resG_8 Hs.resG_9 Hs.resG_10 Hs.resG_11 Hs.resG_12 Hs.callL_len Hs.resL_len
attribute [local go_sem ↓] Hs.loadCall_eq Hs.loadRes_eq
attribute [local go_sem] Hs.ld_new Hs.ld_first Hs.ld_second Hs.ldr_new Hs.st_new
theorem find_fn {n0 s : Nat} {w0 : World} {p : Option Addr} {cap : Nat} {cs : List CallV} (hs : n0 + 3 ≤ s) (hC : ∀ W, Below n0 w0 W → CRow W p cap cs) (hl : cs.length ≤ 10) (hok : ∀ c ∈ cs, c.Ok) (hd : ∀ c ∈ cs, c.ps.length ≤ 1000000) :
    ∀ k, FCall n0 s w0 p cap cs k := by
  intro k
  induction k using Nat.strongRecOn with
  | ind k ih => exact find_step hs hC hl hok hd ih
theorem start_no {c : CfgV} {p : Option Addr} {cap : Nat} {cs : List CallV} {w : World} (hC : CRow w p cap cs) (hs : cs.length ≤ 1000) (hok : ∀ x ∈ cs, x.Ok) (h : startE c cs ≠ 0) :
    Calls Tryz.prog 61 #[c.v, .slice p cs.length cap] w fun e w' => e = .returned (.tuple #[.pointer none, .int .i64 (startE c cs)]) ∧ Below w.heap.size w w' :=
  (start_any c p cap cs w hC hs hok).mono fun e w' h' => h'.elim (fun h' => h'.2) (fun h' => absurd h'.1 h)
theorem start_ok {c : CfgV} {p : Option Addr} {cap : Nat} {cs : List CallV} {w : World} (hC : CRow w p cap cs) (hs : cs.length ≤ 1000) (hok : ∀ x ∈ cs, x.Ok) (h : startE c cs = 0) :
    Calls Tryz.prog 61 #[c.v, .slice p cs.length cap] w fun e w' => ∃ b M, e = .returned (.tuple #[.pointer (some ⟨b, 0, none⟩), .int .i64 0]) ∧ Run w w' b M ∧ M.st = newS c :=
  (start_any c p cap cs w hC hs hok).mono fun e w' h' => h'.elim (fun h' => absurd h h'.1) (fun h' => h'.2)
theorem start_len {c : CfgV} {cs : List CallV} (h : startE c cs = 0) : cfgE c = 0 ∧ (checkP cs).2 = 0 ∧ cs.length ≤ 10 := by
  unfold startE at h
  split at h
  · rename_i h1; exact absurd h h1
  · rename_i h1
    split at h
    · rename_i h2; exact absurd h h2
    · rename_i h2
      split at h
      · cases h
      · exact ⟨by simpa using h1, by simpa using h2, by omega⟩
theorem fe_start {n0 : Nat} {w0 w2 : World} {p : Option Addr} {cap : Nat} {cs : List CallV} (hB : Below n0 w0 w2) (hl : w2.heap[n0 + 1]? = some (.cells #[.slice p cs.length cap] 25 (0, 0))) (ho : w2.heap[n0 + 1 + 1]? = some (.cells #[.slice none 0 0] tSl (0, 0))) (hn : n0 + 3 ≤ w2.heap.size) :
    FE n0 w2.heap.size w0 p cap cs 0 (.slice none 0 0) ((((w2.alloc (.map #[] 0)).alloc (.cells #[.int .i64 (allB cs cs.length : Nat)] 3)).alloc (.cells #[.map (some w2.heap.size)] 102)).alloc (.cells #[(.func (.func findFn) #[] #[.pointer (some ⟨w2.heap.size + 1, 0, none⟩), .pointer (some ⟨w2.heap.size + 1 + 1, 0, none⟩), .pointer (some ⟨n0 + 1, 0, none⟩), .pointer (some ⟨n0 + 1 + 1, 0, none⟩), .pointer (some ⟨w2.heap.size + 1 + 1 + 1, 0, none⟩)])] 103)) := by
  have h1 := blk_old (blk_old (blk_old hl (.map #[] 0)) (.cells #[.int .i64 (allB cs cs.length : Nat)] 3)) (.cells #[.map (some w2.heap.size)] 102)
  have h2 := blk_old (blk_old (blk_old ho (.map #[] 0)) (.cells #[.int .i64 (allB cs cs.length : Nat)] 3)) (.cells #[.map (some w2.heap.size)] 102)
  have h3 := blk_old (blk_old (blk_new (w2.alloc (.map #[] 0)) [.int .i64 (allB cs cs.length : Nat)] 3) (.cells #[.map (some w2.heap.size)] 102)) (.cells #[(.func (.func findFn) #[] #[.pointer (some ⟨w2.heap.size + 1, 0, none⟩), .pointer (some ⟨w2.heap.size + 1 + 1, 0, none⟩), .pointer (some ⟨n0 + 1, 0, none⟩), .pointer (some ⟨n0 + 1 + 1, 0, none⟩), .pointer (some ⟨w2.heap.size + 1 + 1 + 1, 0, none⟩)])] 103)
  have h4 := blk_old (blk_new ((w2.alloc (.map #[] 0)).alloc (.cells #[.int .i64 (allB cs cs.length : Nat)] 3)) [.map (some w2.heap.size)] 102) (.cells #[(.func (.func findFn) #[] #[.pointer (some ⟨w2.heap.size + 1, 0, none⟩), .pointer (some ⟨w2.heap.size + 1 + 1, 0, none⟩), .pointer (some ⟨n0 + 1, 0, none⟩), .pointer (some ⟨n0 + 1 + 1, 0, none⟩), .pointer (some ⟨w2.heap.size + 1 + 1 + 1, 0, none⟩)])] 103)
  have h5 := blk_new (((w2.alloc (.map #[] 0)).alloc (.cells #[.int .i64 (allB cs cs.length : Nat)] 3)).alloc (.cells #[.map (some w2.heap.size)] 102)) [(.func (.func findFn) #[] #[.pointer (some ⟨w2.heap.size + 1, 0, none⟩), .pointer (some ⟨w2.heap.size + 1 + 1, 0, none⟩), .pointer (some ⟨n0 + 1, 0, none⟩), .pointer (some ⟨n0 + 1 + 1, 0, none⟩), .pointer (some ⟨w2.heap.size + 1 + 1 + 1, 0, none⟩)])] 103
  have hm := blk_old (blk_old (blk_old (MapKept.heap_alloc w2 (.map #[] 0)).1 (.cells #[.int .i64 (allB cs cs.length : Nat)] 3)) (.cells #[.map (some w2.heap.size)] 102)) (.cells #[(.func (.func findFn) #[] #[.pointer (some ⟨w2.heap.size + 1, 0, none⟩), .pointer (some ⟨w2.heap.size + 1 + 1, 0, none⟩), .pointer (some ⟨n0 + 1, 0, none⟩), .pointer (some ⟨n0 + 1 + 1, 0, none⟩), .pointer (some ⟨w2.heap.size + 1 + 1 + 1, 0, none⟩)])] 103)
  simp only [World.size_alloc] at h3 h4 h5
  refine ⟨(((hB.alloc (by omega) _).alloc (by simp only [World.size_alloc]; omega) _).alloc (by simp only [World.size_alloc]; omega) _).alloc (by simp only [World.size_alloc]; omega) _, by simp only [World.size_alloc]; omega, blk_cell (L := [.slice p cs.length cap]) (blk_old h1 _) 0, blk_old h2 _, ?_, blk_cell (L := [.int .i64 (allB cs cs.length : Nat)]) h3 0, blk_cell (L := [.map (some w2.heap.size)]) h4 0, blk_cell (L := [(.func (.func findFn) #[] #[.pointer (some ⟨w2.heap.size + 1, 0, none⟩), .pointer (some ⟨w2.heap.size + 1 + 1, 0, none⟩), .pointer (some ⟨n0 + 1, 0, none⟩), .pointer (some ⟨n0 + 1 + 1, 0, none⟩), .pointer (some ⟨w2.heap.size + 1 + 1 + 1, 0, none⟩)])]) h5 0⟩
  exact (MapP.made w2 4 (DeadPr cs)).keep (by rw [hm]; exact (MapKept.heap_alloc w2 (.map #[] 0)).1.symm)
theorem find_call {n0 b : Nat} {w0 w2 : World} {p : Option Addr} {cap : Nat} {cs : List CallV} {c : CfgV} {M : MM} (hB : Below n0 w0 w2) (hl : w2.heap[n0 + 1]? = some (.cells #[.slice p cs.length cap] 25 (0, 0))) (ho : w2.heap[n0 + 1 + 1]? = some (.cells #[.slice none 0 0] tSl (0, 0))) (hn : n0 + 3 ≤ w2.heap.size)
    (hC : ∀ W, Below n0 w0 W → CRow W p cap cs) (hle : cs.length ≤ 10) (hok : ∀ c ∈ cs, c.Ok) (hd : ∀ c ∈ cs, c.ps.length ≤ 1000000) (hM : MdAt w2 b M) (hst : M.st = newS c) (hc : cfgE c = 0) :
    Calls Tryz.prog findFn #[.pointer (some ⟨b, 0, none⟩), .int .i64 0, .pointer (some ⟨w2.heap.size + 1, 0, none⟩), .pointer (some ⟨w2.heap.size + 1 + 1, 0, none⟩), .pointer (some ⟨n0 + 1, 0, none⟩), .pointer (some ⟨n0 + 1 + 1, 0, none⟩), .pointer (some ⟨w2.heap.size + 1 + 1 + 1, 0, none⟩)] ((((w2.alloc (.map #[] 0)).alloc (.cells #[.int .i64 (allB cs cs.length : Nat)] 3)).alloc (.cells #[.map (some w2.heap.size)] 102)).alloc (.cells #[(.func (.func findFn) #[] #[.pointer (some ⟨w2.heap.size + 1, 0, none⟩), .pointer (some ⟨w2.heap.size + 1 + 1, 0, none⟩), .pointer (some ⟨n0 + 1, 0, none⟩), .pointer (some ⟨n0 + 1 + 1, 0, none⟩), .pointer (some ⟨w2.heap.size + 1 + 1 + 1, 0, none⟩)])] 103))
      fun e W' => ∃ v', e = .returned (.bool (SS cs (newS c) 0).isSome) ∧ W'.heap[n0 + 1 + 1]? = some (.cells #[v'] tSl (0, 0)) ∧ Below n0 w0 W' ∧ W'.ownsRow (w2.heap.size + 4) tInt 1 v' ((SS cs (newS c) 0).getD []).length (((SS cs (newS c) 0).getD []).map fun (x : Nat) => iv x) := by
  have hE := fe_start hB hl ho hn
  have hk : Below w2.heap.size w2 ((((w2.alloc (.map #[] 0)).alloc (.cells #[.int .i64 (allB cs cs.length : Nat)] 3)).alloc (.cells #[.map (some w2.heap.size)] 102)).alloc (.cells #[(.func (.func findFn) #[] #[.pointer (some ⟨w2.heap.size + 1, 0, none⟩), .pointer (some ⟨w2.heap.size + 1 + 1, 0, none⟩), .pointer (some ⟨n0 + 1, 0, none⟩), .pointer (some ⟨n0 + 1 + 1, 0, none⟩), .pointer (some ⟨w2.heap.size + 1 + 1 + 1, 0, none⟩)])] 103)) := ((((Below.refl _ w2).alloc (Nat.le_refl _) _).alloc (by simp only [World.size_alloc]; omega) _).alloc (by simp only [World.size_alloc]; omega) _).alloc (by simp only [World.size_alloc]; omega) _
  have h := find_fn (n0 := n0) (s := w2.heap.size) hn hC hle hok hd cs.length _ b M (newS c) 0 0 (.slice none 0 0) [] 0 (hM.below hk) hst (newS_ok hc) (by omega) (by unfold fr; exact Nat.le_trans (List.length_filter_le _ _) (by simp)) (by decide) hE (by have : 11 ^ cs.length ≤ 11 ^ 10 := Nat.pow_le_pow_right (by omega) hle; have : (11 : Nat) ^ 10 ≤ 11 ^ 12 := (by decide); omega) (World.ownsRow_nil _ _ _ _) (by simpa using hle)
  refine h.mono ?_
  rintro e W' ⟨he, nm', v', _, hE', _, hO⟩
  refine ⟨v', he, hE'.co, hE'.bel, ?_⟩
  rw [List.nil_append] at hO
  exact hO
def FindPost (c : CfgV) (cs : List CallV) (w : World) (e : Ending) (w' : World) : Prop :=
  ∃ v, e = .returned (.tuple #[v, .bool (findP c cs).2.1, .int .i64 (findP c cs).2.2]) ∧ w'.ownsRow w.heap.size tInt 1 v (findP c cs).1.length ((findP c cs).1.map fun (x : Nat) => iv x) ∧ Below w.heap.size w w'
theorem find_any (c : CfgV) (p : Option Addr) (cap : Nat) (cs : List CallV) (w : World) (hC : CRow w p cap cs) (hs : cs.length ≤ 1000) (hok : ∀ x ∈ cs, x.Ok) (hd : ∀ x ∈ cs, x.ps.length ≤ 1000000) :
    Calls Tryz.prog 19 #[c.v, .slice p cs.length cap] w (FindPost c cs w) := by
  have hB0 : Below w.heap.size w (((w.alloc (.cells #[.int .i64 c.slots, .int .u64 c.gens, .int .i64 c.clients, .int .i64 c.readers, .int .i64 c.queue, .int .i64 c.batch, .int .i64 c.feed, .string c.text] 24)).alloc (.cells #[.slice p cs.length cap] 25)).alloc (.cells #[.slice none 0 0] tSl)) := (((Below.refl w.heap.size w).alloc (Nat.le_refl _) _).alloc (by simp) _).alloc (by simp; omega) _
  have hl0 := blk_old (blk_new (w.alloc (.cells #[.int .i64 c.slots, .int .u64 c.gens, .int .i64 c.clients, .int .i64 c.readers, .int .i64 c.queue, .int .i64 c.batch, .int .i64 c.feed, .string c.text] 24)) [.slice p cs.length cap] 25) (.cells #[.slice none 0 0] tSl)
  have ho0 := blk_new ((w.alloc (.cells #[.int .i64 c.slots, .int .u64 c.gens, .int .i64 c.clients, .int .i64 c.readers, .int .i64 c.queue, .int .i64 c.batch, .int .i64 c.feed, .string c.text] 24)).alloc (.cells #[.slice p cs.length cap] 25)) [.slice none 0 0] tSl
  rw [World.size_alloc] at hl0
  rw [World.size_alloc, World.size_alloc] at ho0
  have hsz0 : (((w.alloc (.cells #[.int .i64 c.slots, .int .u64 c.gens, .int .i64 c.clients, .int .i64 c.readers, .int .i64 c.queue, .int .i64 c.batch, .int .i64 c.feed, .string c.text] 24)).alloc (.cells #[.slice p cs.length cap] 25)).alloc (.cells #[.slice none 0 0] tSl)).heap.size = w.heap.size + 3 := by simp
  by_cases h0 : startE c cs = 0
  · have hst := start_ok (hC.on hB0) hs hok h0
    have hmm := @run_makeMap Tryz.prog
    obtain ⟨h00, _, hle⟩ := start_len h0
    unfold CfgV.v at *
    have hfp : findP c cs = match SS cs (newS c) 0 with | some a => (a, true, 0) | none => ([], false, 0) := by unfold findP; rw [if_neg (by rw [h0]; simp)]; (try (cases SS cs (newS c) 0 <;> rfl))
    cases hSS : SS cs (newS c) 0 with
    | none =>
      rw [hSS] at hfp
      go_enter Tryz.func19, Tryz.ntmps19
      go_wp2_with (first | (go_at_call 61; refine hst.mono ?_; rintro e w1 ⟨b, M, rfl, hR, hM⟩; have hl1 := blk_below hl0 hR.bl (by omega); have ho1 := blk_below ho0 hR.bl (by omega); have hB1 : Below w.heap.size w w1 := hB0.trans (hR.bl.mono (by omega)); have e1 : w1.cell? ⟨w.heap.size + 1, 0, none⟩ = some (.slice p cs.length cap) := blk_cell (L := [.slice p cs.length cap]) hl1 0) | (go_at_call 62; refine (answered_any p cap cs _ (hC.on hB1) (by omega)).mono ?_; rintro e w2 ⟨rfl, hb2⟩) | (go_at_call 63; have hs1 := hR.bl.size; refine (find_call (hB1.trans (hb2.mono hB1.size)) (blk_below hl1 hb2 (by omega)) (blk_below ho1 hb2 (by omega)) (by have := hb2.size; omega) (fun W h => hC.on h) hle hok hd (hR.at_.below hb2) hM h00).mono ?_; rintro e w9 ⟨v9, he, ho9, hB9, hO9⟩; rw [hSS] at he hO9; subst he; obtain ⟨a9, q9, rfl⟩ := own_slice hO9; have c9 : w9.cell? ⟨w.heap.size + 1 + 1, 0, none⟩ = some (.slice a9 _ q9) := blk_cell (L := [_]) ho9 0; have f9 : w9.frozen? ⟨w.heap.size + 1 + 1, 0, none⟩ = false := blk_frozen (L := [_]) ho9 0))
      have cf : (w9.setCell ⟨w.heap.size + 1 + 1, 0, none⟩ (.slice none 0 0)).cell? ⟨w.heap.size + 1 + 1, 0, none⟩ = some (.slice none 0 0) := blk_cell (L := [.slice none 0 0]) (blk_set (L := [_]) ho9 0 (.slice none 0 0)) 0
      exact ⟨rfl, .tuple #[.slice none 0 0, .bool false, .int .i64 0], by simp [results, Tryz.f19, go_sem, cf], .slice none 0 0, by rw [hfp], by rw [hfp]; exact World.ownsRow_nil _ _ _ _, hB9.setCell (p := ⟨w.heap.size + 1 + 1, 0, none⟩) (by simp; omega) _⟩
    | some a =>
      rw [hSS] at hfp
      go_enter Tryz.func19, Tryz.ntmps19
      go_wp2_with (first | (go_at_call 61; refine hst.mono ?_; rintro e w1 ⟨b, M, rfl, hR, hM⟩; have hl1 := blk_below hl0 hR.bl (by omega); have ho1 := blk_below ho0 hR.bl (by omega); have hB1 : Below w.heap.size w w1 := hB0.trans (hR.bl.mono (by omega)); have e1 : w1.cell? ⟨w.heap.size + 1, 0, none⟩ = some (.slice p cs.length cap) := blk_cell (L := [.slice p cs.length cap]) hl1 0) | (go_at_call 62; refine (answered_any p cap cs _ (hC.on hB1) (by omega)).mono ?_; rintro e w2 ⟨rfl, hb2⟩) | (go_at_call 63; have hs1 := hR.bl.size; refine (find_call (hB1.trans (hb2.mono hB1.size)) (blk_below hl1 hb2 (by omega)) (blk_below ho1 hb2 (by omega)) (by have := hb2.size; omega) (fun W h => hC.on h) hle hok hd (hR.at_.below hb2) hM h00).mono ?_; rintro e w9 ⟨v9, he, ho9, hB9, hO9⟩; rw [hSS] at he hO9; subst he; obtain ⟨a9, q9, rfl⟩ := own_slice hO9; have c9 : w9.cell? ⟨w.heap.size + 1 + 1, 0, none⟩ = some (.slice a9 _ q9) := blk_cell (L := [_]) ho9 0; have f9 : w9.frozen? ⟨w.heap.size + 1 + 1, 0, none⟩ = false := blk_frozen (L := [_]) ho9 0))
      have cf : (w9.setCell ⟨w.heap.size + 1 + 1, 0, none⟩ (.slice a9 a.length q9)).cell? ⟨w.heap.size + 1 + 1, 0, none⟩ = some (.slice a9 a.length q9) := blk_cell (L := [.slice a9 a.length q9]) (blk_set (L := [_]) ho9 0 (.slice a9 a.length q9)) 0
      have hsz2 : w.heap.size + 3 ≤ w2.heap.size := by have h1 := hR.bl.size; have h2 := hb2.size; omega
      exact ⟨rfl, .tuple #[.slice a9 a.length q9, .bool true, .int .i64 0], by simp [results, Tryz.f19, go_sem, cf], .slice a9 a.length q9, by rw [hfp], by rw [hfp]; exact own_base (own_box (n0 := w.heap.size) (s := w2.heap.size) (u := .slice a9 a.length q9) hO9 hsz2) (by omega), hB9.setCell (p := ⟨w.heap.size + 1 + 1, 0, none⟩) (by simp; omega) _⟩
  · have hst := start_no (hC.on hB0) hs hok h0
    have hf : findP c cs = ([], false, startE c cs) := by unfold findP; rw [if_pos h0]
    have hd : (startE c cs != 0) = true := by simpa using h0
    generalize startE c cs = sE at *
    unfold CfgV.v at *
    go_enter Tryz.func19, Tryz.ntmps19
    go_wp2_with (go_at_call 61; refine hst.mono ?_; rintro e w1 ⟨rfl, hb1⟩; have ho1 := blk_below ho0 hb1 (by omega); have c1 : w1.cell? ⟨w.heap.size + 1 + 1, 0, none⟩ = some (.slice none 0 0) := blk_cell (L := [.slice none 0 0]) ho1 0; have f1 : w1.frozen? ⟨w.heap.size + 1 + 1, 0, none⟩ = false := blk_frozen (L := [.slice none 0 0]) ho1 0)
    have cf : (w1.setCell ⟨w.heap.size + 1 + 1, 0, none⟩ (.slice none 0 0)).cell? ⟨w.heap.size + 1 + 1, 0, none⟩ = some (.slice none 0 0) := blk_cell (L := [.slice none 0 0]) (blk_set (L := [_]) ho1 0 (.slice none 0 0)) 0
    have hB1 : Below w.heap.size w w1 := hB0.trans (hb1.mono (by omega))
    exact ⟨rfl, .tuple #[.slice none 0 0, .bool false, .int .i64 sE], by simp [results, Tryz.f19, go_sem, cf], .slice none 0 0, by rw [hf], by rw [hf]; exact World.ownsRow_nil _ _ _ _, hB1.setCell (p := ⟨w.heap.size + 1 + 1, 0, none⟩) (by simp; omega) _⟩
theorem check_l (c : CfgV) (p : Option Addr) (cap : Nat) (cs : List CallV) (w : World) (hC : CRow w p cap cs) (hs : cs.length ≤ 1000) (hok : ∀ x ∈ cs, x.Ok) (hd : ∀ x ∈ cs, x.ps.length ≤ 1000000) :
    Calls Tryz.prog 23 #[c.v, .slice p cs.length cap] w fun e w' => e = .returned (.tuple #[.bool (findP c cs).2.1, .int .i64 (findP c cs).2.2]) ∧ Below w.heap.size w w' := by
  have hB0 : Below w.heap.size w (w.alloc (.cells #[.int .i64 c.slots, .int .u64 c.gens, .int .i64 c.clients, .int .i64 c.readers, .int .i64 c.queue, .int .i64 c.batch, .int .i64 c.feed, .string c.text] 24)) := (Below.refl w.heap.size w).alloc (Nat.le_refl _) _
  have hf := find_any c p cap cs _ (hC.on hB0) hs hok hd
  unfold CfgV.v at *
  go_enter Tryz.func23, Tryz.ntmps23
  go_wp2_with (go_at_call 19; refine hf.mono ?_; rintro e w1 ⟨v, rfl, hO, hb1⟩; obtain ⟨a9, q9, rfl⟩ := own_slice hO)
  go_returns
  exact ⟨rfl, hB0.trans (hb1.mono hB0.size)⟩
end Go.Proofs.YtdeiocppghhfdaaGreat.Lin
namespace Go.Proofs.YtdeiocppghhfdaaGreat.Lin
set_option linter.unusedVariables false
set_option linter.unusedSimpArgs false
set_option maxRecDepth 100000
set_option maxHeartbeats 8000000
open Go.RowKit Go.Lib Go.Shelf
open Hs
open KitI (iv IRow own_below)
attribute [local go_sem, local simp] Hs.callL_0 Hs.callL_1 Hs.callL_2 Hs.callL_3 Hs.callL_4 Hs.callL_5 Hs.callL_6 Hs.callL_7 Hs.callL_8 Hs.callL_9 Hs.callL_10 Hs.callL_11 Hs.callL_12 Hs.callL_13 Hs.callL_14 Hs.callL_15 Hs.callL_16 Hs.callL_17 Hs.callL_18 Hs.callL_19 Hs.callL_20 Hs.callL_21 Hs.callL_22 Hs.callL_23 Hs.callL_24 Hs.callL_25 Hs.callL_26 Hs.resL_0 Hs.resL_1 Hs.resL_2 Hs.resL_3 Hs.resL_4 Hs.resL_5 Hs.resL_6 Hs.resL_7 Hs.resL_8 Hs.resL_9 Hs.resL_10 Hs.resL_11 Hs.resL_12 Hs.callG_0 Hs.callG_1 Hs.callG_2 Hs.callG_3 Hs.callG_4 Hs.callG_5 Hs.callG_6 Hs.callG_7 Hs.callG_8 Hs.callG_9 Hs.callG_10 Hs.callG_11 Hs.callG_12 Hs.callG_13 Hs.callG_14 Hs.callG_15 Hs.callG_16 Hs.callG_17 Hs.callG_18 Hs.callG_19 Hs.callG_20 Hs.callG_21 Hs.callG_22 Hs.callG_23 Hs.callG_24 Hs.callG_25 Hs.callG_26 Hs.resG_0 Hs.resG_1 Hs.resG_2 Hs.resG_3 Hs.resG_4 Hs.resG_5 Hs.resG_6 Hs.resG_7 Hs.resG_8 Hs.resG_9 Hs.resG_10 Hs.resG_11 Hs.resG_12 Hs.callL_len Hs.resL_len
attribute [local go_sem ↓] Hs.loadCall_eq Hs.loadRes_eq
attribute [local go_sem] Hs.ld_new Hs.ld_first Hs.ld_second Hs.ldr_new Hs.st_new
theorem irow_at {W : World} {p : Option Addr} {zs : List Int} (h : IRd W p zs) (hn : 0 < zs.length) : ∃ b off, p = some ⟨b, off, none⟩ ∧ ∀ W', Below W.heap.size W W' → ∀ j u, zs[j]? = some u → W'.cell? ⟨b, off + j, none⟩ = some (.int .i64 u) := by
  rcases h with h2 | ⟨b, off, h1, h2⟩
  · rw [h2] at hn; simp at hn
  · refine ⟨b, off, h1, fun W' hB j u hj => ?_⟩
    have := h2 j u hj
    exact (hB.cell (KitI.cell_size this)).trans this
theorem index_any (p : Option Addr) (c : Nat) (zs : List Int) (x : Int) (w : World) (h : IRd w p zs) (hs : zs.length ≤ 1000000) :
    Calls Tryz.prog 125 #[.slice p zs.length c, .int .i64 x] w fun e w' => ∃ r : Int, e = .returned (.int .i64 r) ∧ decide (0 ≤ r) = zs.contains x ∧ Below w.heap.size w w' := by
  go_enter Tryz.func125, Tryz.ntmps125
  go_wp2
  go_loopw [8] (fun i wr => ∃ k : Nat, i = .int .i64 k ∧ k ≤ zs.length ∧ Below w.heap.size w wr ∧ x ∉ zs.take k) (fun i wr => zs.length - (intOf i).toNat)
  case atStart => exact ⟨0, rfl, by omega, Below.refl _ _, by simp⟩
  case round =>
    obtain ⟨k, rfl, hk, hB, hno⟩ := hrel
    by_cases hlt : k < zs.length
    · obtain ⟨b, off, rfl, hc⟩ := irow_at h (by omega)
      obtain ⟨y, hz⟩ : ∃ y, zs[k]? = some y := ⟨_, List.getElem?_eq_getElem hlt⟩
      have hck := hc wr hB k _ hz
      clear hc
      have hmem := List.mem_of_getElem? hz
      have htk : zs.take (k + 1) = zs.take k ++ [y] := by rw [List.take_add_one, hz]; rfl
      by_cases hxy : x = y
      · subst hxy
        go_wp2
        go_returns
        exact ⟨k, rfl, by simp [hmem], hB⟩
      · have hd : (x == y) = false := by simpa using hxy
        go_wp2
        go_roundw
        case rel => exact ⟨k + 1, by go_num, by omega, hB, by rw [htk]; simp [hno, hxy]⟩
        case measure => simp [intOf]; omega
    · have hke : k = zs.length := by omega
      subst hke
      rw [List.take_length] at hno
      go_wp2
      go_returns
      exact ⟨-1, rfl, by simp [hno], hB⟩
theorem contains_any (p : Option Addr) (c : Nat) (zs : List Int) (x : Int) (w : World) (h : IRd w p zs) (hs : zs.length ≤ 1000000) :
    Calls Tryz.prog 71 #[.slice p zs.length c, .int .i64 x] w fun e w' => e = .returned (.bool (zs.contains x)) ∧ Below w.heap.size w w' := by
  have hi := index_any p c zs x w h hs
  go_enter Tryz.func71, Tryz.ntmps71
  go_wp2_with (go_at_call 125; refine hi.mono ?_; rintro e w1 ⟨r, rfl, hr, hb1⟩)
  go_returns
  exact ⟨by simp, hb1⟩
theorem runO_take {L : List CallV} : ∀ {o : List Int} {st : MS} {k : Nat} {i : Int}, o[k]? = some i → runO L st (o.take (k + 1)) = (runO L st (o.take k)).bind fun t => nx L t i.toNat
  | [], st, k, i, h => by simp at h
  | x :: r, st, 0, i, h => by
    simp at h; subst h
    show (nx L st x.toNat).bind _ = _
    simp [runO]
  | x :: r, st, k + 1, i, h => by
    have h' : r[k]? = some i := by simpa using h
    show (nx L st x.toNat).bind (fun t => runO L t (r.take (k + 1))) = ((nx L st x.toNat).bind fun t => runO L t (r.take k)).bind _
    cases nx L st x.toNat with
    | none => rfl
    | some t => exact runO_take h'
theorem runO_none {L : List CallV} : ∀ {o : List Int} {st : MS} {k : Nat}, runO L st (o.take k) = none → runO L st o = none
  | [], st, k, h => by simpa using h
  | x :: r, st, 0, h => by simp [runO] at h
  | x :: r, st, k + 1, h => by
    have h1 : (nx L st x.toNat).bind (fun t => runO L t (r.take k)) = none := h
    show (nx L st x.toNat).bind (fun t => runO L t r) = none
    cases hn : nx L st x.toNat with
    | none => rfl
    | some t => rw [hn] at h1; exact runO_none h1
theorem all_no {n j : Nat} {q : Nat → Bool} (hj : j < n) (h : q j = false) : (List.range n).all q = false := by
  rw [List.all_eq_false]; exact ⟨j, List.mem_range.2 hj, by simp [h]⟩
theorem all_yes {n : Nat} {q : Nat → Bool} (h : ∀ j, j < n → q j = true) : (List.range n).all q = true := by
  rw [List.all_eq_true]; exact fun j hj => h j (List.mem_range.1 hj)
theorem agrees_rng {o : List Int} {cs : List CallV} (h0 : (checkP cs).2 = 0) (h : (agreesP o cs).2 = 0) : ∀ x ∈ o, 0 ≤ x ∧ x < (cs.length : Int) := by
  unfold agreesP at h
  rw [if_pos h0] at h
  by_cases hE : ordE cs.length [] o = 0
  · exact (ordE_inv _ _ hE).1
  · rw [if_neg hE] at h; exact absurd h hE
def VRel (c : CfgV) (cs : List CallV) (o : List Int) (w : World) (m i : Value) (wr : World) : Prop :=
  ∃ (k b : Nat) (M : MM), i = .int .i64 k ∧ m = .pointer (some ⟨b, 0, none⟩) ∧ k ≤ o.length ∧ Run w wr b M ∧ runO cs (newS c) (o.take k) = some M.st ∧ MSok M.st k
theorem valid_any (c : CfgV) (p po : Option Addr) (cap co : Nat) (cs : List CallV) (o : List Int) (w : World) (hC : CRow w p cap cs) (hO : IRd w po o) (hs : cs.length ≤ 1000) (hs2 : o.length ≤ 1000) (hok : ∀ x ∈ cs, x.Ok) (hd : ∀ x ∈ cs, x.ps.length ≤ 1000000) :
    Calls Tryz.prog 28 #[c.v, .slice po o.length co, .slice p cs.length cap] w fun e w' => e = .returned (.int .i64 (validE c o cs)) ∧ Below w.heap.size w w' := by
  have hB0 : Below w.heap.size w (w.alloc (.cells #[.int .i64 c.slots, .int .u64 c.gens, .int .i64 c.clients, .int .i64 c.readers, .int .i64 c.queue, .int .i64 c.batch, .int .i64 c.feed, .string c.text] 24)) := (Below.refl w.heap.size w).alloc (Nat.le_refl _) _
  have hag := fun W (h : Below w.heap.size w W) => agrees_any p po cap co cs o W (hC.on h) (hO.on h) (by omega) (by omega) hok
  by_cases h0 : startE c cs = 0
  · have hst := start_ok (hC.on hB0) hs hok h0
    obtain ⟨h00, hck, hle⟩ := start_len h0
    have hv : validE c o cs = if (agreesP o cs).2 ≠ 0 then (agreesP o cs).2 else if (agreesP o cs).1 = false then 26 else match runO cs (newS c) o with | none => 26 | some _ => if hasAll cs o then 0 else 26 := by unfold validE; rw [if_neg (by rw [h0]; simp)]; (try rfl)
    unfold CfgV.v at *
    by_cases ha : (agreesP o cs).2 = 0
    · rw [if_neg (by rw [ha]; simp)] at hv
      by_cases hab : (agreesP o cs).1 = false
      · rw [if_pos hab] at hv
        rw [ha, hab] at hag
        go_enter Tryz.func28, Tryz.ntmps28
        go_wp2_with (first | (go_at_call 61; refine hst.mono ?_; rintro e w1 ⟨b, M, rfl, hR, hM⟩; have hb1 := hB0.trans (hR.bl.mono hB0.size)) | (go_at_call 55; refine (hag _ hb1).mono ?_; rintro e w2 ⟨rfl, hb2⟩))
        go_returns
        exact ⟨by rw [hv]; rfl, hb1.trans (hb2.mono hb1.size)⟩
      · have habt : (agreesP o cs).1 = true := by simpa using hab
        rw [if_neg hab] at hv
        rw [ha, habt] at hag
        have hrng := agrees_rng hck ha
        go_enter Tryz.func28, Tryz.ntmps28
        go_wp2_with (first | (go_at_call 61; refine hst.mono ?_; rintro e w1 ⟨b, M, rfl, hR, hM⟩; have hb1 := hB0.trans (hR.bl.mono hB0.size)) | (go_at_call 55; refine (hag _ hb1).mono ?_; rintro e w2 ⟨rfl, hb2⟩))
        have hR2 := (Run.up hR hB0).on hb2
        clear hag hst hR hb2 hb1
        go_loopw [7, 38] (fun m i wr => VRel c cs o w m i wr) (fun m i wr => o.length - (intOf i).toNat)
        case atStart => exact ⟨0, b, M, rfl, rfl, by omega, hR2, by rw [hM]; rfl, by rw [hM]; exact newS_ok h00⟩
        case round =>
          obtain ⟨k, b', M', rfl, rfl, hk, hR3, hrun, hMok⟩ := hrel
          by_cases hlt : k < o.length
          · obtain ⟨x, hx⟩ : ∃ x, o[k]? = some x := ⟨_, List.getElem?_eq_getElem hlt⟩
            obtain ⟨bo, oo, rfl, hco⟩ := irow_at hO (by omega)
            have hck0 := hco wr hR3.bl k _ hx
            clear hco
            have hxr := hrng x (List.mem_of_getElem? hx)
            have htk := runO_take (L := cs) (st := newS c) hx
            rw [hrun] at htk
            obtain ⟨i, rfl⟩ : ∃ i : Nat, x = i := ⟨x.toNat, by omega⟩
            have hi : i < cs.length := by omega
            obtain ⟨bq, off, rfl, hcap, hbq, hA⟩ := crow_at hC (by omega)
            have hld := (hA.below hR3.bl hbq).load (getC_some hi)
            have hcm : getC cs i ∈ cs := List.mem_of_getElem? (getC_some hi)
            have hcok := hok _ hcm
            have hcd := hd _ hcm
            have hnx : nx cs M'.st i = nextS M'.st (getC cs i) := rfl
            generalize getC cs i = q at *
            have hne := next_any b' M' q wr k hR3.at_ hMok (by omega) hcok hcd
            have Htk := Lib.hid htk
            clear htk hrun
            cases hn : nextS M'.st q with
            | none =>
              have hv2 : validE c o cs = 26 := by
                rw [hv, runO_none (k := k + 1) (by rw [Htk.out]; show nx cs M'.st i = none; rw [hnx, hn])]
              go_wp2_with (go_at_call 66; refine hne.mono ?_; rintro e w4 ⟨b4, M4, he, hR4, hst4⟩; rw [hn] at he; subst he)
              go_returns
              exact ⟨by rw [hv2]; rfl, (Run.up hR4 hR3.bl).bl⟩
            | some t =>
              have hr2 : runO cs (newS c) (o.take (k + 1)) = some t := by rw [Htk.out]; show nx cs M'.st i = some t; rw [hnx, hn]
              have htok := next_ok hMok hcok hn
              go_wp2_with (go_at_call 66; refine hne.mono ?_; rintro e w4 ⟨b4, M4, he, hR4, hst4⟩; rw [hn] at he; subst he)
              go_roundw
              case rel => exact ⟨k + 1, b4, M4, by go_num, rfl, by omega, Run.up hR4 hR3.bl, by rw [hr2, hst4 t hn], by rw [hst4 t hn]; exact htok⟩
              case measure => simp [intOf]; omega
          · have hke : k = o.length := by omega
            subst hke
            rw [List.take_length] at hrun
            rw [hrun] at hv
            have hb3 := hR3.bl
            clear hR3 hR2 hMok
            go_wp2
            go_loopw [14, 15, 57] (fun x14 x15 i wq => ∃ k : Nat, i = .int .i64 k ∧ k ≤ cs.length ∧ Below w.heap.size w wq ∧ ∀ j, j < k → (decide ((getC cs j).answered < 0) || o.contains (j : Int)) = true) (fun x14 x15 i wq => cs.length - (intOf i).toNat)
            case atStart => exact ⟨0, rfl, by omega, hb3, fun j hj => by omega⟩
            case round =>
              clear hb3 hrun
              obtain ⟨k, rfl, hk, hB, hall⟩ := hrel
              by_cases hlt : k < cs.length
              · obtain ⟨bq, off, rfl, hcap, hbq, hA⟩ := crow_at hC (by omega)
                have hld := (hA.below hB hbq).load (getC_some hlt)
                have hno := fun (h : (decide ((getC cs k).answered < 0) || o.contains (k : Int)) = false) => (all_no (n := cs.length) (q := fun j => decide ((getC cs j).answered < 0) || o.contains (j : Int)) hlt h)
                have hstep := fun (h : (decide ((getC cs k).answered < 0) || o.contains (k : Int)) = true) => (show ∀ j, j < k + 1 → (decide ((getC cs j).answered < 0) || o.contains (j : Int)) = true from fun j hj => by
                  rcases Nat.lt_or_ge j k with h' | h'
                  · exact hall j h'
                  · have : j = k := by omega
                    subst this; exact h)
                have Hstep := Lib.hid hstep
                have Hno := Lib.hid hno
                clear hstep hno hall
                generalize getC cs k = q at *
                have hBa : Below w.heap.size w (wr.alloc (.cells (callL q).toArray 56)) := hB.alloc hB.size _
                by_cases hans : 0 ≤ q.answered
                · have hd1 : decide (0 ≤ q.answered) = true := by simpa using hans
                  have hd2 : decide (q.answered < 0) = false := by simpa using hans
                  have hct := contains_any po co o k _ (hO.on hBa) (by omega)
                  generalize hcc : o.contains (k : Int) = cc at hct
                  have Hcc := Lib.hid hcc
                  clear hcc
                  have hb4 : ∀ w5, Below (wr.alloc (.cells (callL q).toArray 56)).heap.size (wr.alloc (.cells (callL q).toArray 56)) w5 → Below w.heap.size w w5 := fun w5 h => hBa.trans (h.mono hBa.size)
                  cases cc with
                  | true =>
                    go_wp2_with (go_at_call 71; refine hct.mono ?_; rintro e w5 ⟨rfl, hb5⟩)
                    go_roundw
                    case rel => exact ⟨k + 1, by go_num, by omega, hb4 _ hb5, Hstep.out (by rw [Hcc.out]; simp)⟩
                    case measure => simp [intOf]; omega
                  | false =>
                    have hv2 : validE c o cs = 26 := by
                      have := Hno.out (by rw [Hcc.out, hd2]; rfl)
                      rw [hv]; unfold hasAll; rw [this]; rfl
                    go_wp2_with (go_at_call 71; refine hct.mono ?_; rintro e w5 ⟨rfl, hb5⟩)
                    go_returns
                    exact ⟨by rw [hv2]; rfl, hb4 _ hb5⟩
                · have hd1 : decide (0 ≤ q.answered) = false := by simpa using hans
                  go_wp2
                  go_roundw
                  case rel => exact ⟨k + 1, by go_num, by omega, hBa, Hstep.out (by have h1 : decide (q.answered < 0) = true := (by simpa using hans); rw [h1]; rfl)⟩
                  case measure => simp [intOf]; omega
              · have hke : k = cs.length := by omega
                subst hke
                have hv2 : validE c o cs = 0 := by
                  rw [hv]; unfold hasAll; rw [all_yes hall]; rfl
                go_wp2
                go_returns
                exact ⟨by rw [hv2]; rfl, hB⟩
    · rw [if_pos ha] at hv
      have hda : ((agreesP o cs).2 != 0) = true := by simpa using ha
      generalize (agreesP o cs).2 = ae at *
      generalize (agreesP o cs).1 = ab at *
      go_enter Tryz.func28, Tryz.ntmps28
      go_wp2_with (first | (go_at_call 61; refine hst.mono ?_; rintro e w1 ⟨b, M, rfl, hR, hM⟩; have hb1 := hB0.trans (hR.bl.mono hB0.size)) | (go_at_call 55; refine (hag _ hb1).mono ?_; rintro e w2 ⟨rfl, hb2⟩))
      go_returns
      exact ⟨by rw [hv]; rfl, hb1.trans (hb2.mono hb1.size)⟩
  · have hst := start_no (hC.on hB0) hs hok h0
    have hf : validE c o cs = startE c cs := by unfold validE; rw [if_pos h0]
    have hd : (startE c cs != 0) = true := by simpa using h0
    generalize startE c cs = sE at *
    unfold CfgV.v at *
    go_enter Tryz.func28, Tryz.ntmps28
    go_wp2_with (go_at_call 61; refine hst.mono ?_; rintro e w1 ⟨rfl, hb1⟩)
    go_returns
    exact ⟨by rw [hf]; rfl, hB0.trans (hb1.mono hB0.size)⟩
end Go.Proofs.YtdeiocppghhfdaaGreat.Lin
namespace Go.Proofs.YtdeiocppghhfdaaGreat.Lin
set_option linter.unusedVariables false
set_option linter.unusedSimpArgs false
set_option maxRecDepth 100000
set_option maxHeartbeats 8000000
open Go.RowKit Go.Lib Go.Shelf
open Hs
open KitI (own_below)
attribute [local go_sem, local simp] Hs.callL_0 Hs.callL_1 Hs.callL_2 Hs.callL_3 Hs.callL_4 Hs.callL_5 Hs.callL_6 Hs.callL_7 Hs.callL_8 Hs.callL_9 Hs.callL_10 Hs.callL_11 Hs.callL_12 Hs.callL_13 Hs.callL_14 Hs.callL_15 Hs.callL_16 Hs.callL_17 Hs.callL_18 Hs.callL_19 Hs.callL_20 Hs.callL_21 Hs.callL_22 Hs.callL_23 Hs.callL_24 Hs.callL_25 Hs.callL_26 Hs.resL_0 Hs.resL_1 Hs.resL_2 Hs.resL_3 Hs.resL_4 Hs.resL_5 Hs.resL_6 Hs.resL_7 Hs.resL_8 Hs.resL_9 Hs.resL_10 Hs.resL_11 Hs.resL_12 Hs.callG_0 Hs.callG_1 Hs.callG_2 Hs.callG_3 Hs.callG_4 Hs.callG_5 Hs.callG_6 Hs.callG_7 Hs.callG_8 Hs.callG_9 Hs.callG_10 Hs.callG_11 Hs.callG_12 Hs.callG_13 Hs.callG_14 Hs.callG_15 Hs.callG_16 Hs.callG_17 Hs.callG_18 Hs.callG_19 Hs.callG_20 Hs.callG_21 Hs.callG_22 Hs.callG_23 Hs.callG_24 Hs.callG_25 Hs.callG_26 Hs.resG_0 Hs.resG_1 Hs.resG_2 Hs.resG_3 Hs.resG_4 Hs.resG_5 Hs.resG_6 Hs.resG_7 Hs.resG_8 Hs.resG_9 Hs.resG_10 Hs.resG_11 Hs.resG_12 Hs.callL_len Hs.resL_len
attribute [local go_sem ↓] Hs.loadCall_eq Hs.loadRes_eq
attribute [local go_sem] Hs.ld_new Hs.ld_first Hs.ld_second Hs.ldr_new Hs.st_new
def fewN (m : Nat) (cs : List CallV) : List CallV := (cs.take m).map fun c => (cut100 c).pure
theorem fewN_len (m : Nat) (cs : List CallV) : (fewN m cs).length ≤ m := by unfold fewN; simp; omega
theorem fewN_nil (m : Nat) : fewN m [] = [] := by simp [fewN]
theorem fewN_step {m : Nat} {cs : List CallV} {k : Nat} {c : CallV} (h : cs[k]? = some c) (hk : k < m) : fewN m (cs.take (k + 1)) = fewN m (cs.take k) ++ [(cut100 c).pure] := by
  unfold fewN
  rw [List.take_take, List.take_take, Nat.min_eq_right (by omega), Nat.min_eq_right (by omega), List.take_add_one, h, Option.toList_some, List.map_append]
  rfl
attribute [local go_sem, local simp] fold_call
def FewRel (m : Nat) (w : World) (cs : List CallV) (o i : Value) (wr : World) : Prop :=
  ∃ k : Nat, i = .int .i64 k ∧ k ≤ m ∧ k ≤ cs.length ∧ ORow w w.heap.size wr o (fewN m (cs.take k)) ∧ Below w.heap.size w wr
attribute [local go_sem, local simp] fold_call
theorem few36_some (m : Nat) (hm24 : m ≤ 24) (b off cap : Nat) (cs : List CallV) (w : World) (hb : b < w.heap.size) (hC : CAt w b off cs) (hs : cs.length < 9223372036854775808) (hd : ∀ c ∈ cs, DRaw w c) :
    Calls Tryz.prog 18 #[.slice (some ⟨b, off, none⟩) cs.length cap, .int .i64 m] w fun e w' => ∃ v, e = .returned v ∧ ORow w w.heap.size w' v (fewN m cs) ∧ Below w.heap.size w w' := by
  obtain ⟨i0, hi, hz0, hz1, hz2⟩ := info_parts infoC
  go_enter Tryz.func18, Tryz.ntmps18
  go_wp2
  go_loopw [5, 6] (fun o i wr => FewRel m w cs o i wr) (fun o i wr => cs.length - (intOf i).toNat)
  case atStart => exact ⟨0, rfl, by omega, by omega, (by rw [List.take_zero, fewN_nil]; exact ORow.nil _ _ _), Below.refl _ _⟩
  case round =>
    obtain ⟨k, rfl, hk, hk2, hR, hB⟩ := hrel
    by_cases hlt : k < cs.length
    · by_cases h24 : k < m
      · obtain ⟨c, hc⟩ : ∃ c, cs[k]? = some c := ⟨_, List.getElem?_eq_getElem hlt⟩
        have hld := (hC.below hB hb).load hc
        have hdm : decide (k < m) = true := by simpa using h24
        have hst := fewN_step hc h24
        have hle := Nat.le_trans (fewN_len m (cs.take k)) hm24
        have hdc := (hd c (List.mem_of_getElem? hc)).on hB
        generalize fewN m (cs.take k) = L at *
        have Hst := Lib.hid hst
        clear hst hc
        have hBa : Below wr.heap.size wr (wr.alloc (.cells (callL c).toArray 56)) := (Below.refl _ _).alloc (Nat.le_refl _) _
        have hBa2 : Below wr.heap.size wr (wr.alloc (.cells (callL (cut100 c)).toArray 56)) := (Below.refl _ _).alloc (Nat.le_refl _) _
        have cp := copycall_any (cut100 c) (wr.alloc (.cells (callL (cut100 c)).toArray 56)) ((hdc.on hBa2).cut)
        have hB5 := hB.trans (hBa2.mono hB.size)
        have hR2 := hR.on hBa2
        have hld2 := ld_new wr (cut100 c)
        clear hR
        rcases hdc with ⟨h2, h3⟩ | ⟨b', off', h1, h4, h5, h2, h3⟩
        · have hset := call_cut c (min (0 : Int) 100).toNat (by rw [h2]; rfl)
          have q26 := callL_26 c
          have g26 := callG_26 c
          rw [h2, List.length_nil] at q26 g26
          cases hda : c.da with
          | none =>
            rw [hda] at q26 g26 hset
            rw [h3 hda] at q26 g26 hset
            clear h2 h3 hda
            go_wp2_with fail
            refine cp.mono ?_
            clear cp hset q26 g26 hld2
            rintro e w2 ⟨c', rfl, hpu, hDc, hB2⟩
            have hsz : w.heap.size ≤ w2.heap.size := Nat.le_trans hB5.size hB2.size
            have hBw := hB5.trans (hB2.mono hB5.size)
            have hDw := hDc.mono hB5.size
            have hR3 := hR2.on hB2
            clear hR2 hB2 hB5 hDc hBa hBa2 hld
            obtain ⟨cs', hm, hown2, hD2⟩ := hR3
            have hlen : cs'.length ≤ 24 := by rw [← List.length_map (f := CallV.pure), hm]; exact hle
            have Hlen := Lib.hid hlen
            have hl1 := callL_len c'
            have ho1 := ones_call c'
            have hn1 := pieces_new w2 (callL c') 56
            clear hlen
            go_wp2_with (at_builtin; (try simp only [fold_call]); refine wpList_append_own _ rfl _ _ 25 rfl w.heap.size 56 i0 _ 27 240 Tryz.underlying25 hi hz0 hz1 hz2 rfl (by decide) _ _ _ rfl (hown2.alloc _) ⟨_, 0, none⟩ 1 1 (callL c') rfl (by rw [hl1]) hn1 ho1 (by have := Hlen.out; unfold maxLen; omega) (by have := Hlen.out; omega) (by simp; omega) ?_; intro v' w3 hown' hgrow _)
            have hB3 := (hBw.alloc hsz _).grown hgrow (by simp; omega) fun k hk => (hown2.lt k hk).1
            go_roundw
            case rel => exact ⟨k + 1, by go_num, by omega, by omega, ⟨cs' ++ [c'], by rw [List.map_append, hm, Hst.out, List.map_singleton, hpu], by rw [callsL_snoc, List.length_append]; exact hown', fun c hc => by
                rcases List.mem_append.1 hc with hc | hc
                · exact ((hD2 c hc).on ((Below.refl _ _).alloc (Nat.le_refl _) _)).grown (hown2.alloc _) hgrow
                · rw [List.mem_singleton.1 hc]; exact (hDw.on ((Below.refl _ _).alloc (Nat.le_refl _) _)).grown (hown2.alloc _) hgrow⟩, hB3⟩
            case measure => simp [intOf]; omega
          | some ad =>
            rw [hda] at q26 g26 hset
            clear h2 h3 hda
            go_wp2_with fail
            refine cp.mono ?_
            clear cp hset q26 g26 hld2
            rintro e w2 ⟨c', rfl, hpu, hDc, hB2⟩
            have hsz : w.heap.size ≤ w2.heap.size := Nat.le_trans hB5.size hB2.size
            have hBw := hB5.trans (hB2.mono hB5.size)
            have hDw := hDc.mono hB5.size
            have hR3 := hR2.on hB2
            clear hR2 hB2 hB5 hDc hBa hBa2 hld
            obtain ⟨cs', hm, hown2, hD2⟩ := hR3
            have hlen : cs'.length ≤ 24 := by rw [← List.length_map (f := CallV.pure), hm]; exact hle
            have Hlen := Lib.hid hlen
            have hl1 := callL_len c'
            have ho1 := ones_call c'
            have hn1 := pieces_new w2 (callL c') 56
            clear hlen
            go_wp2_with (at_builtin; (try simp only [fold_call]); refine wpList_append_own _ rfl _ _ 25 rfl w.heap.size 56 i0 _ 27 240 Tryz.underlying25 hi hz0 hz1 hz2 rfl (by decide) _ _ _ rfl (hown2.alloc _) ⟨_, 0, none⟩ 1 1 (callL c') rfl (by rw [hl1]) hn1 ho1 (by have := Hlen.out; unfold maxLen; omega) (by have := Hlen.out; omega) (by simp; omega) ?_; intro v' w3 hown' hgrow _)
            have hB3 := (hBw.alloc hsz _).grown hgrow (by simp; omega) fun k hk => (hown2.lt k hk).1
            go_roundw
            case rel => exact ⟨k + 1, by go_num, by omega, by omega, ⟨cs' ++ [c'], by rw [List.map_append, hm, Hst.out, List.map_singleton, hpu], by rw [callsL_snoc, List.length_append]; exact hown', fun c hc => by
                rcases List.mem_append.1 hc with hc | hc
                · exact ((hD2 c hc).on ((Below.refl _ _).alloc (Nat.le_refl _) _)).grown (hown2.alloc _) hgrow
                · rw [List.mem_singleton.1 hc]; exact (hDw.on ((Below.refl _ _).alloc (Nat.le_refl _) _)).grown (hown2.alloc _) hgrow⟩, hB3⟩
            case measure => simp [intOf]; omega
        · clear h3
          have hset := call_cut c (min (c.ps.length : Int) 100).toNat (by rw [List.length_take]; omega)
          have q26 := callL_26 c
          have g26 := callG_26 c
          rw [h1] at q26 g26 hset
          have hm1 : min (c.ps.length : Int) 100 ≤ (c.dc : Int) := by omega
          have hm0 : 0 ≤ min (c.ps.length : Int) 100 := by omega
          clear h1 h2
          go_wp2_with fail
          refine cp.mono ?_
          clear cp hset q26 g26 hld2
          rintro e w2 ⟨c', rfl, hpu, hDc, hB2⟩
          have hsz : w.heap.size ≤ w2.heap.size := Nat.le_trans hB5.size hB2.size
          have hBw := hB5.trans (hB2.mono hB5.size)
          have hDw := hDc.mono hB5.size
          have hR3 := hR2.on hB2
          clear hR2 hB2 hB5 hDc hBa hBa2 hld
          obtain ⟨cs', hm, hown2, hD2⟩ := hR3
          have hlen : cs'.length ≤ 24 := by rw [← List.length_map (f := CallV.pure), hm]; exact hle
          have Hlen := Lib.hid hlen
          have hl1 := callL_len c'
          have ho1 := ones_call c'
          have hn1 := pieces_new w2 (callL c') 56
          clear hlen
          go_wp2_with (at_builtin; (try simp only [fold_call]); refine wpList_append_own _ rfl _ _ 25 rfl w.heap.size 56 i0 _ 27 240 Tryz.underlying25 hi hz0 hz1 hz2 rfl (by decide) _ _ _ rfl (hown2.alloc _) ⟨_, 0, none⟩ 1 1 (callL c') rfl (by rw [hl1]) hn1 ho1 (by have := Hlen.out; unfold maxLen; omega) (by have := Hlen.out; omega) (by simp; omega) ?_; intro v' w3 hown' hgrow _)
          have hB3 := (hBw.alloc hsz _).grown hgrow (by simp; omega) fun k hk => (hown2.lt k hk).1
          go_roundw
          case rel => exact ⟨k + 1, by go_num, by omega, by omega, ⟨cs' ++ [c'], by rw [List.map_append, hm, Hst.out, List.map_singleton, hpu], by rw [callsL_snoc, List.length_append]; exact hown', fun c hc => by
              rcases List.mem_append.1 hc with hc | hc
              · exact ((hD2 c hc).on ((Below.refl _ _).alloc (Nat.le_refl _) _)).grown (hown2.alloc _) hgrow
              · rw [List.mem_singleton.1 hc]; exact (hDw.on ((Below.refl _ _).alloc (Nat.le_refl _) _)).grown (hown2.alloc _) hgrow⟩, hB3⟩
          case measure => simp [intOf]; omega
      · have hkk : k = m := by omega
        subst hkk
        go_wp2
        go_returns
        have e : fewN k cs = fewN k (cs.take k) := by unfold fewN; rw [List.take_take, Nat.min_self]
        exact ⟨_, rfl, by rw [e]; exact hR, hB⟩
    · have hkk : k = cs.length := by omega
      subst hkk
      rw [List.take_length] at hR
      go_wp2
      go_returns
      exact ⟨_, rfl, hR, hB⟩
theorem few36_nil (m : Nat) (p : Option Addr) (cap : Nat) (w : World) : Calls Tryz.prog 18 #[.slice p 0 cap, .int .i64 m] w fun e w' => ∃ v, e = .returned v ∧ ORow w w.heap.size w' v (fewN m []) ∧ Below w.heap.size w w' := by
  go_enter Tryz.func18, Tryz.ntmps18
  go_wp2
  refine wp_loop_rounds 1 ?_
  rw [rounds_succ]
  go_wp2
  go_returns
  exact ⟨_, rfl, (by rw [fewN_nil]; exact ORow.nil _ _ _), Below.refl _ _⟩
theorem few36_any (m : Nat) (hm : m ≤ 24) (p : Option Addr) (cap : Nat) (cs : List CallV) (w : World) (hA : ArgRow w p cs) : Calls Tryz.prog 18 #[.slice p cs.length cap, .int .i64 m] w fun e w' => ∃ v, e = .returned v ∧ ORow w w.heap.size w' v (fewN m cs) ∧ Below w.heap.size w w' := by
  rcases hA with rfl | ⟨b, off, rfl, h2, h3, h4, h5⟩
  · exact few36_nil m p cap w
  · exact few36_some m hm b off cap cs w h2 h3 h4 fun c hc => (h5 c hc).2
theorem fewN_mem {m : Nat} {cs : List CallV} {x : CallV} (h : x ∈ fewN m cs) : ∃ c ∈ cs, x = (cut100 c).pure := by
  unfold fewN at h
  obtain ⟨c, hc, rfl⟩ := List.mem_map.1 h
  exact ⟨c, List.mem_of_mem_take hc, rfl⟩
theorem fewN_ok {w : World} {p : Option Addr} {m : Nat} {cs : List CallV} (hA : ArgRow w p cs) : ∀ c ∈ fewN m cs, c.Ok := fun c hc => by
  obtain ⟨d, hd, rfl⟩ := fewN_mem hc
  rcases hA with rfl | ⟨_, _, _, _, _, _, h⟩
  · cases hd
  · exact cut_ok (h d hd).1
theorem few36_h (m : Nat) (hm : m ≤ 24) (p : Option Addr) (cap : Nat) (cs : List CallV) (w : World) (hA : ArgRow w p cs) :
    Calls Tryz.prog 18 #[.slice p cs.length cap, .int .i64 m] w fun e w' => ∃ p' cap' hs, e = .returned (.slice p' hs.length cap') ∧ hs.map CallV.pure = fewN m cs ∧ HRow w' p' cap' hs ∧ w'.ownsRow w.heap.size 56 27 (.slice p' hs.length cap') hs.length (callsL hs) ∧ Below w.heap.size w w' := by
  refine (few36_any m hm p cap cs w hA).mono ?_
  rintro e w' ⟨v, rfl, ⟨hs, h1, h2, h3⟩, hB⟩
  obtain ⟨p', cap', hv, hC⟩ := crow_of_own h2
  subst hv
  refine ⟨p', cap', hs, rfl, h1, ⟨hC, fun c hc => (h3 c hc).at, fun c hc => ?_, ?_⟩, h2, hB⟩
  · have hmm : c.pure ∈ fewN m cs := by rw [← h1]; exact List.mem_map_of_mem hc
    exact pure_ok (d := c.pure) rfl (fewN_ok hA _ hmm)
  · have := congrArg List.length h1
    rw [List.length_map] at this
    have := fewN_len m cs
    omega
end Go.Proofs.YtdeiocppghhfdaaGreat.Lin
namespace Go.Proofs.YtdeiocppghhfdaaGreat.Lin
set_option linter.unusedVariables false
set_option linter.unusedSimpArgs false
set_option maxRecDepth 100000
set_option maxHeartbeats 8000000
open Go.RowKit Go.Lib Go.Shelf
open Hs
open KitI (iv own_below)
attribute [local go_sem, local simp] Hs.callL_0 Hs.callL_1 Hs.callL_2 Hs.callL_3 Hs.callL_4 Hs.callL_5 Hs.callL_6 Hs.callL_7 Hs.callL_8 Hs.callL_9 Hs.callL_10 Hs.callL_11 Hs.callL_12 Hs.callL_13 Hs.callL_14 Hs.callL_15 Hs.callL_16 Hs.callL_17 Hs.callL_18 Hs.callL_19 Hs.callL_20 Hs.callL_21 Hs.callL_22 Hs.callL_23 Hs.callL_24 Hs.callL_25 Hs.callL_26 Hs.resL_0 Hs.resL_1 Hs.resL_2 Hs.resL_3 Hs.resL_4 Hs.resL_5 Hs.resL_6 Hs.resL_7 Hs.resL_8 Hs.resL_9 Hs.resL_10 Hs.resL_11 Hs.resL_12 Hs.callG_0 Hs.callG_1 Hs.callG_2 Hs.callG_3 Hs.callG_4 Hs.callG_5 Hs.callG_6 Hs.callG_7 Hs.callG_8 Hs.callG_9 Hs.callG_10 Hs.callG_11 Hs.callG_12 Hs.callG_13 Hs.callG_14 Hs.callG_15 Hs.callG_16 Hs.callG_17 Hs.callG_18 Hs.callG_19 Hs.callG_20 Hs.callG_21 Hs.callG_22 Hs.callG_23 Hs.callG_24 Hs.callG_25 Hs.callG_26 Hs.resG_0 Hs.resG_1 Hs.resG_2 Hs.resG_3 Hs.resG_4 Hs.resG_5 Hs.resG_6 Hs.resG_7 Hs.resG_8 Hs.resG_9 Hs.resG_10 Hs.resG_11 Hs.resG_12 Hs.callL_len Hs.resL_len
attribute [local go_sem ↓] Hs.loadCall_eq Hs.loadRes_eq
attribute [local go_sem] Hs.ld_new Hs.ld_first Hs.ld_second Hs.ldr_new Hs.st_new
theorem sum_min (f : Nat → Nat) (m a : Nat) : ∀ l : List Nat, min (a + (l.map fun y => min (f y) m).sum) m = min (a + (l.map f).sum) m
  | [] => rfl
  | x :: l => by
    have h1 := sum_min f m a l
    simp only [List.map_cons, List.sum_cons]
    omega
theorem grown_below {W W' : World} {row : Option Nat} (h : Below W.heap.size W W') : W.grownBy W' row := ⟨h.os, h.tape, h.output, h.size, fun k hk _ => h.block k hk⟩
theorem grown_refl (W : World) (row : Option Nat) : W.grownBy W row := ⟨rfl, rfl, rfl, Nat.le_refl _, fun _ _ _ => rfl⟩
theorem grown_trans {A B C : World} {row : Option Nat} (h : A.grownBy B row) (k : B.grownBy C row) : A.grownBy C row := ⟨k.os.trans h.os, k.tape.trans h.tape, k.output.trans h.output, Nat.le_trans h.size k.size, fun j hj hne => (k.block j (Nat.lt_of_lt_of_le hj h.size) hne).trans (h.block j hj hne)⟩
def SeenPr (cs : List CallV) (most : Nat) (u : Int) (k : ByteArray) (v : Value) : Prop := ∀ (x : Nat) (st : MS), (x : Int) = u → MSok st 100000 → k = strOf (keyL st) → v = .int .i64 (min (CC cs st x) most : Nat)
abbrev countFn : FuncId := 69
def countV (n0 s : Nat) : Value := .func (.func countFn) #[] #[.pointer (some ⟨s + 2, 0, none⟩), .pointer (some ⟨s + 1, 0, none⟩), .pointer (some ⟨n0 + 2, 0, none⟩), .pointer (some ⟨s + 3, 0, none⟩), .pointer (some ⟨n0 + 1, 0, none⟩)]
structure CE (n0 s : Nat) (w0 : World) (p : Option Addr) (cap : Nat) (cs : List CallV) (most nm : Nat) (W : World) : Prop where
  bel : Below n0 w0 W
  le : s + 4 ≤ W.heap.size
  cm : W.cell? ⟨n0 + 1, 0, none⟩ = some (.int .i64 most)
  cl : W.cell? ⟨n0 + 2, 0, none⟩ = some (.slice p cs.length cap)
  mp : MapP W 3 s nm (SeenPr cs most)
  ca : W.cell? ⟨s + 1, 0, none⟩ = some (.int .i64 (allB cs cs.length : Nat))
  cd : W.cell? ⟨s + 2, 0, none⟩ = some (.map (some s))
  cf : W.cell? ⟨s + 3, 0, none⟩ = some (countV n0 s)
section
variable {n0 s : Nat} {w0 : World} {p : Option Addr} {cap : Nat} {cs : List CallV} {most nm nm' : Nat} {W W' : World}
theorem CE.step (h : CE n0 s w0 p cap cs most nm W) (hg : W.grownBy W' (some s)) (hs : n0 + 3 ≤ s) (hm : MapP W' 3 s nm' (SeenPr cs most)) : CE n0 s w0 p cap cs most nm' W' := by
  have hc : ∀ j o, j < s + 4 → j ≠ s → W'.cell? ⟨j, o, none⟩ = W.cell? ⟨j, o, none⟩ := fun j o h1 h2 => World.cell?_of_block (a := ⟨j, o, none⟩) (hg.block j (by have := h.le; omega) (fun e => h2 (Option.some.inj e)))
  refine ⟨h.bel.trans ⟨hg.os, hg.tape, hg.output, hg.size, fun k hk => hg.block k (by have := h.le; omega) (fun e => by injection e with e; omega)⟩, Nat.le_trans h.le hg.size, ?_, ?_, hm, ?_, ?_, ?_⟩
  · rw [hc _ _ (by omega) (by omega)]; exact h.cm
  · rw [hc _ _ (by omega) (by omega)]; exact h.cl
  · rw [hc _ _ (by omega) (by omega)]; exact h.ca
  · rw [hc _ _ (by omega) (by omega)]; exact h.cd
  · rw [hc _ _ (by omega) (by omega)]; exact h.cf
theorem CE.on (h : CE n0 s w0 p cap cs most nm W) (hb : Below W.heap.size W W') (hs : n0 + 3 ≤ s) : CE n0 s w0 p cap cs most nm W' := h.step (grown_below hb) hs (h.mp.keep (hb.block _ h.mp.lt))
theorem CE.blk (h : CE n0 s w0 p cap cs most nm W) (hg : W.grownBy W' (some s)) {j : Nat} {c : Array Value} {T : TypeId} {r : Nat × Nat} (hj : W.heap[j]? = some (.cells c T r)) : W'.heap[j]? = some (.cells c T r) := by
  refine (hg.block j (Array.getElem?_eq_some_iff.1 hj).1 fun e => ?_).trans hj
  injection e with e
  subst e
  obtain ⟨es, ck, hm, _⟩ := h.mp
  rw [hm] at hj; cases hj
theorem CE.row (h : CE n0 s w0 p cap cs most nm W) (hg : W.grownBy W' (some s)) {base sz n : Nat} {e : TypeId} {x : Value} {xs : List Value} (ho : W.ownsRow base e sz x n xs) : W'.ownsRow base e sz x n xs := by
  refine ⟨ho.1, ?_⟩
  rcases ho.2 with hn | ⟨g, cap, cur, rfl, hB, hc, rest⟩
  · exact .inl hn
  · exact .inr ⟨g, cap, cur, rfl, hB, h.blk hg hc, rest⟩
theorem CE.model (h : CE n0 s w0 p cap cs most nm W) (hg : W.grownBy W' (some s)) {b : Nat} {M : MM} (hM : MdAt W b M) : MdAt W' b M :=
  ⟨h.blk hg hM.blk, h.row hg hM.marks, h.row hg hM.seats, fun S hS => h.row hg (hM.slots S hS), fun S hS x hx => h.row hg (hM.smarks S hS x hx), hM.some_, hM.nodup⟩
end
def psum (cs : List CallV) (most : Nat) (st : MS) (u j : Nat) : Nat := (if fullB cs u then 1 else 0) + ((List.range j).map fun y => min (tryC cs.length (nx cs) (rdyB cs) (fullB cs) st u y) most).sum
theorem psum_step (cs : List CallV) (most : Nat) (st : MS) (u j : Nat) : psum cs most st u (j + 1) = psum cs most st u j + min (tryC cs.length (nx cs) (rdyB cs) (fullB cs) st u j) most := by
  unfold psum; rw [List.range_succ, List.map_append, List.sum_append]; simp; omega
theorem psum_le (cs : List CallV) (most : Nat) (st : MS) (u : Nat) : ∀ j, psum cs most st u j ≤ 1 + j * most
  | 0 => by unfold psum; simp; split <;> omega
  | j + 1 => by have := psum_le cs most st u j; rw [psum_step, Nat.succ_mul]; omega
theorem psum_all (cs : List CallV) (most : Nat) (st : MS) (u : Nat) : min (psum cs most st u cs.length) most = min (CC cs st u) most := by
  unfold psum; rw [sum_min, ← C_eq]
def CPost (n0 s : Nat) (w0 : World) (p : Option Addr) (cap : Nat) (cs : List CallV) (most nm k : Nat) (st : MS) (u : Nat) (W : World) (e : Ending) (W' : World) : Prop :=
  e = .returned (.int .i64 (min (CC cs st u) most : Nat)) ∧ ∃ nm', nm' ≤ nm + 11 ^ k ∧ CE n0 s w0 p cap cs most nm' W' ∧ W.grownBy W' (some s)
def CCall (n0 s : Nat) (w0 : World) (p : Option Addr) (cap : Nat) (cs : List CallV) (most k : Nat) : Prop :=
  ∀ (W : World) (b : Nat) (M : MM) (st : MS) (u nm : Nat) (K : Int), MdAt W b M → M.st = st → MSok st K → K + k ≤ 100000 → fr cs.length u ≤ k → u < 2 ^ 10 → CE n0 s w0 p cap cs most nm W → nm + 11 ^ k ≤ 11 ^ 12 → k ≤ 10 →
    Calls Tryz.prog countFn #[.pointer (some ⟨b, 0, none⟩), .int .i64 u, .pointer (some ⟨s + 2, 0, none⟩), .pointer (some ⟨s + 1, 0, none⟩), .pointer (some ⟨n0 + 2, 0, none⟩), .pointer (some ⟨s + 3, 0, none⟩), .pointer (some ⟨n0 + 1, 0, none⟩)] W (CPost n0 s w0 p cap cs most nm k st u W)
def CRel (n0 s : Nat) (w0 : World) (p : Option Addr) (cap : Nat) (cs : List CallV) (most nm k : Nat) (st : MS) (u : Nat) (w2 : World) (x i : Value) (wr : World) : Prop :=
  ∃ j nm' : Nat, i = .int .i64 j ∧ x = .int .i64 (psum cs most st u j : Nat) ∧ j ≤ cs.length ∧ nm' ≤ nm + j * k ∧ CE n0 s w0 p cap cs most nm' wr ∧ w2.grownBy wr (some s)
theorem crel_next {n0 s : Nat} {w0 : World} {p : Option Addr} {cap : Nat} {cs : List CallV} {most nm k : Nat} {st : MS} {u : Nat} {w2 wr : World} {j nm' : Nat} {x : Value} (hE : CE n0 s w0 p cap cs most nm' wr) (hk : w2.grownBy wr (some s))
    (hx : x = .int .i64 ((psum cs most st u j : Nat) + (min (tryC cs.length (nx cs) (rdyB cs) (fullB cs) st u j) most : Nat) : Int)) (hj : j < cs.length) (hn : nm' ≤ nm + (j + 1) * k) :
    CRel n0 s w0 p cap cs most nm k st u w2 x (.int .i64 ((j : Int) + 1)) wr :=
  ⟨j + 1, nm', by go_num, by rw [hx, psum_step]; simp, by omega, hn, hE, hk⟩
theorem count_step {n0 s : Nat} {w0 : World} {p : Option Addr} {cap : Nat} {cs : List CallV} {most k : Nat} (hs : n0 + 3 ≤ s) (hC : ∀ W, Below n0 w0 W → CRow W p cap cs) (hl : cs.length ≤ 10) (hmost : most ≤ 1000000) (hok : ∀ c ∈ cs, c.Ok) (hd : ∀ c ∈ cs, c.ps.length ≤ 1000000)
    (ih : ∀ j, j < k → CCall n0 s w0 p cap cs most j) : CCall n0 s w0 p cap cs most k := by
  intro W b M st u nm K hM hst hMok hK hfr hu hE hnm hk10
  subst hst
  obtain ⟨X, hX1, hX2⟩ : ∃ X, (∀ j, k = j + 1 → X = 11 ^ j) ∧ 10 * X + 1 ≤ 11 ^ k := by
    cases k with
    | zero => exact ⟨0, fun j h => by omega, by decide⟩
    | succ k => exact ⟨11 ^ k, fun j h => by cases h; rfl, by have : 0 < 11 ^ k := Nat.pow_pos (by omega); rw [Nat.pow_succ]; omega⟩
  have hfm := full_mask cs u
  have hal := allB_lt cs cs.length 10 hl
  have hand := bits_and u (allB cs cs.length) (by omega) (by omega)
  have hbool : (bits .and .i64 (u : Int) (allB cs cs.length : Nat) == ((allB cs cs.length : Nat) : Int)) = fullB cs u := by
    rw [hand, ← hfm, Bool.eq_iff_iff]; simp; omega
  have hwf := wf_nat (u := u) (by omega)
  have hkey := key_any b M W K hM hMok
  have hp0 : psum cs most M.st u 0 = if fullB cs u then 1 else 0 := rfl
  clear hand hfm
  generalize hf : fullB cs u = f at hbool hp0
  cases f with
  | true =>
    go_enter Tryz.func69, Tryz.ntmps69
    go_wp2_with (first | (go_at_call 64; refine hkey.mono ?_; rintro e w1 ⟨rfl, hb1⟩; have hb2 : Below W.heap.size W (w1.alloc (.cells #[.int .i64 u, .string (strOf (keyL M.st))] 105)) := hb1.alloc hb1.size _; have hE2 := hE.on hb2 hs; have c2 := hE2.cd; have c3 := hE2.cl; have c4 := hE2.ca; have hM2 := hM.below hb2; have hk2 : W.grownBy _ (some s) := grown_below hb2) | (at_lookup; refine wpList_look_int _ rfl _ _ 116 rfl 3 Tryz.underlying116 Tryz.underlying3 (by kernel_rfl) rfl hE2.mp u (strOf (keyL M.st)) rfl hwf (key_size M.st hMok) ?_; intro y cc hy))
    · have hyt : y = true := by assumption
      have h1 : Value.int .i64 cc = .int .i64 (min (CC cs M.st u) most : Nat) := hy hyt u M.st rfl (hMok.mono (by omega)) rfl
      go_returns
      refine ⟨by show Ending.returned (.int .i64 cc) = _; rw [h1], nm, Nat.le_add_right _ _, hE2, hk2⟩
    · skip
      obtain rfl : y = false := by first | assumption | (cases y <;> simp_all)
      clear hy hkey hbool c2 c3 c4 hM hE
      have hzz := heap_alloc_new w1 (.cells #[.int .i64 (u : Int), .string (strOf (keyL M.st))] 105)
      generalize w1.alloc (.cells #[.int .i64 (u : Int), .string (strOf (keyL M.st))] 105) = w2 at *
      generalize w1.heap.size = z at *
      go_loopw [13, 36] (fun x i wr => CRel n0 s w0 p cap cs most nm X M.st u w2 x i wr) (fun x i wr => cs.length - (intOf i).toNat)
      case atStart => exact ⟨0, nm, rfl, by rw [hp0]; rfl, by omega, by omega, hE2, grown_refl _ _⟩
      case round =>
        obtain ⟨j, nm', rfl, rfl, hj, hnm', hE3, hk3⟩ := hrel
        by_cases hlt : j < cs.length
        · have hnm1 : nm' ≤ nm + (j + 1) * X := by rw [Nat.succ_mul]; omega
          have hbit := shr_one u j (by omega)
          have c3 := hE3.cl
          cases hub : u.testBit j with
          | true =>
            rw [hub] at hbit
            simp only [if_true] at hbit
            have ht : tryC cs.length (nx cs) (rdyB cs) (fullB cs) M.st u j = 0 := by unfold tryC cand; rw [hub]; rfl
            go_wp2
            go_roundw
            case rel => exact crel_next hE3 hk3 (by rw [ht]; (try simp)) hlt hnm1
            case measure => simp [intOf]; omega
          | false =>
            rw [hub] at hbit
            simp only [Bool.false_eq_true, if_false] at hbit
            have hrd := fun W (h : Below n0 w0 W) => ready_any p cap cs u j W (hC W h) (by omega) (by omega) hlt
            generalize hr : rdyB cs u j = r at hrd
            cases r with
            | false =>
              have ht : tryC cs.length (nx cs) (rdyB cs) (fullB cs) M.st u j = 0 := by unfold tryC cand; rw [hub, hr]; rfl
              go_wp2_with (go_at_call 65; refine (hrd _ hE3.bel).mono ?_; rintro e w3 ⟨rfl, hb3⟩)
              have hk3' := grown_trans hk3 (grown_below hb3)
              have hE3' := hE3.on hb3 hs
              go_roundw
              case rel => exact crel_next hE3' hk3' (by rw [ht]; (try simp)) hlt hnm1
              case measure => simp [intOf]; omega
            | true =>
              have hcand : cand (rdyB cs) u j = true := by unfold cand; rw [hub, hr]; rfl
              have hfr2 := fr_or hlt hub
              obtain ⟨k', rfl⟩ : ∃ k', k = k' + 1 := ⟨k - 1, by omega⟩
              have hXe := hX1 k' rfl
              have hM3 := hE2.model hk3 hM2
              obtain ⟨bq, off, rfl, hcap, _, _⟩ := crow_at (hC w0 (Below.refl _ _)) (by omega)
              have hld := fun W (h : Below n0 w0 W) => (crow_get (hC W h)).load (getC_some hlt)
              have hcm : getC cs j ∈ cs := List.mem_of_getElem? (getC_some hlt)
              have hcok := hok _ hcm
              have hcd := hd _ hcm
              have hnx : ∀ st, nx cs st j = nextS st (getC cs j) := fun _ => rfl
              generalize getC cs j = c at *
              cases hn : nextS M.st c with
              | none =>
                have ht : tryC cs.length (nx cs) (rdyB cs) (fullB cs) M.st u j = 0 := by unfold tryC; rw [if_pos hcand, hnx, hn]
                go_wp2_with (first | (go_at_call 65; refine (hrd _ hE3.bel).mono ?_; rintro e w3 ⟨rfl, hb3⟩; have hk3' := hk3.trans (grown_below hb3); have hE3' := hE3.on hb3 hs; have hM3' := hM3.below hb3; have c3' := hE3'.cl; have ld3 := hld _ hE3'.bel) | (go_at_call 66; refine (next_any b M c _ K hM3' hMok (by omega) hcok hcd).mono ?_; rintro e w4 ⟨b4, M4, he, hR4, hst4⟩; rw [hn] at he hst4; subst he))
                have hE4 := hE3'.on hR4.bl hs
                have hk4 := grown_trans hk3' (grown_below hR4.bl)
                go_roundw
                case rel => exact crel_next hE4 hk4 (by rw [ht]; (try simp)) hlt hnm1
                case measure => simp [intOf]; omega
              | some t =>
                have ht : tryC cs.length (nx cs) (rdyB cs) (fullB cs) M.st u j = CC cs t (u ||| 2 ^ j) := by unfold tryC; rw [if_pos hcand, hnx, hn]
                have hor : bits .or .i64 (u : Int) (IntKind.i64.wrap (2 ^ j)) = ((u ||| 2 ^ j : Nat) : Int) := by
                  rw [sh_w (by omega)]
                  exact bits_or u (2 ^ j) (by omega) (Nat.pow_lt_pow_right (by omega) (by omega))
                have hu2 : u ||| 2 ^ j < 2 ^ 10 := Nat.or_lt_two_pow hu (Nat.pow_lt_pow_right (by omega) (by omega))
                have htok := next_ok hMok hcok hn
                have hps := psum_le cs most M.st u j
                have hjm : j * most ≤ 10 * 1000000 := Nat.mul_le_mul (by omega) hmost
                obtain ⟨g, hg⟩ : ∃ g, g = min (CC cs t (u ||| 2 ^ j)) most := ⟨_, rfl⟩
                have hgm : g ≤ most := by omega
                have hadd : IntKind.i64.wrap ((psum cs most M.st u j : Nat) + (g : Int)) = (psum cs most M.st u j : Nat) + (g : Int) := by rw [IntKind.wrap_i64]; omega
                have Hg := Lib.hid hg
                clear hg
                have Hps := Lib.hid hps
                clear hps
                go_wp2_with (first | (go_at_call 65; refine (hrd _ hE3.bel).mono ?_; rintro e w3 ⟨rfl, hb3⟩; have hk3' := hk3.trans (grown_below hb3); have hE3' := hE3.on hb3 hs; have hM3' := hM3.below hb3; have c3' := hE3'.cl; have ld3 := hld _ hE3'.bel) | (go_at_call 66; refine (next_any b M c _ K hM3' hMok (by omega) hcok hcd).mono ?_; rintro e w4 ⟨b4, M4, he, hR4, hst4⟩; rw [hn] at he hst4; subst he))
                have hE4 := hE3'.on hR4.bl hs
                have hk4 := grown_trans hk3' (grown_below hR4.bl)
                have hbd : Below w4.heap.size w4 w4.drew := (Below.refl _ _).drew
                have hE4d := hE4.on hbd hs
                have hih := ih k' (by omega) w4.drew b4 M4 t (u ||| 2 ^ j) nm' (K + 1) (hR4.at_.below hbd) (hst4 t rfl) htok (by omega) (by omega) hu2 hE4d (by rw [Nat.pow_succ] at hnm; have := Nat.mul_le_mul_right X (show j ≤ 9 by omega); omega) (by omega)
                clear ih
                refine wp_region_noPanic ?_
                refine wp_region_held_drew (S := fun W => W.cell? ⟨s + 3, 0, none⟩ = some (.func (.func 69) #[] #[.pointer (some ⟨s + 2, 0, none⟩), .pointer (some ⟨s + 1, 0, none⟩), .pointer (some ⟨n0 + 2, 0, none⟩), .pointer (some ⟨s + 3, 0, none⟩), .pointer (some ⟨n0 + 1, 0, none⟩)])) (by kernel_rfl) ?_ (fun hHeld => ?_)
                · first | exact hE4.cf | exact hE4d.cf | exact hE7.cf
                iterate 7 (first | (refine np_sn ?_; (try simp only [nSO])) | ((first | refine np_n ?_ ?_ ?_ | refine np_t 0 ?_ ?_ ?_); rotate_left 1; (· (intro w hSw; (try dsimp only at hSw); go_simp; all_goals with_reducible rfl)); (try simp only [nSO])))
                first | (refine np_s 7 ?_; (try simp only [nSO])) | (refine np_step (i := 7) rfl (by kernel_rfl) (fun K hK => ?_); rw [if_pos (by rfl)]; go_simp; ((go_at_call 69; refine hih.mono ?_; rintro e w7 ⟨he, nm7, hn7, hE7, hk7⟩; rw [← Hg.out] at he; subst he)); (try go_wp2_with fail); refine hK.out _ _ ?_ (fun hHeld => ?_); (· (first | exact hE4.cf | exact hE4d.cf | exact hE7.cf)); clear hK K; (try simp only [nSO]))
                iterate 2 (first | (refine np_sn ?_; (try simp only [nSO])) | (refine np_n ?_ ?_ ?_; rotate_left 1; (· (intro w hSw; (try dsimp only at hSw); go_simp; all_goals with_reducible rfl)); (try simp only [nSO])))
                refine wpAnyH_done (by kernel_rfl) ?_ _
                refine NoPanic.normal ?_
                have hnm8 : nm7 ≤ nm + (j + 1) * X := by rw [Nat.succ_mul]; omega
                have hk8 := grown_trans hk4 (grown_trans (grown_below hbd) hk7)
                go_wp2
                go_roundw
                case rel => exact crel_next hE7 hk8 (by rw [ht, ← Hg.out]) hlt hnm8
                case measure => simp [intOf]; omega
        · have hke : j = cs.length := by omega
          subst hke
          have hlx := Nat.mul_le_mul_right X hl
          have hall := psum_all cs most M.st u
          have hmn : min ((psum cs most M.st u cs.length : Nat) : Int) (most : Int) = ((min (CC cs M.st u) most : Nat) : Int) := by rw [← hall]; omega
          have hle : min (CC cs M.st u) most ≤ most := by omega
          have hPr : SeenPr cs most u (strOf (keyL M.st)) (.int .i64 (min (CC cs M.st u) most : Nat)) := fun x st hx hst hk => by
            have e := (key_iff hMok hst (by omega) (by omega)).1 hk
            subst e
            have e2 : x = u := by omega
            rw [e2]
          have hzb := hE2.blk hk3 hzz
          have e0 : wr.cell? ⟨z, 0, none⟩ = some (.int .i64 u) := blk_cell (L := [.int .i64 u, .string (strOf (keyL M.st))]) hzb 0
          have e1 : wr.cell? ⟨z, 1, none⟩ = some (.string (strOf (keyL M.st))) := blk_cell (L := [.int .i64 u, .string (strOf (keyL M.st))]) hzb 1
          have c3 := hE3.cd
          have c5 := hE3.cm
          have hwf2 := wf_nat (u := min (CC cs M.st u) most) (by omega)
          generalize hg0 : min (CC cs M.st u) most = g at *
          have Hg0 := Lib.hid hg0
          clear hg0
          generalize psum cs most M.st u cs.length = q at *
          go_wp2_with (at_mapUpdate; refine wpList_store_st _ rfl _ _ _ 116 rfl 3 Tryz.underlying116 rfl hE3.mp (by unfold maxLen; omega) u (strOf (keyL M.st)) (.int .i64 (g : Nat)) rfl rfl hwf (key_size M.st hMok) (plainElem_int Tryz.underlying3 hwf2) hPr ?_; intro w9 hm9 hg9)
          go_returns
          refine ⟨by rw [Hg0.out]; rfl, _, ?_, hE3.step hg9 hs hm9, grown_trans hk2 (grown_trans hk3 hg9)⟩
          omega
  | false =>
    go_enter Tryz.func69, Tryz.ntmps69
    go_wp2_with (first | (go_at_call 64; refine hkey.mono ?_; rintro e w1 ⟨rfl, hb1⟩; have hb2 : Below W.heap.size W (w1.alloc (.cells #[.int .i64 u, .string (strOf (keyL M.st))] 105)) := hb1.alloc hb1.size _; have hE2 := hE.on hb2 hs; have c2 := hE2.cd; have c3 := hE2.cl; have c4 := hE2.ca; have hM2 := hM.below hb2; have hk2 : W.grownBy _ (some s) := grown_below hb2) | (at_lookup; refine wpList_look_int _ rfl _ _ 116 rfl 3 Tryz.underlying116 Tryz.underlying3 (by kernel_rfl) rfl hE2.mp u (strOf (keyL M.st)) rfl hwf (key_size M.st hMok) ?_; intro y cc hy))
    · have hyt : y = true := by assumption
      have h1 : Value.int .i64 cc = .int .i64 (min (CC cs M.st u) most : Nat) := hy hyt u M.st rfl (hMok.mono (by omega)) rfl
      go_returns
      refine ⟨by show Ending.returned (.int .i64 cc) = _; rw [h1], nm, Nat.le_add_right _ _, hE2, hk2⟩
    · skip
      obtain rfl : y = false := by first | assumption | (cases y <;> simp_all)
      clear hy hkey hbool c2 c3 c4 hM hE
      have hzz := heap_alloc_new w1 (.cells #[.int .i64 (u : Int), .string (strOf (keyL M.st))] 105)
      generalize w1.alloc (.cells #[.int .i64 (u : Int), .string (strOf (keyL M.st))] 105) = w2 at *
      generalize w1.heap.size = z at *
      go_loopw [13, 36] (fun x i wr => CRel n0 s w0 p cap cs most nm X M.st u w2 x i wr) (fun x i wr => cs.length - (intOf i).toNat)
      case atStart => exact ⟨0, nm, rfl, by rw [hp0]; rfl, by omega, by omega, hE2, grown_refl _ _⟩
      case round =>
        obtain ⟨j, nm', rfl, rfl, hj, hnm', hE3, hk3⟩ := hrel
        by_cases hlt : j < cs.length
        · have hnm1 : nm' ≤ nm + (j + 1) * X := by rw [Nat.succ_mul]; omega
          have hbit := shr_one u j (by omega)
          have c3 := hE3.cl
          cases hub : u.testBit j with
          | true =>
            rw [hub] at hbit
            simp only [if_true] at hbit
            have ht : tryC cs.length (nx cs) (rdyB cs) (fullB cs) M.st u j = 0 := by unfold tryC cand; rw [hub]; rfl
            go_wp2
            go_roundw
            case rel => exact crel_next hE3 hk3 (by rw [ht]; (try simp)) hlt hnm1
            case measure => simp [intOf]; omega
          | false =>
            rw [hub] at hbit
            simp only [Bool.false_eq_true, if_false] at hbit
            have hrd := fun W (h : Below n0 w0 W) => ready_any p cap cs u j W (hC W h) (by omega) (by omega) hlt
            generalize hr : rdyB cs u j = r at hrd
            cases r with
            | false =>
              have ht : tryC cs.length (nx cs) (rdyB cs) (fullB cs) M.st u j = 0 := by unfold tryC cand; rw [hub, hr]; rfl
              go_wp2_with (go_at_call 65; refine (hrd _ hE3.bel).mono ?_; rintro e w3 ⟨rfl, hb3⟩)
              have hk3' := grown_trans hk3 (grown_below hb3)
              have hE3' := hE3.on hb3 hs
              go_roundw
              case rel => exact crel_next hE3' hk3' (by rw [ht]; (try simp)) hlt hnm1
              case measure => simp [intOf]; omega
            | true =>
              have hcand : cand (rdyB cs) u j = true := by unfold cand; rw [hub, hr]; rfl
              have hfr2 := fr_or hlt hub
              obtain ⟨k', rfl⟩ : ∃ k', k = k' + 1 := ⟨k - 1, by omega⟩
              have hXe := hX1 k' rfl
              have hM3 := hE2.model hk3 hM2
              obtain ⟨bq, off, rfl, hcap, _, _⟩ := crow_at (hC w0 (Below.refl _ _)) (by omega)
              have hld := fun W (h : Below n0 w0 W) => (crow_get (hC W h)).load (getC_some hlt)
              have hcm : getC cs j ∈ cs := List.mem_of_getElem? (getC_some hlt)
              have hcok := hok _ hcm
              have hcd := hd _ hcm
              have hnx : ∀ st, nx cs st j = nextS st (getC cs j) := fun _ => rfl
              generalize getC cs j = c at *
              cases hn : nextS M.st c with
              | none =>
                have ht : tryC cs.length (nx cs) (rdyB cs) (fullB cs) M.st u j = 0 := by unfold tryC; rw [if_pos hcand, hnx, hn]
                go_wp2_with (first | (go_at_call 65; refine (hrd _ hE3.bel).mono ?_; rintro e w3 ⟨rfl, hb3⟩; have hk3' := hk3.trans (grown_below hb3); have hE3' := hE3.on hb3 hs; have hM3' := hM3.below hb3; have c3' := hE3'.cl; have ld3 := hld _ hE3'.bel) | (go_at_call 66; refine (next_any b M c _ K hM3' hMok (by omega) hcok hcd).mono ?_; rintro e w4 ⟨b4, M4, he, hR4, hst4⟩; rw [hn] at he hst4; subst he))
                have hE4 := hE3'.on hR4.bl hs
                have hk4 := grown_trans hk3' (grown_below hR4.bl)
                go_roundw
                case rel => exact crel_next hE4 hk4 (by rw [ht]; (try simp)) hlt hnm1
                case measure => simp [intOf]; omega
              | some t =>
                have ht : tryC cs.length (nx cs) (rdyB cs) (fullB cs) M.st u j = CC cs t (u ||| 2 ^ j) := by unfold tryC; rw [if_pos hcand, hnx, hn]
                have hor : bits .or .i64 (u : Int) (IntKind.i64.wrap (2 ^ j)) = ((u ||| 2 ^ j : Nat) : Int) := by
                  rw [sh_w (by omega)]
                  exact bits_or u (2 ^ j) (by omega) (Nat.pow_lt_pow_right (by omega) (by omega))
                have hu2 : u ||| 2 ^ j < 2 ^ 10 := Nat.or_lt_two_pow hu (Nat.pow_lt_pow_right (by omega) (by omega))
                have htok := next_ok hMok hcok hn
                have hps := psum_le cs most M.st u j
                have hjm : j * most ≤ 10 * 1000000 := Nat.mul_le_mul (by omega) hmost
                obtain ⟨g, hg⟩ : ∃ g, g = min (CC cs t (u ||| 2 ^ j)) most := ⟨_, rfl⟩
                have hgm : g ≤ most := by omega
                have hadd : IntKind.i64.wrap ((psum cs most M.st u j : Nat) + (g : Int)) = (psum cs most M.st u j : Nat) + (g : Int) := by rw [IntKind.wrap_i64]; omega
                have Hg := Lib.hid hg
                clear hg
                have Hps := Lib.hid hps
                clear hps
                go_wp2_with (first | (go_at_call 65; refine (hrd _ hE3.bel).mono ?_; rintro e w3 ⟨rfl, hb3⟩; have hk3' := hk3.trans (grown_below hb3); have hE3' := hE3.on hb3 hs; have hM3' := hM3.below hb3; have c3' := hE3'.cl; have ld3 := hld _ hE3'.bel) | (go_at_call 66; refine (next_any b M c _ K hM3' hMok (by omega) hcok hcd).mono ?_; rintro e w4 ⟨b4, M4, he, hR4, hst4⟩; rw [hn] at he hst4; subst he))
                have hE4 := hE3'.on hR4.bl hs
                have hk4 := grown_trans hk3' (grown_below hR4.bl)
                have hbd : Below w4.heap.size w4 w4.drew := (Below.refl _ _).drew
                have hE4d := hE4.on hbd hs
                have hih := ih k' (by omega) w4.drew b4 M4 t (u ||| 2 ^ j) nm' (K + 1) (hR4.at_.below hbd) (hst4 t rfl) htok (by omega) (by omega) hu2 hE4d (by rw [Nat.pow_succ] at hnm; have := Nat.mul_le_mul_right X (show j ≤ 9 by omega); omega) (by omega)
                clear ih
                refine wp_region_noPanic ?_
                refine wp_region_held_drew (S := fun W => W.cell? ⟨s + 3, 0, none⟩ = some (.func (.func 69) #[] #[.pointer (some ⟨s + 2, 0, none⟩), .pointer (some ⟨s + 1, 0, none⟩), .pointer (some ⟨n0 + 2, 0, none⟩), .pointer (some ⟨s + 3, 0, none⟩), .pointer (some ⟨n0 + 1, 0, none⟩)])) (by kernel_rfl) ?_ (fun hHeld => ?_)
                · first | exact hE4.cf | exact hE4d.cf | exact hE7.cf
                iterate 7 (first | (refine np_sn ?_; (try simp only [nSO])) | ((first | refine np_n ?_ ?_ ?_ | refine np_t 0 ?_ ?_ ?_); rotate_left 1; (· (intro w hSw; (try dsimp only at hSw); go_simp; all_goals with_reducible rfl)); (try simp only [nSO])))
                first | (refine np_s 7 ?_; (try simp only [nSO])) | (refine np_step (i := 7) rfl (by kernel_rfl) (fun K hK => ?_); rw [if_pos (by rfl)]; go_simp; ((go_at_call 69; refine hih.mono ?_; rintro e w7 ⟨he, nm7, hn7, hE7, hk7⟩; rw [← Hg.out] at he; subst he)); (try go_wp2_with fail); refine hK.out _ _ ?_ (fun hHeld => ?_); (· (first | exact hE4.cf | exact hE4d.cf | exact hE7.cf)); clear hK K; (try simp only [nSO]))
                iterate 2 (first | (refine np_sn ?_; (try simp only [nSO])) | (refine np_n ?_ ?_ ?_; rotate_left 1; (· (intro w hSw; (try dsimp only at hSw); go_simp; all_goals with_reducible rfl)); (try simp only [nSO])))
                refine wpAnyH_done (by kernel_rfl) ?_ _
                refine NoPanic.normal ?_
                have hnm8 : nm7 ≤ nm + (j + 1) * X := by rw [Nat.succ_mul]; omega
                have hk8 := grown_trans hk4 (grown_trans (grown_below hbd) hk7)
                go_wp2
                go_roundw
                case rel => exact crel_next hE7 hk8 (by rw [ht, ← Hg.out]) hlt hnm8
                case measure => simp [intOf]; omega
        · have hke : j = cs.length := by omega
          subst hke
          have hlx := Nat.mul_le_mul_right X hl
          have hall := psum_all cs most M.st u
          have hmn : min ((psum cs most M.st u cs.length : Nat) : Int) (most : Int) = ((min (CC cs M.st u) most : Nat) : Int) := by rw [← hall]; omega
          have hle : min (CC cs M.st u) most ≤ most := by omega
          have hPr : SeenPr cs most u (strOf (keyL M.st)) (.int .i64 (min (CC cs M.st u) most : Nat)) := fun x st hx hst hk => by
            have e := (key_iff hMok hst (by omega) (by omega)).1 hk
            subst e
            have e2 : x = u := by omega
            rw [e2]
          have hzb := hE2.blk hk3 hzz
          have e0 : wr.cell? ⟨z, 0, none⟩ = some (.int .i64 u) := blk_cell (L := [.int .i64 u, .string (strOf (keyL M.st))]) hzb 0
          have e1 : wr.cell? ⟨z, 1, none⟩ = some (.string (strOf (keyL M.st))) := blk_cell (L := [.int .i64 u, .string (strOf (keyL M.st))]) hzb 1
          have c3 := hE3.cd
          have c5 := hE3.cm
          have hwf2 := wf_nat (u := min (CC cs M.st u) most) (by omega)
          generalize hg0 : min (CC cs M.st u) most = g at *
          have Hg0 := Lib.hid hg0
          clear hg0
          generalize psum cs most M.st u cs.length = q at *
          go_wp2_with (at_mapUpdate; refine wpList_store_st _ rfl _ _ _ 116 rfl 3 Tryz.underlying116 rfl hE3.mp (by unfold maxLen; omega) u (strOf (keyL M.st)) (.int .i64 (g : Nat)) rfl rfl hwf (key_size M.st hMok) (plainElem_int Tryz.underlying3 hwf2) hPr ?_; intro w9 hm9 hg9)
          go_returns
          refine ⟨by rw [Hg0.out]; rfl, _, ?_, hE3.step hg9 hs hm9, grown_trans hk2 (grown_trans hk3 hg9)⟩
          omega
theorem count_fn {n0 s : Nat} {w0 : World} {p : Option Addr} {cap : Nat} {cs : List CallV} {most : Nat} (hs : n0 + 3 ≤ s) (hC : ∀ W, Below n0 w0 W → CRow W p cap cs) (hl : cs.length ≤ 10) (hmost : most ≤ 1000000) (hok : ∀ c ∈ cs, c.Ok) (hd : ∀ c ∈ cs, c.ps.length ≤ 1000000) :
    ∀ k, CCall n0 s w0 p cap cs most k := by
  intro k
  induction k using Nat.strongRecOn with
  | ind k ih => exact count_step hs hC hl hmost hok hd ih
end Go.Proofs.YtdeiocppghhfdaaGreat.Lin
namespace Go.Proofs.YtdeiocppghhfdaaGreat.Lin
set_option linter.unusedVariables false
set_option linter.unusedSimpArgs false
set_option maxRecDepth 100000
set_option maxHeartbeats 8000000
open Go.RowKit Go.Lib Go.Shelf
open Hs
open KitI (iv own_below)
attribute [local go_sem, local simp] Hs.callL_0 Hs.callL_1 Hs.callL_2 Hs.callL_3 Hs.callL_4 Hs.callL_5 Hs.callL_6 Hs.callL_7 Hs.callL_8 Hs.callL_9 Hs.callL_10 Hs.callL_11 Hs.callL_12 Hs.callL_13 Hs.callL_14 Hs.callL_15 Hs.callL_16 Hs.callL_17 Hs.callL_18 Hs.callL_19 Hs.callL_20 Hs.callL_21 Hs.callL_22 Hs.callL_23 Hs.callL_24 Hs.callL_25 Hs.callL_26 Hs.resL_0 Hs.resL_1 Hs.resL_2 Hs.resL_3 Hs.resL_4 Hs.resL_5 Hs.resL_6 Hs.resL_7 Hs.resL_8 Hs.resL_9 Hs.resL_10 Hs.resL_11 Hs.resL_12 Hs.callG_0 Hs.callG_1 Hs.callG_2 Hs.callG_3 Hs.callG_4 Hs.callG_5 Hs.callG_6 Hs.callG_7 Hs.callG_8 Hs.callG_9 Hs.callG_10 Hs.callG_11 Hs.callG_12 Hs.callG_13 Hs.callG_14 Hs.callG_15 Hs.callG_16 Hs.callG_17 Hs.callG_18 Hs.callG_19 Hs.callG_20 Hs.callG_21 Hs.callG_22 Hs.callG_23 Hs.callG_24 Hs.callG_25 Hs.callG_26 Hs.resG_0 Hs.resG_1 Hs.resG_2 Hs.resG_3 Hs.resG_4 Hs.resG_5 Hs.resG_6 Hs.resG_7 Hs.resG_8 Hs.resG_9 Hs.resG_10 Hs.resG_11 Hs.resG_12 Hs.callL_len Hs.resL_len
attribute [local go_sem ↓] Hs.loadCall_eq Hs.loadRes_eq
attribute [local go_sem] Hs.ld_new Hs.ld_first Hs.ld_second Hs.ldr_new Hs.st_new
theorem ce_start {n0 most : Nat} {w0 w2 : World} {p : Option Addr} {cap : Nat} {cs : List CallV} (hB : Below n0 w0 w2) (hm : w2.heap[n0 + 1]? = some (.cells #[.int .i64 most] 3 (0, 0))) (hl : w2.heap[n0 + 1 + 1]? = some (.cells #[.slice p cs.length cap] 25 (0, 0))) (hn : n0 + 3 ≤ w2.heap.size) :
    CE n0 w2.heap.size w0 p cap cs most 0 ((((w2.alloc (.map #[] 0)).alloc (.cells #[.int .i64 (allB cs cs.length : Nat)] 3)).alloc (.cells #[.map (some w2.heap.size)] 116)).alloc (.cells #[(.func (.func countFn) #[] #[.pointer (some ⟨w2.heap.size + 1 + 1, 0, none⟩), .pointer (some ⟨w2.heap.size + 1, 0, none⟩), .pointer (some ⟨n0 + 1 + 1, 0, none⟩), .pointer (some ⟨w2.heap.size + 1 + 1 + 1, 0, none⟩), .pointer (some ⟨n0 + 1, 0, none⟩)])] 117)) := by
  have h1 := blk_old (blk_old (blk_old hm (.map #[] 0)) (.cells #[.int .i64 (allB cs cs.length : Nat)] 3)) (.cells #[.map (some w2.heap.size)] 116)
  have h2 := blk_old (blk_old (blk_old hl (.map #[] 0)) (.cells #[.int .i64 (allB cs cs.length : Nat)] 3)) (.cells #[.map (some w2.heap.size)] 116)
  have h3 := blk_old (blk_old (blk_new (w2.alloc (.map #[] 0)) [.int .i64 (allB cs cs.length : Nat)] 3) (.cells #[.map (some w2.heap.size)] 116)) (.cells #[(.func (.func countFn) #[] #[.pointer (some ⟨w2.heap.size + 1 + 1, 0, none⟩), .pointer (some ⟨w2.heap.size + 1, 0, none⟩), .pointer (some ⟨n0 + 1 + 1, 0, none⟩), .pointer (some ⟨w2.heap.size + 1 + 1 + 1, 0, none⟩), .pointer (some ⟨n0 + 1, 0, none⟩)])] 117)
  have h4 := blk_old (blk_new ((w2.alloc (.map #[] 0)).alloc (.cells #[.int .i64 (allB cs cs.length : Nat)] 3)) [.map (some w2.heap.size)] 116) (.cells #[(.func (.func countFn) #[] #[.pointer (some ⟨w2.heap.size + 1 + 1, 0, none⟩), .pointer (some ⟨w2.heap.size + 1, 0, none⟩), .pointer (some ⟨n0 + 1 + 1, 0, none⟩), .pointer (some ⟨w2.heap.size + 1 + 1 + 1, 0, none⟩), .pointer (some ⟨n0 + 1, 0, none⟩)])] 117)
  have h5 := blk_new (((w2.alloc (.map #[] 0)).alloc (.cells #[.int .i64 (allB cs cs.length : Nat)] 3)).alloc (.cells #[.map (some w2.heap.size)] 116)) [(.func (.func countFn) #[] #[.pointer (some ⟨w2.heap.size + 1 + 1, 0, none⟩), .pointer (some ⟨w2.heap.size + 1, 0, none⟩), .pointer (some ⟨n0 + 1 + 1, 0, none⟩), .pointer (some ⟨w2.heap.size + 1 + 1 + 1, 0, none⟩), .pointer (some ⟨n0 + 1, 0, none⟩)])] 117
  have hmp := blk_old (blk_old (blk_old (MapKept.heap_alloc w2 (.map #[] 0)).1 (.cells #[.int .i64 (allB cs cs.length : Nat)] 3)) (.cells #[.map (some w2.heap.size)] 116)) (.cells #[(.func (.func countFn) #[] #[.pointer (some ⟨w2.heap.size + 1 + 1, 0, none⟩), .pointer (some ⟨w2.heap.size + 1, 0, none⟩), .pointer (some ⟨n0 + 1 + 1, 0, none⟩), .pointer (some ⟨w2.heap.size + 1 + 1 + 1, 0, none⟩), .pointer (some ⟨n0 + 1, 0, none⟩)])] 117)
  simp only [World.size_alloc] at h3 h4 h5
  refine ⟨(((hB.alloc (by omega) _).alloc (by simp only [World.size_alloc]; omega) _).alloc (by simp only [World.size_alloc]; omega) _).alloc (by simp only [World.size_alloc]; omega) _, by simp only [World.size_alloc]; omega, blk_cell (L := [.int .i64 most]) (blk_old h1 _) 0, blk_cell (L := [.slice p cs.length cap]) (blk_old h2 _) 0, ?_, blk_cell (L := [.int .i64 (allB cs cs.length : Nat)]) h3 0, blk_cell (L := [.map (some w2.heap.size)]) h4 0, blk_cell (L := [(.func (.func countFn) #[] #[.pointer (some ⟨w2.heap.size + 1 + 1, 0, none⟩), .pointer (some ⟨w2.heap.size + 1, 0, none⟩), .pointer (some ⟨n0 + 1 + 1, 0, none⟩), .pointer (some ⟨w2.heap.size + 1 + 1 + 1, 0, none⟩), .pointer (some ⟨n0 + 1, 0, none⟩)])]) h5 0⟩
  exact (MapP.made w2 3 (SeenPr cs most)).keep (by rw [hmp]; exact (MapKept.heap_alloc w2 (.map #[] 0)).1.symm)
theorem count_call {n0 b most : Nat} {w0 w2 : World} {p : Option Addr} {cap : Nat} {cs : List CallV} {c : CfgV} {M : MM} (hB : Below n0 w0 w2) (hm : w2.heap[n0 + 1]? = some (.cells #[.int .i64 most] 3 (0, 0))) (hl : w2.heap[n0 + 1 + 1]? = some (.cells #[.slice p cs.length cap] 25 (0, 0))) (hn : n0 + 3 ≤ w2.heap.size) (hmost : most ≤ 1000000)
    (hC : ∀ W, Below n0 w0 W → CRow W p cap cs) (hle : cs.length ≤ 10) (hok : ∀ c ∈ cs, c.Ok) (hd : ∀ c ∈ cs, c.ps.length ≤ 1000000) (hM : MdAt w2 b M) (hst : M.st = newS c) (hc : cfgE c = 0) :
    Calls Tryz.prog countFn #[.pointer (some ⟨b, 0, none⟩), .int .i64 0, .pointer (some ⟨w2.heap.size + 1 + 1, 0, none⟩), .pointer (some ⟨w2.heap.size + 1, 0, none⟩), .pointer (some ⟨n0 + 1 + 1, 0, none⟩), .pointer (some ⟨w2.heap.size + 1 + 1 + 1, 0, none⟩), .pointer (some ⟨n0 + 1, 0, none⟩)] ((((w2.alloc (.map #[] 0)).alloc (.cells #[.int .i64 (allB cs cs.length : Nat)] 3)).alloc (.cells #[.map (some w2.heap.size)] 116)).alloc (.cells #[(.func (.func countFn) #[] #[.pointer (some ⟨w2.heap.size + 1 + 1, 0, none⟩), .pointer (some ⟨w2.heap.size + 1, 0, none⟩), .pointer (some ⟨n0 + 1 + 1, 0, none⟩), .pointer (some ⟨w2.heap.size + 1 + 1 + 1, 0, none⟩), .pointer (some ⟨n0 + 1, 0, none⟩)])] 117))
      fun e W' => e = .returned (.int .i64 (min (CC cs (newS c) 0) most : Nat)) ∧ Below n0 w0 W' := by
  have hE := ce_start hB hm hl hn
  have hk : Below w2.heap.size w2 ((((w2.alloc (.map #[] 0)).alloc (.cells #[.int .i64 (allB cs cs.length : Nat)] 3)).alloc (.cells #[.map (some w2.heap.size)] 116)).alloc (.cells #[(.func (.func countFn) #[] #[.pointer (some ⟨w2.heap.size + 1 + 1, 0, none⟩), .pointer (some ⟨w2.heap.size + 1, 0, none⟩), .pointer (some ⟨n0 + 1 + 1, 0, none⟩), .pointer (some ⟨w2.heap.size + 1 + 1 + 1, 0, none⟩), .pointer (some ⟨n0 + 1, 0, none⟩)])] 117)) := ((((Below.refl _ w2).alloc (Nat.le_refl _) _).alloc (by simp only [World.size_alloc]; omega) _).alloc (by simp only [World.size_alloc]; omega) _).alloc (by simp only [World.size_alloc]; omega) _
  have h := count_fn (n0 := n0) (s := w2.heap.size) hn hC hle hmost hok hd cs.length _ b M (newS c) 0 0 0 (hM.below hk) hst (newS_ok hc) (by omega) (by unfold fr; exact Nat.le_trans (List.length_filter_le _ _) (by simp)) (by decide) hE (by have : 11 ^ cs.length ≤ 11 ^ 10 := Nat.pow_le_pow_right (by omega) hle; have : (11 : Nat) ^ 10 ≤ 11 ^ 12 := (by decide); omega) hle
  refine h.mono ?_
  rintro e W' ⟨he, nm', _, hE', _⟩
  exact ⟨he, hE'.bel⟩
theorem count_any (c : CfgV) (most : Int) (p : Option Addr) (cap : Nat) (cs : List CallV) (w : World) (hC : CRow w p cap cs) (hs : cs.length ≤ 1000) (hok : ∀ x ∈ cs, x.Ok) (hd : ∀ x ∈ cs, x.ps.length ≤ 1000000) :
    Calls Tryz.prog 21 #[c.v, .int .i64 most, .slice p cs.length cap] w fun e w' => e = .returned (.tuple #[.int .i64 (countP c most cs).1, .int .i64 (countP c most cs).2]) ∧ Below w.heap.size w w' := by
  have hB0 : Below w.heap.size w (((w.alloc (.cells #[.int .i64 c.slots, .int .u64 c.gens, .int .i64 c.clients, .int .i64 c.readers, .int .i64 c.queue, .int .i64 c.batch, .int .i64 c.feed, .string c.text] 24)).alloc (.cells #[.int .i64 most] 3)).alloc (.cells #[.slice p cs.length cap] 25)) := (((Below.refl w.heap.size w).alloc (Nat.le_refl _) _).alloc (by simp) _).alloc (by simp; omega) _
  have hm0 := blk_old (blk_new (w.alloc (.cells #[.int .i64 c.slots, .int .u64 c.gens, .int .i64 c.clients, .int .i64 c.readers, .int .i64 c.queue, .int .i64 c.batch, .int .i64 c.feed, .string c.text] 24)) [.int .i64 most] 3) (.cells #[.slice p cs.length cap] 25)
  have hl0 := blk_new ((w.alloc (.cells #[.int .i64 c.slots, .int .u64 c.gens, .int .i64 c.clients, .int .i64 c.readers, .int .i64 c.queue, .int .i64 c.batch, .int .i64 c.feed, .string c.text] 24)).alloc (.cells #[.int .i64 most] 3)) [.slice p cs.length cap] 25
  rw [World.size_alloc] at hm0
  rw [World.size_alloc, World.size_alloc] at hl0
  have hsz0 : (((w.alloc (.cells #[.int .i64 c.slots, .int .u64 c.gens, .int .i64 c.clients, .int .i64 c.readers, .int .i64 c.queue, .int .i64 c.batch, .int .i64 c.feed, .string c.text] 24)).alloc (.cells #[.int .i64 most] 3)).alloc (.cells #[.slice p cs.length cap] 25)).heap.size = w.heap.size + 3 := by simp
  by_cases h0 : startE c cs = 0
  · have hst := start_ok (hC.on hB0) hs hok h0
    have hmm := @run_makeMap Tryz.prog
    obtain ⟨h00, _, hle⟩ := start_len h0
    have hcp : countP c most cs = if most < 1 ∨ 1000000 < most then (0, 2) else (min (CC cs (newS c) 0 : Int) most, 0) := by unfold countP; rw [if_neg (by rw [h0]; simp)]
    unfold CfgV.v at *
    by_cases hq1 : most < 1
    · rw [if_pos (.inl hq1)] at hcp
      have hd1 : decide (most < 1) = true := by simpa using hq1
      go_enter Tryz.func21, Tryz.ntmps21
      go_wp2_with (go_at_call 61; refine hst.mono ?_; rintro e w1 ⟨b, M, rfl, hR, hM⟩; have hm1 := blk_below hm0 hR.bl (by omega); have hl1 := blk_below hl0 hR.bl (by omega); have hB1 : Below w.heap.size w w1 := hB0.trans (hR.bl.mono (by omega)); have e1 : w1.cell? ⟨w.heap.size + 1, 0, none⟩ = some (.int .i64 _) := blk_cell (L := [_]) hm1 0; have e2 : w1.cell? ⟨w.heap.size + 1 + 1, 0, none⟩ = some (.slice p cs.length cap) := blk_cell (L := [.slice p cs.length cap]) hl1 0)
      go_returns
      exact ⟨by rw [hcp]; rfl, hB1⟩
    · have hd1 : decide (most < 1) = false := by simpa using hq1
      by_cases hm2 : 1000000 < most
      · rw [if_pos (.inr hm2)] at hcp
        have hd2 : decide (1000000 < most) = true := by simpa using hm2
        go_enter Tryz.func21, Tryz.ntmps21
        go_wp2_with (go_at_call 61; refine hst.mono ?_; rintro e w1 ⟨b, M, rfl, hR, hM⟩; have hm1 := blk_below hm0 hR.bl (by omega); have hl1 := blk_below hl0 hR.bl (by omega); have hB1 : Below w.heap.size w w1 := hB0.trans (hR.bl.mono (by omega)); have e1 : w1.cell? ⟨w.heap.size + 1, 0, none⟩ = some (.int .i64 _) := blk_cell (L := [_]) hm1 0; have e2 : w1.cell? ⟨w.heap.size + 1 + 1, 0, none⟩ = some (.slice p cs.length cap) := blk_cell (L := [.slice p cs.length cap]) hl1 0)
        go_returns
        exact ⟨by rw [hcp]; rfl, hB1⟩
      · rw [if_neg (by omega)] at hcp
        have hd2 : decide (1000000 < most) = false := by simpa using hm2
        obtain ⟨n, rfl⟩ : ∃ n : Nat, most = n := ⟨most.toNat, by omega⟩
        have hmost : n ≤ 1000000 := by omega
        obtain ⟨g, hg⟩ : ∃ g, min (CC cs (newS c) 0) n = g := ⟨_, rfl⟩
        have Hg := Lib.hid hg
        have hcp2 : countP c n cs = ((g : Int), 0) := by rw [hcp, ← hg]; simp; omega
        clear hg hcp
        go_enter Tryz.func21, Tryz.ntmps21
        go_wp2_with (first | (go_at_call 61; refine hst.mono ?_; rintro e w1 ⟨b, M, rfl, hR, hM⟩; have hm1 := blk_below hm0 hR.bl (by omega); have hl1 := blk_below hl0 hR.bl (by omega); have hB1 : Below w.heap.size w w1 := hB0.trans (hR.bl.mono (by omega)); have e1 : w1.cell? ⟨w.heap.size + 1, 0, none⟩ = some (.int .i64 _) := blk_cell (L := [_]) hm1 0; have e2 : w1.cell? ⟨w.heap.size + 1 + 1, 0, none⟩ = some (.slice p cs.length cap) := blk_cell (L := [.slice p cs.length cap]) hl1 0) | (go_at_call 62; refine (answered_any p cap cs _ (hC.on hB1) (by omega)).mono ?_; rintro e w2 ⟨rfl, hb2⟩) | (go_at_call 69; have hs1 := hR.bl.size; refine (count_call (hB1.trans (hb2.mono hB1.size)) (blk_below hm1 hb2 (by omega)) (blk_below hl1 hb2 (by omega)) (by have := hb2.size; omega) hmost (fun W h => hC.on h) hle hok hd (hR.at_.below hb2) hM h00).mono ?_; rintro e w9 ⟨he, hB9⟩; rw [Hg.out] at he; subst he))
        go_returns
        exact ⟨by rw [hcp2]; rfl, hB9⟩
  · have hst := start_no (hC.on hB0) hs hok h0
    have hf : countP c most cs = (0, startE c cs) := by unfold countP; rw [if_pos h0]
    have hd : (startE c cs != 0) = true := by simpa using h0
    generalize startE c cs = sE at *
    unfold CfgV.v at *
    go_enter Tryz.func21, Tryz.ntmps21
    go_wp2_with (go_at_call 61; refine hst.mono ?_; rintro e w1 ⟨rfl, hb1⟩)
    go_returns
    exact ⟨by rw [hf]; rfl, hB0.trans (hb1.mono (by omega))⟩
end Go.Proofs.YtdeiocppghhfdaaGreat.Lin
namespace Go.Proofs.YtdeiocppghhfdaaGreat.Lin
set_option linter.unusedVariables false
set_option linter.unusedSimpArgs false
set_option maxRecDepth 100000
set_option maxHeartbeats 8000000
open Go.RowKit Go.Lib Go.Shelf
open Hs
open KitI (iv IRow own_below)
attribute [local go_sem, local simp] Hs.callL_0 Hs.callL_1 Hs.callL_2 Hs.callL_3 Hs.callL_4 Hs.callL_5 Hs.callL_6 Hs.callL_7 Hs.callL_8 Hs.callL_9 Hs.callL_10 Hs.callL_11 Hs.callL_12 Hs.callL_13 Hs.callL_14 Hs.callL_15 Hs.callL_16 Hs.callL_17 Hs.callL_18 Hs.callL_19 Hs.callL_20 Hs.callL_21 Hs.callL_22 Hs.callL_23 Hs.callL_24 Hs.callL_25 Hs.callL_26 Hs.resL_0 Hs.resL_1 Hs.resL_2 Hs.resL_3 Hs.resL_4 Hs.resL_5 Hs.resL_6 Hs.resL_7 Hs.resL_8 Hs.resL_9 Hs.resL_10 Hs.resL_11 Hs.resL_12 Hs.callG_0 Hs.callG_1 Hs.callG_2 Hs.callG_3 Hs.callG_4 Hs.callG_5 Hs.callG_6 Hs.callG_7 Hs.callG_8 Hs.callG_9 Hs.callG_10 Hs.callG_11 Hs.callG_12 Hs.callG_13 Hs.callG_14 Hs.callG_15 Hs.callG_16 Hs.callG_17 Hs.callG_18 Hs.callG_19 Hs.callG_20 Hs.callG_21 Hs.callG_22 Hs.callG_23 Hs.callG_24 Hs.callG_25 Hs.callG_26 Hs.resG_0 Hs.resG_1 Hs.resG_2 Hs.resG_3 Hs.resG_4 Hs.resG_5 Hs.resG_6 Hs.resG_7 Hs.resG_8 Hs.resG_9 Hs.resG_10 Hs.resG_11 Hs.resG_12 Hs.callL_len Hs.resL_len
attribute [local go_sem ↓] Hs.loadCall_eq Hs.loadRes_eq
attribute [local go_sem] Hs.ld_new Hs.ld_first Hs.ld_second Hs.ldr_new Hs.st_new
def smallC (n : Nat) (c : CfgV) : CfgV := { c with text := c.text.extract 0 (min c.text.size n) }
theorem small36_any (c : CfgV) (w : World) : Calls Tryz.prog 17 #[c.v] w fun e w' => e = .returned (smallC 100 c).v ∧ Below w.heap.size w w' := by
  have hm0 : 0 ≤ min (c.text.size : Int) 100 := by omega
  have hm1 : min (c.text.size : Int) 100 ≤ c.text.size := by omega
  have hmn : (min (c.text.size : Int) 100).toNat = min c.text.size 100 := by omega
  unfold CfgV.v smallC
  go_enter Tryz.func17, Tryz.ntmps17
  go_wp2
  exact ⟨rfl, _, results_cell_row rfl _ _ _ _ _ _ _ rfl (by rw [← World.size_alloc]; exact heap_alloc_new _ _) Tryz.underlying24 rfl (by kernel_rfl), rfl, below2 _ _ _⟩
def cfg36 : CfgV := ⟨16, 9, 2, 1, 2, 2, 2, ⟨#[97, 98]⟩⟩
theorem config36_any (w : World) : Calls Tryz.prog 31 #[] w fun e w' => e = .returned cfg36.v ∧ Below w.heap.size w w' := by
  go_enter Tryz.func31, Tryz.ntmps31
  go_wp2
  exact ⟨rfl, _, results_cell_row rfl _ _ _ _ _ _ _ rfl (heap_alloc_new _ _) Tryz.underlying24 rfl (by kernel_rfl), rfl, (Below.refl _ _).alloc (Nat.le_refl _) _⟩
def zeroC : CallV := { thread := 0, index := 0, okind := 0, oslot := 0, oat := 0, on := 0, oid := 0, ograv := 0, otext := ⟨#[]⟩, invoked := 0, took := 0, rank := 0, answered := 0, steps := 0, err := 0, rev := 0, rslot := 0, rat := 0, rgrav := 0, rtext := ⟨#[]⟩, mb := 0, mr := 0, ml := 0, ik := 0, ifrom := 0, ito := 0, ps := [], da := none, dc := 0 }
def ex36 (a b : Int) : List CallV := [{ zeroC with okind := 1, oat := 1, otext := ⟨#[120]⟩, took := 5, answered := 5, steps := 2, rev := a }, { zeroC with thread := 1, okind := 5, invoked := 1, took := 4, answered := 4, steps := 2, rev := b }, { zeroC with thread := 1, index := 1, okind := 2, on := 1, invoked := 6, took := -1, answered := -1 }]
theorem f36a : findP cfg36 (ex36 1 0) = ([1, 0], true, 0) := by decide +kernel
theorem f36b : (findP cfg36 (ex36 2 0)).2 = (false, 0) := by decide +kernel
theorem f36c : findP cfg36 (ex36 1 1) = ([0, 1], true, 0) := by decide +kernel
theorem c36 : countP cfg36 100 (ex36 1 0) = (2, 0) := by decide +kernel
theorem v36a : validE cfg36 [1, 0, 2] (ex36 1 0) = 0 := by decide +kernel
theorem v36b : validE cfg36 [0, 1] (ex36 1 0) = 26 := by decide +kernel
theorem v36c : validE cfg36 [1] (ex36 1 0) = 26 := by decide +kernel
theorem v36d : validE cfg36 [2, 1, 0] (ex36 1 0) = 26 := by decide +kernel
theorem ok36 (a b : Int) : ∀ c ∈ ex36 a b, c.Ok := by
  intro c hc
  simp only [ex36, List.mem_cons, List.not_mem_nil, or_false] at hc
  rcases hc with rfl | rfl | rfl <;> constructor <;> simp [zeroC]
theorem ps36 (a b : Int) : ∀ c ∈ ex36 a b, c.ps.length ≤ 1000000 := by
  intro c hc
  simp only [ex36, List.mem_cons, List.not_mem_nil, or_false] at hc
  rcases hc with rfl | rfl | rfl <;> simp [zeroC]
def Ex36 (W : World) (B : Nat) (a b : Int) : Prop := W.heap[B]? = some (.cells (callsL (ex36 a b)).toArray 56 (0, 0))
theorem example36_any (w : World) : Calls Tryz.prog 30 #[] w fun e w' => e = .returned (.slice (some ⟨w.heap.size, 0, none⟩) 3 3) ∧ Ex36 w' w.heap.size 1 0 ∧ Below w.heap.size w w' := by
  go_enter Tryz.func30, Tryz.ntmps30
  go_wp2
  go_returns
  exact ⟨rfl, (heap_alloc_new _ _).trans (congrArg some (by kernel_rfl)), (Below.refl _ _).alloc (Nat.le_refl _) _⟩
theorem Ex36.crow {W : World} {B : Nat} {a b : Int} (h : Ex36 W B a b) : CRow W (some ⟨B, 0, none⟩) 3 (ex36 a b) := .inr ⟨B, 0, rfl, Nat.le_refl 3, (Array.getElem?_eq_some_iff.1 h).1, fun j u hj => by rw [Nat.zero_add, blk_cell h]; exact hj⟩
theorem Ex36.on {W W' : World} {B : Nat} {a b : Int} (h : Ex36 W B a b) (hb : Below W.heap.size W W') : Ex36 W' B a b := blk_below h hb (Array.getElem?_eq_some_iff.1 h).1
end Go.Proofs.YtdeiocppghhfdaaGreat.Lin
namespace Go.Proofs.YtdeiocppghhfdaaGreat.Lin
set_option linter.unusedVariables false
set_option linter.unusedSimpArgs false
set_option maxRecDepth 100000
set_option maxHeartbeats 8000000
open Go.RowKit Go.Lib Go.Shelf
open Hs
open KitI (iv IRow own_below)
attribute [local go_sem, local simp] Hs.callL_0 Hs.callL_1 Hs.callL_2 Hs.callL_3 Hs.callL_4 Hs.callL_5 Hs.callL_6 Hs.callL_7 Hs.callL_8 Hs.callL_9 Hs.callL_10 Hs.callL_11 Hs.callL_12 Hs.callL_13 Hs.callL_14 Hs.callL_15 Hs.callL_16 Hs.callL_17 Hs.callL_18 Hs.callL_19 Hs.callL_20 Hs.callL_21 Hs.callL_22 Hs.callL_23 Hs.callL_24 Hs.callL_25 Hs.callL_26 Hs.resL_0 Hs.resL_1 Hs.resL_2 Hs.resL_3 Hs.resL_4 Hs.resL_5 Hs.resL_6 Hs.resL_7 Hs.resL_8 Hs.resL_9 Hs.resL_10 Hs.resL_11 Hs.resL_12 Hs.callG_0 Hs.callG_1 Hs.callG_2 Hs.callG_3 Hs.callG_4 Hs.callG_5 Hs.callG_6 Hs.callG_7 Hs.callG_8 Hs.callG_9 Hs.callG_10 Hs.callG_11 Hs.callG_12 Hs.callG_13 Hs.callG_14 Hs.callG_15 Hs.callG_16 Hs.callG_17 Hs.callG_18 Hs.callG_19 Hs.callG_20 Hs.callG_21 Hs.callG_22 Hs.callG_23 Hs.callG_24 Hs.callG_25 Hs.callG_26 Hs.resG_0 Hs.resG_1 Hs.resG_2 Hs.resG_3 Hs.resG_4 Hs.resG_5 Hs.resG_6 Hs.resG_7 Hs.resG_8 Hs.resG_9 Hs.resG_10 Hs.resG_11 Hs.resG_12 Hs.callL_len Hs.resL_len
attribute [local go_sem ↓] Hs.loadCall_eq Hs.loadRes_eq
attribute [local go_sem] Hs.ld_new Hs.ld_first Hs.ld_second Hs.ldr_new Hs.st_new
theorem irow_own {w : World} {base n : Nat} {v : Value} {zs : List Nat} (h : w.ownsRow base tInt 1 v n (zs.map fun (x : Nat) => iv x)) (hn : n = zs.length) : IRow w v (zs.map fun (x : Nat) => (x : Int)) :=
  IRow.own (base := base) (e := tInt) (n := n) (by rw [List.map_map]; exact h) (by rw [List.length_map]; exact hn)
structure AwW (w W : World) (B : Nat) (a b : Int) : Prop where
  row : Ex36 W B a b
  bl : Below w.heap.size w W
theorem AwW.on {w W W' : World} {B : Nat} {a b : Int} (h : AwW w W B a b) (hb : Below W.heap.size W W') : AwW w W' B a b := ⟨h.row.on hb, h.bl.trans (hb.mono h.bl.size)⟩
theorem below_alloc (W : World) (o : Obj) : Below W.heap.size W (W.alloc o) := (Below.refl _ _).alloc (Nat.le_refl _) _
section
variable {W : World} {B : Nat}
theorem aFind1 (h : Ex36 W B 1 0) : Calls Tryz.prog 19 #[cfg36.v, .slice (some ⟨B, 0, none⟩) 3 3] W fun e w' => ∃ p q, e = .returned (.tuple #[.slice p 2 q, .bool true, .int .i64 0]) ∧ IRow w' (.slice p 2 q) [1, 0] ∧ Below W.heap.size W w' := by
  refine (find_any cfg36 _ 3 (ex36 1 0) W h.crow (by decide) (ok36 1 0) (ps36 1 0)).mono ?_
  rintro e w' ⟨v, he, hO, hb⟩
  rw [f36a] at he hO
  obtain ⟨p, q, rfl⟩ := own_slice hO
  exact ⟨p, q, he, irow_own hO rfl, hb⟩
theorem aFind2 (h : Ex36 W B 1 1) : Calls Tryz.prog 19 #[cfg36.v, .slice (some ⟨B, 0, none⟩) 3 3] W fun e w' => ∃ p q, e = .returned (.tuple #[.slice p 2 q, .bool true, .int .i64 0]) ∧ IRow w' (.slice p 2 q) [0, 1] ∧ Below W.heap.size W w' := by
  refine (find_any cfg36 _ 3 (ex36 1 1) W h.crow (by decide) (ok36 1 1) (ps36 1 1)).mono ?_
  rintro e w' ⟨v, he, hO, hb⟩
  rw [f36c] at he hO
  obtain ⟨p, q, rfl⟩ := own_slice hO
  exact ⟨p, q, he, irow_own hO rfl, hb⟩
theorem aCheck (h : Ex36 W B 2 0) : Calls Tryz.prog 23 #[cfg36.v, .slice (some ⟨B, 0, none⟩) 3 3] W fun e w' => e = .returned (.tuple #[.bool false, .int .i64 0]) ∧ Below W.heap.size W w' := by
  have := check_l cfg36 _ 3 (ex36 2 0) W h.crow (by decide) (ok36 2 0) (ps36 2 0)
  rwa [f36b] at this
theorem aCount (h : Ex36 W B 1 0) : Calls Tryz.prog 21 #[cfg36.v, .int .i64 100, .slice (some ⟨B, 0, none⟩) 3 3] W fun e w' => e = .returned (.tuple #[.int .i64 2, .int .i64 0]) ∧ Below W.heap.size W w' := by
  have := count_any cfg36 100 _ 3 (ex36 1 0) W h.crow (by decide) (ok36 1 0) (ps36 1 0)
  rwa [c36] at this
theorem aValid (h : Ex36 W B 1 0) (o : List Int) (r : Int) (g : Nat) (hg : IRow W (.slice (some ⟨g, 0, none⟩) o.length o.length) o) (ho : o.length ≤ 10) (hr : validE cfg36 o (ex36 1 0) = r) :
    Calls Tryz.prog 28 #[cfg36.v, .slice (some ⟨g, 0, none⟩) o.length o.length, .slice (some ⟨B, 0, none⟩) 3 3] W fun e w' => e = .returned (.int .i64 r) ∧ Below W.heap.size W w' := by
  have := valid_any cfg36 _ (some ⟨g, 0, none⟩) 3 o.length (ex36 1 0) o W h.crow (IRd.of hg) (by decide) (by omega) (ok36 1 0) (ps36 1 0)
  rwa [hr] at this
theorem eqiT (va vb : Value) (zs : List Int) (ha : IRow W va zs) (hb : IRow W vb zs) (hs : zs.length ≤ 1000000) : Calls Tryz.prog 24 #[va, vb] W fun e w' => e = .returned (.bool true) ∧ Below W.heap.size W w' := by
  have h := KitI.eqi_any W va vb zs zs ha hb hs hs
  rwa [decide_eq_true rfl] at h
end
theorem Ex36.c15 {W : World} {B : Nat} {a b : Int} (h : Ex36 W B a b) : W.cell? ⟨B, 15, none⟩ = some (.int .i64 a) := blk_cell h 15
theorem Ex36.c42 {W : World} {B : Nat} {a b : Int} (h : Ex36 W B a b) : W.cell? ⟨B, 42, none⟩ = some (.int .i64 b) := blk_cell h 42
theorem Ex36.s15 {W : World} {B : Nat} {a b : Int} (h : Ex36 W B a b) (x : Int) : Ex36 (W.setCell ⟨B, 15, none⟩ (.int .i64 x)) B x b := blk_set h 15 (.int .i64 x)
theorem Ex36.s42 {W : World} {B : Nat} {a b : Int} (h : Ex36 W B a b) (x : Int) : Ex36 (W.setCell ⟨B, 42, none⟩ (.int .i64 x)) B a x := blk_set h 42 (.int .i64 x)
attribute [local irreducible] callL cfg36
theorem awake36_any (w : World) : Calls Tryz.prog 26 #[] w fun e w' => e = .returned (.bool true) ∧ Below w.heap.size w w' := by
  go_enter Tryz.func26, Tryz.ntmps26
  go_wp2_with fail
  refine (example36_any w).mono ?_
  rintro e w1 ⟨rfl, hC, hB1⟩
  obtain ⟨B, hBB⟩ : ∃ B, w.heap.size = B := ⟨_, rfl⟩
  have hx : AwW w w1 B 1 0 := ⟨hBB ▸ hC, hB1⟩
  have HB := Lib.hid hBB
  clear hC hB1
  rw [hBB]
  clear hBB
  go_wp2_with fail
  refine (config36_any _).mono ?_
  rintro e w2 ⟨rfl, hb⟩
  replace hx := hx.on hb
  clear hb
  go_wp2_with fail
  refine (aFind1 hx.row).mono ?_
  rintro e w3 ⟨p1, q1, rfl, hI, hb⟩
  replace hx := hx.on hb
  clear hb
  go_wp2_with fail
  refine (config36_any _).mono ?_
  rintro e w4 ⟨rfl, hb⟩
  replace hx := hx.on hb
  replace hI := hI.on hb
  clear hb
  go_wp2_with fail
  refine (aCount hx.row).mono ?_
  rintro e w5 ⟨rfl, hb⟩
  replace hx := hx.on hb
  replace hI := hI.on hb
  clear hb
  go_wp2_with fail
  replace hx := hx.on (below_alloc w5 (.cells #[.int .i64 1, .int .i64 0] tInt))
  replace hI := hI.on (below_alloc w5 (.cells #[.int .i64 1, .int .i64 0] tInt))
  refine (eqiT _ _ [1, 0] hI (IRow.new [1, 0] _ _ 2 2 rfl rfl _) (by decide)).mono ?_
  rintro e w6 ⟨rfl, hb⟩
  replace hx := hx.on hb
  clear hb hI
  go_wp2_with fail
  refine (config36_any _).mono ?_
  rintro e w7 ⟨rfl, hb⟩
  replace hx := hx.on hb
  clear hb
  replace hx := hx.on (below_alloc w7 (.cells #[.int .i64 1, .int .i64 0, .int .i64 2] tInt))
  have hV := aValid hx.row [1, 0, 2] 0 w7.heap.size (IRow.new [1, 0, 2] _ _ 3 3 rfl rfl _) (by decide) v36a
  go_wp2_with fail
  refine hV.mono ?_
  rintro e w8 ⟨rfl, hb⟩
  replace hx := hx.on hb
  clear hb hV
  go_wp2_with fail
  refine (config36_any _).mono ?_
  rintro e w9 ⟨rfl, hb⟩
  replace hx := hx.on hb
  clear hb
  replace hx := hx.on (below_alloc w9 (.cells #[.int .i64 0, .int .i64 1] tInt))
  have hV := aValid hx.row [0, 1] 26 w9.heap.size (IRow.new [0, 1] _ _ 2 2 rfl rfl _) (by decide) v36b
  go_wp2_with fail
  refine hV.mono ?_
  rintro e w10 ⟨rfl, hb⟩
  replace hx := hx.on hb
  clear hb hV
  go_wp2_with fail
  refine (config36_any _).mono ?_
  rintro e w11 ⟨rfl, hb⟩
  replace hx := hx.on hb
  clear hb
  replace hx := hx.on (below_alloc w11 (.cells #[.int .i64 1] tInt))
  have hV := aValid hx.row [1] 26 w11.heap.size (IRow.new [1] _ _ 1 1 rfl rfl _) (by decide) v36c
  go_wp2_with fail
  refine hV.mono ?_
  rintro e w12 ⟨rfl, hb⟩
  replace hx := hx.on hb
  clear hb hV
  go_wp2_with fail
  refine (config36_any _).mono ?_
  rintro e w13 ⟨rfl, hb⟩
  replace hx := hx.on hb
  clear hb
  replace hx := hx.on (below_alloc w13 (.cells #[.int .i64 2, .int .i64 1, .int .i64 0] tInt))
  have hV := aValid hx.row [2, 1, 0] 26 w13.heap.size (IRow.new [2, 1, 0] _ _ 3 3 rfl rfl _) (by decide) v36d
  go_wp2_with fail
  refine hV.mono ?_
  rintro e w14 ⟨rfl, hb⟩
  replace hx := hx.on hb
  clear hb hV
  have hr := hx.row
  have r15 : w14.cell? ⟨B, 15, none⟩ = some (.int .i64 1) := hr.c15
  have f15 : w14.frozen? ⟨B, 15, none⟩ = false := blk_frozen hr 15
  have hx2 : AwW w (w14.setCell ⟨B, 15, none⟩ (.int .i64 2)) B 2 0 := ⟨hr.s15 2, hx.bl.setCell (p := ⟨B, 15, none⟩) (by rw [HB.out]; exact Nat.le_refl _) _⟩
  clear hx hr
  go_wp2_with fail
  refine (config36_any _).mono ?_
  rintro e w15 ⟨rfl, hb⟩
  replace hx2 := hx2.on hb
  clear hb
  go_wp2_with fail
  refine (aCheck hx2.row).mono ?_
  rintro e w16 ⟨rfl, hb⟩
  have hbl := (hx2.on hb).bl
  clear hb hx2
  go_wp2_with fail
  refine (example36_any _).mono ?_
  rintro e w17 ⟨rfl, hC, hb⟩
  have hge : B ≤ w16.heap.size := by have := hbl.size; have := HB.out; omega
  replace hbl := hbl.trans (hb.mono (by have := HB.out; omega))
  generalize w16.heap.size = g at *
  have hx : AwW w w17 g 1 0 := ⟨hC, hbl⟩
  clear hC hb hbl
  have hr := hx.row
  have r42 := hr.c42
  have f42 : w17.frozen? ⟨g, 42, none⟩ = false := blk_frozen hr 42
  have hx2 : AwW w (w17.setCell ⟨g, 42, none⟩ (.int .i64 1)) g 1 1 := ⟨hr.s42 1, hx.bl.setCell (p := ⟨g, 42, none⟩) (by rw [HB.out]; exact hge) _⟩
  clear hx hr
  go_wp2_with fail
  refine (config36_any _).mono ?_
  rintro e w18 ⟨rfl, hb⟩
  replace hx2 := hx2.on hb
  clear hb
  go_wp2_with fail
  refine (aFind2 hx2.row).mono ?_
  rintro e w19 ⟨p2, q2, rfl, hI, hb⟩
  have hbl := (hx2.on hb).bl
  clear hb hx2
  replace hI := hI.on (below_alloc w19 (.cells #[.int .i64 0, .int .i64 1] tInt))
  replace hbl := hbl.alloc hbl.size (.cells #[.int .i64 0, .int .i64 1] tInt)
  go_wp2_with fail
  refine (eqiT _ _ [0, 1] hI (IRow.new [0, 1] _ _ 2 2 rfl rfl _) (by decide)).mono ?_
  rintro e w20 ⟨rfl, hb⟩
  go_wp2_with fail
  go_returns
  exact ⟨rfl, hbl.trans (hb.mono hbl.size)⟩
end Go.Proofs.YtdeiocppghhfdaaGreat.Lin
namespace Go.Proofs.YtdeiocppghhfdaaGreat.Lin
set_option linter.unusedVariables false
set_option linter.unusedSimpArgs false
set_option maxRecDepth 100000
set_option maxHeartbeats 8000000
open Go.RowKit Go.Lib Go.Shelf
open Hs
open KitI (iv IRow own_below infoI)
attribute [local go_sem, local simp] Hs.callL_0 Hs.callL_1 Hs.callL_2 Hs.callL_3 Hs.callL_4 Hs.callL_5 Hs.callL_6 Hs.callL_7 Hs.callL_8 Hs.callL_9 Hs.callL_10 Hs.callL_11 Hs.callL_12 Hs.callL_13 Hs.callL_14 Hs.callL_15 Hs.callL_16 Hs.callL_17 Hs.callL_18 Hs.callL_19 Hs.callL_20 Hs.callL_21 Hs.callL_22 Hs.callL_23 Hs.callL_24 Hs.callL_25 Hs.callL_26 Hs.resL_0 Hs.resL_1 Hs.resL_2 Hs.resL_3 Hs.resL_4 Hs.resL_5 Hs.resL_6 Hs.resL_7 Hs.resL_8 Hs.resL_9 Hs.resL_10 Hs.resL_11 Hs.resL_12 Hs.callG_0 Hs.callG_1 Hs.callG_2 Hs.callG_3 Hs.callG_4 Hs.callG_5 Hs.callG_6 Hs.callG_7 Hs.callG_8 Hs.callG_9 Hs.callG_10 Hs.callG_11 Hs.callG_12 Hs.callG_13 Hs.callG_14 Hs.callG_15 Hs.callG_16 Hs.callG_17 Hs.callG_18 Hs.callG_19 Hs.callG_20 Hs.callG_21 Hs.callG_22 Hs.callG_23 Hs.callG_24 Hs.callG_25 Hs.callG_26 Hs.resG_0 Hs.resG_1 Hs.resG_2 Hs.resG_3 Hs.resG_4 Hs.resG_5 Hs.resG_6 Hs.resG_7 Hs.resG_8 Hs.resG_9 Hs.resG_10 Hs.resG_11 Hs.resG_12 Hs.callL_len Hs.resL_len
attribute [local go_sem ↓] Hs.loadCall_eq Hs.loadRes_eq
attribute [local go_sem] Hs.ld_new Hs.ld_first Hs.ld_second Hs.ldr_new Hs.st_new
def clI : Option Nat → Int
  | none => -1
  | some z => z
theorem cast_at {E : List Nat} {k i : Nat} (h : E[k]? = some i) : (E.map fun (x : Nat) => (x : Int))[k]? = some (i : Int) := by rw [List.getElem?_map, h]; rfl
theorem close_drop {cs : List CallV} {E : List Nat} {k i : Nat} (h : E[k]? = some i) : closeP cs (E.drop k) = if zQ cs i then some i else closeP cs (E.drop (k + 1)) := by
  have hlt := (List.getElem?_eq_some_iff.1 h).1
  have e : E.drop k = i :: E.drop (k + 1) := by rw [List.drop_eq_getElem_cons hlt]; congr 1; exact Option.some.inj ((List.getElem?_eq_getElem hlt).symm.trans h)
  rw [e]
  unfold closeP
  rw [List.find?_cons]
  cases zQ cs i <;> rfl
theorem closing_any (po p : Option Addr) (co cap : Nat) (E : List Nat) (cs : List CallV) (w : World) (hO : IRd w po (E.map fun (x : Nat) => (x : Int))) (hC : CRow w p cap cs) (hE : ∀ i ∈ E, i < cs.length) (hs : E.length ≤ 1000000) (hs2 : cs.length ≤ 1000000) :
    Calls Tryz.prog 77 #[.slice po E.length co, .slice p cs.length cap] w fun e w' => e = .returned (.int .i64 (clI (closeP cs E))) ∧ Below w.heap.size w w' := by
  go_enter Tryz.func77, Tryz.ntmps77
  go_wp2
  go_loopw [4, 6, 9] (fun x4 x6 i wr => ∃ k : Nat, i = .int .i64 k ∧ k ≤ E.length ∧ Below w.heap.size w wr ∧ closeP cs (E.drop k) = closeP cs E) (fun x4 x6 i wr => E.length - (intOf i).toNat)
  case atStart => exact ⟨0, rfl, by omega, Below.refl _ _, rfl⟩
  case round =>
    obtain ⟨k, rfl, hk, hB, hcl⟩ := hrel
    by_cases hlt : k < E.length
    · obtain ⟨i, hi⟩ : ∃ i, E[k]? = some i := ⟨_, List.getElem?_eq_getElem hlt⟩
      obtain ⟨bo, oo, rfl, hc⟩ := irow_at hO (by rw [List.length_map]; omega)
      have hck := hc wr hB k _ (cast_at hi)
      have hic := hE i (List.mem_of_getElem? hi)
      obtain ⟨bq, off, rfl, hcap, hbq, hA⟩ := crow_at hC (by omega)
      have c2 := (hA.below hB hbq).cell (getC_some hic) 2 (by omega)
      have c14 := (hA.below hB hbq).cell (getC_some hic) 14 (by omega)
      rw [callL_2] at c2
      rw [callL_14] at c14
      have hst := close_drop (cs := cs) hi
      rw [hcl] at hst
      have hz : zQ cs i = (decide ((getC cs i).okind = 16) && decide ((getC cs i).err = 0)) := rfl
      generalize getC cs i = c at *
      have Hst := Lib.hid hst
      have Hz := Lib.hid hz
      clear hst hz hcl hc hi hA hO hC hE
      by_cases h16 : c.okind = 16
      · have d16 : (c.okind == 16) = true := by simpa using h16
        by_cases he : c.err = 0
        · have de : (c.err == 0) = true := by simpa using he
          have e : closeP cs E = some i := by rw [Hst.out, if_pos (by rw [Hz.out, h16, he]; rfl)]
          clear h16 he
          go_wp2
          go_returns
          exact ⟨by rw [e]; rfl, hB⟩
        · have de : (c.err == 0) = false := by simpa using he
          have e : closeP cs (E.drop (k + 1)) = closeP cs E := by rw [Hst.out, if_neg (by rw [Hz.out]; simp [he])]
          have Ex := Lib.hid e
          clear h16 he e
          go_wp2
          go_roundw
          case rel => exact ⟨k + 1, by go_num, by omega, hB, Ex.out⟩
          case measure => simp [intOf]; omega
      · have d16 : (c.okind == 16) = false := by simpa using h16
        have e : closeP cs (E.drop (k + 1)) = closeP cs E := by rw [Hst.out, if_neg (by rw [Hz.out]; simp [h16])]
        have Ex := Lib.hid e
        clear h16 e
        go_wp2
        go_roundw
        case rel => exact ⟨k + 1, by go_num, by omega, hB, Ex.out⟩
        case measure => simp [intOf]; omega
    · have hke : k = E.length := by omega
      subst hke
      have e : closeP cs E = none := by rw [← hcl, List.drop_length]; rfl
      go_wp2
      go_returns
      exact ⟨by rw [e]; rfl, hB⟩
end Go.Proofs.YtdeiocppghhfdaaGreat.Lin
namespace Go.Proofs.YtdeiocppghhfdaaGreat.Lin
set_option linter.unusedVariables false
set_option linter.unusedSimpArgs false
set_option maxRecDepth 100000
set_option maxHeartbeats 8000000
open Go.RowKit Go.Lib Go.Shelf
open Hs
open KitI (iv IRow own_below infoI)
attribute [local go_sem, local simp] Hs.callL_0 Hs.callL_1 Hs.callL_2 Hs.callL_3 Hs.callL_4 Hs.callL_5 Hs.callL_6 Hs.callL_7 Hs.callL_8 Hs.callL_9 Hs.callL_10 Hs.callL_11 Hs.callL_12 Hs.callL_13 Hs.callL_14 Hs.callL_15 Hs.callL_16 Hs.callL_17 Hs.callL_18 Hs.callL_19 Hs.callL_20 Hs.callL_21 Hs.callL_22 Hs.callL_23 Hs.callL_24 Hs.callL_25 Hs.callL_26 Hs.resL_0 Hs.resL_1 Hs.resL_2 Hs.resL_3 Hs.resL_4 Hs.resL_5 Hs.resL_6 Hs.resL_7 Hs.resL_8 Hs.resL_9 Hs.resL_10 Hs.resL_11 Hs.resL_12 Hs.callG_0 Hs.callG_1 Hs.callG_2 Hs.callG_3 Hs.callG_4 Hs.callG_5 Hs.callG_6 Hs.callG_7 Hs.callG_8 Hs.callG_9 Hs.callG_10 Hs.callG_11 Hs.callG_12 Hs.callG_13 Hs.callG_14 Hs.callG_15 Hs.callG_16 Hs.callG_17 Hs.callG_18 Hs.callG_19 Hs.callG_20 Hs.callG_21 Hs.callG_22 Hs.callG_23 Hs.callG_24 Hs.callG_25 Hs.callG_26 Hs.resG_0 Hs.resG_1 Hs.resG_2 Hs.resG_3 Hs.resG_4 Hs.resG_5 Hs.resG_6 Hs.resG_7 Hs.resG_8 Hs.resG_9 Hs.resG_10 Hs.resG_11 Hs.resG_12 Hs.callL_len Hs.resL_len
attribute [local go_sem ↓] Hs.loadCall_eq Hs.loadRes_eq
attribute [local go_sem] Hs.ld_new Hs.ld_first Hs.ld_second Hs.ldr_new Hs.st_new
attribute [local go_sem ↓] loadOp_eq
def ETy (T : TypeId) : Prop := T = 68 ∨ T = 9 ∨ T = 81
def MTy (T : TypeId) : Prop := T = 136 ∨ T = 74 ∨ T = 139 ∨ T = 168
instance (T : TypeId) : Decidable (ETy T) := by unfold ETy; infer_instance
instance (T : TypeId) : Decidable (MTy T) := by unfold MTy; infer_instance
structure FrT (bad : TypeId → Prop) (m : Nat) (W W' : World) : Prop where
  bl : Below m W W'
  ty : ∀ (k : Nat) (cs : Array Value) (T : TypeId) (r : Nat × Nat), W.heap[k]? = some (.cells cs T r) → ¬ bad T → W'.heap[k]? = some (.cells cs T r)
section
variable {bad : TypeId → Prop} {m : Nat} {A B D : World}
theorem FrT.refl (bad : TypeId → Prop) (m : Nat) (W : World) : FrT bad m W W := ⟨Below.refl _ _, fun _ _ _ _ h _ => h⟩
theorem FrT.trans (h : FrT bad m A B) (k : FrT bad m B D) : FrT bad m A D := ⟨h.bl.trans k.bl, fun j cs T r h1 h2 => k.ty j cs T r (h.ty j cs T r h1 h2) h2⟩
theorem FrT.mono {n : Nat} (h : FrT bad m A B) (hn : n ≤ m) : FrT bad n A B := ⟨h.bl.mono hn, h.ty⟩
theorem FrT.below (h : Below A.heap.size A B) (hm : m ≤ A.heap.size) : FrT bad m A B := ⟨h.mono hm, fun k cs T r hk _ => (h.block k (Array.getElem?_eq_some_iff.1 hk).1).trans hk⟩
theorem FrT.own (h : FrT bad m A B) {base sz n : Nat} {e : TypeId} {x : Value} {xs : List Value} (ho : A.ownsRow base e sz x n xs) (he : ¬ bad e) : B.ownsRow base e sz x n xs := by
  refine ⟨ho.1, ?_⟩
  rcases ho.2 with hn | ⟨g, cap, cur, rfl, hB, hg, rest⟩
  · exact .inl hn
  · exact .inr ⟨g, cap, cur, rfl, hB, h.ty _ _ _ _ hg he, rest⟩
theorem FrT.model (h : FrT ETy m A B) {b : Nat} {M : MM} (hM : MdAt A b M) : MdAt B b M :=
  ⟨h.ty _ _ _ _ hM.blk (by decide), h.own hM.marks (by decide), h.own hM.seats (by decide), fun S hS => h.own (hM.slots S hS) (by decide), fun S hS x hx => h.own (hM.smarks S hS x hx) (by decide), hM.some_, hM.nodup⟩
end
theorem own_type {W : World} {base sz n k : Nat} {e : TypeId} {x : Value} {xs : List Value} (ho : W.ownsRow base e sz x n xs) (hk : x.ownBlock = some k) : ∃ cs, W.heap[k]? = some (.cells cs e (0, 0)) := by
  rcases ho.2 with ⟨h, _⟩ | ⟨g, cap, cur, rfl, hB, hg, rest⟩
  · rw [h] at hk; cases hk
  · simp [Value.ownBlock] at hk
    subst hk
    exact ⟨cur, hg⟩
theorem fp_type {W : World} {b : Nat} {M : MM} (h : MdAt W b M) {k : Nat} (hk : M.fp b k) : ∃ cs T, MTy T ∧ W.heap[k]? = some (.cells cs T (0, 0)) := by
  rcases hk with rfl | hk | ⟨S, hS, hk⟩
  · exact ⟨_, _, .inl rfl, h.blk⟩
  · obtain ⟨cs, hc⟩ := own_type h.seats hk
    exact ⟨cs, _, .inr (.inr (.inl rfl)), hc⟩
  · obtain ⟨cs, hc⟩ := own_type (h.slots S hS) hk
    exact ⟨cs, _, .inr (.inr (.inr rfl)), hc⟩
theorem frm_keep {W W' : World} {b n : Nat} {M : MM} (h : MdAt W b M) (hk : KeepF (M.fp b) W W') (hf : ∀ k, M.fp b k → n ≤ k) (hn : n ≤ W.heap.size) : FrT MTy n W W' := by
  refine ⟨⟨hk.os, hk.tape, hk.output, hk.size, fun k hkn => hk.block k (by omega) fun hf2 => ?_⟩, fun k cs T r hc hT => (hk.block k (Array.getElem?_eq_some_iff.1 hc).1 fun hf2 => ?_).trans hc⟩
  · have := hf k hf2; omega
  · obtain ⟨cs2, T2, h1, h2⟩ := fp_type h hf2
    rw [hc] at h2
    injection h2 with h2
    injection h2 with _ h2 _
    subst h2
    exact hT h1
structure EachC (m n : Nat) (f : FuncId) (fs : Array Value) (Inv : List (Nat × MS) → World → Prop) : Prop where
  ent : ∀ args W, (callFunc f args).run Tryz.prog W = .ok (.enter f args) W
  keep : ∀ l W W', Inv l W → FrT MTy n W W' → Inv l W'
  call : ∀ W b M K l, n ≤ W.heap.size → Inv l W → MdAt W b M → MSok M.st K → l.length ≤ 2000 → Calls Tryz.prog f (#[.pointer (some ⟨b, 0, none⟩)] ++ fs) W fun e W' => e = .returned (.tuple #[]) ∧ Inv (l ++ [(b, M.st)]) W' ∧ FrT ETy m W W'
theorem ldo_at {W : World} {b off k : Nat} {cs : List CallV} {c : CallV} (h : CAt W b off cs) (hk : cs[k]? = some c) : (loadOp (.pointer (some ⟨b, off + k * 27 + 2, none⟩))).run Tryz.prog W = .ok (.agg (opL c).toArray) W :=
  run_loadAt_mid W b (off + k * 27 + 2) 54 (opL c) _ (fun j v hv => by
    have hlt := (List.getElem?_eq_some_iff.1 hv).1
    have hl : j < 7 := by simpa [opL] using hlt
    have h1 := h.cell hk (2 + j) (by omega)
    rw [← Nat.add_assoc] at h1
    rw [h1]
    have : (opL c)[j]? = (callL c)[2 + j]? := by
      rw [show opL c = ((callL c).drop 2).take 7 from rfl, List.getElem?_take, List.getElem?_drop]
      rw [if_pos hl]
    rw [← this]
    exact hv) Tryz.underlying54 rfl (by kernel_rfl)
theorem ldr_at {W : World} {b off k : Nat} {cs : List CallV} {c : CallV} (h : CAt W b off cs) (hk : cs[k]? = some c) : (loadRes (.pointer (some ⟨b, off + k * 27 + 14, none⟩))).run Tryz.prog W = .ok (.agg (Hs.resL c).toArray) W :=
  run_loadAt_mid W b (off + k * 27 + 14) 51 (Hs.resL c) _ (fun j v hv => by
    have hlt := (List.getElem?_eq_some_iff.1 hv).1
    have hl : j < 13 := by simpa [Hs.resL] using hlt
    have h1 := h.cell hk (14 + j) (by omega)
    rw [← Nat.add_assoc] at h1
    rw [h1]
    have : (Hs.resL c)[j]? = (callL c)[14 + j]? := by
      rw [show Hs.resL c = ((callL c).drop 14).take 13 from rfl, List.getElem?_take, List.getElem?_drop]
      rw [if_pos hl]
    rw [← this]
    exact hv) Tryz.underlying51 rfl (by kernel_rfl)
end Go.Proofs.YtdeiocppghhfdaaGreat.Lin
