/- Texts, one behind another: LiP LiQ LiM LiA LiS LiE. -/
import Derived.Test.YtdeiocppghhfdaaGreatChecked
import Derived.Test.YtdeiocppghhfdaaGreatPhg
import Derived.Test.YtdeiocppghhfdaaGreatPul
import Derived.Test.YtdeiocppghhfdaaGreatPma
import Derived.Test.YtdeiocppghhfdaaGreatPug
import Derived.Test.YtdeiocppghhfdaaGreatPwa
import Derived.Test.YtdeiocppghhfdaaGreatPva
import Derived.DeepKeys4
import Derived.Maps.Own
import Derived.Maps.OwnOps
import Derived.Carry
import Derived.WalkKit
namespace Go.Proofs.YtdeiocppghhfdaaGreat.Lin
set_option linter.unusedVariables false
set_option linter.unusedSimpArgs false

section
variable {α : Type} (n : Nat) (next : α → Nat → Option α) (rdy : Nat → Nat → Bool) (fl : Nat → Bool)
def cand (u i : Nat) : Bool := !u.testBit i && rdy u i
def fr (u : Nat) : Nat := ((List.range n).filter fun i => !u.testBit i).length
def sr : Nat → α → Nat → Option (List Nat)
  | 0, _, u => if fl u then some [] else none
  | k + 1, s, u => if fl u then some [] else (List.range n).findSome? fun i => if cand rdy u i then (next s i).bind fun t => (sr k t (u ||| 2 ^ i)).map (i :: ·) else none
def S (s : α) (u : Nat) : Option (List Nat) := sr n next rdy fl (fr n u) s u
def ct : Nat → α → Nat → Nat
  | 0, _, u => if fl u then 1 else 0
  | k + 1, s, u => (if fl u then 1 else 0) + ((List.range n).map fun i => if cand rdy u i then (match next s i with | none => 0 | some t => ct k t (u ||| 2 ^ i)) else 0).sum
def C (s : α) (u : Nat) : Nat := ct n next rdy fl (fr n u) s u
def chain : α → Nat → List Nat → Bool
  | _, u, [] => fl u
  | s, u, i :: r => decide (i < n) && cand rdy u i && (match next s i with | none => false | some t => chain t (u ||| 2 ^ i) r)
def tryS (s : α) (u i : Nat) : Option (List Nat) := if cand rdy u i then (next s i).bind fun t => (S n next rdy fl t (u ||| 2 ^ i)).map (i :: ·) else none
def tryC (s : α) (u i : Nat) : Nat := if cand rdy u i then (match next s i with | none => 0 | some t => C n next rdy fl t (u ||| 2 ^ i)) else 0
end
theorem bit_or (u i j : Nat) : (u ||| 2 ^ i).testBit j = (u.testBit j || decide (i = j)) := by rw [Nat.testBit_or, Nat.testBit_two_pow]
theorem fr_or {n u i : Nat} (hi : i < n) (hu : u.testBit i = false) : fr n (u ||| 2 ^ i) + 1 = fr n u := by
  unfold fr
  have h1 : (List.range n).filter (fun j => !(u ||| 2 ^ i).testBit j) = ((List.range n).filter fun j => !u.testBit j).filter (fun j => j != i) := by
    rw [List.filter_filter]
    apply List.filter_congr
    intro j _
    rw [bit_or]
    by_cases h : i = j
    · subst h; simp
    · have h' : j ≠ i := fun e => h e.symm
      simp [h, h']
  have hn : ((List.range n).filter fun j => !u.testBit j).Nodup := List.nodup_range.filter _
  have hm : i ∈ (List.range n).filter fun j => !u.testBit j := List.mem_filter.2 ⟨List.mem_range.2 hi, by rw [hu]; rfl⟩
  rw [h1]
  have h2 : ((List.range n).filter fun j => !u.testBit j).filter (fun j => j != i) = ((List.range n).filter fun j => !u.testBit j).erase i := (hn.erase_eq_filter i).symm
  rw [h2, List.length_erase_of_mem hm]
  have := List.length_pos_of_mem hm
  omega
theorem fr_zero {n u i : Nat} (h : fr n u = 0) (hi : i < n) : u.testBit i = true := by
  unfold fr at h
  have h1 := List.eq_nil_of_length_eq_zero h
  cases hb : u.testBit i
  · have : i ∈ (List.range n).filter fun j => !u.testBit j := List.mem_filter.2 ⟨List.mem_range.2 hi, by rw [hb]; rfl⟩
    rw [h1] at this; cases this
  · rfl
section
variable {α : Type} {n : Nat} {next : α → Nat → Option α} {rdy : Nat → Nat → Bool} {fl : Nat → Bool}
theorem cand_bit {u i : Nat} (h : cand rdy u i = true) : u.testBit i = false := by unfold cand at h; simp at h; exact h.1
theorem findSome_congr {β : Type} {f g : Nat → Option β} : ∀ {l : List Nat}, (∀ i ∈ l, f i = g i) → l.findSome? f = l.findSome? g
  | [], _ => rfl
  | a :: l, h => by rw [List.findSome?_cons, List.findSome?_cons, h a (by simp), findSome_congr fun i hi => h i (by simp [hi])]
theorem S_eq (s : α) (u : Nat) : S n next rdy fl s u = if fl u then some [] else (List.range n).findSome? (tryS n next rdy fl s u) := by
  show sr n next rdy fl (fr n u) s u = _
  cases hk : fr n u with
  | zero =>
    show (if fl u then some [] else none) = _
    split
    · rfl
    · symm
      rw [List.findSome?_eq_none_iff]
      intro i hi
      have := fr_zero hk (List.mem_range.1 hi)
      unfold tryS cand
      rw [this]; rfl
  | succ k =>
    show (if fl u then some [] else (List.range n).findSome? _) = _
    split
    · rfl
    · refine findSome_congr fun i hi => ?_
      unfold tryS
      split
      · rename_i hc
        have h1 := fr_or (List.mem_range.1 hi) (cand_bit hc)
        have h2 : fr n (u ||| 2 ^ i) = k := by omega
        unfold S
        rw [h2]
      · rfl
theorem C_eq (s : α) (u : Nat) : C n next rdy fl s u = (if fl u then 1 else 0) + ((List.range n).map (tryC n next rdy fl s u)).sum := by
  show ct n next rdy fl (fr n u) s u = _
  cases hk : fr n u with
  | zero =>
    show (if fl u then 1 else 0) = _
    have h : ((List.range n).map (tryC n next rdy fl s u)).sum = 0 := by
      rw [List.sum_eq_zero_iff_forall_eq_nat]
      intro x hx
      obtain ⟨i, hi, rfl⟩ := List.mem_map.1 hx
      have := fr_zero hk (List.mem_range.1 hi)
      unfold tryC cand
      rw [this]; rfl
    omega
  | succ k =>
    show (if fl u then 1 else 0) + ((List.range n).map _).sum = _
    congr 2
    refine List.map_congr_left fun i hi => ?_
    unfold tryC
    split
    · rename_i hc
      have h1 := fr_or (List.mem_range.1 hi) (cand_bit hc)
      have h2 : fr n (u ||| 2 ^ i) = k := by omega
      unfold C
      rw [h2]
    · rfl
theorem S_some {s : α} {u i : Nat} {a : List Nat} (hf : fl u = false) (hi : i < n) (h0 : ∀ j, j < i → tryS n next rdy fl s u j = none) (h1 : tryS n next rdy fl s u i = some a) : S n next rdy fl s u = some a := by
  rw [S_eq, if_neg (by rw [hf]; decide)]
  have e : List.range n = List.range i ++ (i :: (List.range n).drop (i + 1)) := by
    conv => lhs; rw [← List.take_append_drop i (List.range n)]
    rw [List.take_range, Nat.min_eq_left (Nat.le_of_lt hi), List.drop_eq_getElem_cons (by simpa using hi)]
    simp
  rw [e, List.findSome?_append]
  have h2 : (List.range i).findSome? (tryS n next rdy fl s u) = none := by
    rw [List.findSome?_eq_none_iff]
    intro j hj
    exact h0 j (List.mem_range.1 hj)
  rw [h2, List.findSome?_cons, h1]
  rfl
theorem S_none {s : α} {u : Nat} (hf : fl u = false) (h0 : ∀ j, j < n → tryS n next rdy fl s u j = none) : S n next rdy fl s u = none := by
  rw [S_eq, if_neg (by rw [hf]; decide), List.findSome?_eq_none_iff]
  exact fun j hj => h0 j (List.mem_range.1 hj)
theorem S_full {s : α} {u : Nat} (hf : fl u = true) : S n next rdy fl s u = some [] := by rw [S_eq, if_pos hf]
theorem S_split {s : α} {u : Nat} {a : List Nat} (hf : fl u = false) (h : S n next rdy fl s u = some a) : ∃ i, i < n ∧ tryS n next rdy fl s u i = some a ∧ ∀ j, j < i → tryS n next rdy fl s u j = none := by
  cases hx : (List.range n).find? fun i => (tryS n next rdy fl s u i).isSome with
  | none =>
    rw [S_none hf (fun j hj => by
      have := List.find?_eq_none.1 hx j (List.mem_range.2 hj)
      cases hy : tryS n next rdy fl s u j
      · rfl
      · rw [hy] at this; simp at this)] at h
    cases h
  | some i =>
    have h1 := List.find?_some hx
    have h2 := List.mem_range.1 (List.mem_of_find?_eq_some hx)
    have h3 : ∀ j, j < i → tryS n next rdy fl s u j = none := by
      intro j hj
      obtain ⟨_, l1, l2, e, h4⟩ := List.find?_eq_some_iff_append.1 hx
      have hl : l1 = List.range i := by
        have e2 : (List.range n)[l1.length]? = some i := by rw [e]; simp
        have h5 : l1.length < n := by have := (List.getElem?_eq_some_iff.1 e2).1; simpa using this
        have h6 : l1.length = i := by rw [List.getElem?_range h5] at e2; exact Option.some.inj e2
        have h7 : (List.range n).take l1.length = l1 := by rw [e]; simp
        rw [← h7, h6, List.take_range, Nat.min_eq_left (Nat.le_of_lt h2)]
      have := h4 j (by rw [hl]; exact List.mem_range.2 hj)
      cases hy : tryS n next rdy fl s u j
      · rfl
      · rw [hy] at this; simp at this
    cases hy : tryS n next rdy fl s u i with
    | none => rw [hy] at h1; simp at h1
    | some b =>
      rw [S_some hf h2 h3 hy] at h
      exact ⟨i, h2, hy.trans h, h3⟩
theorem try_some {s : α} {u i : Nat} {a : List Nat} (h : tryS n next rdy fl s u i = some a) : cand rdy u i = true ∧ ∃ t b, next s i = some t ∧ S n next rdy fl t (u ||| 2 ^ i) = some b ∧ a = i :: b := by
  unfold tryS at h
  split at h
  · rename_i hc
    cases hn : next s i with
    | none => rw [hn] at h; cases h
    | some t =>
      rw [hn] at h
      cases hS : S n next rdy fl t (u ||| 2 ^ i) with
      | none => simp [hS] at h
      | some b => simp [hS] at h; exact ⟨hc, t, b, rfl, hS, h.symm⟩
  · cases h
theorem S_chain : ∀ (k : Nat) {s : α} {u : Nat} {a : List Nat}, fr n u ≤ k → S n next rdy fl s u = some a → chain n next rdy fl s u a = true := by
  intro k
  induction k with
  | zero =>
    intro s u a hk h
    cases hf : fl u
    · obtain ⟨i, hi, h1, _⟩ := S_split hf h
      have := cand_bit (try_some h1).1
      rw [fr_zero (by omega) hi] at this; cases this
    · rw [S_full hf] at h
      cases h; exact hf
  | succ k ih =>
    intro s u a hk h
    cases hf : fl u
    · obtain ⟨i, hi, h1, _⟩ := S_split hf h
      obtain ⟨hc, t, b, hn, hS, rfl⟩ := try_some h1
      have h2 := fr_or hi (cand_bit hc)
      have h3 := ih (by omega) hS
      unfold chain
      simp [hi, hc, hn, h3]
    · rw [S_full hf] at h
      cases h; exact hf
def lessL : List Nat → List Nat → Bool
  | _, [] => false
  | [], _ :: _ => true
  | a :: r, b :: q => if a = b then lessL r q else decide (a < b)
theorem chain_S : ∀ (o : List Nat) {s : α} {u : Nat}, chain n next rdy fl s u o = true → ∃ a, S n next rdy fl s u = some a ∧ (a = o ∨ lessL a o = true)
  | [], s, u, h => ⟨[], S_full h, .inl rfl⟩
  | i :: r, s, u, h => by
    unfold chain at h
    simp only [Bool.and_eq_true, decide_eq_true_eq] at h
    obtain ⟨⟨hi, hc⟩, h⟩ := h
    cases hf : fl u
    · cases hn : next s i with
      | none => rw [hn] at h; cases h
      | some t =>
        rw [hn] at h
        obtain ⟨b, hb, hl⟩ := chain_S r h
        have ht : tryS n next rdy fl s u i = some (i :: b) := by unfold tryS; rw [if_pos hc, hn]; simp [hb]
        cases hS : S n next rdy fl s u with
        | none =>
          exfalso
          rw [S_eq, if_neg (by rw [hf]; decide), List.findSome?_eq_none_iff] at hS
          have := hS i (List.mem_range.2 hi)
          rw [ht] at this; cases this
        | some a =>
          obtain ⟨j, hj, h1, h2⟩ := S_split hf hS
          refine ⟨a, rfl, ?_⟩
          obtain ⟨_, t', b', _, _, rfl⟩ := try_some h1
          rcases Nat.lt_trichotomy j i with hji | rfl | hji
          · exact .inr (by unfold lessL; rw [if_neg (by omega)]; simpa using hji)
          · rw [ht] at h1
            cases h1
            rcases hl with rfl | hl
            · exact .inl rfl
            · exact .inr (by unfold lessL; rw [if_pos rfl]; exact hl)
          · rw [h2 i hji] at ht; cases ht
    · exact ⟨[], S_full hf, .inr rfl⟩
theorem sum_pos {f : Nat → Nat} {l : List Nat} {i : Nat} (hi : i ∈ l) : f i ≤ (l.map f).sum := by
  induction l with
  | nil => cases hi
  | cons a l ih =>
    rw [List.map_cons, List.sum_cons]
    rcases List.mem_cons.1 hi with rfl | h
    · omega
    · have := ih h; omega
theorem sum_two {f : Nat → Nat} {l : List Nat} {i j : Nat} (hl : l.Nodup) (hi : i ∈ l) (hj : j ∈ l) (hij : i ≠ j) : f i + f j ≤ (l.map f).sum := by
  induction l with
  | nil => cases hi
  | cons a l ih =>
    rw [List.map_cons, List.sum_cons]
    have hn := List.nodup_cons.1 hl
    rcases List.mem_cons.1 hi with rfl | h
    · rcases List.mem_cons.1 hj with rfl | h'
      · exact absurd rfl hij
      · have := sum_pos (f := f) h'; omega
    · rcases List.mem_cons.1 hj with rfl | h'
      · have := sum_pos (f := f) h; omega
      · have := ih hn.2 h h'; omega
theorem chain_C : ∀ (o : List Nat) {s : α} {u : Nat}, chain n next rdy fl s u o = true → 1 ≤ C n next rdy fl s u
  | [], s, u, h => by
    have h' : fl u = true := h
    rw [C_eq, if_pos h']; omega
  | i :: r, s, u, h => by
    unfold chain at h
    simp only [Bool.and_eq_true, decide_eq_true_eq] at h
    obtain ⟨⟨hi, hc⟩, h⟩ := h
    cases hn : next s i with
    | none => rw [hn] at h; cases h
    | some t =>
      rw [hn] at h
      have h1 := chain_C r h
      have h2 : tryC n next rdy fl s u i = C n next rdy fl t (u ||| 2 ^ i) := by unfold tryC; rw [if_pos hc, hn]
      have h3 := sum_pos (f := tryC n next rdy fl s u) (List.mem_range.2 hi)
      rw [C_eq]; omega
theorem two_C0 {i : Nat} {r : List Nat} {s : α} {u : Nat} (h : chain n next rdy fl s u [] = true) (h' : chain n next rdy fl s u (i :: r) = true) : 2 ≤ C n next rdy fl s u := by
  have hf : fl u = true := h
  unfold chain at h'
  simp only [Bool.and_eq_true, decide_eq_true_eq] at h'
  obtain ⟨⟨hi, hc⟩, h'⟩ := h'
  cases hn : next s i with
  | none => rw [hn] at h'; cases h'
  | some t =>
    rw [hn] at h'
    have h1 := chain_C r h'
    have h2 : tryC n next rdy fl s u i = C n next rdy fl t (u ||| 2 ^ i) := by unfold tryC; rw [if_pos hc, hn]
    have h3 := sum_pos (f := tryC n next rdy fl s u) (List.mem_range.2 hi)
    rw [C_eq, if_pos hf]; omega
theorem two_C : ∀ (a o : List Nat) {s : α} {u : Nat}, chain n next rdy fl s u a = true → chain n next rdy fl s u o = true → a ≠ o → 2 ≤ C n next rdy fl s u
  | [], [], _, _, _, _, h => absurd rfl h
  | [], i :: r, s, u, h, h', _ => two_C0 h h'
  | i :: r, [], s, u, h, h', _ => two_C0 h' h
  | i :: r, j :: q, s, u, h, h', hne => by
    unfold chain at h h'
    simp only [Bool.and_eq_true, decide_eq_true_eq] at h h'
    obtain ⟨⟨hi, hc⟩, h⟩ := h
    obtain ⟨⟨hj, hd⟩, h'⟩ := h'
    cases hn : next s i with
    | none => rw [hn] at h; cases h
    | some t =>
      rw [hn] at h
      have h2 : tryC n next rdy fl s u i = C n next rdy fl t (u ||| 2 ^ i) := by unfold tryC; rw [if_pos hc, hn]
      by_cases hij : i = j
      · subst hij
        rw [hn] at h'
        have h1 := two_C r q h h' (fun e => hne (by rw [e]))
        have h3 := sum_pos (f := tryC n next rdy fl s u) (List.mem_range.2 hi)
        rw [C_eq]; omega
      · cases hm : next s j with
        | none => rw [hm] at h'; cases h'
        | some t' =>
          rw [hm] at h'
          have h4 : tryC n next rdy fl s u j = C n next rdy fl t' (u ||| 2 ^ j) := by unfold tryC; rw [if_pos hd, hm]
          have h5 := chain_C r h
          have h6 := chain_C q h'
          have h3 := sum_two (f := tryC n next rdy fl s u) List.nodup_range (List.mem_range.2 hi) (List.mem_range.2 hj) hij
          rw [C_eq]; omega
theorem C_chain : ∀ (k : Nat) {s : α} {u : Nat}, fr n u ≤ k → 1 ≤ C n next rdy fl s u → ∃ a, chain n next rdy fl s u a = true := by
  intro k
  induction k with
  | zero =>
    intro s u hk h
    cases hf : fl u
    · exfalso
      rw [C_eq, hf] at h
      have h0 : ((List.range n).map (tryC n next rdy fl s u)).sum = 0 := by
        rw [List.sum_eq_zero_iff_forall_eq_nat]
        intro x hx
        obtain ⟨i, hi, rfl⟩ := List.mem_map.1 hx
        have := fr_zero (show fr n u = 0 by omega) (List.mem_range.1 hi)
        unfold tryC cand
        rw [this]; rfl
      rw [h0] at h; simp at h
    · exact ⟨[], hf⟩
  | succ k ih =>
    intro s u hk h
    cases hf : fl u
    · rw [C_eq, hf] at h
      have h0 : ∃ i, i < n ∧ 1 ≤ tryC n next rdy fl s u i := by
        refine Classical.byContradiction fun hno => ?_
        have h0 : ((List.range n).map (tryC n next rdy fl s u)).sum = 0 := by
          rw [List.sum_eq_zero_iff_forall_eq_nat]
          intro x hx
          obtain ⟨i, hi, rfl⟩ := List.mem_map.1 hx
          refine Classical.byContradiction fun h1 => hno ⟨i, List.mem_range.1 hi, by omega⟩
        rw [h0] at h; simp at h
      obtain ⟨i, hi, h1⟩ := h0
      unfold tryC at h1
      split at h1
      · rename_i hc
        cases hn : next s i with
        | none => rw [hn] at h1; simp at h1
        | some t =>
          rw [hn] at h1
          have h2 := fr_or hi (cand_bit hc)
          obtain ⟨a, ha⟩ := ih (by omega) h1
          exact ⟨i :: a, by unfold chain; simp [hi, hc, hn, ha]⟩
      · omega
    · exact ⟨[], hf⟩
end
end Go.Proofs.YtdeiocppghhfdaaGreat.Lin
namespace Go.Proofs.YtdeiocppghhfdaaGreat.Lin
set_option linter.unusedVariables false
set_option linter.unusedSimpArgs false
open Hs (CallV befB checkP agreesP okPairs pairB ordE plc)

def opV (c : CallV) : OpV := ⟨c.okind, c.oslot, c.oat, c.on, c.oid, c.ograv, c.otext⟩
def resV (c : CallV) : ResV := ⟨c.err, c.rev, c.rslot, c.rat, c.rgrav, c.rtext, c.mb, c.mr, c.ml⟩
def itV (c : CallV) : ItV := ⟨c.ik, c.ifrom, c.ito, c.da, c.ps.length, c.dc⟩
def nextS (st : MS) (c : CallV) : Option MS :=
  if c.answered < 0 then some (doS st c.thread (opV c)).2
  else if (accS st c.thread (opV c) (resV c) (itV c)).1 then some (accS st c.thread (opV c) (resV c) (itV c)).2 else none
theorem next_pure (st : MS) (c : CallV) : nextS st c.pure = nextS st c := rfl
def getC (L : List CallV) (i : Nat) : CallV := L.getD i default
theorem getC_at {L : List CallV} {i : Nat} {c : CallV} (h : L[i]? = some c) : getC L i = c := by unfold getC; rw [List.getD_eq_getElem?_getD, h]; rfl
def nx (L : List CallV) (st : MS) (i : Nat) : Option MS := nextS st (getC L i)
def rdyB (L : List CallV) (u i : Nat) : Bool := (List.range L.length).all fun j => u.testBit j || !befB (getC L j) (getC L i)
def fullB (L : List CallV) (u : Nat) : Bool := (List.range L.length).all fun j => u.testBit j || decide ((getC L j).answered < 0)
def allB (L : List CallV) : Nat → Nat
  | 0 => 0
  | k + 1 => if 0 ≤ (getC L k).answered then allB L k ||| 2 ^ k else allB L k
theorem allB_bit (L : List CallV) : ∀ (k j : Nat), (allB L k).testBit j = (decide (j < k) && decide (0 ≤ (getC L j).answered))
  | 0, j => by simp [allB]
  | k + 1, j => by
    unfold allB
    split
    · rename_i h
      rw [bit_or, allB_bit L k j]
      by_cases hj : k = j
      · subst hj; simp [h]
      · have h1 : decide (j < k + 1) = decide (j < k) := decide_eq_decide.2 (by omega)
        rw [h1]; simp [hj]
    · rename_i h
      rw [allB_bit L k j]
      by_cases hj : k = j
      · subst hj; simp [h]
      · have h1 : decide (j < k + 1) = decide (j < k) := decide_eq_decide.2 (by omega)
        rw [h1]
theorem full_mask (L : List CallV) (u : Nat) : decide (u &&& allB L L.length = allB L L.length) = fullB L u := by
  rw [Bool.eq_iff_iff, decide_eq_true_eq]
  unfold fullB
  rw [List.all_eq_true]
  constructor
  · intro h j hj
    have h1 := congrArg (fun x => x.testBit j) h
    simp only [Nat.testBit_and, allB_bit] at h1
    have hj' := List.mem_range.1 hj
    by_cases ha : (getC L j).answered < 0
    · simp [ha]
    · have : decide (0 ≤ (getC L j).answered) = true := by simpa using ha
      rw [this] at h1
      simp [hj'] at h1
      simp [h1]
  · intro h
    apply Nat.eq_of_testBit_eq
    intro j
    rw [Nat.testBit_and, allB_bit]
    by_cases hj : j < L.length
    · have h1 := h j (List.mem_range.2 hj)
      by_cases ha : (getC L j).answered < 0
      · have : decide (0 ≤ (getC L j).answered) = false := by simpa using ha
        simp [this]
      · have h2 : u.testBit j = true := by simpa [ha] using h1
        simp [h2]
    · simp [hj]
def startE (c : CfgV) (L : List CallV) : Int := if cfgE c ≠ 0 then cfgE c else if (checkP L).2 ≠ 0 then (checkP L).2 else if 10 < L.length then 5 else 0
abbrev SS (L : List CallV) (st : MS) (u : Nat) : Option (List Nat) := S L.length (nx L) (rdyB L) (fullB L) st u
abbrev CC (L : List CallV) (st : MS) (u : Nat) : Nat := C L.length (nx L) (rdyB L) (fullB L) st u
abbrev chainC (L : List CallV) (st : MS) (u : Nat) (o : List Nat) : Bool := chain L.length (nx L) (rdyB L) (fullB L) st u o
def findP (c : CfgV) (L : List CallV) : List Nat × Bool × Int :=
  if startE c L ≠ 0 then ([], false, startE c L) else match SS L (newS c) 0 with | some a => (a, true, 0) | none => ([], false, 0)
def countP (c : CfgV) (most : Int) (L : List CallV) : Int × Int :=
  if startE c L ≠ 0 then (0, startE c L) else if most < 1 ∨ 1000000 < most then (0, 2) else (min (CC L (newS c) 0 : Int) most, 0)
def runO (L : List CallV) : MS → List Int → Option MS
  | st, [] => some st
  | st, i :: r => (nx L st i.toNat).bind fun t => runO L t r
def hasAll (L : List CallV) (o : List Int) : Bool := (List.range L.length).all fun j => decide ((getC L j).answered < 0) || o.contains (j : Int)
def validE (c : CfgV) (o : List Int) (L : List CallV) : Int :=
  if startE c L ≠ 0 then startE c L else if (agreesP o L).2 ≠ 0 then (agreesP o L).2 else if (agreesP o L).1 = false then 26 else
  match runO L (newS c) o with | none => 26 | some _ => if hasAll L o then 0 else 26
/-! ### a valid order is a chain -/
def mk (u : Nat) (o : List Nat) : Nat := o.foldl (fun a i => a ||| 2 ^ i) u
theorem mk_bit : ∀ (o : List Nat) (u j : Nat), (mk u o).testBit j = (u.testBit j || o.contains j)
  | [], u, j => by simp [mk]
  | i :: r, u, j => by
    show (mk (u ||| 2 ^ i) r).testBit j = _
    rw [mk_bit r, bit_or, List.contains_cons, Bool.or_assoc]
    congr 2
    rw [Bool.eq_iff_iff]; simp; exact eq_comm
theorem chain_run {L : List CallV} : ∀ (o : List Nat) {st : MS} {u : Nat}, chainC L st u o = true ↔ (∀ i ∈ o, i < L.length) ∧ o.Nodup ∧ (∀ i ∈ o, u.testBit i = false) ∧ (∀ k i, o[k]? = some i → rdyB L (mk u (o.take k)) i = true) ∧ (runO L st (o.map fun (n : Nat) => (n : Int))).isSome = true ∧ fullB L (mk u o) = true
  | [], st, u => by simp [chainC, chain, runO, mk]
  | i :: r, st, u => by
    have hch : chainC L st u (i :: r) = (decide (i < L.length) && cand (rdyB L) u i && (match nx L st i with | none => false | some t => chainC L t (u ||| 2 ^ i) r)) := by
      unfold chainC
      rw [chain]; cases nx L st i <;> rfl
    rw [hch]
    have hrun : runO L st ((i :: r).map fun (n : Nat) => (n : Int)) = (nx L st i).bind fun t => runO L t (r.map fun (n : Nat) => (n : Int)) := rfl
    rw [hrun]
    constructor
    · intro h
      simp only [Bool.and_eq_true, decide_eq_true_eq] at h
      obtain ⟨⟨hi, hc⟩, h⟩ := h
      cases hn : nx L st i with
      | none => rw [hn] at h; cases h
      | some t =>
        rw [hn] at h
        obtain ⟨h1, h2, h3, h4, h5, h6⟩ := (chain_run r).1 h
        have hb := cand_bit hc
        have hr : rdyB L u i = true := by unfold cand at hc; simp at hc; exact hc.2
        refine ⟨?_, ?_, ?_, ?_, ?_, h6⟩
        · intro j hj; rcases List.mem_cons.1 hj with rfl | hj
          · exact hi
          · exact h1 j hj
        · refine List.nodup_cons.2 ⟨fun hm => ?_, h2⟩
          have := h3 i hm
          rw [bit_or] at this; simp at this
        · intro j hj; rcases List.mem_cons.1 hj with rfl | hj
          · exact hb
          · have := h3 j hj; rw [bit_or] at this; simp at this; exact this.1
        · intro k j hk
          cases k with
          | zero => simp at hk; subst hk; exact hr
          | succ k => exact h4 k j (by simpa using hk)
        · exact h5
    · rintro ⟨h1, h2, h3, h4, h5, h6⟩
      cases hn : nx L st i with
      | none => rw [hn] at h5; simp at h5
      | some t =>
        rw [hn] at h5
        obtain ⟨n1, n2⟩ := List.nodup_cons.1 h2
        have hb := h3 i (by simp)
        have hr := h4 0 i (by simp)
        have ht := (chain_run (L := L) r (st := t) (u := u ||| 2 ^ i)).2 ⟨fun j hj => h1 j (by simp [hj]), n2, fun j hj => by
          rw [bit_or, h3 j (by simp [hj])]
          have : i ≠ j := fun e => n1 (e ▸ hj)
          simp [this], fun k j hk => h4 (k + 1) j (by simpa using hk), h5, h6⟩
        have hc : cand (rdyB L) u i = true := by unfold cand; rw [hb]; exact hr
        simp [h1 i (by simp), hc, ht]
theorem ordE_inv {n : Nat} : ∀ (r seen : List Int), ordE n seen r = 0 → (∀ x ∈ r, 0 ≤ x ∧ x < (n : Int)) ∧ (∀ x ∈ r, x ∉ seen) ∧ r.Nodup
  | [], _, _ => ⟨fun _ h => (by cases h), fun _ h => (by cases h), List.nodup_nil⟩
  | x :: r, seen, h => by
    unfold ordE at h
    split at h
    · cases h
    · rename_i h0
      split at h
      · cases h
      · rename_i h1
        obtain ⟨a1, a2, a3⟩ := ordE_inv r (seen ++ [x]) h
        refine ⟨?_, ?_, ?_⟩
        · intro y hy; rcases List.mem_cons.1 hy with rfl | hy
          · omega
          · exact a1 y hy
        · intro y hy; rcases List.mem_cons.1 hy with rfl | hy
          · exact h1
          · exact fun hm => a2 y hy (by simp [hm])
        · exact List.nodup_cons.2 ⟨fun hm => a2 x hm (by simp), a3⟩
theorem range_cast {n : Nat} : ∀ {r : List Int}, (∀ x ∈ r, 0 ≤ x ∧ x < (n : Int)) → ∃ o : List Nat, r = o.map (fun (n : Nat) => (n : Int)) ∧ ∀ i ∈ o, i < n
  | [], _ => ⟨[], rfl, fun _ h => by cases h⟩
  | x :: r, h => by
    obtain ⟨o, rfl, ho⟩ := range_cast (r := r) fun y hy => h y (by simp [hy])
    have hx := h x (by simp)
    refine ⟨x.toNat :: o, ?_, ?_⟩
    · rw [List.map_cons]; congr 1; omega
    · intro i hi; rcases List.mem_cons.1 hi with rfl | hi
      · omega
      · exact ho i hi
theorem nodup_cast {o : List Nat} : (o.map fun (n : Nat) => (n : Int)).Nodup ↔ o.Nodup := by
  unfold List.Nodup
  rw [List.pairwise_map]
  constructor <;> intro h <;> exact h.imp (fun hab => by omega)
theorem plc_cast {o : List Nat} (i : Nat) : plc (o.map fun (n : Nat) => (n : Int)) i = if i ∈ o then (o.idxOf i : Int) + 1 else 0 := by
  unfold plc
  rw [Hs.idx_cast]
  by_cases h : i ∈ o
  · rw [if_pos (Hs.mem_cast.2 h), if_pos h]
  · rw [if_neg (fun h' => h (Hs.mem_cast.1 h')), if_neg h]
theorem getC_some {L : List CallV} {i : Nat} (h : i < L.length) : L[i]? = some (getC L i) := by
  unfold getC; rw [List.getD_eq_getElem?_getD, List.getElem?_eq_getElem h]; rfl
theorem bef_self {L : List CallV} (h0 : (checkP L).2 = 0) {i : Nat} (hi : i < L.length) : befB (getC L i) (getC L i) = false := by
  unfold befB
  rw [Bool.and_eq_false_iff]
  by_cases ha : 0 ≤ (getC L i).answered
  · have := Hs.formed_answered (Hs.good_formed h0 (getC_some hi)) ha
    right; simpa using this.2.2
  · left; simpa using ha
theorem pairs_iff {L : List CallV} (h0 : (checkP L).2 = 0) {o : List Nat} (ho : ∀ i ∈ o, i < L.length) (hn : o.Nodup) :
    okPairs (o.map fun (n : Nat) => (n : Int)) L = true ↔ ∀ k i, o[k]? = some i → rdyB L (mk 0 (o.take k)) i = true := by
  unfold okPairs rdyB
  constructor
  · intro h k j hk
    rw [List.all_eq_true]
    intro i hi
    rw [mk_bit, Nat.zero_testBit, Bool.false_or]
    have hi' := List.mem_range.1 hi
    obtain ⟨hlt, hkj⟩ := List.getElem?_eq_some_iff.1 hk
    have hjo : j ∈ o := by rw [← hkj]; exact List.getElem_mem ..
    have hj' := ho j hjo
    cases hb : befB (getC L i) (getC L j) with
    | false => simp
    | true =>
      have h1 := List.all_eq_true.1 (List.all_eq_true.1 h i hi) j (List.mem_range.2 hj')
      unfold pairB at h1
      rw [getC_some hi', getC_some hj'] at h1
      simp only [hb, plc_cast, if_pos hjo] at h1
      have hx : o.idxOf j = k := by rw [← hkj]; exact hn.idxOf_getElem k hlt
      by_cases hio : i ∈ o
      · rw [if_pos hio] at h1
        have h2 : o.idxOf i ≤ k := by simp at h1; omega
        have h3 : o.idxOf i ≠ k := fun e => by
          have e1 : o[k]? = some i := by rw [← e, List.getElem?_eq_getElem (List.idxOf_lt_length_iff.2 hio), List.getElem_idxOf]
          rw [hk] at e1
          cases e1
          rw [bef_self h0 hi'] at hb; cases hb
        have h4 : i ∈ o.take k := by
          rw [List.mem_take_iff_getElem]
          refine ⟨o.idxOf i, ?_, List.getElem_idxOf _⟩
          have := List.idxOf_lt_length_iff.2 hio
          omega
        simp [h4]
      · rw [if_neg hio] at h1
        simp at h1
        omega
  · intro h
    rw [List.all_eq_true]
    intro i hi
    rw [List.all_eq_true]
    intro j hj
    have hi' := List.mem_range.1 hi
    have hj' := List.mem_range.1 hj
    unfold pairB
    rw [getC_some hi', getC_some hj']
    simp only [plc_cast]
    by_cases hjo : j ∈ o
    · cases hb : befB (getC L i) (getC L j) with
      | false => simp
      | true =>
        have hlt := List.idxOf_lt_length_iff.2 hjo
        have hk : o[o.idxOf j]? = some j := by rw [List.getElem?_eq_getElem hlt, List.getElem_idxOf]
        have h1 := List.all_eq_true.1 (h _ _ hk) i hi
        rw [mk_bit, Nat.zero_testBit, Bool.false_or, hb] at h1
        have h2 : i ∈ o.take (o.idxOf j) := by simpa using h1
        have hio := List.mem_of_mem_take h2
        have h3 : o.idxOf i < o.idxOf j := by
          obtain ⟨m, hm, e⟩ := List.mem_take_iff_getElem.1 h2
          have h5 : o.idxOf i = m := by rw [← e]; exact hn.idxOf_getElem m (by omega)
          omega
        rw [if_pos hjo, if_pos hio]
        simp; omega
    · rw [if_neg hjo]; simp
theorem hasAll_full {L : List CallV} {o : List Nat} : hasAll L (o.map fun (n : Nat) => (n : Int)) = fullB L (mk 0 o) := by
  unfold hasAll fullB
  congr 1
  funext j
  rw [mk_bit, Nat.zero_testBit, Bool.false_or, Bool.or_comm]
  congr 1
  rw [Bool.eq_iff_iff, List.contains_iff_mem, List.contains_iff_mem, Hs.mem_cast]
theorem valid_chain {c : CfgV} {L : List CallV} (hs : startE c L = 0) (o : List Int) : validE c o L = 0 ↔ ∃ r : List Nat, o = r.map (fun (n : Nat) => (n : Int)) ∧ chainC L (newS c) 0 r = true := by
  have h0 : (checkP L).2 = 0 := by
    unfold startE at hs
    split at hs
    · rename_i h; exact absurd hs h
    · split at hs
      · rename_i h; exact absurd hs h
      · rename_i h; simpa using h
  unfold validE
  rw [if_neg (by rw [hs]; simp)]
  unfold agreesP
  rw [if_pos h0]
  constructor
  · intro h
    by_cases hE : ordE L.length [] o = 0
    · simp only [if_pos hE] at h
      cases hp : okPairs o L with
      | false => simp [hp] at h
      | true =>
        obtain ⟨a1, _, a3⟩ := ordE_inv _ _ hE
        obtain ⟨r, rfl, hr⟩ := range_cast a1
        have hn := nodup_cast.1 a3
        refine ⟨r, rfl, (chain_run r).2 ⟨hr, hn, fun i _ => Nat.zero_testBit i, (pairs_iff h0 hr hn).1 hp, ?_, ?_⟩⟩
        · cases hx : runO L (newS c) (r.map fun (n : Nat) => (n : Int)) with
          | none => simp [hp, hx] at h
          | some t => rfl
        · cases hx : runO L (newS c) (r.map fun (n : Nat) => (n : Int)) with
          | none => simp [hp, hx] at h
          | some t =>
            rw [← hasAll_full]
            cases hy : hasAll L (r.map fun (n : Nat) => (n : Int))
            · simp [hp, hx, hy] at h
            · rfl
    · simp only [if_neg hE] at h
      simp [hE] at h
  · rintro ⟨r, rfl, h⟩
    obtain ⟨hr, hn, _, h4, h5, h6⟩ := (chain_run r).1 h
    have hE : ordE L.length [] (r.map fun (n : Nat) => (n : Int)) = 0 := by
      refine Hs.ordE_zero _ _ (fun x hx => ?_) (fun x _ h => by cases h) (nodup_cast.2 hn)
      obtain ⟨i, hi, rfl⟩ := List.mem_map.1 hx
      have := hr i hi
      omega
    rw [if_pos hE]
    have hp := (pairs_iff h0 hr hn).2 h4
    simp only [hp]
    cases hx : runO L (newS c) (r.map fun (n : Nat) => (n : Int)) with
    | none => rw [hx] at h5; cases h5
    | some t => simp [hasAll_full, h6]
end Go.Proofs.YtdeiocppghhfdaaGreat.Lin
namespace Go.Proofs.YtdeiocppghhfdaaGreat.Lin
set_option linter.unusedVariables false
set_option linter.unusedSimpArgs false
open Go.Maps Go.ChangeMaps Go.MapKept
open Go.WideElems (Fit rd rg pl rd_val rd_key)
abbrev tSt : TypeId := 105
theorem laidOut : laidOutB Tryz.prog = true := by kernel_rfl
theorem keyedSt : Keyed Tryz.prog tSt := Keyed.of_law (deep_law_laid laidOut (m := 2) (by omega) (of_decide_eq_true (by kernel_rfl)) (by kernel_rfl) (by kernel_rfl))
def stV (u : Int) (s : ByteArray) : Value := .agg #[.int .i64 u, .string s]
theorem key_mk (u : Int) (s : ByteArray) (hu : (Lit.int .i64 u).wf = true) (hs : s.size ≤ maxLen) : ∃ kl, keyOf Tryz.prog tSt (stV u s) = some kl := by
  unfold keyOf stV
  rw [Tryz.underlying105]
  have h1 : Tryz.prog.keyType tSt = true := by kernel_rfl
  have h2 : (Value.agg #[.int .i64 u, .string s]).formed Tryz.prog tSt = true := by
    simp [Value.formed, Tryz.underlying105]
    kernel_rfl
  have h3 : Tryz.prog.keyLits (Tryz.prog.types.size + 1) tSt (Value.agg #[.int .i64 u, .string s]).cells.toList = some [.int .i64 u, .string s.data.toList] := by
    obtain ⟨n, hn⟩ : ∃ n, Tryz.prog.types.size = n + 1 := ⟨_, rfl⟩
    rw [hn]
    have e2 : Tryz.prog.cellsOf tSt = 2 := by kernel_rfl
    have e3 : Tryz.prog.cellsOf 3 = 1 := by kernel_rfl
    have e5 : Tryz.prog.cellsOf 9 = 1 := by kernel_rfl
    simp [Program.keyLits, Tryz.underlying105, Tryz.underlying3, Tryz.underlying9, Value.cells, e2, e3, e5, hu, hs]
  rw [h1, h2, h3]
  exact ⟨_, rfl⟩
def MapP (w : World) (E : TypeId) (b n : Nat) (Pr : Int → ByteArray → Value → Prop) : Prop :=
  ∃ es clock, w.heap[b]? = some (.map es clock) ∧ Fit (H := Unit) Tryz.prog tSt (plainElem Tryz.prog E) es clock ∧ es.size ≤ n ∧ ∀ e ∈ es.toList, ∃ u s, e.key = stV u s ∧ Pr u s e.val
theorem MapP.made (w : World) (E : TypeId) (Pr : Int → ByteArray → Value → Prop) : MapP (w.alloc (.map #[] 0)) E w.heap.size 0 Pr :=
  ⟨#[], 0, (MapKept.heap_alloc w _).1, ⟨by simp, stamped_empty 0, by simp⟩, Nat.le_refl _, by simp⟩
theorem MapP.mono {w : World} {E : TypeId} {b n m : Nat} {Pr : Int → ByteArray → Value → Prop} (h : MapP w E b n Pr) (hm : n ≤ m) : MapP w E b m Pr := by
  obtain ⟨es, clock, hb, F, hs, hP⟩ := h
  exact ⟨es, clock, hb, F, Nat.le_trans hs hm, hP⟩
theorem MapP.keep {w w' : World} {E : TypeId} {b n : Nat} {Pr : Int → ByteArray → Value → Prop} (h : MapP w E b n Pr) (hk : w'.heap[b]? = w.heap[b]?) : MapP w' E b n Pr := by
  obtain ⟨es, clock, hb, F, hs, hP⟩ := h
  exact ⟨es, clock, hk.trans hb, F, hs, hP⟩
theorem MapP.lt {w : World} {E : TypeId} {b n : Nat} {Pr : Int → ByteArray → Value → Prop} (h : MapP w E b n Pr) : b < w.heap.size := by
  obtain ⟨es, clock, hb, _⟩ := h
  exact (Array.getElem?_eq_some_iff.1 hb).1
section
variable {w : World} {t E : TypeId} {b n : Nat} {Pr : Int → ByteArray → Value → Prop}
theorem stV_inj {u v : Int} {s r : ByteArray} (h : stV u s = stV v r) : u = v ∧ s = r := by
  unfold stV at h; injection h with h; simp at h; exact h
theorem MapP.look (h : MapP w E b n Pr) (c : Bool) (ht : Tryz.prog.underlying t = some (.map tSt E)) {z : Value} (hz : (zeroValue E).run Tryz.prog w = .ok z w) {u : Int} {s : ByteArray} (hu : (Lit.int .i64 u).wf = true) (hs : s.size ≤ maxLen) :
    (Instr.lookup t (.map (some b)) (stV u s) c).run Tryz.prog w = .ok (if c then .tuple #[z, .bool false] else z) w ∨
    ∃ v y, Pr u s v ∧ plainElem (H := Unit) Tryz.prog E v = some y ∧ (Instr.lookup t (.map (some b)) (stV u s) c).run Tryz.prog w = .ok (if c then .tuple #[v, .bool true] else v) w := by
  obtain ⟨es, clock, hb, F, hn, hP⟩ := h
  obtain ⟨kl, hkl⟩ := key_mk u s hu hs
  rcases fit_look c keyedSt ht hz hb F hkl with ⟨hr, _⟩ | ⟨e0, y, hm, hk, hr, hy, _⟩
  · exact .inl hr
  · obtain ⟨u', s', e1, hp⟩ := hP e0 hm
    obtain ⟨rfl, rfl⟩ := stV_inj (hk.symm.trans e1)
    exact .inr ⟨e0.val, y, hp, hy, hr⟩
theorem MapP.store (h : MapP w E b n Pr) (ht : Tryz.prog.underlying t = some (.map tSt E)) (hn : n < maxLen) {u : Int} {s : ByteArray} {val : Value} {y : DataW Unit × List MemPlace} (hu : (Lit.int .i64 u).wf = true) (hs : s.size ≤ maxLen) (hv : plainElem Tryz.prog E val = some y) (hp : Pr u s val) :
    ∃ w', (Instr.mapUpdate t (.map (some b)) (stV u s) val).run Tryz.prog w = .ok () w' ∧ MapP w' E b (n + 1) Pr ∧ w.grownBy w' (some b) := by
  obtain ⟨es, clock, hb, F, hsz, hP⟩ := h
  obtain ⟨kl, hkl⟩ := key_mk u s hu hs
  obtain ⟨es', clock', hrun, F', hput, _, _, hmem⟩ := fit_store (R' := plainElem Tryz.prog E) keyedSt ht hb F (Nat.lt_of_le_of_lt hsz hn) (fun _ _ _ _ hz => hz) hkl hv
  refine ⟨_, hrun, ⟨es', clock', heap_setBlock_same hb _, F', ?_, ?_⟩, ⟨rfl, rfl, rfl, by simp [setBlock], fun i _ hi => heap_setBlock_other hb _ (fun e => hi (by rw [e]))⟩⟩
  · have e1 : es'.size = ((es'.toList.map (rg Tryz.prog tSt (plainElem (H := Unit) Tryz.prog E))).foldr DataW.insert []).length := by rw [length_sorted]; simp
    rw [e1, hput]
    unfold putKey
    rw [length_insert]
    have e2 := List.length_filter_le (notKey kl) ((es.toList.map (rg Tryz.prog tSt (plainElem (H := Unit) Tryz.prog E))).foldr DataW.insert [])
    rw [length_sorted] at e2
    simp at e2
    omega
  · intro x hx
    rcases hmem x hx with ⟨h1, _⟩ | ⟨h1, h2⟩
    · exact hP x h1
    · exact ⟨u, s, h1, by rw [h2]; exact hp⟩
end
theorem wpList_look_bool (w : World) {ops : Array Oper} {rest : List Oper} {o : Oper} {a : Act} {Q : Exit → Act → World → Prop} (hg : o.guard = none) (m x : Operand) (t : TypeId) (hop : o.op = Op.lookup t m x false)
    (E : TypeId) (ht : Tryz.prog.underlying t = some (.map tSt E)) (hE : Tryz.prog.underlying E = some .bool) (hz : (zeroValue E).run Tryz.prog w = .ok (.bool false) w) {b n : Nat} {Pr : Int → ByteArray → Value → Prop} (hm : a.eval m = .map (some b)) (h : MapP w E b n Pr) (u : Int) (s : ByteArray) (hx : a.eval x = stV u s) (hu : (Lit.int .i64 u).wf = true) (hs : s.size ≤ maxLen)
    (hK : ∀ y : Bool, (y = false ∨ Pr u s (.bool y)) → wpList Tryz.prog ops Q rest (a.put o.dst (.bool y)) w) : wpList Tryz.prog ops Q (o :: rest) a w := by
  refine wpList_plain hg fun K' hK' => ?_
  have hl : ∃ y : Bool, (Instr.lookup t (.map (some b)) (stV u s) false).run Tryz.prog w = .ok (.bool y) w ∧ (y = false ∨ Pr u s (.bool y)) := by
    rcases h.look false ht hz hu hs with hr | ⟨v, y, hp, hy, hr⟩
    · exact ⟨false, hr, .inl rfl⟩
    · unfold plainElem at hy
      rw [hE] at hy
      cases v <;> simp at hy
      exact ⟨_, hr, .inr hp⟩
  obtain ⟨y, hr, hy⟩ := hl
  unfold Oper.wp
  simp [execOp, hop, hm, hx, hr, Result.andThen]
  exact hK' _ _ (hK y hy)
theorem wpList_look_int (w : World) {ops : Array Oper} {rest : List Oper} {o : Oper} {a : Act} {Q : Exit → Act → World → Prop} (hg : o.guard = none) (m x : Operand) (t : TypeId) (hop : o.op = Op.lookup t m x true)
    (E : TypeId) (ht : Tryz.prog.underlying t = some (.map tSt E)) (hE : Tryz.prog.underlying E = some (.int .i64)) (hz : (zeroValue E).run Tryz.prog w = .ok (.int .i64 0) w) {b n : Nat} {Pr : Int → ByteArray → Value → Prop} (hm : a.eval m = .map (some b)) (h : MapP w E b n Pr) (u : Int) (s : ByteArray) (hx : a.eval x = stV u s) (hu : (Lit.int .i64 u).wf = true) (hs : s.size ≤ maxLen)
    (hK : ∀ (y : Bool) (c : Int), (y = true → Pr u s (.int .i64 c)) → wpList Tryz.prog ops Q rest (a.put o.dst (.tuple #[.int .i64 c, .bool y])) w) : wpList Tryz.prog ops Q (o :: rest) a w := by
  refine wpList_plain hg fun K' hK' => ?_
  have hl : ∃ (y : Bool) (c : Int), (Instr.lookup t (.map (some b)) (stV u s) true).run Tryz.prog w = .ok (.tuple #[.int .i64 c, .bool y]) w ∧ (y = true → Pr u s (.int .i64 c)) := by
    rcases h.look true ht hz hu hs with hr | ⟨v, y, hp, hy, hr⟩
    · exact ⟨false, 0, hr, by simp⟩
    · obtain ⟨c, rfl, _, _⟩ := plainElem_int_inv hE hy
      exact ⟨true, c, hr, fun _ => hp⟩
  obtain ⟨y, c, hr, hy⟩ := hl
  unfold Oper.wp
  simp [execOp, hop, hm, hx, hr, Result.andThen]
  exact hK' _ _ (hK y c hy)
theorem wpList_store_st (w : World) {ops : Array Oper} {rest : List Oper} {o : Oper} {a : Act} {Q : Exit → Act → World → Prop} (hg : o.guard = none) (m x v : Operand) (t : TypeId) (hop : o.op = Op.mapUpdate t m x v)
    (E : TypeId) (ht : Tryz.prog.underlying t = some (.map tSt E)) {b n : Nat} {Pr : Int → ByteArray → Value → Prop} (hm : a.eval m = .map (some b)) (h : MapP w E b n Pr) (hn : n < maxLen) (u : Int) (s : ByteArray) (val : Value) (hx : a.eval x = stV u s) (hv : a.eval v = val) (hu : (Lit.int .i64 u).wf = true) (hs : s.size ≤ maxLen)
    {y : DataW Unit × List MemPlace} (hval : plainElem Tryz.prog E val = some y) (hp : Pr u s val)
    (hK : ∀ w', MapP w' E b (n + 1) Pr → w.grownBy w' (some b) → wpList Tryz.prog ops Q rest (a.put o.dst undef) w') : wpList Tryz.prog ops Q (o :: rest) a w := by
  refine wpList_plain hg fun K' hK' => ?_
  obtain ⟨w', hrun, r1, r2⟩ := h.store ht hn hu hs hval hp
  unfold Oper.wp
  simp [execOp, hop, hm, hx, hv, hrun, Result.andThen]
  exact hK' _ _ (hK w' r1 r2)
end Go.Proofs.YtdeiocppghhfdaaGreat.Lin
namespace Go.Proofs.YtdeiocppghhfdaaGreat.Lin
set_option linter.unusedVariables false
set_option linter.unusedSimpArgs false
open Go.RowKit Go.Lib Go.Shelf
open Hs
attribute [local go_sem, local simp] Hs.callL_0 Hs.callL_1 Hs.callL_2 Hs.callL_3 Hs.callL_4 Hs.callL_5 Hs.callL_6 Hs.callL_7 Hs.callL_8 Hs.callL_9 Hs.callL_10 Hs.callL_11 Hs.callL_12 Hs.callL_13 Hs.callL_14 Hs.callL_15 Hs.callL_16 Hs.callL_17 Hs.callL_18 Hs.callL_19 Hs.callL_20 Hs.callL_21 Hs.callL_22 Hs.callL_23 Hs.callL_24 Hs.callL_25 Hs.callL_26 Hs.resL_0 Hs.resL_1 Hs.resL_2 Hs.resL_3 Hs.resL_4 Hs.resL_5 Hs.resL_6 Hs.resL_7 Hs.resL_8 Hs.resL_9 Hs.resL_10 Hs.resL_11 Hs.resL_12 Hs.callG_0 Hs.callG_1 Hs.callG_2 Hs.callG_3 Hs.callG_4 Hs.callG_5 Hs.callG_6 Hs.callG_7 Hs.callG_8 Hs.callG_9 Hs.callG_10 Hs.callG_11 Hs.callG_12 Hs.callG_13 Hs.callG_14 Hs.callG_15 Hs.callG_16 Hs.callG_17 Hs.callG_18 Hs.callG_19 Hs.callG_20 Hs.callG_21 Hs.callG_22 Hs.callG_23 Hs.callG_24 Hs.callG_25 Hs.callG_26 Hs.resG_0 Hs.resG_1 Hs.resG_2 Hs.resG_3 Hs.resG_4 Hs.resG_5 Hs.resG_6 Hs.resG_7 Hs.resG_8 Hs.resG_9 Hs.resG_10 Hs.resG_11 Hs.resG_12 Hs.callL_len Hs.resL_len
attribute [local go_sem ↓] Hs.loadCall_eq Hs.loadRes_eq
attribute [local go_sem] Hs.ld_new Hs.ld_first Hs.ld_second Hs.ldr_new Hs.st_new
theorem of_nat64 (a : Nat) : BitVec.ofInt 64 (a : Int) = BitVec.ofNat 64 a := by simp
theorem bits_or (a b : Nat) (ha : a < 2 ^ 62) (hb : b < 2 ^ 62) : bits .or .i64 (a : Int) (b : Int) = ((a ||| b : Nat) : Int) := by
  have h : a ||| b < 2 ^ 62 := Nat.or_lt_two_pow ha hb
  show IntKind.i64.wrap ((BitVec.ofInt 64 (a : Int) ||| BitVec.ofInt 64 (b : Int)).toNat : Int) = _
  rw [of_nat64, of_nat64, BitVec.toNat_or, BitVec.toNat_ofNat, BitVec.toNat_ofNat, Nat.mod_eq_of_lt (by omega), Nat.mod_eq_of_lt (by omega), IntKind.wrap_i64]
  omega
theorem bits_and (a b : Nat) (ha : a < 2 ^ 62) (hb : b < 2 ^ 62) : bits .and .i64 (a : Int) (b : Int) = ((a &&& b : Nat) : Int) := by
  have h : a &&& b < 2 ^ 62 := Nat.and_lt_two_pow _ hb
  show IntKind.i64.wrap ((BitVec.ofInt 64 (a : Int) &&& BitVec.ofInt 64 (b : Int)).toNat : Int) = _
  rw [of_nat64, of_nat64, BitVec.toNat_and, BitVec.toNat_ofNat, BitVec.toNat_ofNat, Nat.mod_eq_of_lt (by omega), Nat.mod_eq_of_lt (by omega), IntKind.wrap_i64]
  omega
theorem shr_one (u i : Nat) (hu : u < 2 ^ 62) : bits .and .i64 ((u : Int) / 2 ^ i) 1 = if u.testBit i then 1 else 0 := by
  have h1 : ((u : Int) / 2 ^ i) = ((u / 2 ^ i : Nat) : Int) := by simp
  rw [h1]
  have := bits_and (u / 2 ^ i) 1 (Nat.lt_of_le_of_lt (Nat.div_le_self ..) hu) (by omega)
  rw [show ((1 : Nat) : Int) = 1 from rfl] at this
  rw [this, Nat.and_one_is_mod, Nat.testBit_eq_decide_div_mod_eq]
  have : u / 2 ^ i % 2 = 0 ∨ u / 2 ^ i % 2 = 1 := by omega
  rcases this with h | h <;> simp [h]
theorem rdy_no {L : List CallV} {u i j : Nat} (hj : j < L.length) (hu : u.testBit j = false) (h : befB (getC L j) (getC L i) = true) : rdyB L u i = false := by
  unfold rdyB
  rw [List.all_eq_false]
  exact ⟨j, List.mem_range.2 hj, by simp [hu, h]⟩
theorem rdy_yes {L : List CallV} {u i : Nat} (h : ∀ j, j < L.length → (u.testBit j || !befB (getC L j) (getC L i)) = true) : rdyB L u i = true := by
  unfold rdyB
  rw [List.all_eq_true]
  exact fun j hj => h j (List.mem_range.1 hj)
theorem allB_lt (cs : List CallV) : ∀ (k n : Nat), k ≤ n → allB cs k < 2 ^ n
  | 0, n, _ => Nat.two_pow_pos n
  | k + 1, n, h => by
    unfold allB
    split
    · exact Nat.or_lt_two_pow (allB_lt cs k n (by omega)) (Nat.pow_lt_pow_right (by omega) (by omega))
    · exact allB_lt cs k n (by omega)
theorem sh_one {k : Nat} (h : k ≤ 60) : wrap64 (2 ^ k) = ((2 ^ k : Nat) : Int) := by
  have h1 : (2 : Nat) ^ k ≤ 2 ^ 60 := Nat.pow_le_pow_right (by omega) h
  have h2 : ((2 : Int) ^ k) = ((2 ^ k : Nat) : Int) := by simp
  rw [h2]
  generalize (2 : Nat) ^ k = z at *
  unfold wrap64
  omega
theorem sh_w {k : Nat} (h : k ≤ 60) : IntKind.i64.wrap (2 ^ k) = ((2 ^ k : Nat) : Int) := by
  have h1 := sh_one h
  rw [IntKind.wrap_i64]
  unfold wrap64 at h1
  exact h1
theorem crow_at {W : World} {p : Option Addr} {cap : Nat} {cs : List CallV} (h : CRow W p cap cs) (hn : 0 < cs.length) : ∃ b off, p = some ⟨b, off, none⟩ ∧ cs.length ≤ cap ∧ b < W.heap.size ∧ CAt W b off cs := by
  rcases h with ⟨_, _, h⟩ | h
  · rw [h] at hn; simp at hn
  · exact h
set_option maxRecDepth 100000 in
set_option maxHeartbeats 2000000 in
theorem ready_any (p : Option Addr) (cap : Nat) (cs : List CallV) (u i : Nat) (w : World) (hC : CRow w p cap cs) (hs : cs.length ≤ 60) (hu : u < 2 ^ 62) (hi : i < cs.length) :
    Calls Tryz.prog 65 #[.slice p cs.length cap, .int .i64 u, .int .i64 i] w fun e w' => e = .returned (.bool (rdyB cs u i)) ∧ Below w.heap.size w w' := by
  obtain ⟨b, off, rfl, hcap, hb, hA⟩ := crow_at hC (by omega)
  have hic := getC_some hi
  have hld := fun W (hB : Below w.heap.size w W) => (hA.below hB hb).load hic
  generalize hd : getC cs i = d at hld
  have Hd := Lib.hid hd
  clear hd hic hC
  go_enter Tryz.func65, Tryz.ntmps65
  go_wp2
  go_loopw [7, 10, 13, 14, 15, 16, 17, 18, 19, 20, 21, 22, 23, 24, 25, 26, 27, 28] (fun x7 j x13 x14 x15 x16 x17 x18 x19 x20 x21 x22 x23 x24 x25 x26 x27 x28 wr => ∃ k : Nat, j = .int .i64 k ∧ k ≤ cs.length ∧ Below w.heap.size w wr ∧ ∀ x, x < k → (u.testBit x || !befB (getC cs x) d) = true) (fun x7 j x13 x14 x15 x16 x17 x18 x19 x20 x21 x22 x23 x24 x25 x26 x27 x28 wr => cs.length - (intOf j).toNat)
  case atStart => exact ⟨0, rfl, by omega, Below.refl _ _, fun x h => by omega⟩
  case round =>
    obtain ⟨k, rfl, hk, hB, hall⟩ := hrel
    by_cases hlt : k < cs.length
    · have hldk := (hA.below hB hb).load (getC_some hlt)
      have hldi := hld wr hB
      have hbit := shr_one u k hu
      have hbf := fun W => before_any (getC cs k) d W
      generalize hc : getC cs k = c at hldk hbf
      have Hc := Lib.hid hc
      clear hc
      have hbw0 := hB.drew
      have hld0 := hld wr.drew hbw0
      have hldk0 := (hA.below hbw0 hb).load (getC_some hlt)
      rw [Hc.out] at hldk0
      cases hub : u.testBit k with
      | true =>
        rw [hub] at hbit
        simp only [if_true] at hbit
        clear hld hbf hldi
        go_wp2
        refine wp_region_noPanic ?_
        refine wp_region_held_drew (S := fun W => (loadCall (.pointer (some ⟨b, off + k * 27, none⟩))).run Tryz.prog W = .ok (.agg (callL c).toArray) W) (by kernel_rfl) ?_ (fun hHeld => ?_)
        · first | exact hldk | exact hldk0
        iterate 14 (first | (refine np_sn ?_; (try simp only [nSO])) | ((first | refine np_n ?_ ?_ ?_ | refine np_t 0 ?_ ?_ ?_); rotate_left 1; (· (intro w hSw; (try dsimp only at hSw); go_simp; all_goals with_reducible rfl)); (try simp only [nSO])))
        first | (refine np_s 14 ?_; (try simp only [nSO])) | (refine np_step (i := 14) rfl (by kernel_rfl) (fun K hK => ?_); rw [if_pos (by rfl)]; go_simp; (fail); (try go_wp2_with fail); refine hK.out _ _ ?_ (fun hHeld => ?_); (· (first | exact hldk | exact hldk0)); clear hK K; (try simp only [nSO]))
        first | (refine np_sn ?_; (try simp only [nSO])) | (refine np_n ?_ ?_ ?_; rotate_left 1; (· (intro w hSw; (try dsimp only at hSw); go_simp; all_goals with_reducible rfl)); (try simp only [nSO]))
        refine wpAnyH_done (by kernel_rfl) ?_ _
        refine NoPanic.normal ?_
        go_wp2
        go_roundw
        case rel => exact ⟨k + 1, by go_num, by omega, hbw0, fun x hx => by
          rcases Nat.lt_or_ge x k with h | h
          · exact hall x h
          · have : x = k := by omega
            subst this; rw [hub]; rfl⟩
        case measure => simp [intOf]; omega
      | false =>
        rw [hub] at hbit
        simp only [Bool.false_eq_true, if_false] at hbit
        generalize hy : befB c d = y at hbf
        have Hy := Lib.hid hy
        clear hy
        have hk1 : ∀ W', Below wr.drew.heap.size wr.drew W' → Below w.heap.size w W' := fun W' h => hbw0.trans (h.mono hbw0.size)
        cases y with
        | true =>
          go_wp2
          refine wp_region_noPanic ?_
          refine wp_region_held_drew (S := fun W => (loadCall (.pointer (some ⟨b, off + k * 27, none⟩))).run Tryz.prog W = .ok (.agg (callL c).toArray) W ∧ (loadCall (.pointer (some ⟨b, off + i * 27, none⟩))).run Tryz.prog W = .ok (.agg (callL d).toArray) W) (by kernel_rfl) ?_ (fun hHeld => ?_)
          · first | exact ⟨hldk, hldi⟩ | exact ⟨hldk0, hld0⟩ | exact ⟨by have := (hA.below (hk1 _ hbc) hb).load (getC_some hlt); rw [Hc.out] at this; exact this, hld _ (hk1 _ hbc)⟩
          iterate 14 (first | (refine np_sn ?_; (try simp only [nSO])) | ((first | refine np_n ?_ ?_ ?_ | refine np_t 0 ?_ ?_ ?_); rotate_left 1; (· (intro w hSw; (try dsimp only at hSw); go_simp; all_goals with_reducible rfl)); (try simp only [nSO])))
          first | (refine np_s 14 ?_; (try simp only [nSO])) | (refine np_step (i := 14) rfl (by kernel_rfl) (fun K hK => ?_); rw [if_pos (by rfl)]; go_simp; (go_at_call 106; refine (hbf _).mono ?_; rintro e w1 ⟨rfl, hbc⟩); (try go_wp2_with fail); refine hK.out _ _ ?_ (fun hHeld => ?_); (· (first | exact ⟨hldk, hldi⟩ | exact ⟨hldk0, hld0⟩ | exact ⟨by have := (hA.below (hk1 _ hbc) hb).load (getC_some hlt); rw [Hc.out] at this; exact this, hld _ (hk1 _ hbc)⟩)); clear hK K; (try simp only [nSO]))
          first | (refine np_sn ?_; (try simp only [nSO])) | (refine np_n ?_ ?_ ?_; rotate_left 1; (· (intro w hSw; (try dsimp only at hSw); go_simp; all_goals with_reducible rfl)); (try simp only [nSO]))
          refine wpAnyH_done (by kernel_rfl) ?_ _
          refine NoPanic.normal ?_
          have hbx := hk1 _ hbc
          go_wp2
          go_returns
          exact ⟨by rw [rdy_no hlt hub (by rw [Hc.out, Hd.out]; exact Hy.out)]; rfl, hbx⟩
        | false =>
          go_wp2
          refine wp_region_noPanic ?_
          refine wp_region_held_drew (S := fun W => (loadCall (.pointer (some ⟨b, off + k * 27, none⟩))).run Tryz.prog W = .ok (.agg (callL c).toArray) W ∧ (loadCall (.pointer (some ⟨b, off + i * 27, none⟩))).run Tryz.prog W = .ok (.agg (callL d).toArray) W) (by kernel_rfl) ?_ (fun hHeld => ?_)
          · first | exact ⟨hldk, hldi⟩ | exact ⟨hldk0, hld0⟩ | exact ⟨by have := (hA.below (hk1 _ hbc) hb).load (getC_some hlt); rw [Hc.out] at this; exact this, hld _ (hk1 _ hbc)⟩
          iterate 14 (first | (refine np_sn ?_; (try simp only [nSO])) | ((first | refine np_n ?_ ?_ ?_ | refine np_t 0 ?_ ?_ ?_); rotate_left 1; (· (intro w hSw; (try dsimp only at hSw); go_simp; all_goals with_reducible rfl)); (try simp only [nSO])))
          first | (refine np_s 14 ?_; (try simp only [nSO])) | (refine np_step (i := 14) rfl (by kernel_rfl) (fun K hK => ?_); rw [if_pos (by rfl)]; go_simp; (go_at_call 106; refine (hbf _).mono ?_; rintro e w1 ⟨rfl, hbc⟩); (try go_wp2_with fail); refine hK.out _ _ ?_ (fun hHeld => ?_); (· (first | exact ⟨hldk, hldi⟩ | exact ⟨hldk0, hld0⟩ | exact ⟨by have := (hA.below (hk1 _ hbc) hb).load (getC_some hlt); rw [Hc.out] at this; exact this, hld _ (hk1 _ hbc)⟩)); clear hK K; (try simp only [nSO]))
          first | (refine np_sn ?_; (try simp only [nSO])) | (refine np_n ?_ ?_ ?_; rotate_left 1; (· (intro w hSw; (try dsimp only at hSw); go_simp; all_goals with_reducible rfl)); (try simp only [nSO]))
          refine wpAnyH_done (by kernel_rfl) ?_ _
          refine NoPanic.normal ?_
          have hbx := hk1 _ hbc
          go_wp2
          go_roundw
          case rel => exact ⟨k + 1, by go_num, by omega, hbx, fun x hx => by
            rcases Nat.lt_or_ge x k with h | h
            · exact hall x h
            · have : x = k := by omega
              subst this; rw [Hc.out, Hy.out]; simp⟩
          case measure => simp [intOf]; omega
    · have hke : k = cs.length := by omega
      subst hke
      go_wp2
      go_returns
      exact ⟨by rw [rdy_yes (fun j hj => by rw [Hd.out]; exact hall j hj)]; rfl, hB⟩
set_option maxRecDepth 100000 in
set_option maxHeartbeats 2000000 in
theorem answered_any (p : Option Addr) (cap : Nat) (cs : List CallV) (w : World) (hC : CRow w p cap cs) (hs : cs.length ≤ 60) :
    Calls Tryz.prog 62 #[.slice p cs.length cap] w fun e w' => e = .returned (.int .i64 (allB cs cs.length : Nat)) ∧ Below w.heap.size w w' := by
  go_enter Tryz.func62, Tryz.ntmps62
  go_wp2
  go_loopw [3, 4, 5, 8] (fun x3 x4 x5 j wr => ∃ k : Nat, j = .int .i64 k ∧ k ≤ cs.length ∧ x3 = .int .i64 (allB cs k : Nat) ∧ Below w.heap.size w wr) (fun x3 x4 x5 j wr => cs.length - (intOf j).toNat)
  case atStart => exact ⟨0, rfl, by omega, rfl, Below.refl _ _⟩
  case round =>
    obtain ⟨k, rfl, hk, rfl, hB⟩ := hrel
    by_cases hlt : k < cs.length
    · obtain ⟨b, off, rfl, hcap, hb, hA⟩ := crow_at hC (by omega)
      have hldk := (hA.below hB hb).load (getC_some hlt)
      have hal : allB cs (k + 1) = if 0 ≤ (getC cs k).answered then allB cs k ||| 2 ^ k else allB cs k := rfl
      generalize getC cs k = c at hldk hal
      have hsz : allB cs k < 2 ^ 60 := allB_lt cs k 60 (by omega)
      have hpw : (2 : Nat) ^ k < 2 ^ 60 := Nat.pow_lt_pow_right (by omega) (by omega)
      have hor := bits_or (allB cs k) (2 ^ k) (by omega) (by omega)
      have hBa : Below w.heap.size w (wr.alloc (.cells (callL c).toArray 56)) := hB.alloc hB.size _
      have Hal := Lib.hid hal
      clear hal
      by_cases ha : 0 ≤ c.answered
      · go_wp2
        go_roundw
        case rel => exact ⟨k + 1, by go_num, by omega, by rw [Hal.out, if_pos ha, ← hor, sh_one (by omega)], hBa⟩
        case measure => simp [intOf]; omega
      · go_wp2
        go_roundw
        case rel => exact ⟨k + 1, by go_num, by omega, by rw [Hal.out, if_neg ha], hBa⟩
        case measure => simp [intOf]; omega
    · have hke : k = cs.length := by omega
      subst hke
      go_wp2
      go_returns
      exact ⟨rfl, hB⟩
end Go.Proofs.YtdeiocppghhfdaaGreat.Lin
namespace Go.Proofs.YtdeiocppghhfdaaGreat.Lin
set_option linter.unusedVariables false
set_option linter.unusedSimpArgs false
open Go.RowKit Go.Lib Go.Shelf
open Hs
attribute [local go_sem, local simp] Hs.callL_0 Hs.callL_1 Hs.callL_2 Hs.callL_3 Hs.callL_4 Hs.callL_5 Hs.callL_6 Hs.callL_7 Hs.callL_8 Hs.callL_9 Hs.callL_10 Hs.callL_11 Hs.callL_12 Hs.callL_13 Hs.callL_14 Hs.callL_15 Hs.callL_16 Hs.callL_17 Hs.callL_18 Hs.callL_19 Hs.callL_20 Hs.callL_21 Hs.callL_22 Hs.callL_23 Hs.callL_24 Hs.callL_25 Hs.callL_26 Hs.resL_0 Hs.resL_1 Hs.resL_2 Hs.resL_3 Hs.resL_4 Hs.resL_5 Hs.resL_6 Hs.resL_7 Hs.resL_8 Hs.resL_9 Hs.resL_10 Hs.resL_11 Hs.resL_12 Hs.callG_0 Hs.callG_1 Hs.callG_2 Hs.callG_3 Hs.callG_4 Hs.callG_5 Hs.callG_6 Hs.callG_7 Hs.callG_8 Hs.callG_9 Hs.callG_10 Hs.callG_11 Hs.callG_12 Hs.callG_13 Hs.callG_14 Hs.callG_15 Hs.callG_16 Hs.callG_17 Hs.callG_18 Hs.callG_19 Hs.callG_20 Hs.callG_21 Hs.callG_22 Hs.callG_23 Hs.callG_24 Hs.callG_25 Hs.callG_26 Hs.resG_0 Hs.resG_1 Hs.resG_2 Hs.resG_3 Hs.resG_4 Hs.resG_5 Hs.resG_6 Hs.resG_7 Hs.resG_8 Hs.resG_9 Hs.resG_10 Hs.resG_11 Hs.resG_12 Hs.callL_len Hs.resL_len
attribute [local go_sem ↓] Hs.loadCall_eq Hs.loadRes_eq
attribute [local go_sem] Hs.ld_new Hs.ld_first Hs.ld_second Hs.ldr_new Hs.st_new
theorem ok_op {c : CallV} (h : c.Ok) : OpIn (opV c) := ⟨h.kd.1, h.kd.2, h.id.1, h.id.2, h.gr, h.sl, h.at_, h.nn⟩
def opL (c : CallV) : List Value := [.int .u8 c.okind, .int .i64 c.oslot, .int .i64 c.oat, .int .i64 c.on, .int .u32 c.oid, .int .u8 c.ograv, .string c.otext]
def loadOp (v : Value) : Sem Value := Instr.loadAt 54 v
theorem loadOp_eq (v : Value) : Instr.loadAt 54 v = loadOp v := rfl
theorem ldo_call {W : World} {b : Nat} (c : CallV) (h : W.heap[b]? = some (.cells (callL c).toArray 56 (0, 0))) : (loadOp (.pointer (some ⟨b, 2, none⟩))).run Tryz.prog W = .ok (.agg (opL c).toArray) W :=
  run_loadAt_mid W b 2 54 (opL c) _ (fun j v hv => by
    rw [blk_cell h]
    have hlt := (List.getElem?_eq_some_iff.1 hv).1
    have : (opL c)[j]? = (callL c)[2 + j]? := by
      rw [show opL c = ((callL c).drop 2).take 7 from rfl, List.getElem?_take, List.getElem?_drop]
      rw [if_pos (by simpa [opL] using hlt)]
    rw [← this]
    exact hv) Tryz.underlying54 rfl (by kernel_rfl)
attribute [local go_sem ↓] loadOp_eq
theorem do_call {b : Nat} {M : MM} {c : CallV} {w0 W : World} {K : Int} (h : Run w0 W b M) (hok : MSok M.st K) (hK : K ≤ 100000) (hc : c.Ok) :
    Calls Tryz.prog 50 #[.pointer (some ⟨b, 0, none⟩), .int .i64 c.thread, .agg (opL c).toArray] W fun e W' => ∃ v M', e = .returned v ∧ Run w0 W' b M' ∧ M'.st = (doS M.st c.thread (opV c)).2 := by
  refine (do_run b c.thread M (opV c) w0 W K h hok hK (ok_op hc)).mono ?_
  rintro e W' ⟨M', rfl, h1, h2, _, _⟩
  exact ⟨_, M', rfl, h1, h2⟩
theorem acc_call {b : Nat} {M : MM} {c : CallV} {w0 W : World} (h : Run w0 W b M) (hok : MSok M.st 100000) (hc : c.Ok) (hn : c.ps.length ≤ 1000000) :
    Calls Tryz.prog 53 #[.pointer (some ⟨b, 0, none⟩), .int .i64 c.thread, .agg (opL c).toArray, .agg (Hs.resL c).toArray] W fun e W' => ∃ M', e = .returned (.bool (accS M.st c.thread (opV c) (resV c) (itV c)).1) ∧ Run w0 W' b M' ∧ M'.st = (accS M.st c.thread (opV c) (resV c) (itV c)).2 := by
  refine (acc_run b c.thread M (opV c) (resV c) (itV c) w0 W h hok (ok_op hc) (by show c.ps.length ≤ maxLen; unfold maxLen; omega)).mono ?_
  rintro e W' ⟨M', rfl, h1, h2, _⟩
  exact ⟨M', rfl, h1, h2⟩
theorem copy_new {b : Nat} {M : MM} {W : World} {K : Int} (h : MdAt W b M) (hok : MSok M.st K) : Calls Tryz.prog 102 #[.pointer (some ⟨b, 0, none⟩)] W fun e W' => ∃ b2 N, e = .returned (.pointer (some ⟨b2, 0, none⟩)) ∧ Run W W' b2 N ∧ N.st = M.st := by
  refine (copy_any b M W K h hok).mono ?_
  rintro e W' ⟨b2, N, rfl, hN, hst, hb, hf⟩
  exact ⟨b2, N, rfl, ⟨hN, hf, hb⟩, hst⟩
theorem Run.up {w0 w W : World} {b : Nat} {M : MM} (h : Run w W b M) (hb : Below w0.heap.size w0 w) : Run w0 W b M := ⟨h.at_, fun k hk => Nat.le_trans hb.size (h.own k hk), hb.trans (h.bl.mono hb.size)⟩
def NextPost (st : MS) (c : CallV) (w : World) (e : Ending) (w' : World) : Prop :=
  ∃ b' M', e = .returned (.tuple #[.pointer (some ⟨b', 0, none⟩), .bool (nextS st c).isSome]) ∧ Run w w' b' M' ∧ ∀ t, nextS st c = some t → M'.st = t
set_option maxRecDepth 100000 in
set_option maxHeartbeats 2000000 in
theorem next_any (b : Nat) (M : MM) (c : CallV) (w : World) (K : Int) (h : MdAt w b M) (hok : MSok M.st K) (hK : K ≤ 100000) (hc : c.Ok) (hn : c.ps.length ≤ 1000000) :
    Calls Tryz.prog 66 #[.pointer (some ⟨b, 0, none⟩), .agg (callL c).toArray] w (NextPost M.st c w) := by
  have hB0 : Below w.heap.size w (w.alloc (.cells (callL c).toArray 56)) := (Below.refl _ _).alloc (Nat.le_refl _) _
  have hcp := copy_new (h.below hB0) hok
  have hz := blk_new w (callL c) 56
  go_enter Tryz.func66, Tryz.ntmps66
  by_cases ha : c.answered < 0
  · go_wp2_with (first | (go_at_call 102; refine hcp.mono ?_; rintro e w1 ⟨b2, N, rfl, hR, hst⟩; have hz1 := blk_below hz hR.bl (by simp); have hR2 := Run.up hR hB0; have e12 : w1.cell? ⟨w.heap.size, 12, none⟩ = some (.int .i64 c.answered) := (blk_cell hz1 12).trans (callL_12 c); have e0 : w1.cell? ⟨w.heap.size, 0, none⟩ = some (.int .i64 c.thread) := (blk_cell hz1 0).trans (callL_0 c); have lo := ldo_call c hz1; have lr := ldr_call c hz1; clear hz1 hR hcp) | (go_at_call 50; refine (do_call hR2 (by rw [hst]; exact hok) hK hc).mono ?_; rintro e w2 ⟨v, M2, rfl, hR3, hst2⟩))
    go_returns
    refine ⟨b2, M2, ?_, hR3, fun t ht => ?_⟩
    · unfold nextS; rw [if_pos ha]; rfl
    · unfold nextS at ht; rw [if_pos ha] at ht; rw [hst2, hst]; exact Option.some.inj ht
  · go_wp2_with (first | (go_at_call 102; refine hcp.mono ?_; rintro e w1 ⟨b2, N, rfl, hR, hst⟩; have hz1 := blk_below hz hR.bl (by simp); have hR2 := Run.up hR hB0; have e12 : w1.cell? ⟨w.heap.size, 12, none⟩ = some (.int .i64 c.answered) := (blk_cell hz1 12).trans (callL_12 c); have e0 : w1.cell? ⟨w.heap.size, 0, none⟩ = some (.int .i64 c.thread) := (blk_cell hz1 0).trans (callL_0 c); have lo := ldo_call c hz1; have lr := ldr_call c hz1; clear hz1 hR hcp) | (go_at_call 53; refine (acc_call hR2 (by rw [hst]; exact hok.mono hK) hc hn).mono ?_; rintro e w2 ⟨M2, rfl, hR3, hst2⟩))
    go_returns
    refine ⟨b2, M2, ?_, hR3, fun t ht => ?_⟩
    · unfold nextS; rw [if_neg (by omega)]; (try rw [hst]); split <;> rename_i h <;> simp [h]
    · unfold nextS at ht; rw [if_neg (by omega)] at ht
      split at ht
      · rw [hst2, hst]; exact Option.some.inj ht
      · cases ht
def StartPost (c : CfgV) (cs : List CallV) (w : World) (e : Ending) (w' : World) : Prop :=
  (startE c cs ≠ 0 ∧ e = .returned (.tuple #[.pointer none, .int .i64 (startE c cs)]) ∧ Below w.heap.size w w') ∨
  (startE c cs = 0 ∧ ∃ b M, e = .returned (.tuple #[.pointer (some ⟨b, 0, none⟩), .int .i64 0]) ∧ Run w w' b M ∧ M.st = newS c)
set_option maxRecDepth 100000 in
set_option maxHeartbeats 2000000 in
theorem start_any (c : CfgV) (p : Option Addr) (cap : Nat) (cs : List CallV) (w : World) (hC : CRow w p cap cs) (hs : cs.length ≤ 1000) (hok : ∀ x ∈ cs, x.Ok) :
    Calls Tryz.prog 61 #[c.v, .slice p cs.length cap] w (StartPost c cs w) := by
  have hB0 : Below w.heap.size w (w.alloc (.cells #[.int .i64 c.slots, .int .u64 c.gens, .int .i64 c.clients, .int .i64 c.readers, .int .i64 c.queue, .int .i64 c.batch, .int .i64 c.feed, .string c.text] 24)) := (Below.refl w.heap.size w).alloc (Nat.le_refl _) _
  have hck := fun W (h : Below w.heap.size w W) => check_any p cap cs W (hC.on h) (by omega) hok
  have hS : startE c cs = if cfgE c ≠ 0 then cfgE c else if (checkP cs).2 ≠ 0 then (checkP cs).2 else if 10 < cs.length then 5 else 0 := rfl
  by_cases hc : cfgE c = 0
  · have hnew := new_ok c w _ hc hB0
    rw [if_neg (by rw [hc]; simp)] at hS
    unfold CfgV.v at *
    rcases check_two cs with h2 | h2
    · rw [if_neg (by rw [h2]; simp)] at hS
      by_cases hl : 10 < cs.length
      · rw [if_pos hl] at hS
        go_enter Tryz.func61, Tryz.ntmps61
        go_wp2_with (first | (go_at_call 49; refine hnew.mono ?_; rintro e w1 ⟨b, M, rfl, hR, hst, hb1⟩; clear hb1) | (go_at_call 75; refine (hck _ hR.bl).mono ?_; rw [h2]; rintro e w2 ⟨rfl, hb2⟩))
        go_returns
        exact .inl ⟨by rw [hS]; simp, by rw [hS]; rfl, (hR.on hb2).bl⟩
      · rw [if_neg hl] at hS
        go_enter Tryz.func61, Tryz.ntmps61
        go_wp2_with (first | (go_at_call 49; refine hnew.mono ?_; rintro e w1 ⟨b, M, rfl, hR, hst, hb1⟩; clear hb1) | (go_at_call 75; refine (hck _ hR.bl).mono ?_; rw [h2]; rintro e w2 ⟨rfl, hb2⟩))
        go_returns
        exact .inr ⟨hS, b, M, rfl, hR.on hb2, hst⟩
    · rw [h2, if_pos (by simp)] at hS
      go_enter Tryz.func61, Tryz.ntmps61
      go_wp2_with (first | (go_at_call 49; refine hnew.mono ?_; rintro e w1 ⟨b, M, rfl, hR, hst, hb1⟩; clear hb1) | (go_at_call 75; refine (hck _ hR.bl).mono ?_; rw [h2]; rintro e w2 ⟨rfl, hb2⟩))
      go_returns
      exact .inl ⟨by rw [hS]; simp, by rw [hS]; rfl, (hR.on hb2).bl⟩
  · have hnew := fun W => new_no c W hc
    rw [if_pos hc] at hS
    have hd : (cfgE c != 0) = true := by simpa using hc
    generalize cfgE c = ce at *
    unfold CfgV.v at *
    go_enter Tryz.func61, Tryz.ntmps61
    go_wp2_with (go_at_call 49; refine (hnew _).mono ?_; rintro e w1 ⟨rfl, hb1⟩)
    go_returns
    exact .inl ⟨by rw [hS]; exact hc, by rw [hS]; rfl, hB0.trans (hb1.mono hB0.size)⟩
end Go.Proofs.YtdeiocppghhfdaaGreat.Lin
namespace Go.Proofs.YtdeiocppghhfdaaGreat.Lin
set_option linter.unusedVariables false
set_option linter.unusedSimpArgs false
open Go.RowKit Go.Lib Go.Shelf
open Hs
open KitI (iv own_below)
abbrev tInt : TypeId := 3
abbrev tSl : TypeId := 28
structure FK (n0 s : Nat) (W W' : World) : Prop where
  bel : Below n0 W W'
  low : ∀ j, j < s + 4 → j ≠ n0 + 2 → j ≠ s → W'.heap[j]? = W.heap[j]?
  high : ∀ j (cs : Array Value) T r, s + 4 ≤ j → W.heap[j]? = some (.cells cs T r) → T ≠ tInt → W'.heap[j]? = some (.cells cs T r)
theorem FK.refl (n0 s : Nat) (W : World) : FK n0 s W W := ⟨Below.refl _ _, fun _ _ _ _ => rfl, fun _ _ _ _ _ h _ => h⟩
theorem FK.trans {n0 s : Nat} {A B C : World} (h : FK n0 s A B) (k : FK n0 s B C) : FK n0 s A C :=
  ⟨h.bel.trans k.bel, fun j h1 h2 h3 => (k.low j h1 h2 h3).trans (h.low j h1 h2 h3), fun j cs T r h1 h2 h3 => k.high j cs T r h1 (h.high j cs T r h1 h2 h3) h3⟩
theorem FK.below {n0 s : Nat} {W W' : World} (h : Below W.heap.size W W') (h1 : s + 4 ≤ W.heap.size) (h2 : n0 ≤ s) : FK n0 s W W' :=
  ⟨h.mono (by omega), fun j hj _ _ => h.block j (by omega), fun j cs T r _ hc _ => (h.block j (Array.getElem?_eq_some_iff.1 hc).1).trans hc⟩
theorem FK.row {n0 s n : Nat} {W W' : World} {v : Value} {xs : List Value} (ho : W.ownsRow (s + 4) tInt 1 v n xs) (hg : W.grownBy W' v.ownBlock) (h1 : s + 4 ≤ W.heap.size) (h2 : n0 ≤ s) : FK n0 s W W' := by
  have hrow : ∀ j, some j = v.ownBlock → s + 4 ≤ j ∧ ∃ cur, W.heap[j]? = some (.cells cur tInt (0, 0)) := fun j e => by
    rcases ho.2 with ⟨h1, _⟩ | ⟨g, cap, cur, h1, h3, h4, _⟩
    · rw [h1] at e; cases e
    · rw [h1] at e; injection e with e; subst e; exact ⟨h3, cur, h4⟩
  refine ⟨⟨hg.os, hg.tape, hg.output, hg.size, fun j hj => hg.block j (by omega) fun e => ?_⟩, fun j hj _ _ => hg.block j (by omega) fun e => ?_, fun j cs T r _ hc hT => (hg.block j (Array.getElem?_eq_some_iff.1 hc).1 fun e => ?_).trans hc⟩
  · have := (hrow j e).1; omega
  · have := (hrow j e).1; omega
  · obtain ⟨_, cur, h⟩ := hrow j e
    rw [hc] at h; injection h with h; injection h with _ h _; exact hT h
theorem FK.box {n0 s : Nat} (W : World) (v : Value) (h2 : n0 + 3 ≤ s) : FK n0 s W (W.setCell ⟨n0 + 2, 0, none⟩ v) := by
  refine ⟨(Below.refl n0 W).setCell (p := ⟨n0 + 2, 0, none⟩) (by simp) v, fun j _ h _ => Below.heap_setCell W _ v j h, fun j cs T r h1 hc _ => (Below.heap_setCell W _ v j ?_).trans hc⟩
  show j ≠ n0 + 2
  omega
theorem FK.map {n0 s : Nat} {W W' : World} (hg : W.grownBy W' (some s)) (hs : s + 4 ≤ W.heap.size) (h2 : n0 ≤ s) : FK n0 s W W' := by
  refine ⟨⟨hg.os, hg.tape, hg.output, hg.size, fun j hj => hg.block j (by omega) fun e => ?_⟩, fun j hj _ h => hg.block j (by omega) fun e => h (Option.some.inj e), fun j cs T r h1 hc _ => (hg.block j (Array.getElem?_eq_some_iff.1 hc).1 fun e => ?_).trans hc⟩
  · injection e with e; omega
  · injection e with e; omega
def DeadPr (cs : List CallV) (u : Int) (k : ByteArray) (_ : Value) : Prop := ∀ (x : Nat) (st : MS), (x : Int) = u → MSok st 100000 → k = strOf (keyL st) → SS cs st x = none
abbrev findFn : FuncId := 63
def findV (n0 s : Nat) : Value := .func (.func findFn) #[] #[.pointer (some ⟨s + 1, 0, none⟩), .pointer (some ⟨s + 2, 0, none⟩), .pointer (some ⟨n0 + 1, 0, none⟩), .pointer (some ⟨n0 + 2, 0, none⟩), .pointer (some ⟨s + 3, 0, none⟩)]
structure FE (n0 s : Nat) (w0 : World) (p : Option Addr) (cap : Nat) (cs : List CallV) (nm : Nat) (v : Value) (W : World) : Prop where
  bel : Below n0 w0 W
  le : s + 4 ≤ W.heap.size
  cl : W.cell? ⟨n0 + 1, 0, none⟩ = some (.slice p cs.length cap)
  co : W.heap[n0 + 2]? = some (.cells #[v] tSl (0, 0))
  mp : MapP W 4 s nm (DeadPr cs)
  ca : W.cell? ⟨s + 1, 0, none⟩ = some (.int .i64 (allB cs cs.length : Nat))
  cd : W.cell? ⟨s + 2, 0, none⟩ = some (.map (some s))
  cf : W.cell? ⟨s + 3, 0, none⟩ = some (findV n0 s)
section
variable {n0 s : Nat} {w0 : World} {p : Option Addr} {cap : Nat} {cs : List CallV} {nm nm' : Nat} {v v' : Value} {W W' : World}
theorem FE.step (h : FE n0 s w0 p cap cs nm v W) (k : FK n0 s W W') (hs : n0 + 3 ≤ s) (hb : W'.heap[n0 + 2]? = some (.cells #[v'] tSl (0, 0))) (hm : MapP W' 4 s nm' (DeadPr cs)) : FE n0 s w0 p cap cs nm' v' W' := by
  have hc : ∀ j o, j < s + 4 → j ≠ n0 + 2 → j ≠ s → W'.cell? ⟨j, o, none⟩ = W.cell? ⟨j, o, none⟩ := fun j o h1 h2 h3 => World.cell?_of_block (a := ⟨j, o, none⟩) (k.low j h1 h2 h3)
  refine ⟨h.bel.trans k.bel, Nat.le_trans h.le k.bel.size, ?_, hb, hm, ?_, ?_, ?_⟩
  · rw [hc _ _ (by omega) (by omega) (by omega)]; exact h.cl
  · rw [hc _ _ (by omega) (by omega) (by omega)]; exact h.ca
  · rw [hc _ _ (by omega) (by omega) (by omega)]; exact h.cd
  · rw [hc _ _ (by omega) (by omega) (by omega)]; exact h.cf
theorem FE.on (h : FE n0 s w0 p cap cs nm v W) (hb : Below W.heap.size W W') (hs : n0 + 3 ≤ s) : FE n0 s w0 p cap cs nm v W' :=
  h.step (FK.below hb h.le (by omega)) hs ((hb.block _ (by have := h.le; omega)).trans h.co) (h.mp.keep (hb.block _ h.mp.lt))
theorem FE.grown {n : Nat} {xs : List Value} (h : FE n0 s w0 p cap cs nm v W) (ho : W.ownsRow (s + 4) tInt 1 v' n xs) (hg : W.grownBy W' v'.ownBlock) (hs : n0 + 3 ≤ s) : FE n0 s w0 p cap cs nm v W' := by
  have hlow : ∀ j, j < s + 4 → W'.heap[j]? = W.heap[j]? := fun j hj => hg.block j (by have := h.le; omega) fun e => by
    rcases ho.2 with ⟨h1, _⟩ | ⟨g, cap, cur, h1, h3, h4, _⟩
    · rw [h1] at e; cases e
    · rw [h1] at e; injection e with e; simp at e; omega
  exact h.step (FK.row ho hg h.le (by omega)) hs ((hlow _ (by omega)).trans h.co) (h.mp.keep (hlow _ (by omega)))
theorem FE.box (h : FE n0 s w0 p cap cs nm v W) (hs : n0 + 3 ≤ s) (u : Value) : FE n0 s w0 p cap cs nm u (W.setCell ⟨n0 + 2, 0, none⟩ u) :=
  h.step (FK.box W u hs) hs (by have := blk_set (L := [v]) h.co 0 u; simpa using this) (h.mp.keep (Below.heap_setCell W _ u s (by simp; omega)))
theorem FE.store (h : FE n0 s w0 p cap cs nm v W) (hs : n0 + 3 ≤ s) (hg : W.grownBy W' (some s)) (hm : MapP W' 4 s nm' (DeadPr cs)) : FE n0 s w0 p cap cs nm' v W' :=
  h.step (FK.map hg h.le (by omega)) hs ((hg.block _ (by have := h.le; omega) (fun e => by injection e with e; omega)).trans h.co) hm
theorem FE.blk (h : FE n0 s w0 p cap cs nm v W) (k : FK n0 s W W') {j : Nat} {c : Array Value} {T : TypeId} {r : Nat × Nat} (hj : W.heap[j]? = some (.cells c T r)) (h1 : T ≠ tInt) (h2 : T ≠ tSl) : W'.heap[j]? = some (.cells c T r) := by
  by_cases hlt : j < s + 4
  · refine (k.low j hlt (fun e => ?_) (fun e => ?_)).trans hj
    · subst e; rw [h.co] at hj; injection hj with hj; injection hj with _ hj _; exact h2 hj.symm
    · subst e
      obtain ⟨es, ck, hm, _⟩ := h.mp
      rw [hm] at hj; cases hj
  · exact k.high j c T r (by omega) hj h1
theorem FE.row (h : FE n0 s w0 p cap cs nm v W) (k : FK n0 s W W') {base sz n : Nat} {e : TypeId} {x : Value} {xs : List Value} (ho : W.ownsRow base e sz x n xs) (h1 : e ≠ tInt) (h2 : e ≠ tSl) : W'.ownsRow base e sz x n xs := by
  refine ⟨ho.1, ?_⟩
  rcases ho.2 with hn | ⟨g, cap, cur, rfl, hB, hg, rest⟩
  · exact .inl hn
  · exact .inr ⟨g, cap, cur, rfl, hB, h.blk k hg h1 h2, rest⟩
theorem FE.model (h : FE n0 s w0 p cap cs nm v W) (k : FK n0 s W W') {b : Nat} {M : MM} (hM : MdAt W b M) : MdAt W' b M :=
  ⟨h.blk k hM.blk (by decide) (by decide), h.row k hM.marks (by decide) (by decide), h.row k hM.seats (by decide) (by decide), fun S hS => h.row k (hM.slots S hS) (by decide) (by decide), fun S hS x hx => h.row k (hM.smarks S hS x hx) (by decide) (by decide), hM.some_, hM.nodup⟩
theorem own_box {n : Nat} {W : World} {x u : Value} {xs : List Value} (h : W.ownsRow (s + 4) tInt 1 x n xs) (hs : n0 + 3 ≤ s) : (W.setCell ⟨n0 + 2, 0, none⟩ u).ownsRow (s + 4) tInt 1 x n xs := by
  refine ⟨h.1, ?_⟩
  rcases h.2 with hn | ⟨g, cap, cur, rfl, hB, hg, rest⟩
  · exact .inl hn
  · exact .inr ⟨g, cap, cur, rfl, hB, (Below.heap_setCell W _ u g (by show g ≠ n0 + 2; omega)).trans hg, rest⟩
theorem own_map {n : Nat} {W W' : World} {x : Value} {xs : List Value} (h : W.ownsRow (s + 4) tInt 1 x n xs) (hg : W.grownBy W' (some s)) : W'.ownsRow (s + 4) tInt 1 x n xs := by
  refine ⟨h.1, ?_⟩
  rcases h.2 with hn | ⟨g, cap, cur, rfl, hB, hc, rest⟩
  · exact .inl hn
  · exact .inr ⟨g, cap, cur, rfl, hB, (hg.block g (Array.getElem?_eq_some_iff.1 hc).1 (fun e => by injection e with e; omega)).trans hc, rest⟩
theorem next_ok {st t : MS} {c : CallV} {K : Int} (h : MSok st K) (hc : c.Ok) (hn : nextS st c = some t) : MSok t (K + 1) := by
  unfold nextS at hn
  split at hn
  · cases hn; exact doS_ok h (ok_op hc)
  · split at hn
    · cases hn
      unfold accS
      split
      · exact doS_ok h (ok_op hc)
      · exact h.mono (by omega)
    · cases hn
theorem crow_get {W : World} {b off cap : Nat} {cs : List CallV} (h : CRow W (some ⟨b, off, none⟩) cap cs) : CAt W b off cs := by
  rcases h with ⟨h, _⟩ | ⟨b', off', h, _, _, hA⟩
  · cases h
  · injection h with h; injection h with h1 h2; subst h1 h2; exact hA
theorem own_cap {base n : Nat} {W : World} {e : TypeId} {a : Option Addr} {cap : Nat} {xs : List Value} (h : W.ownsRow base e 1 (.slice a n cap) n xs) : n ≤ cap := by
  rcases h.2 with ⟨_, hn⟩ | ⟨g, c, cur, h1, hB, hc, h4, h5, h6, h7⟩
  · omega
  · injection h1 with h1 h2 h3; omega
theorem own_cut {base n : Nat} {W : World} {e : TypeId} {a : Option Addr} {cap : Nat} {xs : List Value} {y : Value} (h : W.ownsRow base e 1 (.slice a (n + 1) cap) (n + 1) (xs ++ [y])) : W.ownsRow base e 1 (.slice a n cap) n xs := by
  have hl : xs.length = n := by have := h.1; simp at this; omega
  refine ⟨by omega, ?_⟩
  rcases h.2 with ⟨_, hn⟩ | ⟨g, c, cur, h1, hB, hc, h4, h5, h6, h7⟩
  · omega
  · injection h1 with h1 h2 h3
    subst h1 h3
    refine .inr ⟨g, cap, cur, rfl, hB, hc, by omega, h5, h6, ?_⟩
    rw [Nat.mul_one] at h7 ⊢
    have := congrArg (List.take n) h7
    rw [List.take_take, List.take_append_of_le_length (by omega), List.take_of_length_le (l := xs) (by omega), Nat.min_eq_left (by omega)] at this
    exact this
end
end Go.Proofs.YtdeiocppghhfdaaGreat.Lin
