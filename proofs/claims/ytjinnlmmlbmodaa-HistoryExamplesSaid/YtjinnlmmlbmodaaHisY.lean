/- HistoryEffects: the plain law. -/
import Derived.Test.YtjinnlmmlbmodaaHisW
namespace Go.Proofs.Ytjinnlmmlbmodaa
open Go.RowKit Go.Lib Go.Shelf

theorem ordE_zero {n : Nat} : ∀ (r seen : List Int), (∀ x ∈ r, 0 ≤ x ∧ x < (n : Int)) → (∀ x ∈ r, x ∉ seen) → r.Nodup → ordE n seen r = 0
  | [], _, _, _, _ => rfl
  | x :: r, seen, h1, h2, h3 => by
    have hx := h1 x (List.mem_cons_self ..)
    unfold ordE
    rw [if_neg (by omega), if_neg (h2 x (List.mem_cons_self ..))]
    obtain ⟨h4, h5⟩ := List.nodup_cons.1 h3
    refine ordE_zero r (seen ++ [x]) (fun y hy => h1 y (List.mem_cons_of_mem _ hy)) (fun y hy hm => ?_) h5
    rcases List.mem_append.1 hm with h | h
    · exact h2 y (List.mem_cons_of_mem _ hy) h
    · rw [List.mem_singleton.1 h] at hy; exact h4 hy
theorem places_nodup {q : CallV → Bool} {cs : List CallV} {k : Nat} : (places q cs k).Nodup := by
  refine List.Pairwise.imp ?_ (places_sorted (q := q) (cs := cs) (k := k))
  intro a b h; omega
theorem eff_nodup {cs : List CallV} {L : List Nat} (h : EffIs cs L) : L.Nodup := h.1.nodup_iff.2 places_nodup
theorem eff_mem {cs : List CallV} {L : List Nat} (h : EffIs cs L) {i : Nat} : i ∈ L ↔ ∃ c, cs[i]? = some c ∧ tookQ c = true := by
  rw [h.1.mem_iff]
  constructor
  · exact places_at
  · rintro ⟨c, hc, hq⟩
    have := places_mem (k := 0) hc hq
    rwa [Nat.zero_add] at this
theorem eff_len {cs : List CallV} {L : List Nat} (h : EffIs cs L) : L.length ≤ cs.length := by
  rw [h.1.length_eq]; exact places_len
theorem good_formed {cs : List CallV} (h0 : (checkP cs).2 = 0) {i : Nat} {c : CallV} (hc : cs[i]? = some c) : formedB c = true := acc_formed (check_ok h0 i c hc)
theorem formed_answered {c : CallV} (h : formedB c = true) (ha : 0 ≤ c.answered) : 0 ≤ c.took ∧ c.took ≤ c.answered ∧ c.invoked ≤ c.answered := by
  unfold formedB at h; simp at h; omega
theorem formed_took {c : CallV} (h : formedB c = true) (ha : 0 ≤ c.took) : c.invoked ≤ c.took := by
  unfold formedB at h; simp at h; omega
theorem formed_inv {c : CallV} (h : formedB c = true) : 0 ≤ c.invoked ∧ -1 ≤ c.took ∧ -1 ≤ c.answered := by
  unfold formedB at h; simp at h; omega
theorem tk_at {cs : List CallV} {i : Nat} {c : CallV} (h : cs[i]? = some c) : tk cs i = c.took ∧ rk cs i = c.rank := by
  unfold tk rk; rw [h]; exact ⟨rfl, rfl⟩
/-- A call that precedes another took effect before it. -/
theorem bef_lex {cs : List CallV} (h0 : (checkP cs).2 = 0) {i j : Nat} {a b : CallV} (ha : cs[i]? = some a) (hb : cs[j]? = some b) (hq : tookQ b = true) (h : befB a b = true) : tookQ a = true ∧ tk cs i < tk cs j := by
  unfold befB at h
  simp only [Bool.and_eq_true, decide_eq_true_eq] at h
  have f1 := formed_answered (good_formed h0 ha) h.1
  have f2 := formed_took (good_formed h0 hb) (by simpa [tookQ] using hq)
  rw [(tk_at ha).1, (tk_at hb).1]
  exact ⟨by simp [tookQ]; omega, by omega⟩
theorem mem_cast {L : List Nat} {i : Nat} : ((i : Int) ∈ L.map fun (n : Nat) => (n : Int)) ↔ i ∈ L := by
  constructor
  · intro h
    obtain ⟨a, ha, he⟩ := List.mem_map.1 h
    have : a = i := by omega
    rwa [this] at ha
  · intro h; exact List.mem_map_of_mem h
theorem idx_cast {L : List Nat} {i : Nat} : (L.map fun (n : Nat) => (n : Int)).idxOf (i : Int) = L.idxOf i := by
  induction L with
  | nil => rfl
  | cons a L ih =>
    rw [List.map_cons, List.idxOf_cons, List.idxOf_cons, ih]
    by_cases h : a = i
    · subst h; simp
    · have h1 : (a == i) = false := by simpa using h
      have h2 : ((a : Int) == (i : Int)) = false := by rw [beq_eq_false_iff_ne]; omega
      rw [h1, h2]
theorem pair_at {R : Nat → Nat → Prop} {L : List Nat} (h : L.Pairwise R) {i j : Nat} (hi : i ∈ L) (hj : j ∈ L) (hlt : L.idxOf i < L.idxOf j) : R i j := by
  have a1 := List.idxOf_lt_length_iff.2 hi
  have a2 := List.idxOf_lt_length_iff.2 hj
  have := List.pairwise_iff_getElem.1 h (L.idxOf i) (L.idxOf j) a1 a2 hlt
  rwa [List.getElem_idxOf a1, List.getElem_idxOf a2] at this
theorem agrees_eff {cs : List CallV} {L : List Nat} (h0 : (checkP cs).2 = 0) (hL : EffIs cs L) : agreesP (L.map fun (n : Nat) => (n : Int)) cs = (true, 0) := by
  have hord : ordE cs.length [] (L.map fun (n : Nat) => (n : Int)) = 0 := by
    refine ordE_zero _ _ (fun x hx => ?_) (fun x _ h => by cases h) ?_
    · obtain ⟨i, hi, rfl⟩ := List.mem_map.1 hx
      obtain ⟨c, hc, _⟩ := (eff_mem hL).1 hi
      have := (List.getElem?_eq_some_iff.1 hc).1
      omega
    · refine List.Pairwise.map _ ?_ (eff_nodup hL)
      intro a b h; omega
  unfold agreesP
  rw [if_pos h0, if_pos hord]
  congr 1
  refine pairs_yes fun i j hi hj => ?_
  unfold pairB
  rw [List.getElem?_eq_getElem hi, List.getElem?_eq_getElem hj]
  simp only [Bool.not_eq_true', Bool.and_eq_false_iff, Bool.or_eq_false_iff, decide_eq_false_iff_not, Classical.not_not]
  by_cases hb : befB cs[i] cs[j] = true
  · by_cases hjz : plc (L.map fun (n : Nat) => (n : Int)) j = 0
    · exact .inl (.inl hjz)
    · right
      have hjm : j ∈ L := by
        rw [plc_zero, Classical.not_not] at hjz
        exact mem_cast.1 hjz
      obtain ⟨c, hc, hq⟩ := (eff_mem hL).1 hjm
      rw [List.getElem?_eq_getElem hj] at hc
      cases hc
      obtain ⟨hqa, hlt⟩ := bef_lex h0 (List.getElem?_eq_getElem hi) (List.getElem?_eq_getElem hj) hq hb
      have him : i ∈ L := (eff_mem hL).2 ⟨_, List.getElem?_eq_getElem hi, hqa⟩
      constructor
      · rw [plc_zero, mem_cast]; exact fun h => h him
      · unfold plc
        rw [if_pos (mem_cast.2 hjm), if_pos (mem_cast.2 him), idx_cast, idx_cast]
        intro hlt2
        have := pair_at hL.2 hjm him (by omega)
        unfold lexB at this
        simp at this
        omega
  · exact .inl (.inr (by simpa using hb))
/-- The order of Effects, as the law tests it. -/
theorem eff_next {cs : List CallV} {L : List Nat} (hL : EffIs cs L) {i : Nat} (h0 : 0 < i) {x y : Nat} (hx : L[i - 1]? = some x) (hy : L[i]? = some y) : tk cs x < tk cs y ∨ (tk cs x = tk cs y ∧ rk cs x < rk cs y) := by
  obtain ⟨a1, rfl⟩ := List.getElem?_eq_some_iff.1 hx
  obtain ⟨a2, rfl⟩ := List.getElem?_eq_some_iff.1 hy
  have := List.pairwise_iff_getElem.1 hL.2 (i - 1) i a1 a2 (by omega)
  simpa [lexB] using this
theorem eff_new {cs : List CallV} {L : List Nat} (hL : EffIs cs L) {i y : Nat} (hy : L[i]? = some y) : y ∉ L.take i := by
  obtain ⟨a2, rfl⟩ := List.getElem?_eq_some_iff.1 hy
  intro h
  obtain ⟨j, hj, he⟩ := List.getElem_of_mem h
  rw [List.length_take] at hj
  rw [List.getElem_take] at he
  have := List.pairwise_iff_getElem.1 (eff_nodup hL) j i (by omega) a2 (by omega)
  exact this he
/-- The marks of the law's first loop. -/
def seenV (L : List Nat) (n : Nat) : List Value := (List.range n).map fun j => .bool (decide (j ∈ L))
theorem seenV_len (L : List Nat) (n : Nat) : (seenV L n).length = n := by simp [seenV]
theorem seenV_at {L : List Nat} {n j : Nat} (h : j < n) : (seenV L n)[j]? = some (.bool (decide (j ∈ L))) := by unfold seenV; simp [h]
theorem seenV_set {L : List Nat} {n y : Nat} : (seenV L n).set y (.bool true) = seenV (L ++ [y]) n := by
  unfold seenV
  apply List.ext_getElem?
  intro j
  by_cases hj : j < n
  · by_cases e : y = j
    · subst e
      rw [List.getElem?_set_self (by simpa using hj)]
      simp [hj]
    · rw [List.getElem?_set_ne e]
      have e2 : j ≠ y := fun h => e h.symm
      simp [hj, e2]
  · rw [List.getElem?_eq_none (by simp; omega), List.getElem?_eq_none (by simp; omega)]
end Go.Proofs.Ytjinnlmmlbmodaa
