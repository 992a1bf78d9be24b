/- HistoryThreads: the plain law. -/
import Derived.Test.YtjinnlmmlbmodaaHisY
namespace Go.Proofs.Ytjinnlmmlbmodaa
open Go.RowKit Go.Lib Go.Shelf

/-- The calls of a thread. -/
def thF (t : Int) (cs : List CallV) : List CallV := cs.filter fun c => decide (c.thread = t)
theorem thIdx_map {t : Int} : ∀ (cs : List CallV) (k : Nat), (thIdx t cs k).map (fun i => cs[i - k]?.getD default) = thF t cs
  | [], k => rfl
  | c :: cs, k => by
    have ih := thIdx_map (t := t) cs (k + 1)
    have e : (thIdx t cs (k + 1)).map (fun i => (c :: cs)[i - k]?.getD default) = thF t cs := by
      rw [← ih]
      refine List.map_congr_left fun i hi => ?_
      have := thIdx_lt hi
      rw [show i - k = (i - (k + 1)) + 1 from by omega, List.getElem?_cons_succ]
    unfold thIdx thF
    by_cases h : c.thread = t
    · rw [if_pos h, List.map_cons, e, Nat.sub_self, List.filter_cons_of_pos (by simpa using h)]
      rfl
    · rw [if_neg h, e, List.filter_cons_of_neg (by simpa using h)]
      rfl
theorem th_len (t : Int) (cs : List CallV) : (thIdx t cs 0).length = (thF t cs).length := by rw [← thIdx_map cs 0, List.length_map]
theorem th_own (t : Int) (cs : List CallV) : (thIdx t cs 0).map (atV cs) = (thF t cs).map CallV.pure := by
  rw [← thIdx_map cs 0, List.map_map]
  rfl
theorem last_thF (t : Int) (cs : List CallV) : lastOf t cs = (thF t cs).getLast? := by
  unfold lastOf
  rw [← thIdx_map cs 0, List.getLast?_map]
  cases h : (thIdx t cs 0).getLast? with
  | none => rfl
  | some i =>
    have hm := List.mem_of_getLast? h
    have := thIdx_lt hm
    simp only [Option.bind_some, Option.map_some, Nat.sub_zero]
    rw [List.getElem?_eq_getElem (by omega)]
    rfl
theorem thF_step {t : Int} {cs : List CallV} {k : Nat} {c : CallV} (h : cs[k]? = some c) : thF t (cs.take (k + 1)) = thF t (cs.take k) ++ if c.thread = t then [c] else [] := by
  rw [List.take_add_one, h, Option.toList_some]
  unfold thF
  rw [List.filter_append]
  congr 1
  by_cases hq : c.thread = t <;> simp [hq]
theorem acc_parts {pre : List CallV} {c : CallV} (h : accB pre c = true) : c.index = (thF c.thread pre).length ∧ (∀ d, (thF c.thread pre).getLast? = some d → befB d c = true) ∧ ∀ p, pre.getLast? = some p → p.invoked < c.invoked := by
  unfold accB at h
  rw [last_thF, th_len] at h
  simp only [Bool.and_eq_true, decide_eq_true_eq] at h
  obtain ⟨⟨⟨⟨_, h4⟩, h1⟩, h2⟩, _⟩ := h
  refine ⟨h1, fun d hd => ?_, fun p hp => ?_⟩
  · rw [hd] at h2; exact h2
  · rw [hp] at h4; simpa using h4
theorem th_good {cs : List CallV} (h0 : (checkP cs).2 = 0) (t : Int) : ∀ k, k ≤ cs.length → ∀ (j : Nat) (c : CallV), (thF t (cs.take k))[j]? = some c → c.thread = t ∧ c.index = j ∧ ∀ d, 0 < j → (thF t (cs.take k))[j - 1]? = some d → befB d c = true
  | 0, _, j, c, h => by simp [thF] at h
  | k + 1, hk, j, c, h => by
    obtain ⟨x, hx⟩ : ∃ x, cs[k]? = some x := ⟨_, List.getElem?_eq_getElem (by omega)⟩
    have ih := th_good h0 t k (by omega)
    have hacc := acc_parts (check_ok h0 k x hx)
    have hst := thF_step (t := t) hx
    rw [hst] at h ⊢
    by_cases hq : x.thread = t
    · rw [if_pos hq] at h ⊢
      rw [hq] at hacc
      by_cases hj : j < (thF t (cs.take k)).length
      · rw [List.getElem?_append_left hj] at h
        obtain ⟨h1, h2, h3⟩ := ih j c h
        refine ⟨h1, h2, fun d h0 hd => h3 d h0 ?_⟩
        rwa [List.getElem?_append_left (by omega)] at hd
      · rw [List.getElem?_append_right (by omega)] at h
        have hj2 : j - (thF t (cs.take k)).length = 0 := by
          have := (List.getElem?_eq_some_iff.1 h).1
          simp at this
          omega
        rw [hj2] at h
        simp at h
        subst h
        refine ⟨hq, by rw [hacc.1]; omega, fun d h0 hd => hacc.2.1 d ?_⟩
        rw [List.getElem?_append_left (by omega), show j - 1 = (thF t (cs.take k)).length - 1 from by omega] at hd
        rw [List.getLast?_eq_getElem?]
        exact hd
    · rw [if_neg hq, List.append_nil] at h ⊢
      exact ih j c h
/-- How many calls there are of the first threads. -/
def cntB (T : Nat) (cs : List CallV) : Nat := (cs.filter fun c => decide (0 ≤ c.thread) && decide (c.thread < (T : Int))).length
def pcnt (T : Nat) (cs : List CallV) : Nat := (cs.filter fun c => pendQ c && (decide (0 ≤ c.thread) && decide (c.thread < (T : Int)))).length
theorem cntB_zero (cs : List CallV) : cntB 0 cs = 0 := by
  unfold cntB
  rw [List.length_eq_zero_iff, List.filter_eq_nil_iff]
  intro c _
  simp
theorem pcnt_zero (cs : List CallV) : pcnt 0 cs = 0 := by
  unfold pcnt
  rw [List.length_eq_zero_iff, List.filter_eq_nil_iff]
  intro c _
  simp
theorem filt_add {α : Type} (p q r : α → Bool) (h : ∀ x, r x = (p x || q x)) (hd : ∀ x, (p x && q x) = false) : ∀ l : List α, (l.filter r).length = (l.filter p).length + (l.filter q).length
  | [] => rfl
  | x :: l => by
    have ih := filt_add p q r h hd l
    have h1 := h x
    have h2 := hd x
    rw [List.filter_cons, List.filter_cons, List.filter_cons, h1]
    cases hp : p x <;> cases hq : q x
    · simpa using ih
    · simp only [Bool.or_true, if_true, List.length_cons, Bool.false_eq_true, if_false]; omega
    · simp only [Bool.or_false, if_true, List.length_cons, Bool.false_eq_true, if_false]; omega
    · rw [hp, hq] at h2; simp at h2
theorem cntB_succ (T : Nat) (cs : List CallV) : cntB (T + 1) cs = cntB T cs + (thF T cs).length := by
  refine filt_add _ _ _ (fun c => ?_) (fun c => ?_) cs
  · rw [Bool.eq_iff_iff]; simp only [Bool.and_eq_true, Bool.or_eq_true, decide_eq_true_eq]; omega
  · simp only [Bool.and_eq_false_iff, decide_eq_false_iff_not]; omega
theorem pcnt_succ (T : Nat) (cs : List CallV) : pcnt (T + 1) cs = pcnt T cs + ((thF T cs).filter pendQ).length := by
  unfold thF
  rw [List.filter_filter]
  refine filt_add _ _ _ (fun c => ?_) (fun c => ?_) cs
  · cases pendQ c
    · rfl
    · rw [Bool.eq_iff_iff]; simp only [Bool.true_and, Bool.and_eq_true, Bool.or_eq_true, decide_eq_true_eq]; omega
  · cases pendQ c
    · rfl
    · simp only [Bool.true_and, Bool.and_eq_false_iff, decide_eq_false_iff_not]; omega
theorem formed_thread {c : CallV} (h : formedB c = true) : 0 ≤ c.thread ∧ c.thread < 16 := by unfold formedB at h; simp at h; omega
theorem good_thread {cs : List CallV} (h0 : (checkP cs).2 = 0) : ∀ c ∈ cs, 0 ≤ c.thread ∧ c.thread < 16 := fun c hc => by
  obtain ⟨i, hi⟩ := List.getElem?_of_mem hc
  exact formed_thread (good_formed h0 hi)
theorem cntB_all {cs : List CallV} (h0 : (checkP cs).2 = 0) : cntB 16 cs = cs.length := by
  unfold cntB
  rw [List.filter_eq_self.2]
  intro c hc
  have := good_thread h0 c hc
  simp; omega
theorem places_filter {q : CallV → Bool} : ∀ (cs : List CallV) (k : Nat), (places q cs k).length = (cs.filter q).length
  | [], _ => rfl
  | c :: cs, k => by
    have ih := places_filter (q := q) cs (k + 1)
    unfold places
    rw [List.filter_cons]
    split <;> simp [ih]
theorem pcnt_all {cs : List CallV} (h0 : (checkP cs).2 = 0) : pcnt 16 cs = (places pendQ cs 0).length := by
  unfold pcnt
  rw [places_filter]
  congr 1
  refine List.filter_congr fun c hc => ?_
  have := good_thread h0 c hc
  have e : (decide (0 ≤ c.thread) && decide (c.thread < ((16 : Nat) : Int))) = true := by simp; omega
  rw [e, Bool.and_true]
theorem th_none {cs : List CallV} (h0 : (checkP cs).2 = 0) {t : Int} (ht : t < 0 ∨ 16 ≤ t) : thF t cs = [] := by
  unfold thF
  rw [List.filter_eq_nil_iff]
  intro c hc
  have := good_thread h0 c hc
  simp; omega
end Go.Proofs.Ytjinnlmmlbmodaa
