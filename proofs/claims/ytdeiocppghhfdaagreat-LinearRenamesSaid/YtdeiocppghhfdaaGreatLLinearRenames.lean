/- LinearRenames: the law returns true for every input, and leaves its arguments as they were. -/
import Derived.Test.YtdeiocppghhfdaaGreatPhg
import Derived.Test.YtdeiocppghhfdaaGreatQe
import Derived.Test.YtdeiocppghhfdaaGreatPul
import Derived.Test.YtdeiocppghhfdaaGreatPug
import Derived.Test.YtdeiocppghhfdaaGreatQd
import Derived.StillTailTactics
import Derived.Carry
namespace Go.Proofs.YtdeiocppghhfdaaGreat.Hs
set_option linter.unusedVariables false
set_option linter.unusedSimpArgs false
open Go.RowKit Go.Lib Go.Shelf

def thF (t : Int) (cs : List CallV) : List CallV := cs.filter fun c => decide (c.thread = t)
theorem thIdx_map {t : Int} : ∀ (cs : List CallV) (k : Nat), (thIdx t cs k).map (fun i => cs[i - k]?.getD default) = thF t cs
  | [], k => rfl
  | c :: cs, k => by
    have ih := thIdx_map (t := t) cs (k + 1)
    have e : (thIdx t cs (k + 1)).map (fun i => (c :: cs)[i - k]?.getD default) = thF t cs := by
      rw [← ih]
      refine List.map_congr_left fun i hi => ?_
      have := thIdx_lt hi
      rw [show i - k = (i - (k + 1)) + 1 from by omega, List.getElem?_cons_succ]
    unfold thIdx thF
    by_cases h : c.thread = t
    · rw [if_pos h, List.map_cons, e, Nat.sub_self, List.filter_cons_of_pos (by simpa using h)]
      rfl
    · rw [if_neg h, e, List.filter_cons_of_neg (by simpa using h)]
      rfl
theorem th_len (t : Int) (cs : List CallV) : (thIdx t cs 0).length = (thF t cs).length := by rw [← thIdx_map cs 0, List.length_map]
theorem th_own (t : Int) (cs : List CallV) : (thIdx t cs 0).map (atV cs) = (thF t cs).map CallV.pure := by
  rw [← thIdx_map cs 0, List.map_map]
  rfl
theorem last_thF (t : Int) (cs : List CallV) : lastOf t cs = (thF t cs).getLast? := by
  unfold lastOf
  rw [← thIdx_map cs 0, List.getLast?_map]
  cases h : (thIdx t cs 0).getLast? with
  | none => rfl
  | some i =>
    have hm := List.mem_of_getLast? h
    have := thIdx_lt hm
    simp only [Option.bind_some, Option.map_some, Nat.sub_zero]
    rw [List.getElem?_eq_getElem (by omega)]
    rfl
theorem thF_step {t : Int} {cs : List CallV} {k : Nat} {c : CallV} (h : cs[k]? = some c) : thF t (cs.take (k + 1)) = thF t (cs.take k) ++ if c.thread = t then [c] else [] := by
  rw [List.take_add_one, h, Option.toList_some]
  unfold thF
  rw [List.filter_append]
  congr 1
  by_cases hq : c.thread = t <;> simp [hq]
theorem acc_parts {pre : List CallV} {c : CallV} (h : accB pre c = true) : c.index = (thF c.thread pre).length ∧ (∀ d, (thF c.thread pre).getLast? = some d → befB d c = true) ∧ ∀ p, pre.getLast? = some p → p.invoked < c.invoked := by
  unfold accB at h
  rw [last_thF, th_len] at h
  simp only [Bool.and_eq_true, decide_eq_true_eq] at h
  obtain ⟨⟨⟨⟨_, h4⟩, h1⟩, h2⟩, _⟩ := h
  refine ⟨h1, fun d hd => ?_, fun p hp => ?_⟩
  · rw [hd] at h2; exact h2
  · rw [hp] at h4; simpa using h4
theorem th_good {cs : List CallV} (h0 : (checkP cs).2 = 0) (t : Int) : ∀ k, k ≤ cs.length → ∀ (j : Nat) (c : CallV), (thF t (cs.take k))[j]? = some c → c.thread = t ∧ c.index = j ∧ ∀ d, 0 < j → (thF t (cs.take k))[j - 1]? = some d → befB d c = true
  | 0, _, j, c, h => by simp [thF] at h
  | k + 1, hk, j, c, h => by
    obtain ⟨x, hx⟩ : ∃ x, cs[k]? = some x := ⟨_, List.getElem?_eq_getElem (by omega)⟩
    have ih := th_good h0 t k (by omega)
    have hacc := acc_parts (check_ok h0 k x hx)
    have hst := thF_step (t := t) hx
    rw [hst] at h ⊢
    by_cases hq : x.thread = t
    · rw [if_pos hq] at h ⊢
      rw [hq] at hacc
      by_cases hj : j < (thF t (cs.take k)).length
      · rw [List.getElem?_append_left hj] at h
        obtain ⟨h1, h2, h3⟩ := ih j c h
        refine ⟨h1, h2, fun d h0 hd => h3 d h0 ?_⟩
        rwa [List.getElem?_append_left (by omega)] at hd
      · rw [List.getElem?_append_right (by omega)] at h
        have hj2 : j - (thF t (cs.take k)).length = 0 := by
          have := (List.getElem?_eq_some_iff.1 h).1
          simp at this
          omega
        rw [hj2] at h
        simp at h
        subst h
        refine ⟨hq, by rw [hacc.1]; omega, fun d h0 hd => hacc.2.1 d ?_⟩
        rw [List.getElem?_append_left (by omega), show j - 1 = (thF t (cs.take k)).length - 1 from by omega] at hd
        rw [List.getLast?_eq_getElem?]
        exact hd
    · rw [if_neg hq, List.append_nil] at h ⊢
      exact ih j c h
theorem formed_thread {c : CallV} (h : formedB c = true) : 0 ≤ c.thread ∧ c.thread < 16 := by unfold formedB at h; simp at h; omega
theorem good_thread {cs : List CallV} (h0 : (checkP cs).2 = 0) : ∀ c ∈ cs, 0 ≤ c.thread ∧ c.thread < 16 := fun c hc => by
  obtain ⟨i, hi⟩ := List.getElem?_of_mem hc
  exact formed_thread (good_formed h0 hi)
end Go.Proofs.YtdeiocppghhfdaaGreat.Hs
namespace Go.Proofs.YtdeiocppghhfdaaGreat.Hs
set_option linter.unusedVariables false
set_option linter.unusedSimpArgs false
open Go.RowKit Go.Lib Go.Shelf

/-! ### what the laws say is said of the calls without the places of their deltas -/
theorem thIdx_pure {t : Int} : ∀ (cs : List CallV) (k : Nat), thIdx t (cs.map CallV.pure) k = thIdx t cs k
  | [], _ => rfl
  | c :: cs, k => by
    show (if c.thread = t then k :: thIdx t (cs.map CallV.pure) (k + 1) else thIdx t (cs.map CallV.pure) (k + 1)) = _
    rw [thIdx_pure cs (k + 1)]
    rfl
theorem thF_pure (t : Int) (cs : List CallV) : thF t (cs.map CallV.pure) = (thF t cs).map CallV.pure := by
  unfold thF
  rw [List.filter_map]
  rfl
theorem accB_eq (pre : List CallV) (c : CallV) : accB pre c = (formedB c && (match pre.getLast? with | some p => decide (p.invoked < c.invoked) | none => true) && decide (c.index = (thF c.thread pre).length) &&
    (match (thF c.thread pre).getLast? with | some d => befB d c | none => true) && pre.all fun d => !clashB c d) := by
  unfold accB
  rw [last_thF, th_len]
  rfl
theorem acc_pure (pre : List CallV) (c : CallV) : accB (pre.map CallV.pure) c.pure = accB pre c := by
  rw [accB_eq, accB_eq, thF_pure, List.length_map, List.getLast?_map, List.getLast?_map, List.all_map]
  show (formedB c && _ && decide (c.index = ((thF c.thread pre).length : Int)) && _ && _) = _
  congr 1
  congr 1
  · congr 1
    congr 1
    cases pre.getLast? <;> rfl
  · show (match Option.map CallV.pure (thF c.thread pre).getLast? with | some d => befB d c.pure | none => true) = _
    cases (thF c.thread pre).getLast? <;> rfl
theorem check_pure (cs : List CallV) : checkP (cs.map CallV.pure) = checkP cs := by
  unfold checkP
  rw [List.length_map]
  have e : (fun i => !okAt (cs.map CallV.pure) i) = fun i => !okAt cs i := by
    funext i
    unfold okAt
    rw [List.getElem?_map, ← List.map_take]
    cases cs[i]? with
    | none => rfl
    | some c => simp only [Option.map_some]; rw [acc_pure]
  rw [e]
theorem check_of_pure {a b : List CallV} (h : a.map CallV.pure = b.map CallV.pure) : checkP a = checkP b := by rw [← check_pure a, h, check_pure b]
theorem places_pure {q : CallV → Bool} (hq : ∀ c, q c.pure = q c) : ∀ (cs : List CallV) (k : Nat), places q (cs.map CallV.pure) k = places q cs k
  | [], _ => rfl
  | c :: cs, k => by
    show (if q c.pure then k :: places q (cs.map CallV.pure) (k + 1) else places q (cs.map CallV.pure) (k + 1)) = _
    rw [places_pure hq cs (k + 1), hq]
    rfl
theorem tk_pure (cs : List CallV) (i : Nat) : tk (cs.map CallV.pure) i = tk cs i ∧ rk (cs.map CallV.pure) i = rk cs i := by
  unfold tk rk
  rw [List.getElem?_map]
  cases cs[i]? <;> exact ⟨rfl, rfl⟩
theorem eff_pure {cs : List CallV} {L : List Nat} : EffIs (cs.map CallV.pure) L ↔ EffIs cs L := by
  unfold EffIs
  rw [places_pure (fun _ => rfl)]
  have e : (fun i j => lexB (cs.map CallV.pure) i j = true) = fun i j => lexB cs i j = true := by
    funext i j
    unfold lexB
    rw [(tk_pure cs i).1, (tk_pure cs i).2, (tk_pure cs j).1, (tk_pure cs j).2]
  rw [e]
theorem eff_of_pure {a b : List CallV} {L : List Nat} (h : a.map CallV.pure = b.map CallV.pure) (hL : EffIs a L) : EffIs b L := by
  rw [← eff_pure] at hL ⊢
  rw [← h]
  exact hL

/-! ### a prefix holds the first calls -/
theorem inv_up {cs : List CallV} (h0 : (checkP cs).2 = 0) : ∀ (i j : Nat) (a b : CallV), i < j → cs[i]? = some a → cs[j]? = some b → a.invoked < b.invoked := by
  intro i j
  induction j with
  | zero => intro a b h; omega
  | succ j ih =>
    intro a b hij ha hb
    have hlt := (List.getElem?_eq_some_iff.1 hb).1
    obtain ⟨m, hm⟩ : ∃ m, cs[j]? = some m := ⟨_, List.getElem?_eq_getElem (by omega)⟩
    have h1 := (acc_parts (check_ok h0 (j + 1) b hb)).2.2 m (by rw [last_take cs (by omega) (by omega)]; simpa using hm)
    by_cases e : i = j
    · subst e
      rw [ha] at hm
      cases hm
      exact h1
    · have := ih a m (by omega) ha hm
      omega
def many (s : Int) (cs : List CallV) : Nat := (cs.filter fun c => decide (c.invoked ≤ s)).length
theorem filter_first {α : Type} (p : α → Bool) : ∀ (l : List α), (∀ (i j : Nat) (a b : α), i < j → l[i]? = some a → l[j]? = some b → p b = true → p a = true) → l.filter p = l.take (l.filter p).length
  | [], _ => rfl
  | x :: l, h => by
    by_cases hx : p x = true
    · rw [List.filter_cons_of_pos hx, List.length_cons, List.take_succ_cons, ← filter_first p l (fun i j a b hij ha hb => h (i + 1) (j + 1) a b (by omega) (by simpa using ha) (by simpa using hb))]
    · have hn : l.filter p = [] := by
        rw [List.filter_eq_nil_iff]
        intro b hb hpb
        obtain ⟨j, hj⟩ := List.getElem?_of_mem hb
        exact hx (h 0 (j + 1) x b (by omega) rfl (by simpa using hj) hpb)
      rw [List.filter_cons_of_neg hx, hn]
      rfl
theorem pref_take {cs : List CallV} (h0 : (checkP cs).2 = 0) (s : Int) : prefS s cs = (cs.take (many s cs)).map fun c => (cutV s c).pure := by
  unfold prefS many
  rw [← filter_first _ cs (fun i j a b hij ha hb hpb => by
    have := inv_up h0 i j a b hij ha hb
    simp only [decide_eq_true_eq] at hpb ⊢
    omega)]
theorem pref_many (s : Int) (cs : List CallV) : (prefS s cs).length = many s cs := by unfold prefS many; rw [List.length_map]
theorem many_le (s : Int) (cs : List CallV) : many s cs ≤ cs.length := List.length_filter_le _ _
theorem pref_at {cs : List CallV} (h0 : (checkP cs).2 = 0) {s : Int} {i : Nat} (hi : i < many s cs) : ∃ c, cs[i]? = some c ∧ c.invoked ≤ s ∧ (prefS s cs)[i]? = some (cutV s c).pure := by
  have hm := many_le s cs
  refine ⟨cs[i], List.getElem?_eq_getElem (by omega), ?_, ?_⟩
  · have hin : cs[i] ∈ cs.filter fun c => decide (c.invoked ≤ s) := by
      rw [filter_first (fun c => decide (c.invoked ≤ s)) cs (fun i j a b hij ha hb hpb => by
        have := inv_up h0 i j a b hij ha hb
        simp only [decide_eq_true_eq] at hpb ⊢
        omega)]
      rw [List.mem_take_iff_getElem]
      exact ⟨i, by unfold many at hi hm; omega, rfl⟩
    simpa using (List.mem_filter.1 hin).2
  · rw [pref_take h0, List.getElem?_map, List.getElem?_take_of_lt hi, List.getElem?_eq_getElem (by omega)]
    rfl

/-! ### a cut call -/
theorem cut_inv (s : Int) (c : CallV) : (cutV s c).invoked = c.invoked ∧ (cutV s c).thread = c.thread ∧ (cutV s c).index = c.index := by
  unfold cutV; split <;> split <;> exact ⟨rfl, rfl, rfl⟩
theorem cut_ans (s : Int) (c : CallV) : (cutV s c).answered = if s < c.answered then -1 else c.answered := by
  unfold cutV; split <;> split <;> rfl
theorem cut_took (s : Int) (c : CallV) : (cutV s c).took = if s < c.took then -1 else c.took := by
  unfold cutV; split <;> split <;> rfl
theorem cut_rank (s : Int) (c : CallV) : (cutV s c).rank = if s < c.took then 0 else c.rank := by
  unfold cutV; split <;> split <;> rfl
theorem cut_steps (s : Int) (c : CallV) : (cutV s c).steps = if s < c.answered then 0 else c.steps := by
  unfold cutV; split <;> split <;> rfl
theorem cutT_plain (c : CallV) : plainB (cutT c) = true := by simp [plainB, cutT, clrV]
theorem cut_plain (s : Int) (c : CallV) : plainB (cutV s c) = if s < c.took then true else plainB c := by
  unfold cutV; split <;> split <;> first | exact cutT_plain _ | rfl
theorem cut_formed {s : Int} {c : CallV} (h : formedB c = true) (hs : -1 ≤ s) (hi : c.invoked ≤ s) : formedB (cutV s c) = true := by
  unfold formedB at h ⊢
  rw [(cut_inv s c).1, (cut_inv s c).2.1, (cut_inv s c).2.2, cut_ans, cut_took, cut_rank, cut_steps, cut_plain]
  simp only [decide_eq_true_eq] at h ⊢
  obtain ⟨h1, h2, h3, h4, h5, h6, h7, h8, h9, h10⟩ := h
  by_cases ha : s < c.answered <;> by_cases ht : s < c.took <;> simp only [ha, ht, if_true, if_false] <;> refine ⟨h1, h2, h3, h4, by omega, by omega, by omega, by omega, ?_, ?_⟩
  · exact .inr ⟨by omega, trivial, trivial⟩
  · left; exact ⟨by omega, trivial⟩
  · exact h9
  · left; exact ⟨by omega, trivial⟩
  · exact .inr ⟨by omega, trivial, trivial⟩
  · rcases h10 with h | h
    · exact .inl h
    · omega
  · exact h9
  · exact h10
theorem cut_bef {s : Int} {c d : CallV} (hd : d.invoked ≤ s) : befB (cutV s c) (cutV s d) = befB c d := by
  unfold befB
  rw [(cut_inv s d).1, cut_ans, Bool.eq_iff_iff]
  simp only [Bool.and_eq_true, decide_eq_true_eq]
  split <;> omega
theorem cut_clash {s : Int} {c d : CallV} (h : clashB c d = false) : clashB (cutV s c) (cutV s d) = false := by
  unfold clashB at h ⊢
  rw [(cut_inv s c).1, (cut_inv s d).1, (cut_inv s c).2.1, (cut_inv s d).2.1, cut_ans, cut_ans, cut_took, cut_took, cut_rank, cut_rank]
  simp only [decide_eq_false_iff_not] at h ⊢
  have e1 : (if s < c.answered then (-1 : Int) else c.answered) = c.answered ∨ (if s < c.answered then (-1 : Int) else c.answered) = -1 := by split <;> simp
  have e2 : (if s < d.answered then (-1 : Int) else d.answered) = d.answered ∨ (if s < d.answered then (-1 : Int) else d.answered) = -1 := by split <;> simp
  have e3 : ((if s < c.took then (-1 : Int) else c.took) = c.took ∧ (if s < c.took then (0 : Int) else c.rank) = c.rank) ∨ (if s < c.took then (-1 : Int) else c.took) = -1 := by split <;> simp
  have e4 : ((if s < d.took then (-1 : Int) else d.took) = d.took ∧ (if s < d.took then (0 : Int) else d.rank) = d.rank) ∨ (if s < d.took then (-1 : Int) else d.took) = -1 := by split <;> simp
  generalize (if s < c.answered then (-1 : Int) else c.answered) = ca at *
  generalize (if s < d.answered then (-1 : Int) else d.answered) = da at *
  generalize (if s < c.took then (-1 : Int) else c.took) = ct at *
  generalize (if s < d.took then (-1 : Int) else d.took) = dt at *
  generalize (if s < c.took then (0 : Int) else c.rank) = cr at *
  generalize (if s < d.took then (0 : Int) else d.rank) = dr at *
  intro hx
  apply h
  clear h
  rcases hx with ⟨h1, h2 | h2⟩ | ⟨h1, h2 | h2⟩ | ⟨h1, h2, h3⟩ | ⟨h0, ⟨h1, h2 | h2⟩ | ⟨h1, h2 | h2⟩⟩
  · exact .inl ⟨h1, .inl h2⟩
  · exact .inl ⟨h1, .inr (by omega)⟩
  · exact .inr (.inl ⟨by omega, .inl (by omega)⟩)
  · exact .inr (.inl ⟨by omega, .inr (by omega)⟩)
  · exact .inr (.inr (.inl ⟨by omega, by omega, by omega⟩))
  · exact .inr (.inr (.inr ⟨h0, .inl ⟨by omega, .inl (by omega)⟩⟩))
  · exact .inr (.inr (.inr ⟨h0, .inl ⟨by omega, .inr (by omega)⟩⟩))
  · exact .inr (.inr (.inr ⟨h0, .inr ⟨by omega, .inl (by omega)⟩⟩))
  · exact .inr (.inr (.inr ⟨h0, .inr ⟨by omega, .inr (by omega)⟩⟩))
theorem thF_cut (s : Int) (t : Int) (cs : List CallV) : thF t (cs.map fun c => (cutV s c).pure) = (thF t cs).map fun c => (cutV s c).pure := by
  unfold thF
  rw [List.filter_map]
  congr 1
  refine List.filter_congr fun c _ => ?_
  show decide ((cutV s c).thread = t) = _
  rw [(cut_inv s c).2.1]
theorem check_pref {cs : List CallV} (h0 : (checkP cs).2 = 0) {s : Int} (hs : -1 ≤ s) : checkP (prefS s cs) = (0, 0) := by
  refine check_good fun i hi => ?_
  rw [pref_many] at hi
  obtain ⟨c, hc, hcs, hp⟩ := pref_at h0 hi
  have hm := many_le s cs
  have hle : ∀ d ∈ cs.take i, d.invoked ≤ s := fun d hd => by
    obtain ⟨j, hj⟩ := List.getElem?_of_mem hd
    have hjl := (List.getElem?_eq_some_iff.1 hj).1
    rw [List.length_take] at hjl
    rw [List.getElem?_take_of_lt (by omega)] at hj
    have := inv_up h0 j i d c (by omega) hj hc
    omega
  rw [ok_at hp]
  have e : (prefS s cs).take i = (cs.take i).map fun c => (cutV s c).pure := by
    rw [pref_take h0, ← List.map_take, List.take_take, Nat.min_eq_left (by omega)]
  have hacc := check_ok h0 i c hc
  rw [accB_eq] at hacc
  simp only [Bool.and_eq_true, decide_eq_true_eq] at hacc
  obtain ⟨⟨⟨⟨a1, a2⟩, a3⟩, a4⟩, a5⟩ := hacc
  rw [e, accB_eq]
  have hth : (cutV s c).pure.thread = c.thread := (cut_inv s c).2.1
  rw [hth, thF_cut, List.length_map, List.getLast?_map, List.getLast?_map]
  simp only [Bool.and_eq_true, decide_eq_true_eq]
  refine ⟨⟨⟨⟨cut_formed a1 hs hcs, ?_⟩, ?_⟩, ?_⟩, ?_⟩
  · cases hg : (cs.take i).getLast? with
    | none => rfl
    | some p =>
      rw [hg] at a2
      simp only [Option.map_some, decide_eq_true_eq] at a2 ⊢
      show (cutV s p).invoked < (cutV s c).invoked
      rw [(cut_inv s p).1, (cut_inv s c).1]
      exact a2
  · show (cutV s c).index = _
    rw [(cut_inv s c).2.2]
    exact a3
  · cases hg : (thF c.thread (cs.take i)).getLast? with
    | none => rfl
    | some p =>
      rw [hg] at a4
      simp only [Option.map_some] at a4 ⊢
      show befB (cutV s p) (cutV s c) = true
      rw [cut_bef hcs]
      exact a4
  · rw [List.all_map, List.all_eq_true]
    intro d hd
    rw [List.all_eq_true] at a5
    have h1 := a5 d hd
    simp only [Bool.not_eq_true'] at h1
    show (!clashB (cutV s c) (cutV s d)) = true
    rw [cut_clash h1]
    rfl
theorem cut_cut {s o : Int} (ho : -1 ≤ o) (c : CallV) : cutV o (cutV s c) = cutV (min s o) c := by
  have h1 : ∀ x : Int, (min s o < x) = (s < x ∨ o < x) := fun x => by apply propext; omega
  have e : cutV o (cutV s c) = if o < (cutV s c).took then cutT (if o < (cutV s c).answered then cutA (cutV s c) else cutV s c) else (if o < (cutV s c).answered then cutA (cutV s c) else cutV s c) := rfl
  rw [e, cut_took, cut_ans]
  unfold cutV
  simp only [h1]
  by_cases ha : s < c.answered <;> by_cases ht : s < c.took <;> by_cases ha2 : o < c.answered <;> by_cases ht2 : o < c.took <;>
    have n1 : ¬ o < (-1 : Int) := by omega
  all_goals simp only [ha, ht, ha2, ht2, n1, if_true, if_false, true_or, or_true, or_self, false_or, or_false]
  all_goals rfl
theorem pref_pref (s o : Int) (ho : -1 ≤ o) (cs : List CallV) : prefS o (prefS s cs) = prefS (min s o) cs := by
  unfold prefS
  rw [List.filter_map, List.filter_filter, List.map_map]
  have e1 : (cs.filter fun c => decide (c.invoked ≤ min s o)) = cs.filter fun a => ((fun c => decide (c.invoked ≤ o)) ∘ fun c => (cutV s c).pure) a && decide (a.invoked ≤ s) := by
    refine List.filter_congr fun c _ => ?_
    show _ = (decide ((cutV s c).invoked ≤ o) && decide (c.invoked ≤ s))
    rw [(cut_inv s c).1, Bool.eq_iff_iff]
    simp only [Bool.and_eq_true, decide_eq_true_eq]
    omega
  rw [e1]
  refine List.map_congr_left fun c _ => ?_
  show (cutV o (cutV s c).pure).pure = (cutV (min s o) c).pure
  rw [← cut_cut ho c]
  exact cut_pure (c := cutV s c) (c' := (cutV s c).pure) rfl
theorem pref_bef {cs : List CallV} (h0 : (checkP cs).2 = 0) {s : Int} {i j : Nat} {a b a' b' : CallV} (ha : (prefS s cs)[i]? = some a') (hb : (prefS s cs)[j]? = some b') (ha2 : cs[i]? = some a) (hb2 : cs[j]? = some b) : befB a' b' = befB a b := by
  have hi := (List.getElem?_eq_some_iff.1 ha).1
  have hj := (List.getElem?_eq_some_iff.1 hb).1
  rw [pref_many] at hi hj
  obtain ⟨c, h1, h2, h3⟩ := pref_at h0 hi
  obtain ⟨d, h4, h5, h6⟩ := pref_at h0 hj
  rw [ha] at h3
  rw [hb] at h6
  rw [ha2] at h1
  rw [hb2] at h4
  cases h1; cases h4; cases h3; cases h6
  exact cut_bef h5
theorem pref_eff {cs : List CallV} (h0 : (checkP cs).2 = 0) {s : Int} (hs : -1 ≤ s) {X Y : List Nat} (hX : EffIs (prefS s cs) X) (hY : EffIs cs Y) : X.length ≤ Y.length ∧ X = Y.take X.length := by
  have hpl := pref_many s cs
  have hml := many_le s cs
  -- what a call's effect in the prefix is
  have key : ∀ i, i ∈ X ↔ i ∈ Y ∧ tk cs i ≤ s := fun i => by
    rw [eff_mem hX, eff_mem hY]
    constructor
    · rintro ⟨c, hc, hq⟩
      have hi : i < many s cs := by rw [← hpl]; exact (List.getElem?_eq_some_iff.1 hc).1
      obtain ⟨d, h1, h2, h3⟩ := pref_at h0 hi
      rw [hc] at h3
      cases h3
      have hq2 : 0 ≤ (cutV s d).took := of_decide_eq_true hq
      rw [cut_took] at hq2
      rw [(tk_at h1).1]
      split at hq2
      · omega
      · exact ⟨⟨d, h1, by simpa [tookQ] using hq2⟩, by omega⟩
    · rintro ⟨⟨c, hc, hq⟩, ht⟩
      rw [(tk_at hc).1] at ht
      have hq2 : 0 ≤ c.took := by simpa [tookQ] using hq
      have hinv := formed_took (good_formed h0 hc) hq2
      have hi : i < many s cs := by
        rcases Nat.lt_or_ge i (many s cs) with h | h
        · exact h
        · exfalso
          have hci : c ∈ cs.filter fun c => decide (c.invoked ≤ s) := List.mem_filter.2 ⟨List.mem_of_getElem? hc, by simp; omega⟩
          rw [filter_first (fun c => decide (c.invoked ≤ s)) cs (fun i j a b hij ha hb hpb => by
            have := inv_up h0 i j a b hij ha hb
            simp only [decide_eq_true_eq] at hpb ⊢
            omega)] at hci
          obtain ⟨j, hj, he⟩ := List.mem_take_iff_getElem.1 hci
          have hj2 : j < many s cs := by unfold many; omega
          have := inv_up h0 j i c c (by omega) (by rw [List.getElem?_eq_getElem (by omega), he]) hc
          omega
      obtain ⟨d, h1, h2, h3⟩ := pref_at h0 hi
      rw [hc] at h1
      cases h1
      refine ⟨_, h3, ?_⟩
      have : (cutV s c).took = c.took := by rw [cut_took, if_neg (by omega)]
      simp [tookQ, CallV.pure, this, hq2]
  have val : ∀ i, i ∈ X → tk (prefS s cs) i = tk cs i ∧ rk (prefS s cs) i = rk cs i := fun i hi => by
    obtain ⟨c, hc, hq⟩ := (eff_mem hX).1 hi
    have hi2 : i < many s cs := by rw [← hpl]; exact (List.getElem?_eq_some_iff.1 hc).1
    obtain ⟨d, h1, h2, h3⟩ := pref_at h0 hi2
    rw [hc] at h3
    cases h3
    have hle := ((key i).1 hi).2
    rw [(tk_at h1).1] at hle
    rw [(tk_at hc).1, (tk_at hc).2, (tk_at h1).1, (tk_at h1).2]
    refine ⟨?_, ?_⟩
    · show (cutV s d).took = d.took
      rw [cut_took, if_neg (by omega)]
    · show (cutV s d).rank = d.rank
      rw [cut_rank, if_neg (by omega)]
  -- both are sorted alike
  have hf : Y.filter (fun i => decide (tk cs i ≤ s)) = Y.take (Y.filter (fun i => decide (tk cs i ≤ s))).length := by
    refine filter_first _ Y fun i j a b hij ha hb hpb => ?_
    obtain ⟨a1, rfl⟩ := List.getElem?_eq_some_iff.1 ha
    obtain ⟨a2, rfl⟩ := List.getElem?_eq_some_iff.1 hb
    have := List.pairwise_iff_getElem.1 hY.2 i j a1 a2 hij
    unfold lexB at this
    simp only [decide_eq_true_eq] at this hpb ⊢
    omega
  have hXn := eff_nodup hX
  have hYn := eff_nodup hY
  have hperm : X.Perm (Y.filter fun i => decide (tk cs i ≤ s)) := by
    rw [List.perm_ext_iff_of_nodup hXn (List.Pairwise.filter _ hYn)]
    intro i
    rw [List.mem_filter, key]
    simp
  have heq : X = Y.filter fun i => decide (tk cs i ≤ s) := by
    refine List.Perm.eq_of_pairwise (le := fun i j => lexB cs i j = true) (fun a b _ _ h1 h2 => ?_) ?_ (List.Pairwise.filter _ hY.2) hperm
    · unfold lexB at h1 h2
      simp at h1 h2
      omega
    · refine List.Pairwise.imp_of_mem ?_ hX.2
      intro i j hi hj h
      unfold lexB at h ⊢
      rw [(val i hi).1, (val i hi).2, (val j hj).1, (val j hj).2] at h
      exact h
  have hl := congrArg List.length heq
  exact ⟨by rw [hl]; exact List.length_filter_le _ _, by rw [hl, ← hf]; exact heq⟩
end Go.Proofs.YtdeiocppghhfdaaGreat.Hs
namespace Go.Proofs.YtdeiocppghhfdaaGreat.Lin
set_option linter.unusedVariables false
set_option linter.unusedSimpArgs false
open Go.RowKit Go.Lib Go.Shelf
open Hs

/-! ### what Find returns is said of the calls without the places of their deltas -/
theorem getC_pure (L : List CallV) (i : Nat) : getC (L.map CallV.pure) i = (getC L i).pure := by
  unfold getC
  rw [List.getD_eq_getElem?_getD, List.getD_eq_getElem?_getD, List.getElem?_map]
  cases L[i]? <;> rfl
theorem nx_pure (L : List CallV) : nx (L.map CallV.pure) = nx L := by
  funext st i
  unfold nx
  rw [getC_pure, next_pure]
theorem rdy_pure (L : List CallV) : rdyB (L.map CallV.pure) = rdyB L := by
  funext u i
  unfold rdyB
  rw [List.length_map]
  congr 1
  funext j
  rw [getC_pure, getC_pure]
  rfl
theorem full_pure (L : List CallV) : fullB (L.map CallV.pure) = fullB L := by
  funext u
  unfold fullB
  rw [List.length_map]
  congr 1
  funext j
  rw [getC_pure]
  rfl
theorem SS_pure (L : List CallV) (st : MS) (u : Nat) : SS (L.map CallV.pure) st u = SS L st u := by
  show S (L.map CallV.pure).length (nx (L.map CallV.pure)) (rdyB (L.map CallV.pure)) (fullB (L.map CallV.pure)) st u = _
  rw [List.length_map, nx_pure, rdy_pure, full_pure]
theorem start_pure (c : CfgV) (L : List CallV) : startE c (L.map CallV.pure) = startE c L := by
  unfold startE
  rw [check_pure, List.length_map]
theorem find_pure (c : CfgV) (L : List CallV) : findP c (L.map CallV.pure) = findP c L := by
  unfold findP
  rw [start_pure, SS_pure]
theorem find_of_pure {c : CfgV} {A B : List CallV} (h : A.map CallV.pure = B.map CallV.pure) : findP c A = findP c B := by rw [← find_pure c A, h, find_pure]

theorem start_parts {c : CfgV} {L : List CallV} (h : startE c L = 0) : cfgE c = 0 ∧ (checkP L).2 = 0 ∧ L.length ≤ 10 := by
  unfold startE at h
  split at h
  · rename_i h1; exact absurd h h1
  · split at h
    · rename_i h1 h2; exact absurd h h2
    · split at h
      · cases h
      · rename_i h1 h2 h3
        exact ⟨by simpa using h1, by simpa using h2, by omega⟩
theorem start_zero {c : CfgV} {L : List CallV} (h1 : cfgE c = 0) (h2 : (checkP L).2 = 0) (h3 : L.length ≤ 10) : startE c L = 0 := by
  unfold startE
  rw [if_neg (by rw [h1]; simp), if_neg (by rw [h2]; simp), if_neg (by omega)]

/-! ### a prefix -/
theorem many_bound {L : List CallV} (h0 : (checkP L).2 = 0) {s : Int} {i : Nat} (hi : i < L.length) (hm : many s L ≤ i) : s < (getC L i).invoked := by
  by_cases h : s < (getC L i).invoked
  · exact h
  · exfalso
    have h : (getC L i).invoked ≤ s := by omega
    have hc := getC_some hi
    have hci : getC L i ∈ L.filter fun c => decide (c.invoked ≤ s) := List.mem_filter.2 ⟨List.mem_of_getElem? hc, by simpa using h⟩
    rw [filter_first (fun c => decide (c.invoked ≤ s)) L (fun i j a b hij ha hb hpb => by
      have := inv_up h0 i j a b hij ha hb
      simp only [decide_eq_true_eq] at hpb ⊢
      omega)] at hci
    obtain ⟨j, hj, he⟩ := List.mem_take_iff_getElem.1 hci
    have hj2 : j < many s L := by unfold many; omega
    have := inv_up h0 j i _ _ (by omega) (by rw [List.getElem?_eq_getElem (by omega), he]) hc
    omega
theorem pref_get {L : List CallV} (h0 : (checkP L).2 = 0) {s : Int} {i : Nat} (hi : i < many s L) : getC (prefS s L) i = (cutV s (getC L i)).pure ∧ (getC L i).invoked ≤ s := by
  obtain ⟨c, h1, h2, h3⟩ := pref_at h0 hi
  rw [getC_at h3, getC_at h1]
  exact ⟨rfl, h2⟩
theorem cut_id {s : Int} {c : CallV} (h : formedB c = true) (h1 : 0 ≤ c.answered) (h2 : c.answered ≤ s) : cutV s c = c := by
  have := formed_answered h h1
  unfold cutV
  rw [if_neg (by omega), if_neg (by omega)]
theorem cut_op (s : Int) (c : CallV) : (cutV s c).thread = c.thread ∧ opV (cutV s c) = opV c := by
  unfold cutV
  split <;> split <;> exact ⟨rfl, rfl⟩
theorem nextS_pend {st : MS} {c : CallV} (h : c.answered < 0) : nextS st c = some (doS st c.thread (opV c)).2 := by unfold nextS; rw [if_pos h]
theorem nextS_acc {st t : MS} {c : CallV} (h : ¬ c.answered < 0) (hn : nextS st c = some t) : t = (doS st c.thread (opV c)).2 ∨ t = st := by
  unfold nextS at hn
  rw [if_neg h] at hn
  split at hn
  · cases hn
    unfold accS
    split
    · exact .inl rfl
    · exact .inr rfl
  · cases hn
theorem rdy_get {L : List CallV} {u i j : Nat} (h : rdyB L u i = true) (hj : j < L.length) (hb : befB (getC L j) (getC L i) = true) : u.testBit j = true := by
  unfold rdyB at h
  have := List.all_eq_true.1 h j (List.mem_range.2 hj)
  rw [hb] at this
  simpa using this
theorem full_get {L : List CallV} {u j : Nat} (h : fullB L u = true) (hj : j < L.length) (hb : 0 ≤ (getC L j).answered) : u.testBit j = true := by
  unfold fullB at h
  have := List.all_eq_true.1 h j (List.mem_range.2 hj)
  have h2 : decide ((getC L j).answered < 0) = false := by simpa using hb
  rw [h2] at this
  simpa using this
theorem full_mk {L : List CallV} {u : Nat} (h : ∀ j, j < L.length → 0 ≤ (getC L j).answered → u.testBit j = true) : fullB L u = true := by
  unfold fullB
  rw [List.all_eq_true]
  intro j hj
  by_cases ha : (getC L j).answered < 0
  · simp [ha]
  · rw [h j (List.mem_range.1 hj) (by omega)]; rfl
theorem chain_cons {L : List CallV} {st : MS} {u i : Nat} {r : List Nat} : chainC L st u (i :: r) = (decide (i < L.length) && cand (rdyB L) u i && (match nx L st i with | none => false | some t => chainC L t (u ||| 2 ^ i) r)) := by
  unfold chainC
  rw [chain]; cases nx L st i <;> rfl
structure PRel (s : Int) (L : List CallV) (u u' : Nat) : Prop where
  sub : ∀ j, u'.testBit j = true → u.testBit j = true
  pend : ∀ j, j < many s L → u.testBit j = true → u'.testBit j = false → (getC (prefS s L) j).answered < 0
theorem pref_full {L : List CallV} (h0 : (checkP L).2 = 0) {s : Int} {u u' : Nat} (h : PRel s L u u') (hf : ∀ j, j < many s L → 0 ≤ (getC L j).answered → (getC L j).answered ≤ s → u.testBit j = true) : fullB (prefS s L) u' = true := by
  refine full_mk fun j hj ha => ?_
  rw [pref_many] at hj
  obtain ⟨e, hinv⟩ := pref_get h0 hj
  have ha2 := ha
  rw [e] at ha2
  have ha3 : 0 ≤ (cutV s (getC L j)).answered := ha2
  rw [cut_ans] at ha3
  split at ha3
  · omega
  · cases hb : u'.testBit j
    · have := h.pend j hj (hf j hj ha3 (by omega)) hb
      omega
    · rfl
theorem pref_chain {L : List CallV} (h0 : (checkP L).2 = 0) {s : Int} : ∀ (a : List Nat) {st : MS} {u u' : Nat}, PRel s L u u' → chainC L st u a = true → ∃ b, chainC (prefS s L) st u' b = true
  | [], st, u, u', hR, h => by
    have hf : fullB L u = true := h
    exact ⟨[], pref_full h0 hR fun j hj ha _ => full_get hf (Nat.lt_of_lt_of_le hj (many_le s L)) ha⟩
  | i :: r, st, u, u', hR, h => by
    rw [chain_cons] at h
    simp only [Bool.and_eq_true, decide_eq_true_eq] at h
    obtain ⟨⟨hi, hc⟩, h⟩ := h
    have hbit := cand_bit hc
    have hrdy : rdyB L u i = true := by unfold cand at hc; simp at hc; exact hc.2
    cases hn : nx L st i with
    | none => rw [hn] at h; cases h
    | some t =>
      rw [hn] at h
      have hnS : nextS st (getC L i) = some t := hn
      by_cases him : i < many s L
      · obtain ⟨e, hinv⟩ := pref_get h0 him
        have hfo := good_formed h0 (getC_some hi)
        have hu' : u'.testBit i = false := by
          cases hb : u'.testBit i
          · rfl
          · have := hR.sub i hb; rw [hbit] at this; cases this
        have hcand : cand (rdyB (prefS s L)) u' i = true := by
          unfold cand
          rw [hu']
          show rdyB (prefS s L) u' i = true
          refine rdy_yes fun j hj => ?_
          rw [pref_many] at hj
          have hjl := Nat.lt_of_lt_of_le hj (many_le s L)
          cases hb : befB (getC (prefS s L) j) (getC (prefS s L) i) with
          | false => simp
          | true =>
            obtain ⟨e2, hinv2⟩ := pref_get h0 hj
            have hb2 : befB (getC L j) (getC L i) = true := by
              rw [e, e2] at hb
              rw [← cut_bef (s := s) hinv]
              exact hb
            have h1 := rdy_get hrdy hjl hb2
            cases h2 : u'.testBit j with
            | true => rfl
            | false =>
              have h3 := hR.pend j hj h1 h2
              unfold befB at hb
              simp at hb
              omega
        have hboth : PRel s L (u ||| 2 ^ i) (u' ||| 2 ^ i) := ⟨fun j hj => by
          rw [bit_or] at hj ⊢
          rcases Bool.or_eq_true_iff.1 hj with h' | h'
          · rw [hR.sub j h']; rfl
          · rw [h']; simp, fun j hj h1 h2 => by
          rw [bit_or] at h1 h2
          have h3 := Bool.or_eq_false_iff.1 h2
          rw [h3.2, Bool.or_false] at h1
          exact hR.pend j hj h1 h3.1⟩
        have take : nextS st (getC (prefS s L) i) = some t → ∃ b, chainC (prefS s L) st u' b = true := fun hx => by
          obtain ⟨b, hb⟩ := pref_chain h0 r hboth h
          refine ⟨i :: b, ?_⟩
          rw [chain_cons]
          have hx2 : nx (prefS s L) st i = some t := hx
          rw [hx2, hcand]
          simp only [hb, Bool.and_true, decide_eq_true_eq]
          rw [pref_many]; exact him
        by_cases hpe : (getC L i).answered < 0
        · refine take ?_
          rw [e, next_pure]
          have hp2 : (cutV s (getC L i)).answered < 0 := by rw [cut_ans]; split <;> omega
          rw [nextS_pend hp2, (cut_op s _).1, (cut_op s _).2, ← nextS_pend hpe, hnS]
        · by_cases has : (getC L i).answered ≤ s
          · refine take ?_
            rw [e, next_pure, cut_id hfo (by omega) has, hnS]
          · have hp2 : (cutV s (getC L i)).answered < 0 := by rw [cut_ans, if_pos (by omega)]; omega
            rcases nextS_acc hpe hnS with ht | ht
            · refine take ?_
              rw [e, next_pure, nextS_pend hp2, (cut_op s _).1, (cut_op s _).2, ht]
            · subst ht
              refine pref_chain h0 r ⟨fun j hj => ?_, fun j hj h1 h2 => ?_⟩ h
              · rw [bit_or, hR.sub j hj]; rfl
              · rw [bit_or] at h1
                by_cases hij : i = j
                · subst hij
                  rw [e]; exact hp2
                · rw [show decide (i = j) = false by simpa using hij, Bool.or_false] at h1
                  exact hR.pend j hj h1 h2
      · refine ⟨[], pref_full h0 hR fun j hj ha has => ?_⟩
        have hinv := many_bound (s := s) h0 hi (by omega)
        refine rdy_get hrdy (Nat.lt_of_lt_of_le hj (many_le s L)) ?_
        unfold befB
        simp only [Bool.and_eq_true, decide_eq_true_eq]
        omega
theorem prefix_finds {c : CfgV} {L : List CallV} {s : Int} (hs : -1 ≤ s) (he : (findP c L).2.2 = 0) (hf : (findP c L).2.1 = true) : (findP c (prefS s L)).2 = (true, 0) := by
  rw [find_err] at he
  obtain ⟨h1, h2, h3⟩ := start_parts he
  have h4 : startE c (prefS s L) = 0 := start_zero h1 (by rw [check_pref h2 hs]) (Nat.le_trans (pref_len s L) h3)
  cases hS : SS L (newS c) 0 with
  | none => rw [find_none he hS] at hf; cases hf
  | some a =>
    obtain ⟨b, hb⟩ := pref_chain h2 a (s := s) (u' := 0) ⟨fun j hj => hj, fun j _ hj _ => by simp at hj⟩ (SS_chain hS)
    obtain ⟨d, hd, _⟩ := chain_SS hb
    rw [find_some h4 hd]
end Go.Proofs.YtdeiocppghhfdaaGreat.Lin
namespace Go.Proofs.YtdeiocppghhfdaaGreat.Lin
set_option linter.unusedVariables false
set_option linter.unusedSimpArgs false
open Go.RowKit Go.Lib Go.Shelf
open Hs

/-! ### an operation touches one seat -/
def oneS (st : MS) (c : Nat) : MS := { st with seats := [st.seat c] }
def wrapS (st : MS) (c : Nat) (x : ResV × MS) : ResV × MS := (x.1, { x.2 with seats := st.seats.set c (x.2.seat 0) })
theorem set_self (st : MS) (c : Nat) : st.seats.set c (st.seat c) = st.seats := congrArg MS.seats (put_self st c)
theorem wrap_same (st : MS) (c : Nat) (r : ResV) (t : ByteArray) (m : List MkV) (n : Int) (b : Bool) : wrapS st c (r, { oneS st c with text := t, marks := m, number := n, closed := b }) = (r, { st with text := t, marks := m, number := n, closed := b }) := by
  show (r, ({ text := t, marks := m, number := n, closed := b, readers := st.readers, seats := st.seats.set c (st.seat c) } : MS)) = _
  rw [set_self]
theorem wrap_put (st : MS) (c : Nat) (r : ResV) (s : SeV) : wrapS st c (r, (oneS st c).put 0 s) = (r, st.put c s) := rfl
theorem wrap_id (st : MS) (c : Nat) (r : ResV) : wrapS st c (r, oneS st c) = (r, st) := wrap_same st c r st.text st.marks st.number st.closed
theorem op_one (st : MS) (c : Nat) (q : OpV) : opS st c q = wrapS st c (opS (oneS st c) 0 q) := by
  have hs : (oneS st c).seat 0 = st.seat c := rfl
  unfold opS
  split
  · have e : insE (oneS st c) q = insE st q := rfl
    unfold insS; rw [e]; split
    · rw [wrap_id]
    · exact (wrap_same st c _ _ _ _ st.closed).symm
  split
  · have e : delE (oneS st c) q = delE st q := rfl
    unfold delS; rw [e]; split
    · rw [wrap_id]
    · exact (wrap_same st c _ _ _ _ st.closed).symm
  split
  · have e : setE (oneS st c) q = setE st q := rfl
    unfold setS; rw [e]; split
    · rw [wrap_id]
    · show _ = wrapS st c (if hasM q.id st.marks = true ∨ st.marks.length < 64 then _ else _)
      split
      · exact (wrap_same st c _ st.text _ _ st.closed).symm
      · rw [wrap_id]
  split
  · unfold drpS
    show _ = wrapS st c (if st.closed then _ else _)
    split
    · rw [wrap_id]
    · show _ = wrapS st c (if hasM q.id st.marks then _ else _)
      split
      · exact (wrap_same st c _ st.text _ _ st.closed).symm
      · rw [wrap_id]
  split
  · unfold acqS
    rw [hs]
    show _ = wrapS st c (if st.closed then _ else _)
    split
    · rw [wrap_id]
    · cases (st.seat c).slots.findIdx? (fun s => !s.held) with
      | none => rw [wrap_id]
      | some k => rfl
  split
  · unfold subS
    rw [hs]
    show _ = wrapS st c (if (st.seat c).sub then _ else if st.closed then _ else _)
    split
    · rw [wrap_id]
    · split
      · rw [wrap_id]
      · rfl
  split
  · unfold recS
    rw [hs]
    show _ = wrapS st c (if !(st.seat c).sub then _ else if st.closed then _ else _)
    split
    · rw [wrap_id]
    · split <;> rw [wrap_id]
  split
  · unfold cloS
    show _ = wrapS st c (if st.closed then _ else _)
    split
    · rw [wrap_id]
    · exact (wrap_same st c _ st.text st.marks st.number true).symm
  · unfold reaS
    rw [hs]
    split
    · rw [wrap_id]
    · rfl

/-! ### clients moved on -/
def rnN (b C i : Nat) : Nat := (i + b) % C
def rnC (b C : Nat) (t : Int) : Int := if 0 ≤ t ∧ t < (C : Int) then ((rnN b C t.toNat : Nat) : Int) else t
theorem rnN_lt {b C i : Nat} (hC : 0 < C) : rnN b C i < C := Nat.mod_lt _ hC
theorem rnN_inj {b C i j : Nat} (hi : i < C) (hj : j < C) (h : rnN b C i = rnN b C j) : i = j := by
  unfold rnN at h
  have h1 := Nat.div_add_mod (i + b) C
  have h2 := Nat.div_add_mod (j + b) C
  rw [h] at h1
  have h3 : (i + b) / C = (j + b) / C := by
    rcases Nat.lt_trichotomy ((i + b) / C) ((j + b) / C) with h4 | h4 | h4
    · exfalso
      have := Nat.mul_le_mul_left C h4
      rw [Nat.mul_succ] at this
      omega
    · exact h4
    · exfalso
      have := Nat.mul_le_mul_left C h4
      rw [Nat.mul_succ] at this
      omega
  rw [h3] at h1
  omega
theorem rnC_in {b C : Nat} {t : Int} (hC : 0 < C) : (0 ≤ rnC b C t ∧ rnC b C t < (C : Int)) ↔ (0 ≤ t ∧ t < (C : Int)) := by
  unfold rnC
  split
  · rename_i h
    have := rnN_lt (b := b) (i := t.toNat) hC
    constructor
    · intro _; exact h
    · intro _; omega
  · rfl
theorem rnC_inj {b C : Nat} {t s : Int} (hC : 0 < C) (h : rnC b C t = rnC b C s) : t = s := by
  have h1 := rnC_in (b := b) (t := t) hC
  have h2 := rnC_in (b := b) (t := s) hC
  rw [h] at h1
  by_cases ht : 0 ≤ t ∧ t < (C : Int)
  · have hs := h2.1 (h1.2 ht)
    unfold rnC at h
    rw [if_pos ht, if_pos hs] at h
    have := rnN_inj (b := b) (C := C) (i := t.toNat) (j := s.toNat) (by omega) (by omega) (by omega)
    omega
  · have hs : ¬ (0 ≤ s ∧ s < (C : Int)) := fun hs => ht (h1.1 (h2.2 hs))
    unfold rnC at h
    rw [if_neg ht, if_neg hs] at h
    exact h
structure PR (b C : Nat) (s t : MS) : Prop where
  core : t = { s with seats := t.seats }
  len : s.seats.length = C
  len2 : t.seats.length = C
  seat : ∀ i, i < C → t.seat (rnN b C i) = s.seat i
theorem PR.one {b C : Nat} {s t : MS} (h : PR b C s t) {i : Nat} (hi : i < C) : oneS t (rnN b C i) = oneS s i := by
  unfold oneS
  rw [h.seat i hi, h.core]
theorem seat_set (st : MS) (l : List SeV) (i j : Nat) (y : SeV) (X : MS) (hl : i < l.length) : ({ X with seats := l.set i y } : MS).seat j = if i = j then y else ({ X with seats := l } : MS).seat j := by
  unfold MS.seat
  rw [List.getD_eq_getElem?_getD, List.getD_eq_getElem?_getD]
  by_cases h : i = j
  · subst h; rw [if_pos rfl, List.getElem?_set_self hl]; rfl
  · rw [if_neg h, List.getElem?_set_ne h]
theorem PR.stat {b C : Nat} (hC : 0 < C) {s t : MS} (h : PR b C s t) (c : Int) (q : OpV) : statE t (rnC b C c) q = statE s c q := by
  unfold statE
  rw [h.len, h.len2]
  have := rnC_in (b := b) (t := c) hC
  by_cases hc : 0 ≤ c ∧ c < (C : Int)
  · have := this.2 hc
    rw [if_neg (by omega), if_neg (by omega)]
  · have h2 : ¬ (0 ≤ rnC b C c ∧ rnC b C c < (C : Int)) := fun h => hc (this.1 h)
    rw [if_pos (by omega), if_pos (by omega)]
theorem PR.do_ {b C : Nat} (hC : 0 < C) {s t : MS} (h : PR b C s t) (c : Int) (q : OpV) : (doS t (rnC b C c) q).1 = (doS s c q).1 ∧ PR b C (doS s c q).2 (doS t (rnC b C c) q).2 := by
  unfold doS
  rw [h.stat hC]
  split
  · exact ⟨rfl, h⟩
  · rename_i he
    obtain ⟨h0, h1, _⟩ := statE_ok (Decidable.not_not.1 he)
    rw [h.len] at h1
    have e : (rnC b C c).toNat = rnN b C c.toNat := by unfold rnC; rw [if_pos ⟨h0, h1⟩]; omega
    have hi : c.toNat < C := by omega
    rw [e, op_one t, op_one s, h.one hi]
    generalize opS (oneS s c.toNat) 0 q = X
    refine ⟨rfl, rfl, ?_, ?_, fun i hi2 => ?_⟩
    · show (s.seats.set _ _).length = C
      rw [List.length_set]; exact h.len
    · show (t.seats.set _ _).length = C
      rw [List.length_set]; exact h.len2
    · show ({ X.2 with seats := t.seats.set (rnN b C c.toNat) (X.2.seat 0) } : MS).seat (rnN b C i) = ({ X.2 with seats := s.seats.set c.toNat (X.2.seat 0) } : MS).seat i
      rw [seat_set s _ _ _ _ _ (by rw [h.len2]; exact rnN_lt hC), seat_set s _ _ _ _ _ (by rw [h.len]; exact hi)]
      by_cases hic : c.toNat = i
      · rw [if_pos (by rw [hic]), if_pos hic]
      · rw [if_neg (fun e => hic (rnN_inj hi hi2 e)), if_neg hic]
        exact h.seat i hi2
theorem PR.acc {b C : Nat} (hC : 0 < C) {s t : MS} (h : PR b C s t) (c : Int) (q : OpV) (r : ResV) (i : ItV) : (accS t (rnC b C c) q r i).1 = (accS s c q r i).1 ∧ PR b C (accS s c q r i).2 (accS t (rnC b C c) q r i).2 := by
  obtain ⟨h1, h2⟩ := h.do_ hC c q
  have e : accB t (rnC b C c) q r i = accB s c q r i := by unfold accB; rw [h1, h.stat hC]
  unfold accS
  rw [h1, e]
  split
  · exact ⟨rfl, h2⟩
  · exact ⟨rfl, h⟩
theorem PR.new {b : Nat} {c : CfgV} (hC : 0 < c.clients.toNat) : PR b c.clients.toNat (newS c) (newS c) := by
  refine ⟨rfl, by simp [newS], by simp [newS], fun i hi => ?_⟩
  have := rnN_lt (b := b) (i := i) hC
  unfold MS.seat newS
  simp [List.getElem?_replicate, hi, this]
def renC (b C : Nat) (c : CallV) : CallV := { c with thread := rnC b C c.thread }
theorem PR.next {b C : Nat} (hC : 0 < C) {s t : MS} (h : PR b C s t) (c : CallV) : (nextS s c = none ∧ nextS t (renC b C c) = none) ∨ ∃ s' t', nextS s c = some s' ∧ nextS t (renC b C c) = some t' ∧ PR b C s' t' := by
  have hd := h.do_ hC c.thread (opV c)
  have ha := h.acc hC c.thread (opV c) (resV c) (itV c)
  have e : nextS t (renC b C c) = if c.answered < 0 then some (doS t (rnC b C c.thread) (opV c)).2
    else if (accS t (rnC b C c.thread) (opV c) (resV c) (itV c)).1 then some (accS t (rnC b C c.thread) (opV c) (resV c) (itV c)).2 else none := rfl
  rw [e]
  unfold nextS
  by_cases h1 : c.answered < 0
  · rw [if_pos h1, if_pos h1]
    exact .inr ⟨_, _, rfl, rfl, hd.2⟩
  · rw [if_neg h1, if_neg h1, ha.1]
    cases (accS s c.thread (opV c) (resV c) (itV c)).1 with
    | true => exact .inr ⟨_, _, rfl, rfl, ha.2⟩
    | false => exact .inl ⟨rfl, rfl⟩
theorem sr_rel {α β : Type} {R : α → β → Prop} {n : Nat} {nx1 : α → Nat → Option α} {nx2 : β → Nat → Option β} {rdy : Nat → Nat → Bool} {fl : Nat → Bool}
    (hn : ∀ s t i, i < n → R s t → (nx1 s i = none ∧ nx2 t i = none) ∨ ∃ s' t', nx1 s i = some s' ∧ nx2 t i = some t' ∧ R s' t') :
    ∀ (k : Nat) (s : α) (t : β) (u : Nat), R s t → sr n nx1 rdy fl k s u = sr n nx2 rdy fl k t u
  | 0, s, t, u, h => rfl
  | k + 1, s, t, u, h => by
    show (if fl u then some [] else (List.range n).findSome? _) = (if fl u then some [] else (List.range n).findSome? _)
    congr 1
    refine findSome_congr fun i hi => ?_
    split
    · rcases hn s t i (List.mem_range.1 hi) h with ⟨h1, h2⟩ | ⟨s', t', h1, h2, h3⟩
      · rw [h1, h2]; rfl
      · rw [h1, h2]
        show (sr n nx1 rdy fl k s' _).map _ = (sr n nx2 rdy fl k t' _).map _
        rw [sr_rel hn k s' t' _ h3]
    · rfl
theorem getC_ren (b C : Nat) (L : List CallV) {i : Nat} (hi : i < L.length) : getC (L.map (renC b C)) i = renC b C (getC L i) := by
  unfold getC
  rw [List.getD_eq_getElem?_getD, List.getD_eq_getElem?_getD, List.getElem?_map, List.getElem?_eq_getElem hi]
  rfl
theorem all_same {n : Nat} {f g : Nat → Bool} (h : ∀ j, j < n → f j = g j) : (List.range n).all f = (List.range n).all g := by
  rw [Bool.eq_iff_iff, List.all_eq_true, List.all_eq_true]
  constructor
  · intro h1 j hj; rw [← h j (List.mem_range.1 hj)]; exact h1 j hj
  · intro h1 j hj; rw [h j (List.mem_range.1 hj)]; exact h1 j hj
theorem S_congr {α : Type} {n : Nat} {nx1 : α → Nat → Option α} {rdy rdy2 : Nat → Nat → Bool} {fl fl2 : Nat → Bool} (h1 : ∀ u i, i < n → rdy u i = rdy2 u i) (h2 : ∀ u, fl u = fl2 u) : ∀ (k : Nat) (s : α) (u : Nat), sr n nx1 rdy fl k s u = sr n nx1 rdy2 fl2 k s u
  | 0, s, u => by show (if fl u then some [] else none) = _; rw [h2]; rfl
  | k + 1, s, u => by
    show (if fl u then some [] else (List.range n).findSome? _) = (if fl2 u then some [] else (List.range n).findSome? _)
    rw [h2]
    congr 1
    refine findSome_congr fun i hi => ?_
    have e : cand rdy u i = cand rdy2 u i := by unfold cand; rw [h1 u i (List.mem_range.1 hi)]
    rw [e]
    split
    · cases nx1 s i with
      | none => rfl
      | some t =>
        show (sr n nx1 rdy fl k t _).map _ = (sr n nx1 rdy2 fl2 k t _).map _
        rw [S_congr h1 h2]
    · rfl
theorem SS_ren {b C : Nat} (hC : 0 < C) (L : List CallV) {s t : MS} (h : PR b C s t) (u : Nat) : SS (L.map (renC b C)) t u = SS L s u := by
  show sr (L.map (renC b C)).length (nx (L.map (renC b C))) (rdyB (L.map (renC b C))) (fullB (L.map (renC b C))) (fr (L.map (renC b C)).length u) t u = sr L.length (nx L) (rdyB L) (fullB L) (fr L.length u) s u
  rw [List.length_map]
  have hr : ∀ u i, i < L.length → rdyB (L.map (renC b C)) u i = rdyB L u i := fun u i hi => by
    unfold rdyB
    rw [List.length_map]
    refine all_same fun j hj => ?_
    rw [getC_ren b C L hj, getC_ren b C L hi]
    rfl
  have hf : ∀ u, fullB (L.map (renC b C)) u = fullB L u := fun u => by
    unfold fullB
    rw [List.length_map]
    refine all_same fun j hj => ?_
    rw [getC_ren b C L hj]
    rfl
  rw [S_congr hr hf]
  symm
  refine sr_rel (R := PR b C) (fun s t i hi hR => ?_) _ s t u h
  have := hR.next hC (getC L i)
  unfold nx
  rw [getC_ren b C L hi]
  exact this

/-! ### the history is well formed as before -/
theorem ren_formed {b C : Nat} (hC : 0 < C) (h8 : C ≤ 8) (c : CallV) : formedB (renC b C c) = formedB c := by
  unfold formedB
  have h1 := rnC_in (b := b) (t := c.thread) hC
  have h2 : (0 ≤ rnC b C c.thread ∧ rnC b C c.thread < 16) ↔ (0 ≤ c.thread ∧ c.thread < 16) := by
    by_cases h : 0 ≤ c.thread ∧ c.thread < (C : Int)
    · have := h1.2 h; constructor <;> intro _ <;> omega
    · have e : rnC b C c.thread = c.thread := by unfold rnC; rw [if_neg h]
      rw [e]
  have h3 : plainB (renC b C c) = plainB c := rfl
  rw [h3]
  refine decide_eq_decide.2 ?_
  show (0 ≤ rnC b C c.thread ∧ rnC b C c.thread < 16 ∧ _) ↔ _
  rw [← and_assoc, h2, and_assoc]
  rfl
theorem thF_ren {b C : Nat} (hC : 0 < C) (t : Int) (cs : List CallV) : thF (rnC b C t) (cs.map (renC b C)) = (thF t cs).map (renC b C) := by
  unfold thF
  rw [List.filter_map]
  congr 1
  refine List.filter_congr fun c _ => ?_
  refine decide_eq_decide.2 ⟨fun h => rnC_inj hC h, fun h => ?_⟩
  show rnC b C c.thread = rnC b C t
  rw [h]
theorem clash_ren {b C : Nat} (hC : 0 < C) (c d : CallV) : clashB (renC b C c) (renC b C d) = clashB c d := by
  unfold clashB
  have h : ((renC b C c).thread ≠ (renC b C d).thread) ↔ (c.thread ≠ d.thread) := by
    constructor
    · intro h1 h2; exact h1 (by show rnC b C c.thread = rnC b C d.thread; rw [h2])
    · intro h1 h2; exact h1 (rnC_inj hC h2)
  refine decide_eq_decide.2 ?_
  rw [h]
  rfl
theorem acc_ren {b C : Nat} (hC : 0 < C) (h8 : C ≤ 8) (pre : List CallV) (c : CallV) : Hs.accB (pre.map (renC b C)) (renC b C c) = Hs.accB pre c := by
  rw [accB_eq, accB_eq, ren_formed hC h8]
  have e : thF (renC b C c).thread (pre.map (renC b C)) = (thF c.thread pre).map (renC b C) := thF_ren hC c.thread pre
  rw [e, List.length_map, List.getLast?_map, List.getLast?_map, List.all_map]
  show (formedB c && _ && decide (c.index = ((thF c.thread pre).length : Int)) && _ && _) = _
  congr 1
  · congr 1
    · congr 1
      congr 1
      cases pre.getLast? <;> rfl
    · cases (thF c.thread pre).getLast? <;> rfl
  · congr 1
    funext d
    show (!clashB (renC b C c) (renC b C d)) = _
    rw [clash_ren hC]
theorem check_ren {b C : Nat} (hC : 0 < C) (h8 : C ≤ 8) (cs : List CallV) : checkP (cs.map (renC b C)) = checkP cs := by
  unfold checkP
  rw [List.length_map]
  have e : (fun i => !okAt (cs.map (renC b C)) i) = fun i => !okAt cs i := by
    funext i
    unfold okAt
    rw [List.getElem?_map, ← List.map_take]
    cases cs[i]? with
    | none => rfl
    | some c => simp only [Option.map_some]; rw [acc_ren hC h8]
  rw [e]
theorem find_ren {b : Nat} {c : CfgV} (h1 : 1 ≤ c.clients) (h8 : c.clients ≤ 8) (L : List CallV) : findP c (L.map (renC b c.clients.toNat)) = findP c L := by
  have hC : 0 < c.clients.toNat := by omega
  have e : startE c (L.map (renC b c.clients.toNat)) = startE c L := by
    unfold startE
    rw [check_ren hC (by omega), List.length_map]
  unfold findP
  rw [e, SS_ren hC L (PR.new hC)]
end Go.Proofs.YtdeiocppghhfdaaGreat.Lin
namespace Go.Proofs.YtdeiocppghhfdaaGreat.Lin
set_option linter.unusedVariables false
set_option linter.unusedSimpArgs false
open Go.RowKit Go.Lib Go.Shelf
open Hs
open KitI (iv IRow own_below)
attribute [local go_sem, local simp] Hs.callL_0 Hs.callL_1 Hs.callL_2 Hs.callL_3 Hs.callL_4 Hs.callL_5 Hs.callL_6 Hs.callL_7 Hs.callL_8 Hs.callL_9 Hs.callL_10 Hs.callL_11 Hs.callL_12 Hs.callL_13 Hs.callL_14 Hs.callL_15 Hs.callL_16 Hs.callL_17 Hs.callL_18 Hs.callL_19 Hs.callL_20 Hs.callL_21 Hs.callL_22 Hs.callL_23 Hs.callL_24 Hs.callL_25 Hs.callL_26 Hs.resL_0 Hs.resL_1 Hs.resL_2 Hs.resL_3 Hs.resL_4 Hs.resL_5 Hs.resL_6 Hs.resL_7 Hs.resL_8 Hs.resL_9 Hs.resL_10 Hs.resL_11 Hs.resL_12 Hs.callG_0 Hs.callG_1 Hs.callG_2 Hs.callG_3 Hs.callG_4 Hs.callG_5 Hs.callG_6 Hs.callG_7 Hs.callG_8 Hs.callG_9 Hs.callG_10 Hs.callG_11 Hs.callG_12 Hs.callG_13 Hs.callG_14 Hs.callG_15 Hs.callG_16 Hs.callG_17 Hs.callG_18 Hs.callG_19 Hs.callG_20 Hs.callG_21 Hs.callG_22 Hs.callG_23 Hs.callG_24 Hs.callG_25 Hs.callG_26 Hs.resG_0 Hs.resG_1 Hs.resG_2 Hs.resG_3 Hs.resG_4 Hs.resG_5 Hs.resG_6 Hs.resG_7 Hs.resG_8 Hs.resG_9 Hs.resG_10 Hs.resG_11 Hs.resG_12 Hs.callL_len Hs.resL_len
attribute [local go_sem ↓] Hs.loadCall_eq Hs.loadRes_eq
attribute [local go_sem] Hs.ld_new Hs.ld_first Hs.ld_second Hs.ldr_new Hs.st_new
theorem callsL_set : ∀ (cs : List CallV) (i : Nat) (c : CallV) (tl : List Value) (x : Int), cs[i]? = some c → (callsL cs ++ tl).set (i * 27) (.int .i64 x) = callsL (cs.set i { c with thread := x }) ++ tl
  | [], i, c, tl, x, h => by simp at h
  | d :: cs, 0, c, tl, x, h => by
    simp at h
    subst h
    rw [callsL_cons, List.set_cons_zero, callsL_cons]
    rfl
  | d :: cs, i + 1, c, tl, x, h => by
    rw [callsL_cons, List.set_cons_succ, callsL_cons, List.append_assoc, List.append_assoc, List.set_append, if_neg (by rw [callL_len]; omega), callL_len, show (i + 1) * 27 - 27 = i * 27 by omega, callsL_set cs i c tl x (by simpa using h)]
structure KW (w1 W : World) (g cap : Nat) (cs : List CallV) : Prop where
  blk : ∃ tl : List Value, W.heap[g]? = some (.cells (callsL cs ++ tl).toArray 56 (0, 0))
  bl : Below w1.heap.size w1 W
  ge : w1.heap.size ≤ g
  cap : cs.length ≤ cap
section
variable {w1 W W' : World} {g cap : Nat} {cs : List CallV}
theorem KW.on (h : KW w1 W g cap cs) (hb : Below W.heap.size W W') : KW w1 W' g cap cs := by
  obtain ⟨tl, ht⟩ := h.blk
  exact ⟨⟨tl, blk_below ht hb (Array.getElem?_eq_some_iff.1 ht).1⟩, h.bl.trans (hb.mono h.bl.size), h.ge, h.cap⟩
theorem KW.crow (h : KW w1 W g cap cs) : CRow W (some ⟨g, 0, none⟩) cap cs := by
  obtain ⟨tl, ht⟩ := h.blk
  refine .inr ⟨g, 0, rfl, h.cap, (Array.getElem?_eq_some_iff.1 ht).1, fun j u hj => ?_⟩
  rw [Nat.zero_add, blk_cell ht, List.getElem?_append_left (List.getElem?_eq_some_iff.1 hj).1]
  exact hj
theorem KW.cell (h : KW w1 W g cap cs) {i : Nat} {c : CallV} (hc : cs[i]? = some c) : W.cell? ⟨g, i * 27, none⟩ = some (.int .i64 c.thread) ∧ W.frozen? ⟨g, i * 27, none⟩ = false := by
  obtain ⟨tl, ht⟩ := h.blk
  refine ⟨?_, blk_frozen ht _⟩
  have hg := callsL_get cs i 0 c hc (by omega)
  rw [Nat.add_zero, callL_0] at hg
  rw [blk_cell ht, List.getElem?_append_left (List.getElem?_eq_some_iff.1 hg).1, hg]
theorem KW.set (h : KW w1 W g cap cs) {i : Nat} {c : CallV} (hc : cs[i]? = some c) (x : Int) : KW w1 (W.setCell ⟨g, i * 27, none⟩ (.int .i64 x)) g cap (cs.set i { c with thread := x }) := by
  obtain ⟨tl, ht⟩ := h.blk
  refine ⟨⟨tl, ?_⟩, h.bl.setCell (p := ⟨g, i * 27, none⟩) h.ge _, h.ge, by rw [List.length_set]; exact h.cap⟩
  rw [← callsL_set cs i c tl x hc]
  exact blk_set ht _ _
end
theorem kw_of_own {w1 W : World} {p : Option Addr} {cap : Nat} {cs : List CallV} (h : W.ownsRow w1.heap.size 56 27 (.slice p cs.length cap) cs.length (callsL cs)) (hb : Below w1.heap.size w1 W) : (p = none ∧ cs = [] ∧ cap = 0) ∨ ∃ g, p = some ⟨g, 0, none⟩ ∧ KW w1 W g cap cs := by
  rcases h.2 with ⟨h1, h2⟩ | ⟨g, cap', cur, h1, h2, h3, h4, h5, h6, h7⟩
  · injection h1 with h1 h3 h4
    exact .inl ⟨h1, List.length_eq_zero_iff.1 h2, h4⟩
  · injection h1 with h1 h8 h9
    subst h1 h9
    refine .inr ⟨g, rfl, ⟨cur.toList.drop (cs.length * 27), ?_⟩, hb, h2, h4⟩
    rw [h3]
    congr 2
    rw [← h7, List.take_append_drop]
def renK (b C k : Nat) (cs : List CallV) : List CallV := (cs.take k).map (renC b C) ++ cs.drop k
theorem renK_zero (b C : Nat) (cs : List CallV) : renK b C 0 cs = cs := by simp [renK]
theorem renK_all (b C : Nat) (cs : List CallV) : renK b C cs.length cs = cs.map (renC b C) := by simp [renK]
theorem renK_len (b C k : Nat) (cs : List CallV) : (renK b C k cs).length = cs.length := by unfold renK; rw [List.length_append, List.length_map, List.length_take, List.length_drop]; omega
theorem renK_at {b C k : Nat} {cs : List CallV} {c : CallV} (h : cs[k]? = some c) : (renK b C k cs)[k]? = some c := by
  have hlt := (List.getElem?_eq_some_iff.1 h).1
  unfold renK
  rw [List.getElem?_append_right (by rw [List.length_map, List.length_take]; omega), List.length_map, List.length_take, Nat.min_eq_left (by omega), Nat.sub_self, List.getElem?_drop, Nat.add_zero, h]
theorem renK_succ {b C k : Nat} {cs : List CallV} {c : CallV} (h : cs[k]? = some c) : renK b C (k + 1) cs = (renK b C k cs).set k (renC b C c) := by
  have hlt := (List.getElem?_eq_some_iff.1 h).1
  unfold renK
  rw [List.take_add_one, h, Option.toList_some, List.map_append, List.set_append, if_neg (by rw [List.length_map, List.length_take]; omega), List.length_map, List.length_take, Nat.min_eq_left (by omega), Nat.sub_self]
  have e : cs.drop k = c :: cs.drop (k + 1) := by rw [List.drop_eq_getElem_cons hlt]; congr 1; exact Option.some.inj ((List.getElem?_eq_getElem hlt).symm.trans h)
  rw [e, List.set_cons_zero, List.append_assoc]
  rfl
theorem renK_id {b C k : Nat} {cs : List CallV} {c : CallV} (h : cs[k]? = some c) (hr : renC b C c = c) : renK b C (k + 1) cs = renK b C k cs := by
  rw [renK_succ h, hr]
  have h1 := renK_at (b := b) (C := C) h
  obtain ⟨hlt, he⟩ := List.getElem?_eq_some_iff.1 h1
  rw [← he, List.set_getElem_self]
theorem go_mod {C : Nat} (hC : 0 < C) (z : Int) : -(C : Int) < z.tmod C ∧ z.tmod C < C ∧ ∃ b : Nat, (z.tmod C + C).tmod C = (b : Int) ∧ b < C := by
  have h3 : -(C : Int) < z.tmod C := Int.lt_tmod_of_pos z (by omega)
  have h4 : z.tmod C < C := Int.tmod_lt_of_pos z (by omega)
  refine ⟨h3, h4, ((z.tmod C + C).tmod C).toNat, ?_, ?_⟩
  · have := Int.tmod_nonneg (a := z.tmod C + C) (C : Int) (by omega)
    omega
  · have h5 := Int.tmod_nonneg (a := z.tmod C + C) (C : Int) (by omega)
    have h6 : (z.tmod C + C).tmod C < C := Int.tmod_lt_of_pos _ (by omega)
    omega
theorem ren_mod {b C : Nat} {t : Int} (h0 : 0 ≤ t) (h1 : t < (C : Int)) : (t + b).tmod C = rnC b C t := by
  unfold rnC rnN
  rw [if_pos ⟨h0, h1⟩, Int.tmod_eq_emod_of_nonneg (by omega)]
  obtain ⟨n, rfl⟩ : ∃ n : Nat, t = n := ⟨t.toNat, by omega⟩
  rw [Int.toNat_natCast]
  simp
theorem okc_ren {b C : Nat} {c : CallV} (h : c.Ok) : (renC b C c).Ok := ⟨h.i0, h.i1, h.a0, h.a1, h.s0, h.s1, h.t0, h.t1, h.r0, h.r1, h.kd, h.id, h.gr, h.sl, h.at_, h.nn⟩
def RnRel (w w1 w3 : World) (g cap : Nat) (C : CfgV) (b : Nat) (ks : List CallV) (i : Value) (wr : World) : Prop :=
  ∃ k : Nat, i = .int .i64 k ∧ k ≤ ks.length ∧ KW w3 wr g cap (renK b C.clients.toNat k ks)
attribute [local go_sem ↓] loadCfg_eq
attribute [local go_sem, local simp] cfgL_len cfgL_ne
theorem cfg_cells {W : World} {b : Nat} {c : CfgV} (h : W.heap[b]? = some (.cells (cfgL c).toArray tCfg (0, 0))) : W.cell? ⟨b, 2, none⟩ = some (.int .i64 c.clients) := by rw [blk_cell h]; rfl
attribute [local irreducible] cfgL
set_option maxRecDepth 100000 in
set_option maxHeartbeats 4000000 in
theorem walkLinearRenames (c : CfgV) (p : Option Addr) (cap : Nat) (cs : List CallV) (by_ : Int) (w : World) (hA : ArgRow w p cs) (hw : -9223372036854775808 ≤ by_ ∧ by_ ≤ 9223372036854775807) :
    Calls Tryz.prog 7 #[.agg (cfgL c).toArray, .slice p cs.length cap, .int .i64 by_] w fun e w' => e = .returned (.bool true) ∧ Below w.heap.size w w' := by
  have hB0 : Below w.heap.size w (w.alloc (.cells (cfgL c).toArray tCfg)) := (Below.refl _ _).alloc (Nat.le_refl _) _
  have hz0 := blk_new w (cfgL c) tCfg
  have hl0 := ld_cfg hz0
  go_enter Tryz.func7, Tryz.ntmps7
  go_wp2_with fail
  refine (small36_l c _).mono ?_
  rintro e w1 ⟨rfl, hb1⟩
  have hz1 := blk_below hz0 hb1 (by simp)
  have hs1 := st_cfg hz1 (by simp [cfgL_len]) (smallC 100 c)
  have hz2 := setRow_heap _ _ _ (cfgL (smallC 100 c)).toArray _ _ hz1
  have hB1 : Below w.heap.size w (w1.setRow w.heap.size (cfgL (smallC 100 c)).toArray) := below_row (hB0.trans (hb1.mono hB0.size)) (Nat.le_refl _) _
  clear hl0 hz0 hb1 hz1
  generalize smallC 100 c = C at *
  go_wp2_with fail
  refine (few36_h 6 (by omega) p cap cs _ (hA.on hB1)).mono ?_
  rintro e w3 ⟨p', cap', hs, rfl, hpure, hrow, -, hb3⟩
  have hL : LawW w w3 C p' cap' hs := ⟨hB1.trans (hb3.mono hB1.size), blk_below hz2 hb3 (Array.getElem?_eq_some_iff.1 hz2).1, hrow⟩
  clear hs1 hz2 hb3 hrow
  go_wp2_with fail
  refine (few36_h 6 (by omega) p cap cs _ (hA.on hL.bl)).mono ?_
  rintro e w4 ⟨p2, cap2, ks, rfl, hpure2, hrow2, hown, hb4⟩
  have hlen : ks.length ≤ 24 := hrow2.len
  have hps : ∀ x ∈ ks, x.ps.length ≤ 1000000 := fun x hx => (hrow2.dat x hx).1
  have hoks := hrow2.ok
  have hfe : findP C ks = findP C hs := find_of_pure (by rw [hpure2, hpure])
  have hC2 := hrow2.row
  have hcl := cfg_cells (hL.on hb4).box
  have hld := (hL.on hb4).ld
  clear hA hB1 hrow2 hpure hpure2
  by_cases hc1 : C.clients < 1
  · have hL4 := hL.on hb4
    have d1 : decide (C.clients < 1) = true := by simpa using hc1
    clear hC2 hown hfe hoks hps hL hb4 hc1
    go_wp2_with fail
    refine hL4.awake.mono ?_
    rintro e w8 ⟨rfl, hb⟩
    go_wp2_with fail
    go_returns
    exact ⟨rfl, hb⟩
  · by_cases hc8 : 8 < C.clients
    · have hL4 := hL.on hb4
      have d1 : decide (C.clients < 1) = false := by simpa using hc1
      have d2 : decide (8 < C.clients) = true := by simpa using hc8
      clear hC2 hown hfe hoks hps hL hb4 hc1 hc8
      go_wp2_with fail
      refine hL4.awake.mono ?_
      rintro e w8 ⟨rfl, hb⟩
      go_wp2_with fail
      go_returns
      exact ⟨rfl, hb⟩
    · have d1 : decide (C.clients < 1) = false := by simpa using hc1
      have d2 : decide (8 < C.clients) = false := by simpa using hc8
      obtain ⟨N, hN⟩ : ∃ N : Nat, C.clients = N := ⟨C.clients.toNat, by omega⟩
      obtain ⟨m1, m2, b, m3, m4⟩ := go_mod (C := N) (by omega) by_
      have hne : (C.clients == 0) = false := by simp; omega
      have i1 : IntKind.i64.wrap (by_.tmod N) = by_.tmod N := IntWalk.i64_in _ (by omega)
      have i2 : IntKind.i64.wrap (by_.tmod N + N) = by_.tmod N + N := IntWalk.i64_in _ (by omega)
      have i3 : IntKind.i64.wrap (b : Int) = b := IntWalk.i64_in _ (by omega)
      have hN0 : (N = 0) = False := by simp; omega
      rw [hN] at hne d1 d2 hcl
      go_wp2_with fail
      have hcl2 : w4.drew.cell? ⟨w.heap.size, 2, none⟩ = some (.int .i64 N) := hcl
      refine wp_region_noPanic ?_
      refine wp_region_held_drew (S := fun W => W.cell? ⟨w.heap.size, 2, none⟩ = some (.int .i64 N)) (by kernel_rfl) ?_ (fun hHeld => ?_)
      · first | exact hcl | exact hcl2
      iterate 11 (((first | refine np_n ?_ ?_ ?_ | refine np_t 0 ?_ ?_ ?_); rotate_left 1; (· (intro w hSw; (try dsimp only at hSw); go_simp; all_goals with_reducible rfl)); (try simp only [nSO])))
      refine wpAnyH_done (by kernel_rfl) ?_ _
      refine NoPanic.normal ?_
      have hbd := hb4.drew
      have hK : (p2 = none ∧ ks = [] ∧ cap2 = 0) ∨ ∃ g, p2 = some ⟨g, 0, none⟩ ∧ KW w3 w4.drew g cap2 ks := kw_of_own (own_below hown (Below.refl _ _).drew) hbd
      go_wp2_with fail
      rcases hK with ⟨rfl, rfl, rfl⟩ | ⟨g, rfl, hK⟩
      · have hl9 := hL.on hbd
        have hF1 := hl9.find
        have hld := hl9.ld
        have hC0 : CRow w4.drew none 0 [] := .inl ⟨rfl, rfl, rfl⟩
        have hF2 := fun W (hb : Below w4.drew.heap.size w4.drew W) => find_any C none 0 [] W (hC0.on hb) (by simp) (fun x hx => by cases hx) (fun x hx => by cases hx)
        unfold FindPost at hF2
        rw [cfg_v, hfe] at hF2
        have hal := find_len C hs
        clear hL hb4 hown hC2 hcl hcl2 hfe m1 m2 m3 m4 i1 i2 i3 hne hN0 d1 d2 hc1 hc8 hC0
        generalize w4.drew = wr at *
        generalize (findP C hs).1 = a at *
        generalize (findP C hs).2.1 = fd at *
        generalize (findP C hs).2.2 = er at *
        refine wp_loop_rounds 1 ?_
        rw [rounds_succ]
        go_wp2_with fail
        refine hF1.mono ?_
        rintro e w5 ⟨aa, qa, rfl, hOa, hIa, hb⟩
        have hl5 := hl9.on hb
        have hld := hl5.ld
        have hF3 := hF2 _ hb
        clear hF1 hF2 hl9
        go_wp2_with fail
        refine hF3.mono ?_
        rintro e w6 ⟨v6, he, hO6, hb6⟩
        obtain ⟨a6, q6, rfl⟩ := own_slice hO6
        subst he
        have hl6 := hl5.on hb6
        have hE := eqiT (.slice aa a.length qa) (.slice a6 a.length q6) (a.map fun (x : Nat) => (x : Int)) (W := w6) ((irow_own hOa rfl).on hb6) (irow_own hO6 rfl) (by rw [List.length_map]; have := hl6.row.len; omega)
        clear hl5 hF3
        go_wp2_with fail
        refine hE.mono ?_
        rintro e w7 ⟨rfl, hb7⟩
        have hl7 := hl6.on hb7
        cases fd <;> (
          go_wp2_with fail
          refine hl7.awake.mono ?_
          rintro e w8 ⟨rfl, hb⟩
          go_wp2_with fail
          go_returns
          exact ⟨rfl, hb⟩)
      · go_loopw [9] (fun i wr => RnRel w w1 w3 g cap2 C b ks i wr) (fun i wr => ks.length - (intOf i).toNat)
        case atStart => exact ⟨0, rfl, by omega, by rw [renK_zero]; exact hK⟩
        case round =>
          obtain ⟨k, rfl, hk, hK2⟩ := hrel
          by_cases hlt : k < ks.length
          · obtain ⟨c2, hc2⟩ : ∃ c2, ks[k]? = some c2 := ⟨_, List.getElem?_eq_getElem hlt⟩
            obtain ⟨q1, q2⟩ := hK2.cell (renK_at hc2)
            have hb2 := (hL.on hK2.bl).box
            have q3 := cfg_cells hb2
            rw [hN] at q3
            have q1' : wr.drew.cell? ⟨g, k * 27, none⟩ = some (.int .i64 c2.thread) := q1
            have q3' : wr.drew.cell? ⟨w.heap.size, 2, none⟩ = some (.int .i64 N) := q3
            by_cases ht0 : 0 ≤ c2.thread
            · by_cases ht1 : c2.thread < N
              · have e0 : decide (0 ≤ c2.thread) = true := by simpa using ht0
                have e1 : decide (c2.thread < N) = true := by simpa using ht1
                go_wp2_with fail
                refine wp_region_noPanic ?_
                refine wp_region_held_drew (S := fun W => W.cell? ⟨g, k * 27, none⟩ = some (.int .i64 c2.thread) ∧ W.cell? ⟨w.heap.size, 2, none⟩ = some (.int .i64 N)) (by kernel_rfl) ?_ (fun hHeld => ?_)
                · first | exact ⟨q1, q3⟩ | exact ⟨q1', q3'⟩
                iterate 16 (first | (refine np_sn ?_; (try simp only [nSO])) | ((first | refine np_n ?_ ?_ ?_ | refine np_t 0 ?_ ?_ ?_); rotate_left 1; (· (intro w hSw; (try dsimp only at hSw); go_simp; all_goals with_reducible rfl)); (try simp only [nSO])))
                refine wpAnyH_done (by kernel_rfl) ?_ _
                refine NoPanic.normal ?_
                have j1 : IntKind.i64.wrap (c2.thread + b) = c2.thread + b := IntWalk.i64_in _ (by omega)
                have j2 := ren_mod (b := b) ht0 ht1
                have j3 : IntKind.i64.wrap (rnC b N c2.thread) = rnC b N c2.thread := IntWalk.i64_in _ (by have := (rnC_in (b := b) (t := c2.thread) (C := N) (by omega)).2 ⟨ht0, ht1⟩; omega)
                go_wp2_with fail
                have hK3 := hK2.on (Below.refl _ _).drew
                generalize wr.drew = wd at *
                have hk4 := (hK3.on (Below.refl _ _).drew).cell (renK_at hc2)
                have hst := hK3.on (Below.refl _ _).drew |>.set (renK_at (b := b) (C := C.clients.toNat) hc2) (rnC b N c2.thread)
                go_still_tail 12, (by kernel_rfl)
                obtain ⟨w9, hw9⟩ : ∃ w9, w9 = wd.drew := ⟨_, rfl⟩
                change wpList _ _ _ _ _ wd.drew
                rw [← hw9] at hst hk4 ⊢
                obtain ⟨k4, k5⟩ := hk4
                clear hw9
                go_wp2_with fail
                go_roundw
                case rel => exact ⟨k + 1, by go_num, by omega, by rw [renK_succ hc2]; have e : renC b C.clients.toNat c2 = { c2 with thread := rnC b N c2.thread } := (by rw [hN]; rfl); rw [e]; exact hst⟩
                case measure => simp [intOf]; omega
              · have e0 : decide (0 ≤ c2.thread) = true := by simpa using ht0
                have e1 : decide (c2.thread < N) = false := by simpa using ht1
                have hid := renK_id (b := b) (C := C.clients.toNat) hc2 (by unfold renC rnC; rw [if_neg (by rw [hN]; simp; omega)])
                go_wp2_with fail
                refine wp_region_noPanic ?_
                refine wp_region_held_drew (S := fun W => W.cell? ⟨g, k * 27, none⟩ = some (.int .i64 c2.thread) ∧ W.cell? ⟨w.heap.size, 2, none⟩ = some (.int .i64 N)) (by kernel_rfl) ?_ (fun hHeld => ?_)
                · first | exact ⟨q1, q3⟩ | exact ⟨q1', q3'⟩
                iterate 16 (first | (refine np_sn ?_; (try simp only [nSO])) | ((first | refine np_n ?_ ?_ ?_ | refine np_t 0 ?_ ?_ ?_); rotate_left 1; (· (intro w hSw; (try dsimp only at hSw); go_simp; all_goals with_reducible rfl)); (try simp only [nSO])))
                refine wpAnyH_done (by kernel_rfl) ?_ _
                refine NoPanic.normal ?_
                go_wp2_with fail
                go_roundw
                case rel => exact ⟨k + 1, by go_num, by omega, by rw [hid]; exact hK2.on (Below.refl _ _).drew⟩
                case measure => simp [intOf]; omega
            · have e0 : decide (0 ≤ c2.thread) = false := by simpa using ht0
              have hid := renK_id (b := b) (C := C.clients.toNat) hc2 (by unfold renC rnC; rw [if_neg (by rw [hN]; simp; omega)])
              go_wp2_with fail
              refine wp_region_noPanic ?_
              refine wp_region_held_drew (S := fun W => W.cell? ⟨g, k * 27, none⟩ = some (.int .i64 c2.thread) ∧ W.cell? ⟨w.heap.size, 2, none⟩ = some (.int .i64 N)) (by kernel_rfl) ?_ (fun hHeld => ?_)
              · first | exact ⟨q1, q3⟩ | exact ⟨q1', q3'⟩
              iterate 16 (first | (refine np_sn ?_; (try simp only [nSO])) | ((first | refine np_n ?_ ?_ ?_ | refine np_t 0 ?_ ?_ ?_); rotate_left 1; (· (intro w hSw; (try dsimp only at hSw); go_simp; all_goals with_reducible rfl)); (try simp only [nSO])))
              refine wpAnyH_done (by kernel_rfl) ?_ _
              refine NoPanic.normal ?_
              go_wp2_with fail
              go_roundw
              case rel => exact ⟨k + 1, by go_num, by omega, by rw [hid]; exact hK2.on (Below.refl _ _).drew⟩
              case measure => simp [intOf]; omega
          · have hke : k = ks.length := by omega
            subst hke
            rw [renK_all] at hK2
            have hzo : ∀ x ∈ ks.map (renC b C.clients.toNat), x.Ok := fun x hx => by obtain ⟨y, hy, rfl⟩ := List.mem_map.1 hx; exact okc_ren (hoks y hy)
            have hzp : ∀ x ∈ ks.map (renC b C.clients.toNat), x.ps.length ≤ 1000000 := fun x hx => by obtain ⟨y, hy, rfl⟩ := List.mem_map.1 hx; exact hps y hy
            have hCf := hK2.crow
            have hre := find_ren (b := b) (c := C) (by omega) (by omega) ks
            rw [hfe] at hre
            have hl9 := hL.on hK2.bl
            have hF1 := hl9.find
            have hld := hl9.ld
            have hln : (ks.map (renC b C.clients.toNat)).length = ks.length := List.length_map ..
            generalize ks.map (renC b C.clients.toNat) = zs at *
            clear hL hb4 hown hC2 hcl hcl2 hfe m1 m2 m3 m4 i1 i2 i3 hne hN0 d1 d2 hc1 hc8
            have hal := find_len C hs
            have hF2 := fun W (hb : Below wr.heap.size wr W) => find_any C (some ⟨g, 0, none⟩) cap2 zs W (hCf.on hb) (by omega) hzo hzp
            unfold FindPost at hF2
            rw [cfg_v, hre, hln] at hF2
            generalize (findP C hs).1 = a at *
            generalize (findP C hs).2.1 = fd at *
            generalize (findP C hs).2.2 = er at *
            go_wp2_with fail
            refine hF1.mono ?_
            rintro e w5 ⟨aa, qa, rfl, hOa, hIa, hb⟩
            have hl5 := hl9.on hb
            have hld := hl5.ld
            have hF3 := hF2 _ hb
            clear hF1 hF2 hl9
            go_wp2_with fail
            refine hF3.mono ?_
            rintro e w6 ⟨v6, he, hO6, hb6⟩
            obtain ⟨a6, q6, rfl⟩ := own_slice hO6
            subst he
            have hl6 := hl5.on hb6
            have hE := eqiT (.slice aa a.length qa) (.slice a6 a.length q6) (a.map fun (x : Nat) => (x : Int)) (W := w6) ((irow_own hOa rfl).on hb6) (irow_own hO6 rfl) (by rw [List.length_map]; have := hl6.row.len; omega)
            clear hl5 hF3
            go_wp2_with fail
            refine hE.mono ?_
            rintro e w7 ⟨rfl, hb7⟩
            have hl7 := hl6.on hb7
            cases fd <;> (
              go_wp2_with fail
              refine hl7.awake.mono ?_
              rintro e w8 ⟨rfl, hb⟩
              go_wp2_with fail
              go_returns
              exact ⟨rfl, hb⟩)
end Go.Proofs.YtdeiocppghhfdaaGreat.Lin
namespace Go.Proofs.YtdeiocppghhfdaaGreat.linearRenames
set_option linter.unusedVariables false
set_option linter.unusedSimpArgs false
open Go.ChangeShapes Go.WideShapes Go.ChangeAt Go.RowKit
open Go.ChangeMaps (open_string shut_string)
open Lin Hs
set_option linter.unusedVariables false

set_option maxRecDepth 100000 in
theorem lifted (os : Os) (started : os.Started) (H : Type) (enc : TypeId × Value → H) :
    ReturnsInHanded {} Tryz.checked os 7 .any (Rows.linearRenamesSpec.pre6 enc Tryz.prog Tryz.f7 Rows.linearRenamesRow.domain false) (Rows.linearRenamesSpec.post enc Tryz.prog Tryz.f7 false true false false) := by
  refine returnsInHanded_of_change_sized (C := Tryz.checked) own started (by kernel_rfl) Tryz.func7
    (ChangeSpec.witness6 (enc := enc) (C := Tryz.checked) false ⟨#[], #[.agg #[.int .i64 0, .int .u64 0, .int .i64 0, .int .i64 0, .int .i64 0, .int .i64 0, .int .i64 0, .string ⟨#[]⟩], .slice none 0 0, .int .i64 0], []⟩ 8 (by kernel_rfl) (by kernel_rfl) (by kernel_rfl) (by kernel_rfl)) ?_
  intro W base args ds gs before hval0 hW hcnd hsz0 _
  have hval : ∀ (j : Nat) t v, Tryz.f7.params[j]? = some t → args[j]? = some v → Value.okWide Tryz.prog W .any base t v := hval0
  have hW' := hW
  obtain ⟨p, q, hA0, hV, rfl, hfz, hnd⟩ := hW
  have hA : DataW.TrodAll enc Tryz.prog W 0 (fun _ => true) true Tryz.f7.params.toList args.toList ds p := hA0
  rw [Tryz.params7] at hA hval
  obtain ⟨v0, vs0, d0, ds0, p0, q0, hargs, rfl, rfl, h0, r0⟩ := trodAll_cons hA
  obtain ⟨v1, vs1, d1, ds1, p1, q1, rfl, rfl, rfl, h1, r1⟩ := trodAll_cons r0
  obtain ⟨v2, vs2, d2, ds2, p2, q2, rfl, rfl, rfl, h2, r2⟩ := trodAll_cons r1
  obtain ⟨rfl, rfl, rfl⟩ := trodAll_nil r2
  obtain rfl : args = #[v0, v1, v2] := by cases args; simp_all
  obtain ⟨rfl, rfl⟩ := trodVars_none hV
  obtain ⟨c0, rfl⟩ := open_cfg (hval 0 24 v0 rfl rfl) h0
  obtain ⟨q1, c1, l1, rfl, w1⟩ := open_calls (hval 1 25 v1 rfl rfl) h1
  obtain ⟨a2, rfl, rfl, rfl, w2⟩ := open_int Tryz.underlying3 (hval 2 3 v2 rfl rfl) h2
  clear hA0 hval0
  (try simp only [List.append_nil, List.nil_append] at hW')
  refine (walkLinearRenames c0 q1 c1 l1 a2 W w1 (wf64 w2)).mono fun e W' ⟨he, hg⟩ => ?_
  subst he
  have hlt0 : ∀ x ∈ p0, x.block < W.heap.size := fun x hx => hW'.lt x (by simp [hx])
  have hlt1 : ∀ x ∈ p1, x.block < W.heap.size := fun x hx => hW'.lt x (by simp [hx])
  exact ⟨_, rfl, post_of_below (pa := (p0 ++ (p1 ++ ([] ++ [])))) (pv := []) hW' (fun _ _ _ => (trodAll_cons_mk (shut_bool Tryz.underlying4 _) trodAll_mk0)) (fun sp hsp => (trodAll_cons_mk (WideElems.Trod_stays (by kernel_rfl) (by kernel_rfl) (of_decide_eq_true (by kernel_rfl)) h0 (fun x hx => hg.same (hlt0 x hx)) (fun x hx => hsp x (by simp [hx]))) (trodAll_cons_mk (WideElems.Trod_stays (by kernel_rfl) (by kernel_rfl) (of_decide_eq_true (by kernel_rfl)) h1 (fun x hx => hg.same (hlt1 x hx)) (fun x hx => hsp x (by simp [hx]))) (trodAll_cons_mk (shut_int Tryz.underlying3 w2) trodAll_mk0)))) (fun _ _ => rfl) (by simp)
    hg (ok_one (by kernel_rfl) rfl (okWide_bool_mk Tryz.underlying4 _))⟩

set_option maxHeartbeats 8000000 in
theorem facts : joinedFacts Tryz.prog 7 Tryz.f7 Rows.linearRenamesSpec Rows.linearRenamesRow = true := by
  unfold joinedFacts
  simp only [Bool.and_eq_true]
  repeat' apply And.intro
  all_goals (as_aux_lemma => kernel_rfl)
theorem proved : Rows.LinearRenamesSaid :=
  OpenClaim.holds_of_wide 7 Tryz.f7 rfl rfl rfl rfl rfl rfl rfl ⟨rfl, rfl, rfl, rfl, rfl⟩ rfl rfl rfl rfl rfl (by kernel_rfl) Tryz.func7 facts
    (of_decide_eq_true (by kernel_rfl)) (by unfold Func.isWrapper; first | (rw [if_pos (by decide +kernel)]; kernel_rfl) | (rw [if_neg (by decide +kernel)]; exact ⟨rfl, rfl⟩))
    (fun os started H enc _ => lifted os started H enc)
#print axioms proved
end Go.Proofs.YtdeiocppghhfdaaGreat.linearRenames
