/- HistoryPrefixes: the plain law. -/
import Derived.Test.YtjinnlmmlbmodaaHisTh
namespace Go.Proofs.Ytjinnlmmlbmodaa
open Go.RowKit Go.Lib Go.Shelf

/-! ### what the laws say is said of the calls without the places of their deltas -/
theorem thIdx_pure {t : Int} : ∀ (cs : List CallV) (k : Nat), thIdx t (cs.map CallV.pure) k = thIdx t cs k
  | [], _ => rfl
  | c :: cs, k => by
    show (if c.thread = t then k :: thIdx t (cs.map CallV.pure) (k + 1) else thIdx t (cs.map CallV.pure) (k + 1)) = _
    rw [thIdx_pure cs (k + 1)]
    rfl
theorem thF_pure (t : Int) (cs : List CallV) : thF t (cs.map CallV.pure) = (thF t cs).map CallV.pure := by
  unfold thF
  rw [List.filter_map]
  rfl
theorem accB_eq (pre : List CallV) (c : CallV) : accB pre c = (formedB c && (match pre.getLast? with | some p => decide (p.invoked < c.invoked) | none => true) && decide (c.index = (thF c.thread pre).length) &&
    (match (thF c.thread pre).getLast? with | some d => befB d c | none => true) && pre.all fun d => !clashB c d) := by
  unfold accB
  rw [last_thF, th_len]
  rfl
theorem acc_pure (pre : List CallV) (c : CallV) : accB (pre.map CallV.pure) c.pure = accB pre c := by
  rw [accB_eq, accB_eq, thF_pure, List.length_map, List.getLast?_map, List.getLast?_map, List.all_map]
  show (formedB c && _ && decide (c.index = ((thF c.thread pre).length : Int)) && _ && _) = _
  congr 1
  congr 1
  · congr 1
    congr 1
    cases pre.getLast? <;> rfl
  · show (match Option.map CallV.pure (thF c.thread pre).getLast? with | some d => befB d c.pure | none => true) = _
    cases (thF c.thread pre).getLast? <;> rfl
theorem check_pure (cs : List CallV) : checkP (cs.map CallV.pure) = checkP cs := by
  unfold checkP
  rw [List.length_map]
  have e : (fun i => !okAt (cs.map CallV.pure) i) = fun i => !okAt cs i := by
    funext i
    unfold okAt
    rw [List.getElem?_map, ← List.map_take]
    cases cs[i]? with
    | none => rfl
    | some c => simp only [Option.map_some]; rw [acc_pure]
  rw [e]
theorem check_of_pure {a b : List CallV} (h : a.map CallV.pure = b.map CallV.pure) : checkP a = checkP b := by rw [← check_pure a, h, check_pure b]
theorem places_pure {q : CallV → Bool} (hq : ∀ c, q c.pure = q c) : ∀ (cs : List CallV) (k : Nat), places q (cs.map CallV.pure) k = places q cs k
  | [], _ => rfl
  | c :: cs, k => by
    show (if q c.pure then k :: places q (cs.map CallV.pure) (k + 1) else places q (cs.map CallV.pure) (k + 1)) = _
    rw [places_pure hq cs (k + 1), hq]
    rfl
theorem tk_pure (cs : List CallV) (i : Nat) : tk (cs.map CallV.pure) i = tk cs i ∧ rk (cs.map CallV.pure) i = rk cs i := by
  unfold tk rk
  rw [List.getElem?_map]
  cases cs[i]? <;> exact ⟨rfl, rfl⟩
theorem eff_pure {cs : List CallV} {L : List Nat} : EffIs (cs.map CallV.pure) L ↔ EffIs cs L := by
  unfold EffIs
  rw [places_pure (fun _ => rfl)]
  have e : (fun i j => lexB (cs.map CallV.pure) i j = true) = fun i j => lexB cs i j = true := by
    funext i j
    unfold lexB
    rw [(tk_pure cs i).1, (tk_pure cs i).2, (tk_pure cs j).1, (tk_pure cs j).2]
  rw [e]
theorem eff_of_pure {a b : List CallV} {L : List Nat} (h : a.map CallV.pure = b.map CallV.pure) (hL : EffIs a L) : EffIs b L := by
  rw [← eff_pure] at hL ⊢
  rw [← h]
  exact hL

/-! ### a prefix holds the first calls -/
theorem inv_up {cs : List CallV} (h0 : (checkP cs).2 = 0) : ∀ (i j : Nat) (a b : CallV), i < j → cs[i]? = some a → cs[j]? = some b → a.invoked < b.invoked := by
  intro i j
  induction j with
  | zero => intro a b h; omega
  | succ j ih =>
    intro a b hij ha hb
    have hlt := (List.getElem?_eq_some_iff.1 hb).1
    obtain ⟨m, hm⟩ : ∃ m, cs[j]? = some m := ⟨_, List.getElem?_eq_getElem (by omega)⟩
    have h1 := (acc_parts (check_ok h0 (j + 1) b hb)).2.2 m (by rw [last_take cs (by omega) (by omega)]; simpa using hm)
    by_cases e : i = j
    · subst e
      rw [ha] at hm
      cases hm
      exact h1
    · have := ih a m (by omega) ha hm
      omega
/-- How many calls were invoked by a step. -/
def many (s : Int) (cs : List CallV) : Nat := (cs.filter fun c => decide (c.invoked ≤ s)).length
theorem filter_first {α : Type} (p : α → Bool) : ∀ (l : List α), (∀ (i j : Nat) (a b : α), i < j → l[i]? = some a → l[j]? = some b → p b = true → p a = true) → l.filter p = l.take (l.filter p).length
  | [], _ => rfl
  | x :: l, h => by
    by_cases hx : p x = true
    · rw [List.filter_cons_of_pos hx, List.length_cons, List.take_succ_cons, ← filter_first p l (fun i j a b hij ha hb => h (i + 1) (j + 1) a b (by omega) (by simpa using ha) (by simpa using hb))]
    · have hn : l.filter p = [] := by
        rw [List.filter_eq_nil_iff]
        intro b hb hpb
        obtain ⟨j, hj⟩ := List.getElem?_of_mem hb
        exact hx (h 0 (j + 1) x b (by omega) rfl (by simpa using hj) hpb)
      rw [List.filter_cons_of_neg hx, hn]
      rfl
theorem pref_take {cs : List CallV} (h0 : (checkP cs).2 = 0) (s : Int) : prefS s cs = (cs.take (many s cs)).map fun c => (cutV s c).pure := by
  unfold prefS many
  rw [← filter_first _ cs (fun i j a b hij ha hb hpb => by
    have := inv_up h0 i j a b hij ha hb
    simp only [decide_eq_true_eq] at hpb ⊢
    omega)]
theorem pref_many (s : Int) (cs : List CallV) : (prefS s cs).length = many s cs := by unfold prefS many; rw [List.length_map]
theorem many_le (s : Int) (cs : List CallV) : many s cs ≤ cs.length := List.length_filter_le _ _
theorem pref_at {cs : List CallV} (h0 : (checkP cs).2 = 0) {s : Int} {i : Nat} (hi : i < many s cs) : ∃ c, cs[i]? = some c ∧ c.invoked ≤ s ∧ (prefS s cs)[i]? = some (cutV s c).pure := by
  have hm := many_le s cs
  refine ⟨cs[i], List.getElem?_eq_getElem (by omega), ?_, ?_⟩
  · have hin : cs[i] ∈ cs.filter fun c => decide (c.invoked ≤ s) := by
      rw [filter_first (fun c => decide (c.invoked ≤ s)) cs (fun i j a b hij ha hb hpb => by
        have := inv_up h0 i j a b hij ha hb
        simp only [decide_eq_true_eq] at hpb ⊢
        omega)]
      rw [List.mem_take_iff_getElem]
      exact ⟨i, by unfold many at hi hm; omega, rfl⟩
    simpa using (List.mem_filter.1 hin).2
  · rw [pref_take h0, List.getElem?_map, List.getElem?_take_of_lt hi, List.getElem?_eq_getElem (by omega)]
    rfl

/-! ### a cut call -/
theorem cut_inv (s : Int) (c : CallV) : (cutV s c).invoked = c.invoked ∧ (cutV s c).thread = c.thread ∧ (cutV s c).index = c.index := by
  unfold cutV; split <;> split <;> exact ⟨rfl, rfl, rfl⟩
theorem cut_ans (s : Int) (c : CallV) : (cutV s c).answered = if s < c.answered then -1 else c.answered := by
  unfold cutV; split <;> split <;> rfl
theorem cut_took (s : Int) (c : CallV) : (cutV s c).took = if s < c.took then -1 else c.took := by
  unfold cutV; split <;> split <;> rfl
theorem cut_rank (s : Int) (c : CallV) : (cutV s c).rank = if s < c.took then 0 else c.rank := by
  unfold cutV; split <;> split <;> rfl
theorem cut_steps (s : Int) (c : CallV) : (cutV s c).steps = if s < c.answered then 0 else c.steps := by
  unfold cutV; split <;> split <;> rfl
theorem cutT_plain (c : CallV) : plainB (cutT c) = true := by simp [plainB, cutT, clrV]
theorem cut_plain (s : Int) (c : CallV) : plainB (cutV s c) = if s < c.took then true else plainB c := by
  unfold cutV; split <;> split <;> first | exact cutT_plain _ | rfl
theorem cut_formed {s : Int} {c : CallV} (h : formedB c = true) (hs : -1 ≤ s) (hi : c.invoked ≤ s) : formedB (cutV s c) = true := by
  unfold formedB at h ⊢
  rw [(cut_inv s c).1, (cut_inv s c).2.1, (cut_inv s c).2.2, cut_ans, cut_took, cut_rank, cut_steps, cut_plain]
  simp only [decide_eq_true_eq] at h ⊢
  obtain ⟨h1, h2, h3, h4, h5, h6, h7, h8, h9, h10⟩ := h
  by_cases ha : s < c.answered <;> by_cases ht : s < c.took <;> simp only [ha, ht, if_true, if_false] <;> refine ⟨h1, h2, h3, h4, by omega, by omega, by omega, by omega, ?_, ?_⟩
  · exact .inr ⟨by omega, trivial, trivial⟩
  · left; exact ⟨by omega, trivial⟩
  · exact h9
  · left; exact ⟨by omega, trivial⟩
  · exact .inr ⟨by omega, trivial, trivial⟩
  · rcases h10 with h | h
    · exact .inl h
    · omega
  · exact h9
  · exact h10
theorem cut_bef {s : Int} {c d : CallV} (hd : d.invoked ≤ s) : befB (cutV s c) (cutV s d) = befB c d := by
  unfold befB
  rw [(cut_inv s d).1, cut_ans, Bool.eq_iff_iff]
  simp only [Bool.and_eq_true, decide_eq_true_eq]
  split <;> omega
theorem cut_clash {s : Int} {c d : CallV} (h : clashB c d = false) : clashB (cutV s c) (cutV s d) = false := by
  unfold clashB at h ⊢
  rw [(cut_inv s c).1, (cut_inv s d).1, (cut_inv s c).2.1, (cut_inv s d).2.1, cut_ans, cut_ans, cut_took, cut_took, cut_rank, cut_rank]
  simp only [decide_eq_false_iff_not] at h ⊢
  have e1 : (if s < c.answered then (-1 : Int) else c.answered) = c.answered ∨ (if s < c.answered then (-1 : Int) else c.answered) = -1 := by split <;> simp
  have e2 : (if s < d.answered then (-1 : Int) else d.answered) = d.answered ∨ (if s < d.answered then (-1 : Int) else d.answered) = -1 := by split <;> simp
  have e3 : ((if s < c.took then (-1 : Int) else c.took) = c.took ∧ (if s < c.took then (0 : Int) else c.rank) = c.rank) ∨ (if s < c.took then (-1 : Int) else c.took) = -1 := by split <;> simp
  have e4 : ((if s < d.took then (-1 : Int) else d.took) = d.took ∧ (if s < d.took then (0 : Int) else d.rank) = d.rank) ∨ (if s < d.took then (-1 : Int) else d.took) = -1 := by split <;> simp
  generalize (if s < c.answered then (-1 : Int) else c.answered) = ca at *
  generalize (if s < d.answered then (-1 : Int) else d.answered) = da at *
  generalize (if s < c.took then (-1 : Int) else c.took) = ct at *
  generalize (if s < d.took then (-1 : Int) else d.took) = dt at *
  generalize (if s < c.took then (0 : Int) else c.rank) = cr at *
  generalize (if s < d.took then (0 : Int) else d.rank) = dr at *
  intro hx
  apply h
  clear h
  rcases hx with ⟨h1, h2 | h2⟩ | ⟨h1, h2 | h2⟩ | ⟨h1, h2, h3⟩ | ⟨h0, ⟨h1, h2 | h2⟩ | ⟨h1, h2 | h2⟩⟩
  · exact .inl ⟨h1, .inl h2⟩
  · exact .inl ⟨h1, .inr (by omega)⟩
  · exact .inr (.inl ⟨by omega, .inl (by omega)⟩)
  · exact .inr (.inl ⟨by omega, .inr (by omega)⟩)
  · exact .inr (.inr (.inl ⟨by omega, by omega, by omega⟩))
  · exact .inr (.inr (.inr ⟨h0, .inl ⟨by omega, .inl (by omega)⟩⟩))
  · exact .inr (.inr (.inr ⟨h0, .inl ⟨by omega, .inr (by omega)⟩⟩))
  · exact .inr (.inr (.inr ⟨h0, .inr ⟨by omega, .inl (by omega)⟩⟩))
  · exact .inr (.inr (.inr ⟨h0, .inr ⟨by omega, .inr (by omega)⟩⟩))
theorem thF_cut (s : Int) (t : Int) (cs : List CallV) : thF t (cs.map fun c => (cutV s c).pure) = (thF t cs).map fun c => (cutV s c).pure := by
  unfold thF
  rw [List.filter_map]
  congr 1
  refine List.filter_congr fun c _ => ?_
  show decide ((cutV s c).thread = t) = _
  rw [(cut_inv s c).2.1]
/-- **A prefix of a well-formed history is well formed.** -/
theorem check_pref {cs : List CallV} (h0 : (checkP cs).2 = 0) {s : Int} (hs : -1 ≤ s) : checkP (prefS s cs) = (0, 0) := by
  refine check_good fun i hi => ?_
  rw [pref_many] at hi
  obtain ⟨c, hc, hcs, hp⟩ := pref_at h0 hi
  have hm := many_le s cs
  have hle : ∀ d ∈ cs.take i, d.invoked ≤ s := fun d hd => by
    obtain ⟨j, hj⟩ := List.getElem?_of_mem hd
    have hjl := (List.getElem?_eq_some_iff.1 hj).1
    rw [List.length_take] at hjl
    rw [List.getElem?_take_of_lt (by omega)] at hj
    have := inv_up h0 j i d c (by omega) hj hc
    omega
  rw [ok_at hp]
  have e : (prefS s cs).take i = (cs.take i).map fun c => (cutV s c).pure := by
    rw [pref_take h0, ← List.map_take, List.take_take, Nat.min_eq_left (by omega)]
  have hacc := check_ok h0 i c hc
  rw [accB_eq] at hacc
  simp only [Bool.and_eq_true, decide_eq_true_eq] at hacc
  obtain ⟨⟨⟨⟨a1, a2⟩, a3⟩, a4⟩, a5⟩ := hacc
  rw [e, accB_eq]
  have hth : (cutV s c).pure.thread = c.thread := (cut_inv s c).2.1
  rw [hth, thF_cut, List.length_map, List.getLast?_map, List.getLast?_map]
  simp only [Bool.and_eq_true, decide_eq_true_eq]
  refine ⟨⟨⟨⟨cut_formed a1 hs hcs, ?_⟩, ?_⟩, ?_⟩, ?_⟩
  · cases hg : (cs.take i).getLast? with
    | none => rfl
    | some p =>
      rw [hg] at a2
      simp only [Option.map_some, decide_eq_true_eq] at a2 ⊢
      show (cutV s p).invoked < (cutV s c).invoked
      rw [(cut_inv s p).1, (cut_inv s c).1]
      exact a2
  · show (cutV s c).index = _
    rw [(cut_inv s c).2.2]
    exact a3
  · cases hg : (thF c.thread (cs.take i)).getLast? with
    | none => rfl
    | some p =>
      rw [hg] at a4
      simp only [Option.map_some] at a4 ⊢
      show befB (cutV s p) (cutV s c) = true
      rw [cut_bef hcs]
      exact a4
  · rw [List.all_map, List.all_eq_true]
    intro d hd
    rw [List.all_eq_true] at a5
    have h1 := a5 d hd
    simp only [Bool.not_eq_true'] at h1
    show (!clashB (cutV s c) (cutV s d)) = true
    rw [cut_clash h1]
    rfl
theorem cut_cut {s o : Int} (ho : -1 ≤ o) (c : CallV) : cutV o (cutV s c) = cutV (min s o) c := by
  have h1 : ∀ x : Int, (min s o < x) = (s < x ∨ o < x) := fun x => by apply propext; omega
  have e : cutV o (cutV s c) = if o < (cutV s c).took then cutT (if o < (cutV s c).answered then cutA (cutV s c) else cutV s c) else (if o < (cutV s c).answered then cutA (cutV s c) else cutV s c) := rfl
  rw [e, cut_took, cut_ans]
  unfold cutV
  simp only [h1]
  by_cases ha : s < c.answered <;> by_cases ht : s < c.took <;> by_cases ha2 : o < c.answered <;> by_cases ht2 : o < c.took <;>
    have n1 : ¬ o < (-1 : Int) := by omega
  all_goals simp only [ha, ht, ha2, ht2, n1, if_true, if_false, true_or, or_true, or_self, false_or, or_false]
  all_goals rfl
/-- A prefix of a prefix. -/
theorem pref_pref (s o : Int) (ho : -1 ≤ o) (cs : List CallV) : prefS o (prefS s cs) = prefS (min s o) cs := by
  unfold prefS
  rw [List.filter_map, List.filter_filter, List.map_map]
  have e1 : (cs.filter fun c => decide (c.invoked ≤ min s o)) = cs.filter fun a => ((fun c => decide (c.invoked ≤ o)) ∘ fun c => (cutV s c).pure) a && decide (a.invoked ≤ s) := by
    refine List.filter_congr fun c _ => ?_
    show _ = (decide ((cutV s c).invoked ≤ o) && decide (c.invoked ≤ s))
    rw [(cut_inv s c).1, Bool.eq_iff_iff]
    simp only [Bool.and_eq_true, decide_eq_true_eq]
    omega
  rw [e1]
  refine List.map_congr_left fun c _ => ?_
  show (cutV o (cutV s c).pure).pure = (cutV (min s o) c).pure
  rw [← cut_cut ho c]
  exact cut_pure (c := cutV s c) (c' := (cutV s c).pure) rfl
/-- The precedence of the calls of a prefix is that of the whole. -/
theorem pref_bef {cs : List CallV} (h0 : (checkP cs).2 = 0) {s : Int} {i j : Nat} {a b a' b' : CallV} (ha : (prefS s cs)[i]? = some a') (hb : (prefS s cs)[j]? = some b') (ha2 : cs[i]? = some a) (hb2 : cs[j]? = some b) : befB a' b' = befB a b := by
  have hi := (List.getElem?_eq_some_iff.1 ha).1
  have hj := (List.getElem?_eq_some_iff.1 hb).1
  rw [pref_many] at hi hj
  obtain ⟨c, h1, h2, h3⟩ := pref_at h0 hi
  obtain ⟨d, h4, h5, h6⟩ := pref_at h0 hj
  rw [ha] at h3
  rw [hb] at h6
  rw [ha2] at h1
  rw [hb2] at h4
  cases h1; cases h4; cases h3; cases h6
  exact cut_bef h5
/-- The effects of a prefix are the first ones of the whole. -/
theorem pref_eff {cs : List CallV} (h0 : (checkP cs).2 = 0) {s : Int} (hs : -1 ≤ s) {X Y : List Nat} (hX : EffIs (prefS s cs) X) (hY : EffIs cs Y) : X.length ≤ Y.length ∧ X = Y.take X.length := by
  have hpl := pref_many s cs
  have hml := many_le s cs
  -- what a call's effect in the prefix is
  have key : ∀ i, i ∈ X ↔ i ∈ Y ∧ tk cs i ≤ s := fun i => by
    rw [eff_mem hX, eff_mem hY]
    constructor
    · rintro ⟨c, hc, hq⟩
      have hi : i < many s cs := by rw [← hpl]; exact (List.getElem?_eq_some_iff.1 hc).1
      obtain ⟨d, h1, h2, h3⟩ := pref_at h0 hi
      rw [hc] at h3
      cases h3
      have hq2 : 0 ≤ (cutV s d).took := of_decide_eq_true hq
      rw [cut_took] at hq2
      rw [(tk_at h1).1]
      split at hq2
      · omega
      · exact ⟨⟨d, h1, by simpa [tookQ] using hq2⟩, by omega⟩
    · rintro ⟨⟨c, hc, hq⟩, ht⟩
      rw [(tk_at hc).1] at ht
      have hq2 : 0 ≤ c.took := by simpa [tookQ] using hq
      have hinv := formed_took (good_formed h0 hc) hq2
      have hi : i < many s cs := by
        rcases Nat.lt_or_ge i (many s cs) with h | h
        · exact h
        · exfalso
          have hci : c ∈ cs.filter fun c => decide (c.invoked ≤ s) := List.mem_filter.2 ⟨List.mem_of_getElem? hc, by simp; omega⟩
          rw [filter_first (fun c => decide (c.invoked ≤ s)) cs (fun i j a b hij ha hb hpb => by
            have := inv_up h0 i j a b hij ha hb
            simp only [decide_eq_true_eq] at hpb ⊢
            omega)] at hci
          obtain ⟨j, hj, he⟩ := List.mem_take_iff_getElem.1 hci
          have hj2 : j < many s cs := by unfold many; omega
          have := inv_up h0 j i c c (by omega) (by rw [List.getElem?_eq_getElem (by omega), he]) hc
          omega
      obtain ⟨d, h1, h2, h3⟩ := pref_at h0 hi
      rw [hc] at h1
      cases h1
      refine ⟨_, h3, ?_⟩
      have : (cutV s c).took = c.took := by rw [cut_took, if_neg (by omega)]
      simp [tookQ, CallV.pure, this, hq2]
  have val : ∀ i, i ∈ X → tk (prefS s cs) i = tk cs i ∧ rk (prefS s cs) i = rk cs i := fun i hi => by
    obtain ⟨c, hc, hq⟩ := (eff_mem hX).1 hi
    have hi2 : i < many s cs := by rw [← hpl]; exact (List.getElem?_eq_some_iff.1 hc).1
    obtain ⟨d, h1, h2, h3⟩ := pref_at h0 hi2
    rw [hc] at h3
    cases h3
    have hle := ((key i).1 hi).2
    rw [(tk_at h1).1] at hle
    rw [(tk_at hc).1, (tk_at hc).2, (tk_at h1).1, (tk_at h1).2]
    refine ⟨?_, ?_⟩
    · show (cutV s d).took = d.took
      rw [cut_took, if_neg (by omega)]
    · show (cutV s d).rank = d.rank
      rw [cut_rank, if_neg (by omega)]
  -- both are sorted alike
  have hf : Y.filter (fun i => decide (tk cs i ≤ s)) = Y.take (Y.filter (fun i => decide (tk cs i ≤ s))).length := by
    refine filter_first _ Y fun i j a b hij ha hb hpb => ?_
    obtain ⟨a1, rfl⟩ := List.getElem?_eq_some_iff.1 ha
    obtain ⟨a2, rfl⟩ := List.getElem?_eq_some_iff.1 hb
    have := List.pairwise_iff_getElem.1 hY.2 i j a1 a2 hij
    unfold lexB at this
    simp only [decide_eq_true_eq] at this hpb ⊢
    omega
  have hXn := eff_nodup hX
  have hYn := eff_nodup hY
  have hperm : X.Perm (Y.filter fun i => decide (tk cs i ≤ s)) := by
    rw [List.perm_ext_iff_of_nodup hXn (List.Pairwise.filter _ hYn)]
    intro i
    rw [List.mem_filter, key]
    simp
  have heq : X = Y.filter fun i => decide (tk cs i ≤ s) := by
    refine List.Perm.eq_of_pairwise (le := fun i j => lexB cs i j = true) (fun a b _ _ h1 h2 => ?_) ?_ (List.Pairwise.filter _ hY.2) hperm
    · unfold lexB at h1 h2
      simp at h1 h2
      omega
    · refine List.Pairwise.imp_of_mem ?_ hX.2
      intro i j hi hj h
      unfold lexB at h ⊢
      rw [(val i hi).1, (val i hi).2, (val j hj).1, (val j hj).2] at h
      exact h
  have hl := congrArg List.length heq
  exact ⟨by rw [hl]; exact List.length_filter_le _ _, by rw [hl, ← hf]; exact heq⟩
end Go.Proofs.Ytjinnlmmlbmodaa
