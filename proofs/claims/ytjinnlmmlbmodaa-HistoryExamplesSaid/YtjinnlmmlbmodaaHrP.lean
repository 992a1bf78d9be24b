/- The reference of history: the plain law of Effects. -/
import Derived.Test.YtjinnlmmlbmodaaHisPp
namespace Go.Proofs.Ytjinnlmmlbmodaa
open Go.RowKit Go.Lib Go.Shelf

/-- Two orders of the effects of one history are one. -/
theorem eff_unique {cs : List CallV} {X Y : List Nat} (hX : EffIs cs X) (hY : EffIs cs Y) : X = Y := by
  refine List.Perm.eq_of_pairwise (le := fun i j => lexB cs i j = true) (fun a b _ _ h1 h2 => ?_) hX.2 hY.2 (hX.1.trans hY.1.symm)
  unfold lexB at h1 h2
  simp at h1 h2
  omega
/-- The effects of the first calls. -/
def EffTo (cs : List CallV) (j : Nat) (L : List Nat) : Prop := L.Perm (places tookQ (cs.take j) 0) ∧ L.Pairwise fun i j => lexB cs i j = true
theorem effTo_zero (cs : List CallV) : EffTo cs 0 [] := ⟨List.Perm.refl _, List.Pairwise.nil⟩
theorem effTo_all {cs : List CallV} {L : List Nat} (h : EffTo cs cs.length L) : EffIs cs L := by
  unfold EffTo at h
  rw [List.take_length] at h
  exact h
theorem effTo_skip {cs : List CallV} {j : Nat} {L : List Nat} {c : CallV} (h : EffTo cs j L) (hc : cs[j]? = some c) (hq : tookQ c = false) : EffTo cs (j + 1) L := by
  refine ⟨?_, h.2⟩
  rw [places_step hc, hq]
  simpa using h.1
theorem effTo_mem {cs : List CallV} {j : Nat} {L : List Nat} (h : EffTo cs j L) {x : Nat} (hx : x ∈ L) : x < j ∧ ∃ c, cs[x]? = some c ∧ tookQ c = true := by
  have h1 := h.1.mem_iff.1 hx
  obtain ⟨c, hc, hq⟩ := places_at h1
  have hlt := (List.getElem?_eq_some_iff.1 hc).1
  rw [List.length_take] at hlt
  rw [List.getElem?_take_of_lt (by omega)] at hc
  exact ⟨by omega, c, hc, hq⟩
theorem effTo_len {cs : List CallV} {j : Nat} {L : List Nat} (h : EffTo cs j L) : L.length ≤ j := by
  rw [h.1.length_eq]
  exact Nat.le_trans places_len (by rw [List.length_take]; omega)
theorem effTo_ins {cs : List CallV} {j : Nat} {L : List Nat} {c : CallV} (h0 : (checkP cs).2 = 0) (h : EffTo cs j L) (hc : cs[j]? = some c) (hq : tookQ c = true) {k : Nat} (hk : k ≤ L.length)
    (hup : ∀ m x, k ≤ m → L[m]? = some x → lexB cs j x = true) (hdn : ∀ x, 0 < k → L[k - 1]? = some x → lexB cs j x = false) : EffTo cs (j + 1) (L.take k ++ j :: L.drop k) := by
  have hne : ∀ x ∈ L, x ≠ j := fun x hx => by have := (effTo_mem h hx).1; omega
  have tot : ∀ x ∈ L, lexB cs j x = false → lexB cs x j = true := fun x hx hl => by
    obtain ⟨_, d, hd, hqd⟩ := effTo_mem h hx
    unfold lexB at hl ⊢
    rw [decide_eq_false_iff_not] at hl
    rw [decide_eq_true_eq]
    by_cases e1 : tk cs x = tk cs j
    · by_cases e2 : rk cs x = rk cs j
      · exfalso
        rw [(tk_at hc).1, (tk_at hd).1] at e1
        rw [(tk_at hc).2, (tk_at hd).2] at e2
        exact hne x hx (no_tie h0 hd hc (by simpa [tookQ] using hqd) e1 e2)
      · omega
    · omega
  refine ⟨?_, ?_⟩
  · rw [places_step hc, hq]
    have p1 : (L.take k ++ j :: L.drop k).Perm (j :: L) := by
      refine List.perm_middle.trans ?_
      rw [List.take_append_drop]
    refine p1.trans ?_
    refine (List.Perm.cons j h.1).trans ?_
    exact (List.perm_append_singleton j _).symm
  · have htr : ∀ a b d : Nat, lexB cs a b = true → lexB cs b d = true → lexB cs a d = true := fun a b d h1 h2 => by
      unfold lexB at h1 h2 ⊢
      simp only [decide_eq_true_eq] at h1 h2 ⊢
      omega
    have hL := h.2
    rw [← List.take_append_drop k L, List.pairwise_append] at hL
    obtain ⟨hA, hB, hAB⟩ := hL
    have lowA : ∀ a ∈ L.take k, lexB cs a j = true := fun a ha => by
      obtain ⟨m, hm⟩ := List.getElem?_of_mem ha
      have hml := (List.getElem?_eq_some_iff.1 hm).1
      rw [List.length_take] at hml
      rw [List.getElem?_take_of_lt (by omega)] at hm
      obtain ⟨y, hy⟩ : ∃ y, L[k - 1]? = some y := ⟨_, List.getElem?_eq_getElem (by omega)⟩
      have hyj := tot y (List.mem_of_getElem? hy) (hdn y (by omega) hy)
      by_cases e : m = k - 1
      · subst e
        rw [hm] at hy
        cases hy
        exact hyj
      · obtain ⟨q1, rfl⟩ := List.getElem?_eq_some_iff.1 hm
        obtain ⟨q2, rfl⟩ := List.getElem?_eq_some_iff.1 hy
        exact htr _ _ _ (List.pairwise_iff_getElem.1 h.2 m (k - 1) q1 q2 (by omega)) hyj
    have upB : ∀ b ∈ L.drop k, lexB cs j b = true := fun b hb => by
      obtain ⟨m, hm⟩ := List.getElem?_of_mem hb
      rw [List.getElem?_drop] at hm
      exact hup (k + m) b (by omega) hm
    rw [List.pairwise_append]
    refine ⟨hA, List.pairwise_cons.2 ⟨upB, hB⟩, fun a ha b hb => ?_⟩
    rcases List.mem_cons.1 hb with rfl | hb
    · exact lowA a ha
    · exact hAB a ha b hb
end Go.Proofs.Ytjinnlmmlbmodaa
