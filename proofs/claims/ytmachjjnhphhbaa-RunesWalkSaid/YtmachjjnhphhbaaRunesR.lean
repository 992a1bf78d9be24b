/- Plain: the list of the boundaries of a string. -/
import Derived.Test.YtmachjjnhphhbaaRunesQ
namespace Go.Proofs.Ytmachjjnhphhbaa

/-- The boundaries below k. -/
def bls (l : List UInt8) (k : Nat) : List Nat := (List.range k).filter fun i => bndB l (i : Int)
theorem bls_zero (l : List UInt8) : bls l 0 = [] := rfl
theorem bls_yes {l : List UInt8} {k : Nat} (h : bndB l (k : Int) = true) : bls l (k + 1) = bls l k ++ [k] := by
  unfold bls; rw [List.range_succ, List.filter_append]; simp [h]
theorem bls_no {l : List UInt8} {k : Nat} (h : bndB l (k : Int) = false) : bls l (k + 1) = bls l k := by
  unfold bls; rw [List.range_succ, List.filter_append]; simp [h]
theorem bls_skip {l : List UInt8} {a b : Nat} (h : a ≤ b) (hs : ∀ j : Nat, a ≤ j → j < b → bndB l (j : Int) = false) : bls l b = bls l a := by
  induction b with
  | zero => have : a = 0 := by omega
            rw [this]
  | succ b ih =>
    by_cases e : a = b + 1
    · rw [e]
    · rw [bls_no (hs b (by omega) (by omega)), ih (by omega) fun j h1 h2 => hs j h1 (by omega)]
theorem bls_le (l : List UInt8) (k : Nat) : (bls l k).length ≤ k := by
  have := List.length_filter_le (fun i : Nat => bndB l (i : Int)) (List.range k)
  unfold bls
  simpa using this
theorem bls_count (l : List UInt8) : ∀ k : Nat, k ≤ l.length → (bls l k).length = cntL (l.take k) := by
  intro k
  induction k with
  | zero => intro _; rfl
  | succ k ih =>
    intro hk
    have e : bndB l (k : Int) = !contB (byt l k) := by
      unfold bndB
      rw [Bool.eq_iff_iff]
      simp
      constructor
      · rintro (h | h)
        · exact h.2
        · omega
      · intro h; exact .inl ⟨by omega, h⟩
    rw [cnt_snoc l k (by omega), ← ih (by omega)]
    cases hc : contB (byt l k) with
    | true => rw [bls_no (by rw [e, hc]; rfl)]; simp
    | false => rw [bls_yes (by rw [e, hc]; rfl)]; simp
theorem bls_all (l : List UInt8) : (bls l (l.length + 1)).length = cntL l + 1 := by
  rw [bls_yes (bnd_end l), List.length_append, bls_count l _ (Nat.le_refl _), List.take_length]; rfl
/-- The boundaries below the i-th one are the first i. -/
theorem bls_get (l : List UInt8) : ∀ (k i y : Nat), (bls l k)[i]? = some y → bls l y = (bls l k).take i ∧ y < k ∧ bndB l (y : Int) = true := by
  intro k
  induction k with
  | zero => intro i y h; simp [bls_zero] at h
  | succ k ih =>
    intro i y h
    cases hb : bndB l (k : Int) with
    | false =>
      rw [bls_no hb] at h ⊢
      obtain ⟨h1, h2, h3⟩ := ih i y h
      exact ⟨h1, by omega, h3⟩
    | true =>
      rw [bls_yes hb] at h ⊢
      rcases Nat.lt_or_ge i (bls l k).length with hi | hi
      · rw [List.getElem?_append_left hi] at h
        obtain ⟨h1, h2, h3⟩ := ih i y h
        exact ⟨by rw [h1, List.take_append_of_le_length (by omega)], by omega, h3⟩
      · rw [List.getElem?_append_right hi] at h
        have hi' : i = (bls l k).length := by
          have := (List.getElem?_eq_some_iff.1 h).1
          simp at this
          omega
        subst hi'
        simp at h
        subst h
        exact ⟨by simp, by omega, hb⟩
theorem dn_nil {l : List UInt8} : ∀ {k : Nat}, bls l k = [] → dnF l k = (0, false) := by
  intro k
  induction k with
  | zero => intro _; rfl
  | succ k ih =>
    intro h
    cases hb : bndB l (k : Int) with
    | true => rw [bls_yes hb] at h; simp at h
    | false => rw [bls_no hb] at h; unfold dnF; rw [if_neg (by simp [hb])]; exact ih h
theorem dn_snoc {l : List UInt8} {ys : List Nat} {y : Nat} : ∀ {k : Nat}, bls l k = ys ++ [y] → dnF l k = ((y : Int), true) := by
  intro k
  induction k with
  | zero => intro h; simp [bls_zero] at h
  | succ k ih =>
    intro h
    cases hb : bndB l (k : Int) with
    | true =>
      rw [bls_yes hb] at h
      have := List.append_inj_right' h rfl
      unfold dnF
      rw [if_pos hb]
      simp at this
      rw [this]
    | false => rw [bls_no hb] at h; unfold dnF; rw [if_neg (by simp [hb])]; exact ih h
/-- Next, from below the m-th position on. -/
theorem next_spec (l : List UInt8) (m : Nat) (hm : m ≤ l.length + 1) : (m = l.length + 1 ∧ nextL l ((m : Int) - 1) = (0, false)) ∨ (m ≤ l.length ∧ ∃ n : Nat, nextL l ((m : Int) - 1) = ((n : Int), true) ∧ m ≤ n ∧ n ≤ l.length ∧ bndB l (n : Int) = true ∧ (∀ j : Int, (m : Int) ≤ j → j < n → bndB l j = false) ∧ bls l (n + 1) = bls l m ++ [n]) := by
  by_cases h : m = l.length + 1
  · refine .inl ⟨h, ?_⟩
    unfold nextL
    rw [show ((l.length : Int) - max ((m : Int) - 1) (-1)).toNat = 0 from by omega]
    rfl
  · refine .inr ⟨by omega, ?_⟩
    have e : nextL l ((m : Int) - 1) = upF l (l.length + 1 - m) m := by
      unfold nextL
      congr 1 <;> omega
    rw [e]
    rcases upF_spec l (l.length + 1 - m) m with ⟨h1, h2, h3, h4, h5⟩ | ⟨h1, h2, h3⟩
    · generalize hd : upF l (l.length + 1 - m) m = d at *
      obtain ⟨n, hn⟩ := Int.eq_ofNat_of_zero_le (a := d.1) (by omega)
      rw [hn] at h2 h3 h4 h5
      refine ⟨n, by rw [← hn, ← h1], by omega, by omega, h2, h5, ?_⟩
      rw [bls_yes h2, bls_skip (a := m) (by omega) fun j hj1 hj2 => h5 j (by omega) (by omega)]
    · have := h3 l.length (by omega) (by omega)
      rw [bnd_end] at this
      cases this
theorem next_end (l : List UInt8) : nextL l (l.length : Int) = (0, false) := by
  unfold nextL
  rw [show ((l.length : Int) - max (l.length : Int) (-1)).toNat = 0 from by omega]
  rfl
/-- Prev, from a place below which the boundaries are known. -/
theorem prev_of (l : List UInt8) (p : Nat) (hp : p ≤ l.length + 1) : prevL l (p : Int) = dnF l p := by
  unfold prevL
  rw [show (min (p : Int) ((l.length : Int) + 1)).toNat = p from by omega]
/-- In valid UTF-8 Decode leads from each boundary to the next one. -/
theorem walk_valid {l : List UInt8} (hv : validL l = true) {i a b : Nat} (ha : (bls l (l.length + 1))[i]? = some a) (hb : (bls l (l.length + 1))[i + 1]? = some b) : ∃ r : Int, decL (l.drop a) = (r, (b : Int) - a, 0) := by
  obtain ⟨ha1, ha2, ha3⟩ := bls_get l _ _ _ ha
  obtain ⟨hb1, hb2, hb3⟩ := bls_get l _ _ _ hb
  have hlt : i < (bls l (l.length + 1)).length := (List.getElem?_eq_some_iff.1 ha).1
  have hb4 : bls l b = bls l a ++ [a] := by
    rw [hb1, ha1, List.take_add_one, ha]; rfl
  have hab : a < b := by
    have h := congrArg List.length hb4
    have h2 := bls_le l a
    rcases Nat.lt_or_ge a b with h3 | h3
    · exact h3
    · exfalso
      have : (bls l b).length ≤ (bls l a).length := by
        have e : (bls l (l.length + 1)).take i = bls l a := ha1.symm
        rcases Nat.lt_or_ge b a with h4 | h4
        · have hmono : ∀ d, (bls l b).length ≤ (bls l (b + d)).length := by
            intro d
            induction d with
            | zero => exact Nat.le_refl _
            | succ d ih =>
              cases hx : bndB l ((b + d : Nat) : Int) with
              | true => rw [← Nat.add_assoc, bls_yes hx, List.length_append]; omega
              | false => rw [← Nat.add_assoc, bls_no hx]; exact ih
          have := hmono (a - b)
          rwa [show b + (a - b) = a from by omega] at this
        · rw [show b = a from by omega]; exact Nat.le_refl _
      rw [h, List.length_append, List.length_singleton] at this
      omega
  have hc := valid_cut _ _ (Nat.le_refl _) hv a (by omega)
  rw [ha3] at hc
  have hne : l.drop a ≠ [] := by
    intro e
    have := congrArg List.length e
    rw [List.length_drop, List.length_nil] at this
    omega
  obtain ⟨r, n, hd, hr⟩ := valid_dec hc.2 hne
  have hbk := dec_back hd
  have hcs := dec_conts hd
  rw [List.length_drop] at hbk
  refine ⟨r, ?_⟩
  rw [hd]
  have hn : (n : Int) = b - a := by
    -- a + n is a boundary, and none lies between
    have h1 : bndB l ((a + n.toNat : Nat) : Int) = true := by
      rw [List.drop_drop] at hr
      have := (valid_cut _ _ (Nat.le_refl _) hv (a + n.toNat) (by omega)).2
      rw [← this]
      exact hr
    have h2 : ∀ j : Nat, a < j → j < a + n.toNat → bndB l (j : Int) = false := by
      intro j hj1 hj2
      have := hcs.2 (j - a) (by omega) (by omega)
      rw [byt_drop, show a + (j - a) = j from by omega] at this
      unfold bndB
      simp [this]
      omega
    rcases Nat.lt_trichotomy b (a + n.toNat) with h3 | h3 | h3
    · have := h2 b hab h3
      rw [this] at hb3
      cases hb3
    · omega
    · exfalso
      have e1 : bls l (a + n.toNat + 1) = bls l (a + n.toNat) ++ [a + n.toNat] := bls_yes h1
      have e2 : bls l (a + n.toNat) = bls l a ++ [a] := by
        rw [bls_skip (a := a + 1) (by omega) fun j hj1 hj2 => h2 j (by omega) hj2, bls_yes ha3]
      have hmono : ∀ d, (bls l (a + n.toNat + 1)).length ≤ (bls l (a + n.toNat + 1 + d)).length := by
        intro d
        induction d with
        | zero => exact Nat.le_refl _
        | succ d ih =>
          cases hx : bndB l ((a + n.toNat + 1 + d : Nat) : Int) with
          | true => rw [← Nat.add_assoc, bls_yes hx, List.length_append]; omega
          | false => rw [← Nat.add_assoc, bls_no hx]; exact ih
      have := hmono (b - (a + n.toNat + 1))
      rw [show a + n.toNat + 1 + (b - (a + n.toNat + 1)) = b from by omega, e1, e2, hb4] at this
      simp at this
  rw [hn]
theorem first_valid {l : List UInt8} (hv : validL l = true) : (bls l (l.length + 1))[0]? = some 0 := by
  have h0 : bndB l ((0 : Nat) : Int) = true := by
    rw [← (valid_cut _ _ (Nat.le_refl _) hv 0 (by omega)).1]
    rfl
  have : ∀ k, (bls l (k + 1))[0]? = some 0 := by
    intro k
    induction k with
    | zero => rw [bls_yes h0]; rfl
    | succ k ih =>
      cases hx : bndB l ((k + 1 : Nat) : Int) with
      | true => rw [bls_yes hx, List.getElem?_append_left (List.getElem?_eq_some_iff.1 ih).1]; exact ih
      | false => rw [bls_no hx]; exact ih
  exact this _
end Go.Proofs.Ytmachjjnhphhbaa
