/- Plain laws of layer 10: a text of a handle is parsed to the handle, and what is parsed is its text. No walk is here. -/
import Derived.Test.YtipljlejhdggnaaDoorHanF
namespace Go.Proofs.YtipljlejhdggnaaDoor

theorem byt_app {a b : List UInt8} {k : Nat} (h : k < a.length) : byt (a ++ b) k = byt a k := by
  unfold byt
  rw [List.getD_eq_getElem?_getD, List.getD_eq_getElem?_getD, List.getElem?_append_left h]
theorem byt_last (a : List UInt8) (c : UInt8) : byt (a ++ [c]) a.length = (c.toNat : Int) := by
  unfold byt
  rw [List.getD_eq_getElem?_getD]
  simp
theorem valN_app {a b : List UInt8} : ∀ {k : Nat}, k ≤ a.length → valN (a ++ b) k = valN a k
  | 0, _ => rfl
  | k + 1, h => by
    unfold valN
    rw [valN_app (k := k) (by omega), byt_app (by omega)]
theorem allD_app {a b : List UInt8} : ∀ {k : Nat}, k ≤ a.length → allD (a ++ b) k = allD a k
  | 0, _ => rfl
  | k + 1, h => by
    unfold allD
    rw [allD_app (k := k) (by omega), byt_app (by omega)]
theorem val_snoc (a : List UInt8) (c : UInt8) : val (a ++ [c]) = 10 * val a + ((c.toNat : Int) - 48) := by
  unfold val
  rw [List.length_append]
  show 10 * valN (a ++ [c]) a.length + (byt (a ++ [c]) a.length - 48) = _
  rw [valN_app (Nat.le_refl _), byt_last]
theorem all_snoc (a : List UInt8) (c : UInt8) : allD (a ++ [c]) (a ++ [c]).length = (allD a a.length && digB (c.toNat : Int)) := by
  rw [List.length_append]
  show allD (a ++ [c]) (a.length + 1) = _
  conv => lhs; unfold allD
  rw [allD_app (Nat.le_refl _), byt_last]
theorem u8_nat {n : Nat} (h : n < 10) : ((UInt8.ofNat (48 + n)).toNat : Int) = 48 + n := by
  rw [UInt8.toNat_ofNat']
  omega
theorem dec_one {u : Nat} (h : u < 10) : Lib.decDigits u = [UInt8.ofNat (48 + u)] := Lib.decDigits_one h
theorem dec_snoc {u : Nat} (h : ¬ u < 10) : Lib.decDigits u = Lib.decDigits (u / 10) ++ [UInt8.ofNat (48 + u % 10)] := by
  rw [dec_step u h, dec_one (u := u % 10) (by omega)]
/-- The digits of a number: they are digits, their value is the number, and the first is no zero. -/
theorem dec_is : ∀ (k u : Nat), u < 10 ^ k → val (Lib.decDigits u) = u ∧ allD (Lib.decDigits u) (Lib.decDigits u).length = true ∧ 1 ≤ (Lib.decDigits u).length ∧ (1 ≤ u → byt (Lib.decDigits u) 0 ≠ 48) ∧ (u < 10 → (Lib.decDigits u).length = 1) := by
  intro k
  induction k with
  | zero =>
    intro u h
    have h0 : u = 0 := by simp at h; omega
    subst h0
    rw [dec_one (by omega)]
    decide
  | succ k ih =>
    intro u h
    by_cases h10 : u < 10
    · rw [dec_one h10]
      have e := u8_nat h10
      have hb : byt [UInt8.ofNat (48 + u)] 0 = 48 + u := by
        have := byt_last [] (UInt8.ofNat (48 + u))
        rw [e] at this
        exact this
      refine ⟨?_, ?_, by simp, ?_, by simp⟩
      · show 10 * 0 + (byt [UInt8.ofNat (48 + u)] 0 - 48) = _
        rw [hb]; omega
      · show (true && digB (byt [UInt8.ofNat (48 + u)] 0)) = true
        rw [hb]; unfold digB; simp; omega
      · intro h1; rw [hb]; omega
    · rw [dec_snoc h10]
      obtain ⟨i1, i2, i3, i4, i5⟩ := ih (u / 10) (by rw [Nat.pow_succ] at h; omega)
      have e := u8_nat (n := u % 10) (by omega)
      refine ⟨?_, ?_, by simp, ?_, by omega⟩
      · rw [val_snoc, i1, e]; omega
      · rw [all_snoc, i2, e]; unfold digB; simp; omega
      · intro _
        rw [byt_app (by omega)]
        exact i4 (by omega)
theorem dec_len' {u : Nat} (h : u ≤ 4294967295) : (Lib.decDigits u).length ≤ 20 := by
  have := dec_len 10 u (by omega)
  omega
theorem dec_ok {u : Nat} (h : u ≤ 4294967295) : numOk (Lib.decDigits u) = true ∧ val (Lib.decDigits u) = u := by
  obtain ⟨i1, i2, i3, i4, i5⟩ := dec_is 10 u (by omega)
  have hl := dec_len' h
  refine ⟨?_, i1⟩
  unfold numOk headB
  rw [i2, Bool.and_true, decide_eq_true_eq]
  refine ⟨i3, hl, ?_⟩
  by_cases h1 : 1 ≤ u
  · exact .inr (i4 h1)
  · exact .inl (i5 (by omega))
theorem dec_all {u : Nat} (h : u ≤ 4294967295) : ∀ j, j < (Lib.decDigits u).length → byt (Lib.decDigits u) j ≠ 46 := by
  intro j hj
  have := digB_of (allD_lt (dec_is 10 u (by omega)).2.1 j hj)
  omega
/-- A number in decimal digits is the digits of its value. -/
theorem num_dec : ∀ (n : Nat) (l : List UInt8), l.length = n → numOk l = true → l = Lib.decDigits (val l).toNat ∧ (2 ≤ l.length → 1 ≤ val l) := by
  intro n
  induction n with
  | zero =>
    intro l hl h
    unfold numOk headB at h
    simp [hl] at h
  | succ n ih =>
    intro l hl h
    obtain ⟨a, c, rfl⟩ : ∃ a c, l = a ++ [c] := ⟨l.dropLast, l.getLast (by intro e; rw [e] at hl; simp at hl), (List.dropLast_concat_getLast _).symm⟩
    have ha : a.length = n := by simp at hl; exact hl
    unfold numOk at h
    rw [Bool.and_eq_true, all_snoc, Bool.and_eq_true] at h
    obtain ⟨hh, ha1, hc⟩ := h
    have hd := digB_of hc
    unfold headB at hh
    rw [decide_eq_true_eq, List.length_append] at hh
    simp only [List.length_singleton] at hh
    obtain ⟨m, hm⟩ : ∃ m : Nat, m = c.toNat - 48 := ⟨_, rfl⟩
    have hcm : c = UInt8.ofNat (48 + m) := by
      have : 48 + m = c.toNat := by omega
      rw [this, UInt8.ofNat_toNat]
    rw [val_snoc]
    by_cases h0 : a = []
    · subst h0
      have hv : val [] = 0 := rfl
      rw [hv]
      refine ⟨?_, fun h => by simp at h⟩
      have : (10 * 0 + ((c.toNat : Int) - 48)).toNat = m := by omega
      rw [this, dec_one (by omega), ← hcm]
      rfl
    · have hpos : 0 < a.length := List.length_pos_iff.2 h0
      have hz : byt a 0 ≠ 48 := by
        rcases hh.2.2 with h | h
        · omega
        · rw [byt_app hpos] at h; exact h
      have hna : numOk a = true := by
        unfold numOk headB
        rw [ha1, Bool.and_true, decide_eq_true_eq]
        exact ⟨hpos, by omega, .inr hz⟩
      obtain ⟨e1, e2⟩ := ih a ha hna
      obtain ⟨w0, _⟩ := num_ways hna
      have hp : 1 ≤ val a := by
        by_cases h2 : 2 ≤ a.length
        · exact e2 h2
        · by_cases hge : 1 ≤ val a
          · exact hge
          · have hv : (val a).toNat = 0 := by omega
            rw [hv] at e1
            rw [e1] at hz
            exact absurd (by rw [dec_one (by omega)]; decide) hz
      refine ⟨?_, fun _ => by omega⟩
      rw [dec_snoc (by omega)]
      have t1 : (10 * val a + ((c.toNat : Int) - 48)).toNat / 10 = (val a).toNat := by omega
      have t2 : (10 * val a + ((c.toNat : Int) - 48)).toNat % 10 = m := by omega
      rw [t1, t2, ← e1, ← hcm]

theorem chk_yes {h : Int} (hc : chkE h = 0) : 0 ≤ slotOf h ∧ slotOf h < 16384 ∧ 1 ≤ genOf h ∧ genOf h ≤ 4294967295 := by
  rcases chk_cases h with h1 | h1
  · exact h1.2
  · rw [h1] at hc; cases hc
theorem parts_back (h : Int) : genOf h * 65536 + slotOf h = h := by unfold genOf slotOf; omega
theorem make_back {h : Int} (hc : chkE h = 0) : makeH (slotOf h) (genOf h) = h ∧ makeE (slotOf h) (genOf h) = 0 := by
  have hm := makeOk_yes (chk_yes hc)
  unfold makeH makeE
  rw [hm]
  exact ⟨parts_back h, rfl⟩
theorem make_is {s g : Int} (h : makeOk s g = true) : makeE s g = 0 ∧ chkE (makeH s g) = 0 ∧ slotOf (makeH s g) = s ∧ genOf (makeH s g) = g ∧ makeH s g = g * 65536 + s := by
  obtain ⟨h1, h2, h3, h4⟩ := makeOk_of h
  have e : makeH s g = g * 65536 + s := by unfold makeH; rw [h]; rfl
  have es : slotOf (makeH s g) = s := by rw [e]; unfold slotOf; omega
  have eg : genOf (makeH s g) = g := by rw [e]; unfold genOf; omega
  refine ⟨by unfold makeE; rw [h]; rfl, ?_, es, eg, e⟩
  unfold chkE
  rw [es, eg, h]
  rfl
/-- The text of a handle is parsed to the handle. -/
theorem parse_text {h : Int} (hc : chkE h = 0) : parseP (txtL h) = (h, 0) := by
  obtain ⟨s0, s1, g0, g1⟩ := chk_yes hc
  obtain ⟨a, ha⟩ : ∃ a : Nat, slotOf h = a := ⟨(slotOf h).toNat, by omega⟩
  obtain ⟨b, hb⟩ : ∃ b : Nat, genOf h = b := ⟨(genOf h).toNat, by omega⟩
  rw [txt_yes hc, ha, hb, Int.toNat_natCast, Int.toNat_natCast]
  obtain ⟨oka, va⟩ := dec_ok (u := a) (by omega)
  obtain ⟨okb, vb⟩ := dec_ok (u := b) (by omega)
  have hi : Lib.indexByte (Lib.decDigits a ++ (46 :: Lib.decDigits b)) 46 = (Lib.decDigits a).length := by
    refine index_of (by simp) ?_ ?_
    · have := byt_last (Lib.decDigits a) 46
      have e : Lib.decDigits a ++ (46 :: Lib.decDigits b) = (Lib.decDigits a ++ [46]) ++ Lib.decDigits b := by simp
      rw [e, byt_app (by simp)]
      exact this
    · intro j hj
      rw [byt_app hj]
      exact dec_all (by omega) j hj
  have ht : (Lib.decDigits a ++ (46 :: Lib.decDigits b)).take (Lib.decDigits a).length = Lib.decDigits a := List.take_left
  have hd : (Lib.decDigits a ++ (46 :: Lib.decDigits b)).drop ((Lib.decDigits a).length + 1) = Lib.decDigits b := by
    rw [List.drop_append, List.drop_of_length_le (by omega)]
    simp
  have hm := make_back hc
  rw [ha, hb] at hm
  rw [parse_ok hi (by rw [ht, hd, oka, okb]; rfl), ht, hd, va, vb, hm.1, hm.2]
/-- What is parsed is the text of the result. -/
theorem text_parse {l : List UInt8} (h : (parseP l).2 = 0) : chkE (parseP l).1 = 0 ∧ txtL (parseP l).1 = l := by
  have hge := Lib.indexByte_ge l 46
  by_cases e : Lib.indexByte l 46 = -1
  · rw [parse_miss e] at h
    cases h
  · obtain ⟨i, hi⟩ : ∃ i : Nat, Lib.indexByte l 46 = i := ⟨(Lib.indexByte l 46).toNat, by omega⟩
    cases h2 : (numOk (l.take i) && numOk (l.drop (i + 1))) with
    | false => rw [parse_bad hi h2] at h; cases h
    | true =>
      rw [parse_ok hi h2] at h ⊢
      rw [Bool.and_eq_true] at h2
      cases hm : makeOk (val (l.take i)) (val (l.drop (i + 1))) with
      | false => simp [makeE, hm] at h
      | true =>
        obtain ⟨m1, m2, m3, m4, m5⟩ := make_is hm
        refine ⟨m2, ?_⟩
        show txtL (makeH _ _) = l
        rw [txt_yes m2, m3, m4, ← (num_dec _ _ rfl h2.1).1, ← (num_dec _ _ rfl h2.2).1]
        have hget := (Lib.indexByte_some hi).1
        have hlt := index_lt hi
        have hg : l[i] = 46 := by rw [List.getElem?_eq_getElem hlt] at hget; exact Option.some.inj hget
        rw [← hg, ← List.drop_eq_getElem_cons hlt, List.take_append_drop]
theorem parse_no {l : List UInt8} (h : ¬ (parseP l).2 = 0) : (parseP l).1 = 0 := by
  have hge := Lib.indexByte_ge l 46
  by_cases e : Lib.indexByte l 46 = -1
  · rw [parse_miss e]
  · obtain ⟨i, hi⟩ : ∃ i : Nat, Lib.indexByte l 46 = i := ⟨(Lib.indexByte l 46).toNat, by omega⟩
    cases h2 : (numOk (l.take i) && numOk (l.drop (i + 1))) with
    | false => rw [parse_bad hi h2]
    | true =>
      rw [parse_ok hi h2] at h ⊢
      cases hm : makeOk (val (l.take i)) (val (l.drop (i + 1))) with
      | false => simp [makeH, hm]
      | true => exact absurd (make_is hm).1 h
end Go.Proofs.YtipljlejhdggnaaDoor
