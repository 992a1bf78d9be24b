/- Plain laws of layer 1: decoding and encoding are inverse, validity of parts, the order of encodings, boundaries. -/
import Derived.Test.YtmachjjnhphhbaaRunesP
namespace Go.Proofs.Ytmachjjnhphhbaa

theorem toByte_toNat {x : Int} (h0 : 0 ≤ x) (h1 : x < 256) : ((toByte x).toNat : Int) = x := by
  unfold toByte
  simp
  omega
theorem byt_cons_zero (a : UInt8) (l : List UInt8) : byt (a :: l) 0 = (a.toNat : Int) := by unfold byt; simp
theorem byt_cons_succ (a : UInt8) (l : List UInt8) (k : Nat) : byt (a :: l) (k + 1) = byt l k := by unfold byt; simp
theorem byt_c1 (a b : UInt8) (l : List UInt8) : byt (a :: b :: l) 1 = (b.toNat : Int) := by unfold byt; simp
theorem byt_c2 (a b c : UInt8) (l : List UInt8) : byt (a :: b :: c :: l) 2 = (c.toNat : Int) := by unfold byt; simp
theorem byt_c3 (a b c d : UInt8) (l : List UInt8) : byt (a :: b :: c :: d :: l) 3 = (d.toNat : Int) := by unfold byt; simp
theorem ann_1 {b : Int} (h : b < 128) (_ : 0 ≤ b) : annB b = 1 := by unfold annB; repeat (first | omega | split)
theorem ann_2 {b : Int} (h : 194 ≤ b) (h2 : b ≤ 223) : annB b = 2 := by unfold annB; repeat (first | omega | split)
theorem ann_3 {b : Int} (h : 224 ≤ b) (h2 : b ≤ 239) : annB b = 3 := by unfold annB; repeat (first | omega | split)
theorem ann_4 {b : Int} (h : 240 ≤ b) (h2 : b ≤ 244) : annB b = 4 := by unfold annB; repeat (first | omega | split)
theorem ann_cont {b : Int} (h : contB b = true) : annB b = 0 := by have := cont_bd h; unfold annB; repeat (first | omega | split)
theorem cont_mk {b : Int} (h0 : 128 ≤ b) (h1 : b ≤ 191) : contB b = true := by unfold contB; simp; omega

/-- The bytes of an encoding. -/
theorem enc_bytes {r : Int} (h : runeB r = true) (t : List UInt8) :
    (lenB r = 1 ∧ byt (encL r ++ t) 0 = r ∧ r < 128) ∨
    (lenB r = 2 ∧ byt (encL r ++ t) 0 = 192 + r / 64 ∧ byt (encL r ++ t) 1 = 128 + r % 64 ∧ 128 ≤ r ∧ r < 2048) ∨
    (lenB r = 3 ∧ byt (encL r ++ t) 0 = 224 + r / 4096 ∧ byt (encL r ++ t) 1 = 128 + r / 64 % 64 ∧ byt (encL r ++ t) 2 = 128 + r % 64 ∧ 2048 ≤ r ∧ r < 65536) ∨
    (lenB r = 4 ∧ byt (encL r ++ t) 0 = 240 + r / 262144 ∧ byt (encL r ++ t) 1 = 128 + r / 4096 % 64 ∧ byt (encL r ++ t) 2 = 128 + r / 64 % 64 ∧ byt (encL r ++ t) 3 = 128 + r % 64 ∧ 65536 ≤ r ∧ r ≤ 1114111) := by
  have hb := runeB_bd h
  rcases len_of (r := r) rfl with hl | ⟨_, h0, hl⟩
  · rw [hl.2] at h; cases h
  rcases hl with ⟨hn, hl⟩ | ⟨hn, hl⟩ | ⟨hn, hl⟩ | ⟨hn, hl⟩
  · refine .inl ⟨hn, ?_, hl⟩
    unfold encL
    rw [if_neg (by simp [h]), if_pos hl]
    simp only [List.cons_append, List.nil_append, byt_cons_zero]
    exact toByte_toNat (by omega) (by omega)
  · refine .inr (.inl ⟨hn, ?_, ?_, hl⟩) <;> unfold encL <;> rw [if_neg (by simp [h]), if_neg (by omega), if_pos (by omega)] <;> simp only [List.cons_append, List.nil_append, byt_cons_zero, byt_c1] <;> exact toByte_toNat (by omega) (by omega)
  · refine .inr (.inr (.inl ⟨hn, ?_, ?_, ?_, hl⟩)) <;> unfold encL <;> rw [if_neg (by simp [h]), if_neg (by omega), if_neg (by omega), if_pos (by omega)] <;> simp only [List.cons_append, List.nil_append, byt_cons_zero, byt_c1, byt_c2] <;> exact toByte_toNat (by omega) (by omega)
  · refine .inr (.inr (.inr ⟨hn, ?_, ?_, ?_, ?_, hl⟩)) <;> unfold encL <;> rw [if_neg (by simp [h]), if_neg (by omega), if_neg (by omega), if_neg (by omega)] <;> simp only [List.cons_append, List.nil_append, byt_cons_zero, byt_c1, byt_c2, byt_c3] <;> exact toByte_toNat (by omega) (by omega)

/-- Decoding an encoding, whatever follows. -/
theorem dec_enc {r : Int} (h : runeB r = true) (t : List UInt8) : decL (encL r ++ t) = (r, lenB r, 0) := by
  have hlen := encL_len r
  have hl : ((encL r ++ t).length : Int) = lenB r + t.length := by rw [List.length_append]; omega
  have hb := runeB_bd h
  rcases enc_bytes h t with ⟨hn, b0, hr⟩ | ⟨hn, b0, b1, hr⟩ | ⟨hn, b0, b1, b2, hr⟩ | ⟨hn, b0, b1, b2, b3, hr⟩
  · exact dec_yes (by rw [b0, hn]; exact ann_1 (by omega) (by omega)) (by omega) (by omega) (by unfold decR; simp [hn, b0]) (by unfold decC; simp [hn]) rfl
  · exact dec_yes (by rw [b0, hn]; exact ann_2 (by omega) (by omega)) (by omega) (by omega) (by unfold decR; simp [hn, b0, b1]; omega) (by unfold decC; simp [hn, b1, cont_mk (b := 128 + r % 64) (by omega) (by omega)]) rfl
  · exact dec_yes (by rw [b0, hn]; exact ann_3 (by omega) (by omega)) (by omega) (by omega) (by unfold decR; simp [hn, b0, b1, b2]; omega) (by unfold decC; simp [hn, b1, b2, cont_mk (b := 128 + r % 64) (by omega) (by omega), cont_mk (b := 128 + r / 64 % 64) (by omega) (by omega)]) rfl
  · exact dec_yes (by rw [b0, hn]; exact ann_4 (by omega) (by omega)) (by omega) (by omega) (by unfold decR; simp [hn, b0, b1, b2, b3]; omega) (by unfold decC; simp [hn, b1, b2, b3, cont_mk (b := 128 + r % 64) (by omega) (by omega), cont_mk (b := 128 + r / 64 % 64) (by omega) (by omega), cont_mk (b := 128 + r / 4096 % 64) (by omega) (by omega)]) rfl
theorem len_bd {r : Int} (h : runeB r = true) : 1 ≤ lenB r ∧ lenB r ≤ 4 := by
  rcases len_of (r := r) rfl with hl | ⟨_, _, hl⟩
  · rw [hl.2] at h; cases h
  · omega
theorem encL_ne {r : Int} (h : runeB r = true) : encL r ≠ [] := by
  intro e
  have := encL_len r
  have := len_bd h
  rw [e] at *
  simp at *
  omega
theorem valid_enc {r : Int} (h : runeB r = true) : validL (encL r) = true := by
  rw [validL_step (encL_ne h)]
  have := dec_enc h []
  rw [List.append_nil] at this
  rw [this, if_pos rfl]
  have hl := encL_len r
  have : (encL r).drop (lenB r).toNat = [] := List.drop_of_length_le (by omega)
  rw [this]
  rfl
/-- What was decoded is encoded by the bytes that were read. -/
theorem dec_back {l : List UInt8} {r n : Int} (h : decL l = (r, n, 0)) : encL r = l.take n.toNat ∧ encE r = 0 ∧ 1 ≤ n ∧ n ≤ l.length ∧ n ≤ 4 ∧ lenB r = n := by
  rcases dec_inv l with ⟨n', r', he, h1, h2, h3, ha, hc, hr, hl⟩ | ⟨_, he⟩ | ⟨_, he⟩
  · rw [h] at he
    simp only [Prod.mk.injEq] at he
    obtain ⟨rfl, rfl, _⟩ := he
    have hx := ann_of ha
    have hb := byt_lo l 0
    have := enc_take h1 h2 h3 hc (by rw [hr]; exact hl) (by omega)
    rw [hr] at this
    refine ⟨this, ?_, h1, h3, h2, hl⟩
    rcases len_of hl with h0 | ⟨h0, _⟩
    · omega
    · simp [encE, h0]
  · rw [h] at he; simp at he
  · rw [h] at he; simp at he

/-- Decoding looks at the bytes that it reads alone. -/
theorem dec_local {l m : List UInt8} {r n : Int} (h : decL l = (r, n, 0)) (hm : n ≤ m.length) (hb : ∀ k : Nat, (k : Int) < n → byt m k = byt l k) : decL m = (r, n, 0) := by
  rcases dec_inv l with ⟨n', r', he, h1, h2, h3, ha, hc, hr, hl⟩ | ⟨_, he⟩ | ⟨_, he⟩
  · rw [h] at he
    simp only [Prod.mk.injEq] at he
    obtain ⟨rfl, rfl, _⟩ := he
    have b0 := hb 0 (by omega)
    have hn : n = 1 ∨ n = 2 ∨ n = 3 ∨ n = 4 := by omega
    refine dec_yes (by rw [b0]; exact ha) h1 hm ?_ ?_ hl
    · rw [← hr]
      rcases hn with rfl | rfl | rfl | rfl <;> unfold decR <;> simp [b0, hb 1, hb 2, hb 3]
    · rw [← hc]
      rcases hn with rfl | rfl | rfl | rfl <;> unfold decC <;> simp [hb 1, hb 2, hb 3]
  · rw [h] at he; simp at he
  · rw [h] at he; simp at he
theorem dec_append {l : List UInt8} {r n : Int} (h : decL l = (r, n, 0)) (m : List UInt8) : decL (l ++ m) = (r, n, 0) := by
  have hb := dec_back h
  refine dec_local h (by rw [List.length_append]; omega) fun k hk => byt_append_left _ _ _ (by omega)
theorem dec_take {l : List UInt8} {r n : Int} (h : decL l = (r, n, 0)) (k : Nat) (hk : n ≤ k) : decL (l.take k) = (r, n, 0) := by
  have hb := dec_back h
  refine dec_local h (by rw [List.length_take]; omega) fun j hj => byt_take _ _ _ (by omega)
/-- The bytes of a rune: the first is none of continuation, the others are. -/
theorem dec_conts {l : List UInt8} {r n : Int} (h : decL l = (r, n, 0)) : contB (byt l 0) = false ∧ ∀ k : Nat, 1 ≤ k → (k : Int) < n → contB (byt l k) = true := by
  rcases dec_inv l with ⟨n', r', he, h1, h2, h3, ha, hc, hr, hl⟩ | ⟨_, he⟩ | ⟨_, he⟩
  · rw [h] at he
    simp only [Prod.mk.injEq] at he
    obtain ⟨rfl, rfl, _⟩ := he
    constructor
    · cases hx : contB (byt l 0) with
      | false => rfl
      | true => rw [ann_cont hx] at ha; omega
    · intro k hk hkn
      unfold decC at hc
      simp only [Bool.and_eq_true, Bool.or_eq_true, decide_eq_true_eq] at hc
      obtain ⟨⟨c1, c2⟩, c3⟩ := hc
      have : k = 1 ∨ k = 2 ∨ k = 3 := by omega
      rcases this with rfl | rfl | rfl
      · exact c1.resolve_left (by omega)
      · exact c2.resolve_left (by omega)
      · exact c3.resolve_left (by omega)
  · rw [h] at he; simp at he
  · rw [h] at he; simp at he
theorem valid_dec {l : List UInt8} (h : validL l = true) (hl : l ≠ []) : ∃ r n, decL l = (r, n, 0) ∧ validL (l.drop n.toNat) = true := by
  rw [validL_step hl] at h
  split at h
  · next h0 =>
    refine ⟨(decL l).1, (decL l).2.1, ?_, h⟩
    rw [← h0]
  · cases h
theorem valid_of_dec {l : List UInt8} {r n : Int} (h : decL l = (r, n, 0)) : validL l = validL (l.drop n.toNat) := by
  have hb := dec_back h
  rw [validL_step (by rintro rfl; simp at hb; omega), h, if_pos rfl]

/-- A concatenation of valid strings is valid. -/
theorem valid_append (m : List UInt8) (hm : validL m = true) : ∀ (f : Nat) (l : List UInt8), l.length ≤ f → validL l = true → validL (l ++ m) = true := by
  intro f
  induction f with
  | zero =>
    intro l hl _
    have : l = [] := List.eq_nil_of_length_eq_zero (by omega)
    subst this
    exact hm
  | succ f ih =>
    intro l hl hv
    by_cases he : l = []
    · subst he; exact hm
    obtain ⟨r, n, hd, hr⟩ := valid_dec hv he
    have hb := dec_back hd
    rw [valid_of_dec (dec_append hd m), List.drop_append_of_le_length (by omega)]
    exact ih _ (by rw [List.length_drop]; omega) hr

theorem bnd_drop (l : List UInt8) (a : Nat) (n : Int) (h : 0 ≤ n) (ha : a ≤ l.length) : bndB (l.drop a) n = bndB l (a + n) := by
  unfold bndB
  rw [byt_drop, List.length_drop]
  have e1 : ((l.length - a : Nat) : Int) = l.length - a := by omega
  rw [e1, show a + n.toNat = ((a : Int) + n).toNat from by omega]
  congr 1
  · simp; omega
  · congr 1
    · congr 1; simp; omega
    · rw [Bool.eq_iff_iff]; simp; omega

/-- A valid string that is cut. -/
theorem valid_cut : ∀ (f : Nat) (l : List UInt8), l.length ≤ f → validL l = true → ∀ k : Nat, k ≤ l.length → validL (l.take k) = bndB l k ∧ validL (l.drop k) = bndB l k := by
  intro f
  induction f with
  | zero =>
    intro l hl _ k hk
    have : l = [] := List.eq_nil_of_length_eq_zero (by omega)
    subst this
    simp at hk
    subst hk
    exact ⟨rfl, rfl⟩
  | succ f ih =>
    intro l hl hv k hk
    by_cases he : l = []
    · subst he
      simp at hk
      subst hk
      exact ⟨rfl, rfl⟩
    obtain ⟨r, n, hd, hr⟩ := valid_dec hv he
    have hb := dec_back hd
    have hc := dec_conts hd
    by_cases hkn : (k : Int) < n
    · by_cases hk0 : k = 0
      · subst hk0
        have : bndB l ((0 : Nat) : Int) = true := by
          unfold bndB
          simp [hc.1]
          omega
        rw [this]
        exact ⟨rfl, hv⟩
      · have hcon := hc.2 k (by omega) hkn
        have : bndB l (k : Int) = false := by
          unfold bndB
          simp [hcon]
          omega
        rw [this]
        have ha : annB (byt l 0) = n := by
          rcases dec_inv l with ⟨n', r', he', h1, h2, h3, ha, _⟩ | ⟨_, he'⟩ | ⟨_, he'⟩
          · rw [hd] at he'
            simp only [Prod.mk.injEq] at he'
            rw [ha, he'.2.1]
          · rw [hd] at he'; simp at he'
          · rw [hd] at he'; simp at he'
        constructor
        · have hne : l.take k ≠ [] := by
            intro e
            have := congrArg List.length e
            rw [List.length_take, List.length_nil] at this
            omega
          rw [validL_step hne, dec_no (List.length_pos_iff.2 hne) (.inr ?_)]
          · rfl
          · rw [byt_take _ _ _ (by omega), ha, List.length_take]
            omega
        · have hne : l.drop k ≠ [] := by
            intro e
            have := congrArg List.length e
            rw [List.length_drop, List.length_nil] at this
            omega
          rw [validL_step hne, dec_no (List.length_pos_iff.2 hne) (.inl ?_)]
          · rfl
          · rw [byt_drop]
            exact ann_cont hcon
    · have hr' := ih (l.drop n.toNat) (by rw [List.length_drop]; omega) hr (k - n.toNat) (by rw [List.length_drop]; omega)
      rw [bnd_drop _ _ _ (by omega) (by omega), show ((n.toNat : Nat) : Int) + ((k - n.toNat : Nat) : Int) = k from by omega] at hr'
      constructor
      · rw [valid_of_dec (dec_take hd k (by omega)), ← hr'.1, List.drop_take]
      · rw [← hr'.2, List.drop_drop, show n.toNat + (k - n.toNat) = k from by omega]

/-- What the search for the last boundary says. -/
theorem dnF_spec (l : List UInt8) : ∀ k : Nat, ((dnF l k).2 = true ∧ bndB l (dnF l k).1 = true ∧ 0 ≤ (dnF l k).1 ∧ (dnF l k).1 < k ∧ ∀ j : Int, (dnF l k).1 < j → j < k → bndB l j = false) ∨ ((dnF l k).2 = false ∧ (dnF l k).1 = 0 ∧ ∀ j : Int, 0 ≤ j → j < k → bndB l j = false) := by
  intro k
  induction k with
  | zero => exact .inr ⟨rfl, rfl, fun j h1 h2 => by omega⟩
  | succ k ih =>
    unfold dnF
    by_cases hb : bndB l (k : Int) = true
    · rw [if_pos hb]
      exact .inl ⟨rfl, hb, by simp, by simp; omega, fun j h1 h2 => by simp at h1; omega⟩
    · rw [if_neg hb]
      have hb : bndB l (k : Int) = false := by simpa using hb
      rcases ih with ⟨h1, h2, h3, h4, h5⟩ | ⟨h1, h2, h3⟩
      · refine .inl ⟨h1, h2, h3, by omega, fun j hj hk => ?_⟩
        by_cases e : j = k
        · rw [e]; exact hb
        · exact h5 j hj (by omega)
      · refine .inr ⟨h1, h2, fun j hj hk => ?_⟩
        by_cases e : j = k
        · rw [e]; exact hb
        · exact h3 j hj (by omega)
theorem upF_spec (l : List UInt8) : ∀ (f : Nat) (n : Int), ((upF l f n).2 = true ∧ bndB l (upF l f n).1 = true ∧ n ≤ (upF l f n).1 ∧ (upF l f n).1 < n + f ∧ ∀ j : Int, n ≤ j → j < (upF l f n).1 → bndB l j = false) ∨ ((upF l f n).2 = false ∧ (upF l f n).1 = 0 ∧ ∀ j : Int, n ≤ j → j < n + f → bndB l j = false) := by
  intro f
  induction f with
  | zero => intro n; exact .inr ⟨rfl, rfl, fun j h1 h2 => by omega⟩
  | succ f ih =>
    intro n
    unfold upF
    by_cases hb : bndB l n = true
    · rw [if_pos hb]
      exact .inl ⟨rfl, hb, by simp, by simp; omega, fun j h1 h2 => by simp at h2; omega⟩
    · rw [if_neg hb]
      have hb : bndB l n = false := by simpa using hb
      rcases ih (n + 1) with ⟨h1, h2, h3, h4, h5⟩ | ⟨h1, h2, h3⟩
      · refine .inl ⟨h1, h2, by omega, by omega, fun j hj hk => ?_⟩
        by_cases e : j = n
        · rw [e]; exact hb
        · exact h5 j (by omega) hk
      · refine .inr ⟨h1, h2, fun j hj hk => ?_⟩
        by_cases e : j = n
        · rw [e]; exact hb
        · exact h3 j (by omega) (by omega)
/-- The order of encodings. -/
theorem less_lt {x y : Int} {l m : List UInt8} (h0 : 0 ≤ x) (h : x < y) (h1 : y < 256) : Op.bytesLess (toByte x :: l) (toByte y :: m) = true := by
  have : toByte x < toByte y := by
    rw [UInt8.lt_iff_toNat_lt]
    have hx := toByte_toNat h0 (by omega)
    have hy := toByte_toNat (by omega) h1
    omega
  simp [Op.bytesLess, this]
theorem less_eq {x y : Int} {l m : List UInt8} (h : x = y) (hl : Op.bytesLess l m = true) : Op.bytesLess (toByte x :: l) (toByte y :: m) = true := by
  subst h
  simp [Op.bytesLess, hl]
theorem less_asymm : ∀ l m : List UInt8, Op.bytesLess l m = true → Op.bytesLess m l = false := by
  intro l
  induction l with
  | nil => intro m h; cases m <;> simp_all [Op.bytesLess]
  | cons a l ih =>
    intro m h
    cases m with
    | nil => simp [Op.bytesLess] at h
    | cons b m =>
      simp only [Op.bytesLess, Bool.or_eq_true, decide_eq_true_eq, Bool.and_eq_true, beq_iff_eq] at h
      simp only [Op.bytesLess, Bool.or_eq_false_iff, decide_eq_false_iff_not, Bool.and_eq_false_iff]
      rcases h with h | ⟨rfl, h⟩
      · refine ⟨by rw [UInt8.lt_iff_toNat_lt] at h ⊢; omega, .inl ?_⟩
        simp
        rintro rfl
        rw [UInt8.lt_iff_toNat_lt] at h
        omega
      · exact ⟨by rw [UInt8.lt_iff_toNat_lt]; omega, .inr (ih m h)⟩
theorem encL_1 {r : Int} (h : runeB r = true) (h1 : r < 128) : encL r = [toByte r] := by unfold encL; rw [if_neg (by simp [h]), if_pos h1]
theorem encL_2 {r : Int} (h : runeB r = true) (h1 : 128 ≤ r) (h2 : r < 2048) : encL r = [toByte (192 + r / 64), toByte (128 + r % 64)] := by unfold encL; rw [if_neg (by simp [h]), if_neg (by omega), if_pos h2]
theorem encL_3 {r : Int} (h : runeB r = true) (h1 : 2048 ≤ r) (h2 : r < 65536) : encL r = [toByte (224 + r / 4096), toByte (128 + r / 64 % 64), toByte (128 + r % 64)] := by unfold encL; rw [if_neg (by simp [h]), if_neg (by omega), if_neg (by omega), if_pos h2]
theorem encL_4 {r : Int} (h : runeB r = true) (h1 : 65536 ≤ r) : encL r = [toByte (240 + r / 262144), toByte (128 + r / 4096 % 64), toByte (128 + r / 64 % 64), toByte (128 + r % 64)] := by unfold encL; rw [if_neg (by simp [h]), if_neg (by omega), if_neg (by omega), if_neg (by omega)]
theorem enc_less {a b : Int} (ha : runeB a = true) (hb : runeB b = true) (h : a < b) : Op.bytesLess (encL a) (encL b) = true := by
  have ba := runeB_bd ha
  have bb := runeB_bd hb
  by_cases a1 : a < 128
  · rw [encL_1 ha a1]
    by_cases b1 : b < 128
    · rw [encL_1 hb b1]; exact less_lt (by omega) (by omega) (by omega)
    by_cases b2 : b < 2048
    · rw [encL_2 hb (by omega) b2]; exact less_lt (by omega) (by omega) (by omega)
    by_cases b3 : b < 65536
    · rw [encL_3 hb (by omega) b3]; exact less_lt (by omega) (by omega) (by omega)
    · rw [encL_4 hb (by omega)]; exact less_lt (by omega) (by omega) (by omega)
  by_cases a2 : a < 2048
  · rw [encL_2 ha (by omega) a2]
    by_cases b2 : b < 2048
    · rw [encL_2 hb (by omega) b2]
      by_cases e1 : 192 + a / 64 = 192 + b / 64
      · exact less_eq e1 (less_lt (by omega) (by omega) (by omega))
      · exact less_lt (by omega) (by omega) (by omega)
    by_cases b3 : b < 65536
    · rw [encL_3 hb (by omega) b3]; exact less_lt (by omega) (by omega) (by omega)
    · rw [encL_4 hb (by omega)]; exact less_lt (by omega) (by omega) (by omega)
  by_cases a3 : a < 65536
  · rw [encL_3 ha (by omega) a3]
    by_cases b3 : b < 65536
    · rw [encL_3 hb (by omega) b3]
      by_cases e1 : 224 + a / 4096 = 224 + b / 4096
      · refine less_eq e1 ?_
        by_cases e2 : 128 + a / 64 % 64 = 128 + b / 64 % 64
        · exact less_eq e2 (less_lt (by omega) (by omega) (by omega))
        · exact less_lt (by omega) (by omega) (by omega)
      · exact less_lt (by omega) (by omega) (by omega)
    · rw [encL_4 hb (by omega)]; exact less_lt (by omega) (by omega) (by omega)
  · rw [encL_4 ha (by omega), encL_4 hb (by omega)]
    by_cases e1 : 240 + a / 262144 = 240 + b / 262144
    · refine less_eq e1 ?_
      by_cases e2 : 128 + a / 4096 % 64 = 128 + b / 4096 % 64
      · refine less_eq e2 ?_
        by_cases e3 : 128 + a / 64 % 64 = 128 + b / 64 % 64
        · exact less_eq e3 (less_lt (by omega) (by omega) (by omega))
        · exact less_lt (by omega) (by omega) (by omega)
      · exact less_lt (by omega) (by omega) (by omega)
    · exact less_lt (by omega) (by omega) (by omega)
theorem enc_prefix {a b : Int} (ha : runeB a = true) (hb : runeB b = true) (h : a ≠ b) {n : Nat} (hn : n = min (encL a).length (encL b).length) : (encL a).take n ≠ (encL b).take n := by
  intro e
  apply h
  by_cases hl : (encL a).length ≤ (encL b).length
  · have hn' : n = (encL a).length := by omega
    rw [hn', List.take_length] at e
    have d1 := dec_enc ha ((encL b).drop (encL a).length)
    rw [e, List.length_take, Nat.min_eq_left hl, List.take_append_drop] at d1
    have d2 := dec_enc hb []
    rw [List.append_nil, d1] at d2
    simpa using congrArg Prod.fst d2
  · have hn' : n = (encL b).length := by omega
    rw [hn', List.take_length] at e
    have d1 := dec_enc hb ((encL a).drop (encL b).length)
    rw [← e, List.length_take, Nat.min_eq_left (by omega), List.take_append_drop] at d1
    have d2 := dec_enc ha []
    rw [List.append_nil, d1] at d2
    simpa using (congrArg Prod.fst d2).symm
theorem bnd_end (l : List UInt8) : bndB l l.length = true := by unfold bndB; simp
theorem clip_spec (l : List UInt8) (n : Int) : ∃ c, clipL l n = c ∧ c.length ≤ l.length ∧ c = l.take c.length ∧ (c.length = 0 ∨ (0 < c.length ∧ (c.length : Int) ≤ n ∧ bndB l c.length = true)) ∧ ∀ k : Int, (c.length : Int) < k → k ≤ l.length → k ≤ n → bndB l k = false := by
  have hb := dnF_bd l (min (n + 1) ((l.length : Int) + 1)).toNat
  have hle := dnF_le l (min (n + 1) ((l.length : Int) + 1)).toNat
  have hs := dnF_spec l (min (n + 1) ((l.length : Int) + 1)).toNat
  refine ⟨_, rfl, ?_, ?_, ?_, ?_⟩
  · unfold clipL; rw [List.length_take]; omega
  · unfold clipL; rw [List.length_take, List.take_eq_take_iff]; omega
  all_goals
    unfold clipL prevL
    rw [List.length_take]
    generalize dnF l (min (n + 1) ((l.length : Int) + 1)).toNat = d at *
    rw [Nat.min_eq_left (by omega)]
  · rcases hs with ⟨h1, h2, h3, h4, h5⟩ | ⟨h1, h2, h3⟩
    · by_cases h0 : d.1 = 0
      · exact .inl (by omega)
      · refine .inr ⟨by omega, by omega, ?_⟩
        rw [show ((d.1.toNat : Nat) : Int) = d.1 from by omega]
        exact h2
    · exact .inl (by omega)
  · intro k hk hl hn
    rcases hs with ⟨h1, h2, h3, h4, h5⟩ | ⟨h1, h2, h3⟩
    · exact h5 k (by omega) (by omega)
    · exact h3 k (by omega) (by omega)
theorem bnd_range {l : List UInt8} {n : Int} (h : bndB l n = true) : 0 ≤ n ∧ n ≤ l.length := by
  unfold bndB at h
  simp at h
  omega
end Go.Proofs.Ytmachjjnhphhbaa
