/- Plain functions on lists of bytes: what layer 1 computes. No program is named here. -/
import Derived.Lib.Strings
namespace Go.Proofs.Ytmachjjnhphhbaa

def contB (b : Int) : Bool := decide (128 ≤ b ∧ b ≤ 191)
def annB (b : Int) : Int := if 244 < b then 0 else if 240 ≤ b then 4 else if 224 ≤ b then 3 else if 194 ≤ b then 2 else if b < 128 then 1 else 0
def runeB (r : Int) : Bool := decide (0 ≤ r ∧ r ≤ 1114111 ∧ (r < 55296 ∨ 57343 < r))
def lenB (r : Int) : Int := if runeB r = false then 0 else if r < 128 then 1 else if r < 2048 then 2 else if r < 65536 then 3 else 4
def byt (l : List UInt8) (k : Nat) : Int := ((l.getD k 0).toNat : Int)
def toByte (x : Int) : UInt8 := UInt8.ofNat x.toNat
theorem byt_mk (s : ByteArray) (k : Nat) (h : k < s.size) : ((s[k]).toNat : Int) = byt s.data.toList k := by
  unfold byt
  have : s.data.toList.getD k 0 = s[k] := by
    rw [List.getD_eq_getElem?_getD, List.getElem?_eq_getElem (by simpa using h)]; rfl
  rw [this]
theorem byt_lo (l : List UInt8) (k : Nat) : 0 ≤ byt l k := by unfold byt; omega
theorem byt_hi (l : List UInt8) (k : Nat) : byt l k ≤ 255 := by unfold byt; have := (l.getD k 0).toNat_lt; omega
theorem toByte_byt (l : List UInt8) (k : Nat) (h : k < l.length) : toByte (byt l k) = l[k] := by
  unfold toByte byt
  rw [List.getD_eq_getElem?_getD, List.getElem?_eq_getElem h]
  simp
theorem byt_drop (l : List UInt8) (a k : Nat) : byt (l.drop a) k = byt l (a + k) := by
  unfold byt; simp [List.getD_eq_getElem?_getD]
theorem byt_append_left (l m : List UInt8) (k : Nat) (h : k < l.length) : byt (l ++ m) k = byt l k := by
  unfold byt; simp [List.getD_eq_getElem?_getD, List.getElem?_append_left h]
theorem byt_take (l : List UInt8) (a k : Nat) (h : k < a) : byt (l.take a) k = byt l k := by
  unfold byt; simp [List.getD_eq_getElem?_getD, h]

/-- Whether n is a boundary. -/
def bndB (l : List UInt8) (n : Int) : Bool := decide (0 ≤ n) && ((decide (n < l.length) && !contB (byt l n.toNat)) || n == l.length)
theorem bnd_close {l : List UInt8} {n : Int} {x : Bool} (h : x = true ↔ 0 ≤ n ∧ ((n < l.length ∧ contB (byt l n.toNat) = false) ∨ n = l.length)) : x = bndB l n := by
  rw [Bool.eq_iff_iff, h]; unfold bndB; simp

/-- The encoding. -/
def encL (r : Int) : List UInt8 :=
  if runeB r = false then [] else if r < 128 then [toByte r] else if r < 2048 then [toByte (192 + r / 64), toByte (128 + r % 64)]
  else if r < 65536 then [toByte (224 + r / 4096), toByte (128 + r / 64 % 64), toByte (128 + r % 64)]
  else [toByte (240 + r / 262144), toByte (128 + r / 4096 % 64), toByte (128 + r / 64 % 64), toByte (128 + r % 64)]
def encE (r : Int) : Int := if runeB r = false then 2 else 0
theorem runeB_bd {r : Int} (h : runeB r = true) : 0 ≤ r ∧ r ≤ 1114111 := by unfold runeB at h; simp at h; omega
theorem len_of {r : Int} {n : Int} (h : lenB r = n) : (n = 0 ∧ runeB r = false) ∨ (runeB r = true ∧ 0 ≤ r ∧ ((n = 1 ∧ r < 128) ∨ (n = 2 ∧ 128 ≤ r ∧ r < 2048) ∨ (n = 3 ∧ 2048 ≤ r ∧ r < 65536) ∨ (n = 4 ∧ 65536 ≤ r ∧ r ≤ 1114111))) := by
  unfold lenB at h
  split at h
  · exact .inl ⟨by omega, by assumption⟩
  · have := runeB_bd (r := r) (by simpa using ‹¬ runeB r = false›)
    refine .inr ⟨by simpa using ‹¬ runeB r = false›, by omega, ?_⟩
    repeat' split at h
    all_goals omega
theorem encL_len (r : Int) : ((encL r).length : Int) = lenB r := by
  unfold encL lenB
  repeat' split
  all_goals rfl

/-- What Decode returns: the rune, the number of bytes, the error. -/
def decC (l : List UInt8) (n : Int) : Bool := (decide (n < 2) || contB (byt l 1)) && (decide (n < 3) || contB (byt l 2)) && (decide (n < 4) || contB (byt l 3))
def decR (l : List UInt8) (n : Int) : Int :=
  if n < 2 then byt l 0 else if n < 3 then 64 * (byt l 0 - 192) + (byt l 1 - 128)
  else if n < 4 then 64 * (64 * (byt l 0 - 224) + (byt l 1 - 128)) + (byt l 2 - 128)
  else 64 * (64 * (64 * (byt l 0 - 240) + (byt l 1 - 128)) + (byt l 2 - 128)) + (byt l 3 - 128)
def decL (l : List UInt8) : Int × Int × Int :=
  if l = [] then (0, 0, 3) else if annB (byt l 0) = 0 ∨ (l.length : Int) < annB (byt l 0) then (0, 0, 11)
  else if decC l (annB (byt l 0)) && (lenB (decR l (annB (byt l 0))) == annB (byt l 0)) then (decR l (annB (byt l 0)), annB (byt l 0), 0) else (0, 0, 11)
theorem ann_of {b n : Int} (h : annB b = n) : (n = 0) ∨ (n = 1 ∧ b < 128) ∨ (n = 2 ∧ 194 ≤ b ∧ b ≤ 223) ∨ (n = 3 ∧ 224 ≤ b ∧ b ≤ 239) ∨ (n = 4 ∧ 240 ≤ b ∧ b ≤ 244) := by
  unfold annB at h
  repeat' split at h
  all_goals omega
theorem dec_no {l : List UInt8} (h0 : 0 < l.length) (h : annB (byt l 0) = 0 ∨ (l.length : Int) < annB (byt l 0)) : decL l = (0, 0, 11) := by
  unfold decL
  rw [if_neg (by rintro rfl; simp at h0), if_pos h]
theorem dec_yes {l : List UInt8} {n r : Int} (hn : annB (byt l 0) = n) (h1 : 1 ≤ n) (h : n ≤ l.length) (hr : decR l n = r) (hc : decC l n = true) (hl : lenB r = n) : decL l = (r, n, 0) := by
  unfold decL
  rw [hn, if_neg (by rintro rfl; simp at h; omega), if_neg (by omega), hr, hc, hl]
  simp
theorem dec_cut {l : List UInt8} {n : Int} (hn : annB (byt l 0) = n) (h1 : 1 ≤ n) (h : n ≤ l.length) (hc : decC l n = true → lenB (decR l n) ≠ n) : decL l = (0, 0, 11) := by
  unfold decL
  rw [hn, if_neg (by rintro rfl; simp at h; omega), if_neg (by omega), if_neg]
  simpa using hc
theorem cont_bd {b : Int} (h : contB b = true) : 128 ≤ b ∧ b ≤ 191 := by unfold contB at h; simpa using h

/-- What decL says where it is OK, and where not. -/
theorem dec_inv (l : List UInt8) : (∃ n r, decL l = (r, n, 0) ∧ 1 ≤ n ∧ n ≤ 4 ∧ n ≤ l.length ∧ annB (byt l 0) = n ∧ decC l n = true ∧ decR l n = r ∧ lenB r = n) ∨ (l = [] ∧ decL l = (0, 0, 3)) ∨ (l ≠ [] ∧ decL l = (0, 0, 11)) := by
  by_cases h0 : l = []
  · exact .inr (.inl ⟨h0, by simp [decL, h0]⟩)
  by_cases h1 : annB (byt l 0) = 0 ∨ (l.length : Int) < annB (byt l 0)
  · exact .inr (.inr ⟨h0, dec_no (List.length_pos_iff.2 h0) h1⟩)
  have ha := ann_of (b := byt l 0) rfl
  by_cases h2 : decC l (annB (byt l 0)) = true ∧ lenB (decR l (annB (byt l 0))) = annB (byt l 0)
  · exact .inl ⟨_, _, dec_yes rfl (by omega) (by omega) rfl h2.1 h2.2, by omega, by omega, by omega, rfl, h2.1, rfl, h2.2⟩
  · exact .inr (.inr ⟨h0, dec_cut rfl (by omega) (by omega) fun hc hl => h2 ⟨hc, hl⟩⟩)

/-- The encoding of what was decoded are the bytes. -/
theorem enc_take {l : List UInt8} {n : Int} (h1 : 1 ≤ n) (hn : n ≤ 4) (hlen : n ≤ l.length) (hc : decC l n = true) (hl : lenB (decR l n) = n)
    (hlo : (n = 1 ∧ byt l 0 < 192) ∨ (n = 2 ∧ 192 ≤ byt l 0 ∧ byt l 0 < 224) ∨ (n = 3 ∧ 224 ≤ byt l 0 ∧ byt l 0 < 240) ∨ (n = 4 ∧ 240 ≤ byt l 0)) : encL (decR l n) = l.take n.toNat := by
  have b0 := byt_lo l 0
  have hL := len_of hl
  have tk : ∀ (k : Nat), k ≤ l.length → l.take k = (List.range k).map fun i => toByte (byt l i) := by
    intro k hk
    apply List.ext_getElem
    · simp; omega
    · intro i hi1 hi2
      simp at hi1 hi2
      simp [toByte_byt l i (by omega)]
  rw [tk _ (by omega)]
  unfold decC at hc
  simp only [Bool.and_eq_true, Bool.or_eq_true, decide_eq_true_eq] at hc
  obtain ⟨⟨c1, c2⟩, c3⟩ := hc
  have hr : runeB (decR l n) = true := by
    rcases hL with h | h
    · omega
    · exact h.1
  unfold encL
  rw [if_neg (by simp [hr])]
  rcases hL with h | ⟨_, h0, h⟩
  · omega
  generalize hd : decR l n = r at *
  unfold decR at hd
  rcases hlo with ⟨rfl, h⟩ | ⟨rfl, h⟩ | ⟨rfl, h⟩ | ⟨rfl, h⟩
  · rw [if_pos (by omega)] at hd
    rw [if_pos (by omega), ← hd]
    rfl
  · have c1 := cont_bd (c1.resolve_left (by omega))
    simp only [show ¬ ((2 : Int) < 2) from by omega, if_false, show ((2 : Int) < 3) from by omega, if_true] at hd
    rw [if_neg (by omega), if_pos (by omega), show 192 + r / 64 = byt l 0 from by omega, show 128 + r % 64 = byt l 1 from by omega]
    rfl
  · have c1 := cont_bd (c1.resolve_left (by omega))
    have c2 := cont_bd (c2.resolve_left (by omega))
    simp only [show ¬ ((3 : Int) < 2) from by omega, if_false, show ¬ ((3 : Int) < 3) from by omega, show ((3 : Int) < 4) from by omega, if_true] at hd
    rw [if_neg (by omega), if_neg (by omega), if_pos (by omega), show 224 + r / 4096 = byt l 0 from by omega, show 128 + r / 64 % 64 = byt l 1 from by omega, show 128 + r % 64 = byt l 2 from by omega]
    rfl
  · have c1 := cont_bd (c1.resolve_left (by omega))
    have c2 := cont_bd (c2.resolve_left (by omega))
    have c3 := cont_bd (c3.resolve_left (by omega))
    simp only [show ¬ ((4 : Int) < 2) from by omega, if_false, show ¬ ((4 : Int) < 3) from by omega, show ¬ ((4 : Int) < 4) from by omega] at hd
    rw [if_neg (by omega), if_neg (by omega), if_neg (by omega), show 240 + r / 262144 = byt l 0 from by omega, show 128 + r / 4096 % 64 = byt l 1 from by omega, show 128 + r / 64 % 64 = byt l 2 from by omega, show 128 + r % 64 = byt l 3 from by omega]
    rfl

/-- The number of bytes that the reference reads off the first one. -/
def refN (b : Int) : Int := if 240 ≤ b then 4 else if 224 ≤ b then 3 else if 192 ≤ b then 2 else 1
theorem refN_of {b n : Int} (h : refN b = n) : (n = 1 ∧ b < 192) ∨ (n = 2 ∧ 192 ≤ b ∧ b < 224) ∨ (n = 3 ∧ 224 ≤ b ∧ b < 240) ∨ (n = 4 ∧ 240 ≤ b) := by
  unfold refN at h
  repeat' split at h
  all_goals omega
theorem ann_refN (b : Int) : annB b = 0 ∨ annB b = refN b := by
  unfold annB refN
  repeat' split
  all_goals omega
theorem ref_cut {l : List UInt8} {n : Int} (h0 : 0 < l.length) (hn : refN (byt l 0) = n) (h : (l.length : Int) < n ∨ decC l n = false) : decL l = (0, 0, 11) := by
  rcases ann_refN (byt l 0) with ha | ha
  · exact dec_no h0 (.inl ha)
  · rw [hn] at ha
    rcases h with h | h
    · exact dec_no h0 (.inr (by omega))
    · have := refN_of hn
      by_cases hl : (l.length : Int) < n
      · exact dec_no h0 (.inr (by omega))
      · exact dec_cut ha (by omega) (by omega) fun hc => by rw [h] at hc; cases hc
theorem ref_end {l : List UInt8} {n : Int} (hn : refN (byt l 0) = n) (hlen : n ≤ l.length) (hc : decC l n = true) : decL l = if encE (decR l n) = 0 ∧ encL (decR l n) = l.take n.toNat then (decR l n, n, 0) else (0, 0, 11) := by
  have hlo := refN_of hn
  have b0 := byt_lo l 0
  have b1 := byt_hi l 0
  by_cases hl : lenB (decR l n) = n
  · have he := enc_take (by omega) (by omega) hlen hc hl hlo
    have hr : runeB (decR l n) = true := by
      rcases len_of hl with h | h
      · omega
      · exact h.1
    rw [if_pos ⟨by simp [encE, hr], he⟩]
    have ha : annB (byt l 0) = n := by
      rcases ann_refN (byt l 0) with ha | ha
      · exfalso
        have hL := len_of hl
        generalize hd : decR l n = r at *
        unfold decR at hd
        unfold decC at hc
        simp only [Bool.and_eq_true, Bool.or_eq_true, decide_eq_true_eq] at hc
        obtain ⟨⟨c1, c2⟩, c3⟩ := hc
        have hA : (byt l 0 < 194 ∧ 128 ≤ byt l 0) ∨ 244 < byt l 0 := by
          unfold annB at ha
          repeat' split at ha
          all_goals omega
        rcases hlo with ⟨rfl, h⟩ | ⟨rfl, h⟩ | ⟨rfl, h⟩ | ⟨rfl, h⟩
        · rw [if_pos (by omega)] at hd; omega
        · have c1 := cont_bd (c1.resolve_left (by omega))
          simp only [show ¬ ((2 : Int) < 2) from by omega, if_false, show ((2 : Int) < 3) from by omega, if_true] at hd
          omega
        · omega
        · have c1 := cont_bd (c1.resolve_left (by omega))
          have c2 := cont_bd (c2.resolve_left (by omega))
          have c3 := cont_bd (c3.resolve_left (by omega))
          simp only [show ¬ ((4 : Int) < 2) from by omega, if_false, show ¬ ((4 : Int) < 3) from by omega, show ¬ ((4 : Int) < 4) from by omega] at hd
          omega
      · omega
    exact dec_yes ha (by omega) hlen rfl hc hl
  · rw [if_neg]
    · rcases ann_refN (byt l 0) with ha | ha
      · exact dec_no (by omega) (.inl ha)
      · exact dec_cut (ha.trans hn) (by omega) hlen fun _ => hl
    · rintro ⟨_, he⟩
      apply hl
      have := encL_len (decR l n)
      rw [he] at this
      simp at this
      omega

/-- Valid. -/
def validF : Nat → List UInt8 → Bool
  | _, [] => true
  | 0, _ => false
  | f + 1, l => if (decL l).2.2 = 0 then validF f (l.drop (decL l).2.1.toNat) else false
def validL (l : List UInt8) : Bool := validF l.length l
theorem validF_nil (f : Nat) : validF f [] = true := by cases f <;> rfl
theorem dec_pos {l : List UInt8} (h : (decL l).2.2 = 0) : 1 ≤ (decL l).2.1 ∧ (decL l).2.1 ≤ l.length := by
  rcases dec_inv l with ⟨n, r, he, h1, h2, h3, _⟩ | ⟨_, he⟩ | ⟨_, he⟩
  · rw [he]; exact ⟨h1, h3⟩
  · rw [he] at h; cases h
  · rw [he] at h; cases h
theorem validF_ge : ∀ (f : Nat) (l : List UInt8), l.length ≤ f → validF f l = validF l.length l := by
  intro f
  induction f using Nat.strongRecOn with
  | ind f ih =>
    intro l hl
    cases l with
    | nil => rw [validF_nil, validF_nil]
    | cons a l =>
      cases f with
      | zero => simp at hl
      | succ f =>
        simp only [List.length_cons, validF]
        split
        · next h =>
          have hp := dec_pos h
          have hlen : ((a :: l).drop (decL (a :: l)).2.1.toNat).length ≤ l.length := by rw [List.length_drop]; simp only [List.length_cons] at hp ⊢; omega
          simp only [List.length_cons] at hl
          rw [ih f (by omega) _ (by omega)]
          by_cases hfl : l.length = f
          · rw [hfl, ih f (by omega) _ (by omega)]
          · rw [ih l.length (by omega) _ hlen]
        · rfl
theorem validL_nil : validL [] = true := rfl
theorem validL_step {l : List UInt8} (h : l ≠ []) : validL l = if (decL l).2.2 = 0 then validL (l.drop (decL l).2.1.toNat) else false := by
  cases l with
  | nil => exact absurd rfl h
  | cons a l =>
    unfold validL
    simp only [List.length_cons, validF]
    split
    · next h =>
      have hp := dec_pos h
      rw [validF_ge l.length _ (by rw [List.length_drop]; simp only [List.length_cons] at hp ⊢; omega)]
    · rfl

/-- Count. -/
def cntL (l : List UInt8) : Nat := (l.filter fun b => !contB (b.toNat : Int)).length
theorem cnt_le (l : List UInt8) : cntL l ≤ l.length := List.length_filter_le _ _
theorem cnt_snoc (l : List UInt8) (k : Nat) (h : k < l.length) : cntL (l.take (k + 1)) = cntL (l.take k) + if contB (byt l k) then 0 else 1 := by
  unfold cntL
  rw [List.take_succ_eq_append_getElem h, List.filter_append]
  have e : byt l k = (l[k].toNat : Int) := by unfold byt; rw [List.getD_eq_getElem?_getD, List.getElem?_eq_getElem h]; rfl
  rw [e]
  by_cases hc : contB (l[k].toNat : Int) <;> simp [hc]

/-- The first boundary of f candidates from n on; the last boundary below n. -/
def upF (l : List UInt8) : Nat → Int → Int × Bool
  | 0, _ => (0, false)
  | f + 1, n => if bndB l n then (n, true) else upF l f (n + 1)
def dnF (l : List UInt8) : Nat → Int × Bool
  | 0 => (0, false)
  | k + 1 => if bndB l (k : Int) then ((k : Int), true) else dnF l k
def nextL (l : List UInt8) (n : Int) : Int × Bool := upF l (l.length - max n (-1)).toNat (max n (-1) + 1)
def prevL (l : List UInt8) (n : Int) : Int × Bool := dnF l (min n (l.length + 1)).toNat
def clipL (l : List UInt8) (n : Int) : List UInt8 := l.take (prevL l (n + 1)).1.toNat
theorem dnF_bd (l : List UInt8) : ∀ k : Nat, 0 ≤ (dnF l k).1 ∧ (dnF l k).1 ≤ k := by
  intro k
  induction k with
  | zero => simp [dnF]
  | succ k ih =>
    unfold dnF
    split
    · simp; omega
    · omega
theorem dnF_le (l : List UInt8) : ∀ k : Nat, (dnF l k).1 ≤ l.length := by
  intro k
  induction k with
  | zero => simp [dnF]
  | succ k ih =>
    unfold dnF
    split
    · next h =>
      unfold bndB at h
      simp at h
      show (k : Int) ≤ _
      omega
    · exact ih
end Go.Proofs.Ytmachjjnhphhbaa
