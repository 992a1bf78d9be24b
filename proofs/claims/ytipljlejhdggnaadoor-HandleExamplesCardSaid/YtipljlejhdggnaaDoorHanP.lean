/- Plain functions of layer 10: numbers in decimal digits, and texts of handles. No program is named here. -/
import Derived.Lib.Strings
import Derived.Lib.ItoaNum
namespace Go.Proofs.YtipljlejhdggnaaDoor

def byt (l : List UInt8) (k : Nat) : Int := ((l.getD k 0).toNat : Int)
theorem byt_mk (s : ByteArray) (k : Nat) (h : k < s.size) : ((s[k]).toNat : Int) = byt s.data.toList k := by
  unfold byt
  have : s.data.toList.getD k 0 = s[k] := by
    rw [List.getD_eq_getElem?_getD, List.getElem?_eq_getElem (by simpa using h)]; rfl
  rw [this]
theorem byt_lo (l : List UInt8) (k : Nat) : 0 ≤ byt l k := by unfold byt; omega
theorem byt_hi (l : List UInt8) (k : Nat) : byt l k ≤ 255 := by unfold byt; have := (l.getD k 0).toNat_lt; omega
def digB (b : Int) : Bool := decide (48 ≤ b ∧ b ≤ 57)
theorem digB_of {b : Int} (h : digB b = true) : 48 ≤ b ∧ b ≤ 57 := by unfold digB at h; simpa using h
theorem digB_not {b : Int} (h : digB b = false) : b < 48 ∨ 57 < b := by unfold digB at h; simp at h; omega
def allD (l : List UInt8) : Nat → Bool
  | 0 => true
  | k + 1 => allD l k && digB (byt l k)
def headB (l : List UInt8) : Bool := decide (1 ≤ l.length ∧ l.length ≤ 20 ∧ (l.length = 1 ∨ byt l 0 ≠ 48))
def numOk (l : List UInt8) : Bool := headB l && allD l l.length
/-- The value of the first k digits; the program's and the reference's way to reckon it. -/
def valN (l : List UInt8) : Nat → Int
  | 0 => 0
  | k + 1 => 10 * valN l k + (byt l k - 48)
def pvN (l : List UInt8) : Nat → Int × Bool
  | 0 => (0, false)
  | k + 1 => if 4294967295 < (pvN l k).1 then ((pvN l k).1, true) else ((pvN l k).1 * 10 + (byt l k - 48), (pvN l k).2)
def lim : Int := 576460752303423488
def big : Int := 9223372036854775808
def rvN (l : List UInt8) : Nat → Int
  | 0 => 0
  | k + 1 => if rvN l k < lim then 10 * rvN l k + (byt l k - 48) else big
theorem allD_lt {l : List UInt8} : ∀ {n : Nat}, allD l n = true → ∀ k, k < n → digB (byt l k) = true := by
  intro n
  induction n with
  | zero => intro _ k hk; omega
  | succ n ih =>
    intro h k hk
    unfold allD at h
    rw [Bool.and_eq_true] at h
    by_cases e : k = n
    · subst e; exact h.2
    · exact ih h.1 k (by omega)
theorem allD_cut {l : List UInt8} {n k : Nat} (hk : k < n) (h : digB (byt l k) = false) : allD l n = false := by
  cases hx : allD l n with
  | false => rfl
  | true => rw [allD_lt hx k hk] at h; cases h
theorem val_bd {l : List UInt8} : ∀ {k : Nat}, allD l k = true → 0 ≤ valN l k ∧ 0 ≤ (pvN l k).1 ∧ (pvN l k).1 ≤ 42949672959 ∧ 0 ≤ rvN l k ∧ rvN l k ≤ big ∧ (valN l k ≤ 4294967295 → pvN l k = (valN l k, false) ∧ rvN l k = valN l k) ∧ (4294967295 < valN l k → 4294967295 < (pvN l k).1 ∧ 4294967295 < rvN l k) := by
  intro k
  induction k with
  | zero => intro _; simp [valN, pvN, rvN, big]
  | succ k ih =>
    intro h
    unfold allD at h
    rw [Bool.and_eq_true] at h
    obtain ⟨i1, i2, i3, i4, i5, i6, i7⟩ := ih h.1
    have hd := digB_of h.2
    unfold big at *
    refine ⟨by unfold valN; omega, ?_, ?_, ?_, ?_, ?_, ?_⟩
    · unfold pvN; split <;> simp <;> omega
    · unfold pvN; split <;> simp <;> omega
    · unfold rvN lim big; split <;> omega
    · unfold rvN lim big; split <;> omega
    · intro hv
      unfold valN at hv
      have := i6 (by omega)
      unfold pvN rvN valN lim
      rw [this.1, this.2, if_neg (by simp; omega), if_pos (by omega)]
      exact ⟨by rw [Int.mul_comm], rfl⟩
    · intro hv
      unfold valN at hv
      by_cases hs : valN l k ≤ 4294967295
      · have := i6 hs
        unfold pvN rvN lim
        rw [this.1, this.2, if_neg (by simp; omega), if_pos (by omega)]
        simp; omega
      · have := i7 (by omega)
        unfold pvN rvN lim big
        rw [if_pos this.1]
        refine ⟨this.1, ?_⟩
        split <;> omega

/-- What number returns: the program's value and mark, the reference's value. -/
def numV (l : List UInt8) : Int := if numOk l then (pvN l l.length).1 else 0
def numG (l : List UInt8) : Bool := numOk l && (pvN l l.length).2
def numR (l : List UInt8) : Int := if numOk l then rvN l l.length else 0
theorem numV_no {l : List UInt8} (h : numOk l = false) : 0 = numV l := by unfold numV; rw [h]; rfl
theorem numG_no {l : List UInt8} (h : numOk l = false) : false = numG l := by unfold numG; rw [h]; rfl
theorem numR_no {l : List UInt8} (h : numOk l = false) : 0 = numR l := by unfold numR; rw [h]; rfl
theorem numV_yes {l : List UInt8} {n : Nat} (hn : l.length = n) (h : numOk l = true) : (pvN l n).1 = numV l := by unfold numV; rw [h, hn]; rfl
theorem numG_yes {l : List UInt8} {n : Nat} (hn : l.length = n) (h : numOk l = true) : (pvN l n).2 = numG l := by unfold numG; rw [h, hn]; rfl
theorem numR_yes {l : List UInt8} {n : Nat} (hn : l.length = n) (h : numOk l = true) : rvN l n = numR l := by unfold numR; rw [h, hn]; rfl

/-- What Parse returns. -/
def dotAt (l : List UInt8) : Nat → Option Nat
  | 0 => none
  | k + 1 => match dotAt l k with | some i => some i | none => if byt l k = 46 then some k else none
end Go.Proofs.YtipljlejhdggnaaDoor
