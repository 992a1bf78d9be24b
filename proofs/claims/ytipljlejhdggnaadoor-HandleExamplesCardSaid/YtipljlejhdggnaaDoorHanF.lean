/- Parse of handle and of its reference. -/
import Derived.Test.YtipljlejhdggnaaDoorHanE
namespace Go.Proofs.YtipljlejhdggnaaDoor
open Go.RowKit

def pg (f o1 o2 g1 g2 : Bool) (v1 v2 : Int) : Int × Int :=
  if (f && o1 && o2) = true then (if (g1 || g2 || decide (16384 ≤ v1)) = true then (0, 3) else (makeH v1 v2, makeE v1 v2)) else (0, 4)
def rg (o1 o2 : Bool) (r1 r2 : Int) : Int × Int :=
  if (o1 && o2) = true then (if 16384 ≤ r1 then (0, 3) else (makeH r1 r2, makeE r1 r2)) else (0, 4)
def val (l : List UInt8) : Int := valN l l.length
def parseP (l : List UInt8) : Int × Int :=
  if Lib.indexByte l 46 = -1 then (0, 4)
  else if (numOk (l.take (Lib.indexByte l 46).toNat) && numOk (l.drop ((Lib.indexByte l 46).toNat + 1))) = true then
    (makeH (val (l.take (Lib.indexByte l 46).toNat)) (val (l.drop ((Lib.indexByte l 46).toNat + 1))), makeE (val (l.take (Lib.indexByte l 46).toNat)) (val (l.drop ((Lib.indexByte l 46).toNat + 1))))
  else (0, 4)

theorem num_ways {l : List UInt8} (h : numOk l = true) : 0 ≤ val l ∧ 0 ≤ numV l ∧ numV l ≤ 42949672959 ∧ 0 ≤ numR l ∧ numR l ≤ big ∧ ((val l ≤ 4294967295 ∧ numV l = val l ∧ numG l = false ∧ numR l = val l) ∨ (4294967295 < val l ∧ 4294967295 < numV l ∧ 4294967295 < numR l)) := by
  have hd : allD l l.length = true := by unfold numOk at h; rw [Bool.and_eq_true] at h; exact h.2
  have hv : numV l = (pvN l l.length).1 := (numV_yes rfl h).symm
  have hg : numG l = (pvN l l.length).2 := (numG_yes rfl h).symm
  have hr : numR l = rvN l l.length := (numR_yes rfl h).symm
  obtain ⟨i1, i2, i3, i4, i5, i6, i7⟩ := val_bd hd
  unfold val
  rw [hv, hg, hr]
  refine ⟨i1, i2, i3, i4, i5, ?_⟩
  by_cases hx : valN l l.length ≤ 4294967295
  · left
    have := i6 hx
    rw [this.1, this.2]
    exact ⟨hx, rfl, rfl, rfl⟩
  · right
    have := i7 (by omega)
    exact ⟨by omega, this.1, this.2⟩

theorem mk_no {s g : Int} (h : ¬ (0 ≤ s ∧ s < 16384 ∧ 1 ≤ g ∧ g ≤ 4294967295)) : makeH s g = 0 ∧ makeE s g = 3 := by
  have := makeOk_no h
  unfold makeH makeE
  rw [this]
  exact ⟨rfl, rfl⟩

theorem pg_eq {l r : List UInt8} (h1 : numOk l = true) (h2 : numOk r = true) : pg true (numOk l) (numOk r) (numG l) (numG r) (numV l) (numV r) = (makeH (val l) (val r), makeE (val l) (val r)) := by
  obtain ⟨a1, a2, a3, a4, a5, a6⟩ := num_ways h1
  obtain ⟨b1, b2, b3, b4, b5, b6⟩ := num_ways h2
  unfold pg
  rw [h1, h2, if_pos (by decide : (true && true && true) = true)]
  rcases a6 with ⟨a6, a7, a8, a9⟩ | ⟨a6, a7, a8⟩
  · rcases b6 with ⟨b6, b7, b8, b9⟩ | ⟨b6, b7, b8⟩
    · rw [a7, a8, b7, b8]
      simp only [Bool.false_or, decide_eq_true_eq]
      split
      · rw [(mk_no (s := val l) (g := val r) (by omega)).1, (mk_no (s := val l) (g := val r) (by omega)).2]
      · rfl
    · rw [(mk_no (s := val l) (g := val r) (by omega)).1, (mk_no (s := val l) (g := val r) (by omega)).2]
      split
      · rfl
      · rw [(mk_no (s := numV l) (g := numV r) (by omega)).1, (mk_no (s := numV l) (g := numV r) (by omega)).2]
  · rw [(mk_no (s := val l) (g := val r) (by omega)).1, (mk_no (s := val l) (g := val r) (by omega)).2]
    split
    · rfl
    · rw [(mk_no (s := numV l) (g := numV r) (by omega)).1, (mk_no (s := numV l) (g := numV r) (by omega)).2]

theorem rg_eq {l r : List UInt8} (h1 : numOk l = true) (h2 : numOk r = true) : rg (numOk l) (numOk r) (numR l) (numR r) = (makeH (val l) (val r), makeE (val l) (val r)) := by
  obtain ⟨a1, a2, a3, a4, a5, a6⟩ := num_ways h1
  obtain ⟨b1, b2, b3, b4, b5, b6⟩ := num_ways h2
  unfold rg
  rw [h1, h2, if_pos (by decide : (true && true) = true)]
  rcases a6 with ⟨a6, a7, a8, a9⟩ | ⟨a6, a7, a8⟩
  · rcases b6 with ⟨b6, b7, b8, b9⟩ | ⟨b6, b7, b8⟩
    · rw [a9, b9]
      split
      · rw [(mk_no (s := val l) (g := val r) (by omega)).1, (mk_no (s := val l) (g := val r) (by omega)).2]
      · rfl
    · rw [(mk_no (s := val l) (g := val r) (by omega)).1, (mk_no (s := val l) (g := val r) (by omega)).2]
      split
      · rfl
      · rw [(mk_no (s := numR l) (g := numR r) (by omega)).1, (mk_no (s := numR l) (g := numR r) (by omega)).2]
  · rw [(mk_no (s := val l) (g := val r) (by omega)).1, (mk_no (s := val l) (g := val r) (by omega)).2]
    split
    · rfl
    · rw [(mk_no (s := numR l) (g := numR r) (by omega)).1, (mk_no (s := numR l) (g := numR r) (by omega)).2]

theorem index_of {l : List UInt8} {k : Nat} (hk : k < l.length) (h : byt l k = 46) (hm : ∀ j, j < k → byt l j ≠ 46) : Lib.indexByte l 46 = k := by
  have at46 : ∀ {j}, j < l.length → byt l j = 46 → l[j]? = some 46 := by
    intro j hj h
    unfold byt at h
    rw [List.getD_eq_getElem?_getD] at h
    rw [List.getElem?_eq_getElem hj] at h ⊢
    simp at h
    have h' : (l[j]).toNat = 46 := by omega
    exact congrArg some (UInt8.toNat.inj h')
  have from46 : ∀ {j}, l[j]? = some 46 → byt l j = 46 := by
    intro j h
    unfold byt
    rw [List.getD_eq_getElem?_getD, h]
    rfl
  have hge := Lib.indexByte_ge l 46
  by_cases e : Lib.indexByte l 46 = -1
  · exact absurd (at46 hk h) (Lib.indexByte_none e k)
  · obtain ⟨o, ho⟩ : ∃ o : Nat, Lib.indexByte l 46 = o := ⟨(Lib.indexByte l 46).toNat, by omega⟩
    obtain ⟨h1, h2⟩ := Lib.indexByte_some ho
    rw [ho]
    have : o = k := by
      rcases Nat.lt_trichotomy o k with x | x | x
      · exact absurd (from46 h1) (hm o x)
      · exact x
      · exact absurd (at46 hk h) (h2 k x)
    rw [this]

theorem index_no {l : List UInt8} (hm : ∀ j, j < l.length → byt l j ≠ 46) : Lib.indexByte l 46 = -1 := by
  have hge := Lib.indexByte_ge l 46
  by_cases e : Lib.indexByte l 46 = -1
  · exact e
  · obtain ⟨o, ho⟩ : ∃ o : Nat, Lib.indexByte l 46 = o := ⟨(Lib.indexByte l 46).toNat, by omega⟩
    obtain ⟨h1, _⟩ := Lib.indexByte_some ho
    have hlt : o < l.length := (List.getElem?_eq_some_iff.1 h1).1
    refine absurd ?_ (hm o hlt)
    unfold byt
    rw [List.getD_eq_getElem?_getD, h1]
    rfl
theorem index_lt {l : List UInt8} {i : Nat} (h : Lib.indexByte l 46 = i) : i < l.length := (List.getElem?_eq_some_iff.1 (Lib.indexByte_some h).1).1

theorem parse_miss {l : List UInt8} (h : Lib.indexByte l 46 = -1) : parseP l = (0, 4) := by unfold parseP; rw [if_pos h]
theorem parse_bad {l : List UInt8} {i : Nat} (h : Lib.indexByte l 46 = i) (h2 : (numOk (l.take i) && numOk (l.drop (i + 1))) = false) : parseP l = (0, 4) := by
  unfold parseP
  rw [h, if_neg (by omega), if_neg (by simp only [Int.toNat_natCast]; rw [h2]; decide)]
theorem parse_ok {l : List UInt8} {i : Nat} (h : Lib.indexByte l 46 = i) (h2 : (numOk (l.take i) && numOk (l.drop (i + 1))) = true) : parseP l = (makeH (val (l.take i)) (val (l.drop (i + 1))), makeE (val (l.take i)) (val (l.drop (i + 1)))) := by
  unfold parseP
  rw [h, if_neg (by omega), if_pos (by simp only [Int.toNat_natCast]; rw [h2])]
  rfl
theorem pg_bad (f o1 o2 g1 g2 : Bool) (v1 v2 : Int) (h : (f && o1 && o2) = false) : pg f o1 o2 g1 g2 v1 v2 = (0, 4) := by unfold pg; rw [if_neg (by rw [h]; decide)]
theorem rg_bad (o1 o2 : Bool) (v1 v2 : Int) (h : (o1 && o2) = false) : rg o1 o2 v1 v2 = (0, 4) := by unfold rg; rw [if_neg (by rw [h]; decide)]
theorem pg_parse {l : List UInt8} {i : Nat} (h : Lib.indexByte l 46 = i) : pg true (numOk (l.take i)) (numOk (l.drop (i + 1))) (numG (l.take i)) (numG (l.drop (i + 1))) (numV (l.take i)) (numV (l.drop (i + 1))) = parseP l := by
  cases h2 : (numOk (l.take i) && numOk (l.drop (i + 1))) with
  | false => rw [parse_bad h h2, pg_bad _ _ _ _ _ _ _ (by simpa using h2)]
  | true =>
    rw [parse_ok h h2]
    rw [Bool.and_eq_true] at h2
    exact pg_eq h2.1 h2.2
theorem rg_parse {l : List UInt8} {i : Nat} (h : Lib.indexByte l 46 = i) : rg (numOk (l.take i)) (numOk (l.drop (i + 1))) (numR (l.take i)) (numR (l.drop (i + 1))) = parseP l := by
  cases h2 : (numOk (l.take i) && numOk (l.drop (i + 1))) with
  | false => rw [parse_bad h h2, rg_bad _ _ _ _ h2]
  | true =>
    rw [parse_ok h h2]
    rw [Bool.and_eq_true] at h2
    exact rg_eq h2.1 h2.2
end Go.Proofs.YtipljlejhdggnaaDoor
