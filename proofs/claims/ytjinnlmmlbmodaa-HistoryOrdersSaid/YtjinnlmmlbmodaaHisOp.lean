/- HistoryOrders: the plain law. -/
import Derived.Test.YtjinnlmmlbmodaaHisTh
namespace Go.Proofs.Ytjinnlmmlbmodaa
open Go.RowKit Go.Lib Go.Shelf

/-- The place that a number is brought to. -/
def kOf (n : Nat) (z : Int) : Nat := (z % (n : Int)).toNat
theorem kOf_lt {n : Nat} (h : 0 < n) (z : Int) : kOf n z < n := by
  unfold kOf
  have h1 := Int.emod_nonneg z (show (n : Int) ≠ 0 by omega)
  have h2 := Int.emod_lt_of_pos z (show (0 : Int) < n by omega)
  omega
theorem tmod_in {n : Nat} (h : 0 < n) (z : Int) : -(n : Int) < z.tmod n ∧ z.tmod n < n :=
  ⟨Int.lt_tmod_of_pos z (by omega), Int.tmod_lt_of_pos z (by omega)⟩
theorem kOf_go {n : Nat} (h : 0 < n) (z : Int) : (z.tmod n + n).tmod n = (kOf n z : Int) := by
  have h1 := Int.emod_nonneg z (show (n : Int) ≠ 0 by omega)
  have h3 := tmod_in h z
  rw [Int.tmod_eq_emod_of_nonneg (by omega)]
  unfold kOf
  rw [Int.toNat_of_nonneg h1, Int.add_emod_right, Int.tmod_def, Int.sub_mul_emod_self_left]
/-- An order's numbers, brought to places, without repetitions. -/
def stepO (n : Nat) (acc : List Nat) (z : Int) : List Nat := if kOf n z ∈ acc then acc else acc ++ [kOf n z]
def ordL (n : Nat) (l : List Int) : List Nat := l.foldl (stepO n) []
theorem ordL_step {n : Nat} {l : List Int} {i : Nat} {z : Int} (h : l[i]? = some z) : ordL n (l.take (i + 1)) = stepO n (ordL n (l.take i)) z := by
  unfold ordL
  rw [List.take_add_one, h, Option.toList_some, List.foldl_append]
  rfl
theorem ordL_facts {n : Nat} (h : 0 < n) : ∀ (l : List Int) (acc : List Nat), acc.Nodup → (∀ k ∈ acc, k < n) → (l.foldl (stepO n) acc).Nodup ∧ (∀ k ∈ l.foldl (stepO n) acc, k < n) ∧ (l.foldl (stepO n) acc).length ≤ acc.length + l.length
  | [], acc, h1, h2 => ⟨h1, h2, by simp⟩
  | z :: l, acc, h1, h2 => by
    rw [List.foldl_cons]
    have hs : (stepO n acc z).Nodup ∧ (∀ k ∈ stepO n acc z, k < n) ∧ (stepO n acc z).length ≤ acc.length + 1 := by
      unfold stepO
      split
      · exact ⟨h1, h2, by omega⟩
      · rename_i hm
        refine ⟨?_, fun k hk => ?_, by simp⟩
        · rw [List.nodup_append]
          exact ⟨h1, by simp, fun a ha b hb e => by rw [List.mem_singleton.1 hb] at e; subst e; exact hm ha⟩
        · rcases List.mem_append.1 hk with hk | hk
          · exact h2 k hk
          · rw [List.mem_singleton.1 hk]; exact kOf_lt h z
    obtain ⟨a1, a2, a3⟩ := ordL_facts h l _ hs.1 hs.2.1
    refine ⟨a1, a2, ?_⟩
    rw [List.length_cons]
    omega
theorem ordL_ok {n : Nat} (h : 0 < n) (l : List Int) : (ordL n l).Nodup ∧ (∀ k ∈ ordL n l, k < n) ∧ (ordL n l).length ≤ l.length := by
  have := ordL_facts h l [] List.nodup_nil (fun k hk => by cases hk)
  rw [List.length_nil, Nat.zero_add] at this
  exact this
theorem plc_cast (O : List Nat) (k : Nat) : plc (O.map fun (n : Nat) => (n : Int)) k = if k ∈ O then (O.idxOf k : Int) + 1 else 0 := by
  unfold plc
  by_cases h : k ∈ O
  · rw [if_pos (mem_cast.2 h), if_pos h, idx_cast]
  · rw [if_neg (fun h2 => h (mem_cast.1 h2)), if_neg h]
/-- What the law tests of a place of the order and a call. -/
def okO (O : List Nat) (hs : List CallV) (i k : Nat) : Bool :=
  match hs[k]?, (O[i]?).bind (hs[·]?) with
  | some a, some b => !(befB a b && (decide (plc (O.map fun (n : Nat) => (n : Int)) k = 0) || decide ((i : Int) + 1 < plc (O.map fun (n : Nat) => (n : Int)) k)))
  | _, _ => true
def rowO (O : List Nat) (hs : List CallV) (i k : Nat) : Bool := (List.range k).all fun j => okO O hs i j
def wantO (O : List Nat) (hs : List CallV) (i : Nat) : Bool := (List.range i).all fun j => rowO O hs j hs.length
theorem rowO_succ (O : List Nat) (hs : List CallV) (i k : Nat) : rowO O hs i (k + 1) = (rowO O hs i k && okO O hs i k) := by
  unfold rowO
  rw [List.range_succ, List.all_append]
  simp
theorem wantO_succ (O : List Nat) (hs : List CallV) (i : Nat) : wantO O hs (i + 1) = (wantO O hs i && rowO O hs i hs.length) := by
  unfold wantO
  rw [List.range_succ, List.all_append]
  simp
theorem okO_at {O : List Nat} {hs : List CallV} {i k x : Nat} {a b : CallV} (hx : O[i]? = some x) (ha : hs[k]? = some a) (hb : hs[x]? = some b) :
    okO O hs i k = !(befB a b && (decide (plc (O.map fun (n : Nat) => (n : Int)) k = 0) || decide ((i : Int) + 1 < plc (O.map fun (n : Nat) => (n : Int)) k))) := by
  unfold okO
  rw [ha, hx]
  simp only [Option.bind_some, hb]
theorem agrees_ord {hs : List CallV} {O : List Nat} (h0 : (checkP hs).2 = 0) (hn : O.Nodup) (hl : ∀ k ∈ O, k < hs.length) : agreesP (O.map fun (n : Nat) => (n : Int)) hs = (wantO O hs O.length, 0) := by
  have hord : ordE hs.length [] (O.map fun (n : Nat) => (n : Int)) = 0 := by
    refine ordE_zero _ _ (fun x hx => ?_) (fun x _ h => by cases h) ?_
    · obtain ⟨i, hi, rfl⟩ := List.mem_map.1 hx
      have := hl i hi
      omega
    · refine List.Pairwise.map _ ?_ hn
      intro a b h; omega
  unfold agreesP
  rw [if_pos h0, if_pos hord]
  congr 1
  rw [Bool.eq_iff_iff]
  constructor
  · intro h
    unfold wantO
    rw [List.all_eq_true]
    intro i hi
    unfold rowO
    rw [List.all_eq_true]
    intro k hk
    have hi2 := List.mem_range.1 hi
    have hk2 := List.mem_range.1 hk
    have hx := List.getElem?_eq_getElem hi2
    have hxm : O[i] ∈ O := List.getElem_mem hi2
    have hxl := hl _ hxm
    rw [okO_at hx (List.getElem?_eq_getElem hk2) (List.getElem?_eq_getElem hxl)]
    unfold okPairs at h
    rw [List.all_eq_true] at h
    have h1 := h k hk
    rw [List.all_eq_true] at h1
    have h2 := h1 O[i] (List.mem_range.2 hxl)
    unfold pairB at h2
    rw [List.getElem?_eq_getElem hk2, List.getElem?_eq_getElem hxl] at h2
    have hp : plc (O.map fun (n : Nat) => (n : Int)) O[i] = (i : Int) + 1 := by
      rw [plc_cast, if_pos hxm, hn.idxOf_getElem]
    simp only [hp] at h2
    have hne : decide ((i : Int) + 1 ≠ 0) = true := by simp; omega
    rw [hne, Bool.true_and] at h2
    exact h2
  · intro h
    refine pairs_yes fun i j hi hj => ?_
    unfold pairB
    rw [List.getElem?_eq_getElem hi, List.getElem?_eq_getElem hj]
    by_cases hjm : j ∈ O
    · have hlt := List.idxOf_lt_length_iff.2 hjm
      unfold wantO at h
      rw [List.all_eq_true] at h
      have h1 := h (O.idxOf j) (List.mem_range.2 hlt)
      unfold rowO at h1
      rw [List.all_eq_true] at h1
      have h2 := h1 i (List.mem_range.2 hi)
      rw [okO_at (x := j) (by rw [List.getElem?_eq_getElem hlt, List.getElem_idxOf hlt]) (List.getElem?_eq_getElem hi) (List.getElem?_eq_getElem hj)] at h2
      have hp : plc (O.map fun (n : Nat) => (n : Int)) j = (O.idxOf j : Int) + 1 := by rw [plc_cast, if_pos hjm]
      simp only [hp]
      have hne : decide ((O.idxOf j : Int) + 1 ≠ 0) = true := by simp; omega
      rw [hne, Bool.true_and]
      exact h2
    · have hp : plc (O.map fun (n : Nat) => (n : Int)) j = 0 := by rw [plc_cast, if_neg hjm]
      simp [hp]
end Go.Proofs.Ytjinnlmmlbmodaa
