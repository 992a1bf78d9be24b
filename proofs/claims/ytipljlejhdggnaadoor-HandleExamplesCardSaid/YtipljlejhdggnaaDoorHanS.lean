/- handle.Sort, by the shelf's contracts. -/
import Derived.Test.YtipljlejhdggnaaDoorHanG
import Derived.Shelf.SlSortCmp.Whole1
import Derived.Shelf.SlicesE.Clone
import Derived.Shelf.SlicesE.Compact
import Derived.Sort.OwnSortedInts
import Derived.Lib.RowBridge
import Derived.WalkKit
namespace Go.Proofs.YtipljlejhdggnaaDoor
open Go.Shelf Go.RowKit Go.Lib Go.Sort

/-- A handle in the memory. -/
def hv (u : UInt64) : Value := .int .u64 (u.toNat : Int)
theorem hv_one : OneCell hv := fun _ => rfl
theorem hv_eql (T : TypeId) : EqlAt Tryd.prog T hv (fun x y => decide (x = y)) :=
  ⟨fun x y w => by
    have h := (EqlAt.int Tryd.prog T .u64).1 (x.toNat : Int) (y.toNat : Int) w
    unfold hv
    rw [h]
    refine congrArg (fun b => Result.ok (Value.bool b) w) ?_
    rw [Bool.eq_iff_iff]
    simp only [beq_iff_eq, decide_eq_true_eq]
    constructor
    · intro e; exact UInt64.toNat_inj.1 (by omega)
    · intro e; rw [e],
   fun op a b x y w => GuardAt.int Tryd.prog T .u64 op a b _ _ w⟩

/-- The closure's comparison. -/
def cfH (x y : UInt64) : Int :=
  if x.toNat % 65536 = y.toNat % 65536 then (if x.toNat < y.toNat then -1 else if y.toNat < x.toNat then 1 else 0)
  else (if x.toNat % 65536 < y.toNat % 65536 then -1 else 1)
def ltH (x y : UInt64) : Bool := decide (x.toNat % 65536 < y.toNat % 65536 ∨ (x.toNat % 65536 = y.toNat % 65536 ∧ x.toNat < y.toNat))
theorem ltOf_cfH : ltOf cfH = ltH := by
  funext x y
  unfold ltOf cfH ltH
  by_cases h1 : x.toNat % 65536 = y.toNat % 65536
  · by_cases h2 : x.toNat < y.toNat
    · simp [h1, h2]
    · by_cases h3 : y.toNat < x.toNat <;> simp [h1, h2, h3]
  · by_cases h2 : x.toNat % 65536 < y.toNat % 65536 <;> simp [h1, h2]
theorem swoH : SWO ltH where
  irrefl x := by unfold ltH; simp
  trans x y z h1 h2 := by unfold ltH at *; simp at *; omega
  ntrans x y z h1 h2 := by unfold ltH at *; simp at *; omega
theorem totH (x y : UInt64) (h1 : ltH x y = false) (h2 : ltH y x = false) : x = y := by
  unfold ltH at *
  simp at *
  exact UInt64.toNat_inj.1 (by omega)

theorem cl_low (x : UInt64) : bits .and .u64 (x.toNat : Int) 65535 = ((x.toNat % 65536 : Nat) : Int) := by
  have := x.toNat_lt
  rw [low_u64 _ (by omega) (by omega)]
  omega

set_option maxHeartbeats 1000000 in
theorem closure_any (x y : UInt64) (W : World) : Calls Tryd.prog 41 #[hv x, hv y] W fun e w' => e = .returned (.int .i64 (cfH x y)) ∧ w' = W := by
  unfold hv
  have hx := cl_low x
  have hy := cl_low y
  obtain ⟨a, ha⟩ : ∃ a, a = x.toNat := ⟨_, rfl⟩
  obtain ⟨b, hb⟩ : ∃ b, b = y.toNat := ⟨_, rfl⟩
  rw [← ha] at hx
  rw [← hb] at hy
  rw [← ha, ← hb]
  have Ha := Lib.hid ha
  have Hb := Lib.hid hb
  clear ha hb
  go_enter Tryd.func41, Tryd.ntmps41
  go_wp2
  all_goals go_returns
  all_goals refine ⟨ret_int ?_, rfl⟩
  all_goals (unfold cfH; rw [← Ha.out, ← Hb.out]; clear hx hy Ha Hb; simp at *)
  all_goals (repeat' split)
  all_goals omega

/-! ### rows of handles in the memory -/
theorem holds_h {w : World} {g : Nat} {cur : Array Value} {e : TypeId} {ss : List UInt64} (hb : w.heap[g]? = some (.cells cur e (0, 0))) (ht : cur.toList.take ss.length = ss.map hv) : Holds hv w g 0 ss.toArray := by
  intro j hj
  have hj' : j < ss.length := by simpa using hj
  refine ⟨?_, by simp [World.frozen?, hb]⟩
  have h1 : (cur.toList.take ss.length)[j]? = (ss.map hv)[j]? := by rw [ht]
  rw [List.getElem?_take_of_lt hj'] at h1
  simp only [World.cell?, hb, Nat.zero_add]
  simp only [Option.isSome_none, Bool.false_eq_true, if_false]
  rw [← Array.getElem?_toList, h1]
  simp [hj']

theorem heap_put {w : World} {g n : Nat} {os : Array Obj} {cur : Array Value} {e : TypeId} {fr : Nat × Nat} (d : Array UInt64) (hb : w.heap[g]? = some (.cells cur e fr)) :
    (grow (putRow hv (Sort.ahead w n) g 0 d) os).heap[g]? = some (.cells (putCells hv 0 d cur) e fr) := by
  have hg : g < w.heap.size := (Array.getElem?_eq_some_iff.1 hb).1
  rw [Sort.heap_grow_old _ _ (by simpa using hg)]
  simp [putRow, mapBlock, Sort.ahead, Array.getElem?_modify, hb, onCells]

theorem grownBy_put {w : World} {g n : Nat} {os : Array Obj} (d : Array UInt64) : w.grownBy (grow (putRow hv (Sort.ahead w n) g 0 d) os) (some g) := by
  refine ⟨rfl, rfl, rfl, by simp, fun k hk hne => ?_⟩
  rw [Sort.heap_grow_old _ _ (by simpa using hk)]
  have : g ≠ k := fun e => hne (by rw [e])
  simp [putRow, mapBlock, Sort.ahead, Array.getElem?_modify, this]

theorem take_put (cur : Array Value) (ts : List UInt64) (k : Nat) (hk : k ≤ ts.length) (h : ts.length ≤ cur.size) : (putCells hv 0 ts.toArray cur).toList.take k = (ts.take k).map hv := by
  apply List.ext_getElem?
  intro j
  by_cases hj : j < k
  · rw [List.getElem?_take_of_lt hj, Array.getElem?_toList]
    simp [putCells, hj, show j < cur.size by omega, show j < ts.length by omega]
  · rw [List.getElem?_take_eq_none (by omega), List.getElem?_eq_none (by simp; omega)]

theorem ownsRow_put {w : World} {base g cap n k : Nat} {e : TypeId} {os : Array Obj} {cur : Array Value} {ts : List UInt64} (hk : k ≤ ts.length) (hbase : base ≤ g) (hb : w.heap[g]? = some (.cells cur e (0, 0)))
    (h1 : ts.length ≤ cap) (h2 : cap ≤ maxLen) (h3 : cur.size = cap * 1) :
    (grow (putRow hv (Sort.ahead w n) g 0 ts.toArray) os).ownsRow base e 1 (.slice (some ⟨g, 0, none⟩) k cap) k ((ts.take k).map hv) :=
  ⟨by simp [hk], .inr ⟨g, cap, _, rfl, hbase, heap_put _ hb, by omega, h2, by simp [putCells, h3], by rw [Nat.mul_one]; exact take_put cur ts k hk (by omega)⟩⟩
end Go.Proofs.YtipljlejhdggnaaDoor
