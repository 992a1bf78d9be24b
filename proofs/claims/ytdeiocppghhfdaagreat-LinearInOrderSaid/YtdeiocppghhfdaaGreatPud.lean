/- The texts MoI MoJ MoQ RfB MoS. -/
import Derived.Test.YtdeiocppghhfdaaGreatPua
import Derived.Test.YtdeiocppghhfdaaGreatPuc
import Derived.Shelf.Spec.SlicesInsertGrow
import Derived.RangeFuncNested
import Derived.RangeFuncBound
import Derived.RangeFuncCalls
import Derived.RangeFuncLeaves
import Derived.RangeFuncFrom
import Derived.Shelf.Abstract
import Derived.Shelf.RegionOpen
import Derived.OwnWalkIn
import Derived.TacticsInMore
import Derived.LoopNIn
import Derived.LoopIn
namespace Go.Proofs.YtdeiocppghhfdaaGreat
set_option linter.unusedVariables false
set_option linter.unusedSimpArgs false
set_option maxRecDepth 100000
set_option maxHeartbeats 8000000
open Go.RowKit
def evB (_ : Int) : Bool := true
theorem every_any (b : Int) (w : World) : Calls Tryz.prog 245 #[.int .u8 b] w fun e w' => e = .returned (.bool (evB b)) ∧ w = w' := by
  go_enter Tryz.func245, Tryz.ntmps245
  go_wp2
  all_goals (go_ret; exact ⟨rfl, rfl⟩)
theorem begins_any (b : Int) (w : World) : Calls Tryz.prog 246 #[.int .u8 b] w fun e w' => e = .returned (.bool (begB b)) ∧ w = w' := by
  go_enter Tryz.func246, Tryz.ntmps246
  go_wp2
  all_goals (go_ret; exact ⟨ret_bool (by rw [Bool.eq_iff_iff]; simp [begB, contB]; try omega), rfl⟩)
theorem feeds_any (b : Int) (w : World) : Calls Tryz.prog 247 #[.int .u8 b] w fun e w' => e = .returned (.bool (feedB b)) ∧ w = w' := by
  go_enter Tryz.func247, Tryz.ntmps247
  go_wp2
  all_goals (go_ret; exact ⟨ret_bool (by rw [Bool.eq_iff_iff]; simp [feedB]), rfl⟩)
theorem count_every (s : ByteArray) (w : World) (hs : s.size ≤ maxLen) : Calls Tryz.prog 248 #[.string s, .func (.func 245) #[] #[]] w fun e w' => e = .returned (.int .i64 (cntB evB s.data.toList)) ∧ w = w' := by
  unfold maxLen at hs
  have hl : s.data.toList.length = s.size := by simp
  have HL := Lib.hid hl; clear hl
  go_enter Tryz.func248, Tryz.ntmps248
  go_wp2
  go_loop [5, 6, 9, 10, 11, 12, 13, 14, 15, 16, 17, 18, 19] (fun n x5 i x6 x7 x8 x9 x10 x11 x12 x13 x14 x15 => ∃ k : Nat, i = .int .i64 k ∧ k ≤ s.size ∧ n = .int .i64 (cntB evB (s.data.toList.take k))) (fun n x5 i x6 x7 x8 x9 x10 x11 x12 x13 x14 x15 => s.size - (intOf i).toNat)
  case atStart => exact ⟨0, rfl, by omega, rfl⟩
  case round =>
    obtain ⟨k, rfl, hk, rfl⟩ := hrel
    have hc := cntB_le evB (s.data.toList.take k)
    rw [List.length_take, HL.out] at hc
    by_cases hlt : k < s.size
    · have hb := byt_mk s k hlt
      have hsn := cntB_snoc evB s.data.toList k (by rw [HL.out]; exact hlt)
      have Hs := Lib.hid hsn; clear hsn
      cases hp : evB (byt s.data.toList k) with
      | true =>
        rw [hp] at Hs
        go_wp2_with (go_at_call 245; refine (every_any _ _).mono ?_; try rw [hp]; rintro e w' ⟨rfl, rfl⟩)
        go_round
        case rel => exact ⟨k + 1, by go_num, by omega, by rw [Hs.out]; go_num⟩
        case measure => simp [intOf]; omega
      | false =>
        rw [hp] at Hs
        go_wp2_with (go_at_call 245; refine (every_any _ _).mono ?_; try rw [hp]; rintro e w' ⟨rfl, rfl⟩)
        go_round
        case rel => exact ⟨k + 1, by go_num, by omega, by rw [Hs.out]; go_num⟩
        case measure => simp [intOf]; omega
    · go_wp2
      go_ret
      exact ⟨by rw [List.take_of_length_le (by rw [HL.out]; omega)]; rfl, rfl⟩
theorem count_begins (s : ByteArray) (w : World) (hs : s.size ≤ maxLen) : Calls Tryz.prog 248 #[.string s, .func (.func 246) #[] #[]] w fun e w' => e = .returned (.int .i64 (cntB begB s.data.toList)) ∧ w = w' := by
  unfold maxLen at hs
  have hl : s.data.toList.length = s.size := by simp
  have HL := Lib.hid hl; clear hl
  go_enter Tryz.func248, Tryz.ntmps248
  go_wp2
  go_loop [5, 6, 9, 10, 11, 12, 13, 14, 15, 16, 17, 18, 19] (fun n x5 i x6 x7 x8 x9 x10 x11 x12 x13 x14 x15 => ∃ k : Nat, i = .int .i64 k ∧ k ≤ s.size ∧ n = .int .i64 (cntB begB (s.data.toList.take k))) (fun n x5 i x6 x7 x8 x9 x10 x11 x12 x13 x14 x15 => s.size - (intOf i).toNat)
  case atStart => exact ⟨0, rfl, by omega, rfl⟩
  case round =>
    obtain ⟨k, rfl, hk, rfl⟩ := hrel
    have hc := cntB_le begB (s.data.toList.take k)
    rw [List.length_take, HL.out] at hc
    by_cases hlt : k < s.size
    · have hb := byt_mk s k hlt
      have hsn := cntB_snoc begB s.data.toList k (by rw [HL.out]; exact hlt)
      have Hs := Lib.hid hsn; clear hsn
      cases hp : begB (byt s.data.toList k) with
      | true =>
        rw [hp] at Hs
        go_wp2_with (go_at_call 246; refine (begins_any _ _).mono ?_; try rw [hp]; rintro e w' ⟨rfl, rfl⟩)
        go_round
        case rel => exact ⟨k + 1, by go_num, by omega, by rw [Hs.out]; go_num⟩
        case measure => simp [intOf]; omega
      | false =>
        rw [hp] at Hs
        go_wp2_with (go_at_call 246; refine (begins_any _ _).mono ?_; try rw [hp]; rintro e w' ⟨rfl, rfl⟩)
        go_round
        case rel => exact ⟨k + 1, by go_num, by omega, by rw [Hs.out]; go_num⟩
        case measure => simp [intOf]; omega
    · go_wp2
      go_ret
      exact ⟨by rw [List.take_of_length_le (by rw [HL.out]; omega)]; rfl, rfl⟩
theorem count_feeds (s : ByteArray) (w : World) (hs : s.size ≤ maxLen) : Calls Tryz.prog 248 #[.string s, .func (.func 247) #[] #[]] w fun e w' => e = .returned (.int .i64 (cntB feedB s.data.toList)) ∧ w = w' := by
  unfold maxLen at hs
  have hl : s.data.toList.length = s.size := by simp
  have HL := Lib.hid hl; clear hl
  go_enter Tryz.func248, Tryz.ntmps248
  go_wp2
  go_loop [5, 6, 9, 10, 11, 12, 13, 14, 15, 16, 17, 18, 19] (fun n x5 i x6 x7 x8 x9 x10 x11 x12 x13 x14 x15 => ∃ k : Nat, i = .int .i64 k ∧ k ≤ s.size ∧ n = .int .i64 (cntB feedB (s.data.toList.take k))) (fun n x5 i x6 x7 x8 x9 x10 x11 x12 x13 x14 x15 => s.size - (intOf i).toNat)
  case atStart => exact ⟨0, rfl, by omega, rfl⟩
  case round =>
    obtain ⟨k, rfl, hk, rfl⟩ := hrel
    have hc := cntB_le feedB (s.data.toList.take k)
    rw [List.length_take, HL.out] at hc
    by_cases hlt : k < s.size
    · have hb := byt_mk s k hlt
      have hsn := cntB_snoc feedB s.data.toList k (by rw [HL.out]; exact hlt)
      have Hs := Lib.hid hsn; clear hsn
      cases hp : feedB (byt s.data.toList k) with
      | true =>
        rw [hp] at Hs
        go_wp2_with (go_at_call 247; refine (feeds_any _ _).mono ?_; try rw [hp]; rintro e w' ⟨rfl, rfl⟩)
        go_round
        case rel => exact ⟨k + 1, by go_num, by omega, by rw [Hs.out]; go_num⟩
        case measure => simp [intOf]; omega
      | false =>
        rw [hp] at Hs
        go_wp2_with (go_at_call 247; refine (feeds_any _ _).mono ?_; try rw [hp]; rintro e w' ⟨rfl, rfl⟩)
        go_round
        case rel => exact ⟨k + 1, by go_num, by omega, by rw [Hs.out]; go_num⟩
        case measure => simp [intOf]; omega
    · go_wp2
      go_ret
      exact ⟨by rw [List.take_of_length_le (by rw [HL.out]; omega)]; rfl, rfl⟩
end Go.Proofs.YtdeiocppghhfdaaGreat
namespace Go.Proofs.YtdeiocppghhfdaaGreat
set_option linter.unusedVariables false
set_option linter.unusedSimpArgs false
set_option maxRecDepth 100000
set_option maxHeartbeats 8000000
open Go.RowKit
theorem run_eql_ints (w : World) (l : List Int) (d : Nat) (t e : TypeId) (n : Nat) (ht : Tryz.prog.underlying t = some (.array n e)) (he : Tryz.prog.underlying e = some (.int .i64)) (hsz : ∀ w, (sizeOf e).run Tryz.prog w = .ok 1 w) (hl : l.length = n) :
    (Op.equalIn (d + 2) t (.agg (l.map (Value.int .i64)).toArray) (.agg (Array.replicate n (.int .i64 0)))).run Tryz.prog w = .ok ((List.range n).all fun i => l.getD i 0 == 0) w := by
  rw [List.range_eq_range', Op.equalIn]
  simp only [Sem.run_bind, run_underlying ht, Result.andThen_ok, hsz, Std.Legacy.Range.forIn_eq_forIn_range', Std.Legacy.Range.size, Nat.sub_zero, Nat.add_sub_cancel, Nat.div_one]
  have hl2 : ∀ i ∈ List.range' 0 n 1, i < n := fun i hi => by simpa using (List.mem_range'_1.1 hi).2
  generalize List.range' 0 n 1 = r at hl2 ⊢
  induction r with
  | nil => simp
  | cons i r ih =>
    have hi : i < n := hl2 i (by simp)
    have px : (part e (l.map (Value.int .i64)).toArray (i * 1)).run Tryz.prog w = .ok (.int .i64 (l.getD i 0)) w := by
      simp [part, isAgg, run_underlying he, List.getD, List.getElem?_eq_getElem (show i < l.length by omega)]
    have py : (part e (Array.replicate n (Value.int .i64 0)) (i * 1)).run Tryz.prog w = .ok (.int .i64 0) w := by
      simp [part, isAgg, run_underlying he, hi]
    have pe : (Op.equalIn (d + 1) e (.int .i64 (l.getD i 0)) (.int .i64 0)).run Tryz.prog w = .ok (l.getD i 0 == 0) w := by
      rw [run_equalIn_int w d e .i64 .i64 _ _ he]
      try simp
    simp only [List.forIn_cons, Sem.run_bind, px, py, pe, Result.andThen_ok, List.all_cons]
    cases hb : (l.getD i 0 == 0)
    · simp
    · simp only [Bool.not_true, Bool.false_eq_true, if_false, Sem.run_pure, Result.andThen_ok, Bool.true_and]
      exact ih fun j hj => hl2 j (by simp [hj])
theorem eq3 (a b c : Int) (w : World) : (binOp .eql 266 (.agg #[.int .i64 a, .int .i64 b, .int .i64 c]) (.agg #[.int .i64 0, .int .i64 0, .int .i64 0])).run Tryz.prog w = .ok (.bool (a == 0 && b == 0 && c == 0)) w := by
  rw [run_eql_struct]
  have h := run_eql_ints w [a, b, c] 9998 266 3 3 Tryz.underlying266 Tryz.underlying3 (fun w => Tryz.sizeOf3 w) rfl
  have h2 : ((List.range 3).all fun i => [a, b, c].getD i 0 == 0) = (a == 0 && b == 0 && c == 0) := by
    simp [List.range_succ, Bool.and_assoc]
  rw [h2] at h
  have h3 : (Array.replicate 3 (Value.int .i64 0)) = #[.int .i64 0, .int .i64 0, .int .i64 0] := rfl
  rw [h3] at h
  have h4 : ([a, b, c].map (Value.int .i64)).toArray = #[.int .i64 a, .int .i64 b, .int .i64 c] := rfl
  rw [h4] at h
  rw [h]
  rfl
theorem new0 (w : World) (cs : Array Value) (t : TypeId) : (w.alloc (.cells cs t)).heap[w.heap.size]? = some (.cells cs t (0, 0)) := heap_alloc_new w _
theorem new1 (w : World) (o : Obj) (cs : Array Value) (t : TypeId) : ((w.alloc o).alloc (.cells cs t)).heap[w.heap.size + 1]? = some (.cells cs t (0, 0)) := by have := heap_alloc_new (w.alloc o) (.cells cs t); rwa [World.size_alloc] at this
def measL (a b c : Int) : List Value := [.int .i64 a, .int .i64 b, .int .i64 c]
theorem run_st {P : Program} {W : World} {g n : Nat} {T : TypeId} {cur : Array Value} (h : W.heap[g]? = some (.cells cur T (0, 0))) (hsz : cur.size = n) (L : List Value) (hL : L.length = n) (h1 : L.toArray.all (·.oneCell') = true) : (storeCells ⟨g, 0, none⟩ L).run P W = .ok () (W.setRow g L.toArray) := by
  have h := run_storeCells_at (P := P) g 0 T L 0 cur W h (by omega) (fun v hv => by rw [Array.all_eq_true'] at h1; exact h1 v (by simpa using hv))
  rw [h]
  congr 2
  rw [List.drop_eq_nil_of_le (by simp; omega)]
  simp
theorem below_row {B g : Nat} {w0 w : World} (hb : Below B w0 w) (hBg : B ≤ g) (cs : Array Value) : Below B w0 (w.setRow g cs) :=
  ⟨hb.os, hb.tape, hb.output, by rw [setRow_size]; exact hb.size, fun k hk => (setRow_other w g k cs (by omega)).trans (hb.block k hk)⟩
theorem measured_any (a b c : Int) (w : World) : Calls Tryz.prog 249 #[.agg #[.int .i64 a, .int .i64 b, .int .i64 c]] w fun e w' => e = .returned (.agg (measL a b c).toArray) ∧ Below w.heap.size w w' := by
  have he := eq3 a b c
  have hb := fun (o1 o2 : Obj) => ((Below.refl w.heap.size w).alloc (Nat.le_refl _) o1).alloc (by simp) o2
  by_cases hz : (a == 0 && b == 0 && c == 0) = true
  · have hz' : a = 0 ∧ b = 0 ∧ c = 0 := by simpa [and_assoc] using hz
    obtain ⟨rfl, rfl, rfl⟩ := hz'
    go_enter Tryz.func249, Tryz.ntmps249
    go_wp2
    exact ⟨rfl, _, results_cell_row rfl _ _ _ _ _ _ _ rfl (new1 _ _ _ _) Tryz.underlying46 rfl (by kernel_rfl), rfl, hb _ _⟩
  · have hz : (a == 0 && b == 0 && c == 0) = false := by simpa using hz
    rw [hz] at he
    go_enter Tryz.func249, Tryz.ntmps249
    go_wp2
    exact ⟨rfl, _, results_cell_row rfl _ _ _ _ _ _ _ rfl (new1 _ _ _ _) Tryz.underlying46 rfl (by kernel_rfl), rfl, hb _ _⟩
def fnB (f : Nat) : Int → Bool := if f = 245 then evB else if f = 246 then begB else feedB
theorem count_fn (f : Nat) (s : ByteArray) (w : World) (hf : f = 245 ∨ f = 246 ∨ f = 247) (hs : s.size ≤ maxLen) : Calls Tryz.prog 248 #[.string s, .func (.func f) #[] #[]] w fun e w' => e = .returned (.int .i64 (cntB (fnB f) s.data.toList)) ∧ w = w' := by
  rcases hf with rfl | rfl | rfl
  · exact count_every s w hs
  · exact count_begins s w hs
  · exact count_feeds s w hs
theorem cntB_ev (l : List UInt8) : cntB evB l = l.length := by unfold cntB; rw [List.filter_eq_self.2 (by intro _ _; rfl)]
theorem of_meas (s : ByteArray) (w : World) (hs : s.size ≤ maxLen) : Calls Tryz.prog 199 #[.string s] w fun e w' => e = .returned (.agg (measL s.size (cntB begB s.data.toList) (cntB feedB s.data.toList)).toArray) ∧ Below w.heap.size w w' := by
  have i0 : ∀ w, (Instr.index 268 (.agg #[.func (.func 245) #[] #[], .func (.func 246) #[] #[], .func (.func 247) #[] #[]]) (.int .i64 0)).run Tryz.prog w = .ok (.func (.func 245) #[] #[]) w := fun _ => by kernel_rfl
  have i1 : ∀ w, (Instr.index 268 (.agg #[.func (.func 245) #[] #[], .func (.func 246) #[] #[], .func (.func 247) #[] #[]]) (.int .i64 1)).run Tryz.prog w = .ok (.func (.func 246) #[] #[]) w := fun _ => by kernel_rfl
  have i2 : ∀ w, (Instr.index 268 (.agg #[.func (.func 245) #[] #[], .func (.func 246) #[] #[], .func (.func 247) #[] #[]]) (.int .i64 2)).run Tryz.prog w = .ok (.func (.func 247) #[] #[]) w := fun _ => by kernel_rfl
  go_enter Tryz.func199, Tryz.ntmps199
  go_wp2_with fail
  refine wp_loop_rounds 4 ?_
  repeat any_goals (rw [rounds_succ]; go_wp2_with (go_at_call 248; refine (count_fn _ _ _ (by decide) hs).mono ?_; rintro e w' ⟨rfl, rfl⟩))
  all_goals (refine (measured_any _ _ _ _).mono ?_)
  all_goals rintro e w' ⟨rfl, hB⟩
  have hz := (hB.block w.heap.size (by simp; omega)).trans ((heap_alloc_old _ _ (by simp)).trans (new0 w _ _))
  have hst := fun a b c => run_st (P := Tryz.prog) (n := 3) hz rfl (measL a b c) rfl (by simp [measL, Value.oneCell'])
  go_wp2
  exact ⟨rfl, _, results_cell_row rfl _ _ _ _ _ _ _ rfl (setRow_heap _ _ _ _ _ _ hz) Tryz.underlying46 rfl (by kernel_rfl), by rw [show s.size = cntB (fnB 245) s.data.toList from (by rw [show fnB 245 = evB from rfl, cntB_ev]; simp)]; rfl, below_row ((((Below.refl w.heap.size w).alloc (Nat.le_refl _) _).alloc (by simp) _).trans (hB.mono (by simp; omega))) (Nat.le_refl _) _⟩
theorem find_begins (s : ByteArray) (n : Int) (w : World) (hs : s.size ≤ maxLen) (hn : 0 ≤ n) (hn2 : n ≤ maxLen) : Calls Tryz.prog 250 #[.string s, .func (.func 246) #[] #[], .int .i64 n] w fun e w' => (∀ k, nthB begB s.data.toList n = some k → e = .returned (.tuple #[.int .i64 k, .bool true])) ∧ (nthB begB s.data.toList n = none → e = .returned (.tuple #[.int .i64 0, .bool false])) ∧ w = w' := by
  unfold maxLen at hs hn2
  have hl : s.data.toList.length = s.size := by simp
  have HL := Lib.hid hl; clear hl
  go_enter Tryz.func250, Tryz.ntmps250
  go_wp2
  go_loop [2, 6, 7, 8, 11, 12, 13, 14, 15, 16, 17, 18, 19, 20, 21, 22, 23, 24, 25] (fun m r o x8 i x12 x13 x14 x15 x16 x17 x18 x19 x20 x21 x22 x23 x24 x25 => ∃ (k : Nat) (q : Int), i = .int .i64 k ∧ k ≤ s.size ∧ m = .int .i64 q ∧ 0 ≤ q ∧ q ≤ n ∧ nthB begB s.data.toList n = (nthB begB (s.data.toList.drop k) q).map (· + k)) (fun m r o x8 i x12 x13 x14 x15 x16 x17 x18 x19 x20 x21 x22 x23 x24 x25 => s.size - (intOf i).toNat)
  case atStart => exact ⟨0, n, rfl, by omega, rfl, hn, by omega, by simp⟩
  case round =>
    obtain ⟨k, q, rfl, hk, rfl, hq0, hq1, hq⟩ := hrel
    have Hq := Lib.hid hq; clear hq
    by_cases hlt : k < s.size
    · have hb := byt_mk s k hlt
      have hd := nthB_drop begB s.data.toList k q (by rw [HL.out]; exact hlt)
      have Hd := Lib.hid hd; clear hd
      cases hp : begB (byt s.data.toList k) with
      | true =>
        rw [hp, if_pos rfl] at Hd
        by_cases hq2 : q = 0
        · subst hq2
          rw [if_pos rfl] at Hd
          go_wp2_with (go_at_call 246; refine (begins_any _ _).mono ?_; try rw [hp]; rintro e w' ⟨rfl, rfl⟩)
          go_returns
          rw [Hq.out, Hd.out]
          refine ⟨fun k' h => ?_, fun h => ?_, rfl⟩
          · simp at h; subst h; rfl
          · simp at h
        · rw [if_neg hq2] at Hd
          have hq3 : (q == 0) = false := by simpa using hq2
          go_wp2_with (go_at_call 246; refine (begins_any _ _).mono ?_; try rw [hp]; rintro e w' ⟨rfl, rfl⟩)
          go_round
          case rel => exact ⟨k + 1, q - 1, by go_num, by omega, by go_num, by omega, by omega, by rw [Hq.out, Hd.out, Option.map_map]; congr 1; funext x; simp; omega⟩
          case measure => simp [intOf]; omega
      | false =>
        rw [hp, if_neg (by simp)] at Hd
        go_wp2_with (go_at_call 246; refine (begins_any _ _).mono ?_; try rw [hp]; rintro e w' ⟨rfl, rfl⟩)
        go_round
        case rel => exact ⟨k + 1, q, by go_num, by omega, by go_num, by omega, by omega, by rw [Hq.out, Hd.out, Option.map_map]; congr 1; funext x; simp; omega⟩
        case measure => simp [intOf]; omega
    · go_wp2
      go_returns
      rw [Hq.out, nthB_end _ _ _ _ (by rw [HL.out]; omega)]
      refine ⟨fun k' h => ?_, fun h => rfl, rfl⟩
      simp at h
theorem find_feeds (s : ByteArray) (n : Int) (w : World) (hs : s.size ≤ maxLen) (hn : 0 ≤ n) (hn2 : n ≤ maxLen) : Calls Tryz.prog 250 #[.string s, .func (.func 247) #[] #[], .int .i64 n] w fun e w' => (∀ k, nthB feedB s.data.toList n = some k → e = .returned (.tuple #[.int .i64 k, .bool true])) ∧ (nthB feedB s.data.toList n = none → e = .returned (.tuple #[.int .i64 0, .bool false])) ∧ w = w' := by
  unfold maxLen at hs hn2
  have hl : s.data.toList.length = s.size := by simp
  have HL := Lib.hid hl; clear hl
  go_enter Tryz.func250, Tryz.ntmps250
  go_wp2
  go_loop [2, 6, 7, 8, 11, 12, 13, 14, 15, 16, 17, 18, 19, 20, 21, 22, 23, 24, 25] (fun m r o x8 i x12 x13 x14 x15 x16 x17 x18 x19 x20 x21 x22 x23 x24 x25 => ∃ (k : Nat) (q : Int), i = .int .i64 k ∧ k ≤ s.size ∧ m = .int .i64 q ∧ 0 ≤ q ∧ q ≤ n ∧ nthB feedB s.data.toList n = (nthB feedB (s.data.toList.drop k) q).map (· + k)) (fun m r o x8 i x12 x13 x14 x15 x16 x17 x18 x19 x20 x21 x22 x23 x24 x25 => s.size - (intOf i).toNat)
  case atStart => exact ⟨0, n, rfl, by omega, rfl, hn, by omega, by simp⟩
  case round =>
    obtain ⟨k, q, rfl, hk, rfl, hq0, hq1, hq⟩ := hrel
    have Hq := Lib.hid hq; clear hq
    by_cases hlt : k < s.size
    · have hb := byt_mk s k hlt
      have hd := nthB_drop feedB s.data.toList k q (by rw [HL.out]; exact hlt)
      have Hd := Lib.hid hd; clear hd
      cases hp : feedB (byt s.data.toList k) with
      | true =>
        rw [hp, if_pos rfl] at Hd
        by_cases hq2 : q = 0
        · subst hq2
          rw [if_pos rfl] at Hd
          go_wp2_with (go_at_call 247; refine (feeds_any _ _).mono ?_; try rw [hp]; rintro e w' ⟨rfl, rfl⟩)
          go_returns
          rw [Hq.out, Hd.out]
          refine ⟨fun k' h => ?_, fun h => ?_, rfl⟩
          · simp at h; subst h; rfl
          · simp at h
        · rw [if_neg hq2] at Hd
          have hq3 : (q == 0) = false := by simpa using hq2
          go_wp2_with (go_at_call 247; refine (feeds_any _ _).mono ?_; try rw [hp]; rintro e w' ⟨rfl, rfl⟩)
          go_round
          case rel => exact ⟨k + 1, q - 1, by go_num, by omega, by go_num, by omega, by omega, by rw [Hq.out, Hd.out, Option.map_map]; congr 1; funext x; simp; omega⟩
          case measure => simp [intOf]; omega
      | false =>
        rw [hp, if_neg (by simp)] at Hd
        go_wp2_with (go_at_call 247; refine (feeds_any _ _).mono ?_; try rw [hp]; rintro e w' ⟨rfl, rfl⟩)
        go_round
        case rel => exact ⟨k + 1, q, by go_num, by omega, by go_num, by omega, by omega, by rw [Hq.out, Hd.out, Option.map_map]; congr 1; funext x; simp; omega⟩
        case measure => simp [intOf]; omega
    · go_wp2
      go_returns
      rw [Hq.out, nthB_end _ _ _ _ (by rw [HL.out]; omega)]
      refine ⟨fun k' h => ?_, fun h => rfl, rfl⟩
      simp at h
theorem ret_two {a b c d : Int} (h1 : a = c) (h2 : b = d) : Ending.returned (.tuple #[.int .i64 a, .int .i64 b]) = .returned (.tuple #[.int .i64 c, .int .i64 d]) := by rw [h1, h2]
theorem rune_meas (s : ByteArray) (n : Int) (w : World) (hs : s.size ≤ maxLen) (hn2 : n ≤ maxLen) : Calls Tryz.prog 200 #[.string s, .int .i64 n] w fun e w' => e = .returned (.tuple #[.int .i64 (runeS s.data.toList n).1, .int .i64 (runeS s.data.toList n).2]) ∧ w = w' := by
  have hl : s.data.toList.length = s.size := by simp
  have HL := Lib.hid hl; clear hl
  by_cases hn : n < 0
  · have hr : runeS s.data.toList n = (0, 3) := by unfold runeS; rw [if_pos hn]
    have HR := Lib.hid hr; clear hr
    have hd : decide (n < 0) = true := by simpa using hn
    go_enter Tryz.func200, Tryz.ntmps200
    go_wp2
    go_returns
    rw [HR.out]; exact ⟨rfl, rfl⟩
  have hd : decide (n < 0) = false := by simpa using hn
  have fd := find_begins s n w hs (by omega) hn2
  cases hq : nthB begB s.data.toList n with
  | some k =>
    have hr : runeS s.data.toList n = ((k : Int), 0) := by unfold runeS; rw [if_neg hn, hq]
    have HR := Lib.hid hr; clear hr
    replace fd := fd.mono (fun e w' h => (⟨h.1 k hq, h.2.2⟩ : e = .returned (.tuple #[.int .i64 k, .bool true]) ∧ w = w'))
    have HQ := Lib.hid hq; clear hq
    go_enter Tryz.func200, Tryz.ntmps200
    go_wp2_with (go_at_call 250; refine fd.mono ?_; rintro e w' ⟨rfl, rfl⟩)
    go_returns
    rw [HR.out]; exact ⟨rfl, rfl⟩
  | none =>
    replace fd := fd.mono (fun e w' h => (⟨h.2.1 hq, h.2.2⟩ : e = .returned (.tuple #[.int .i64 0, .bool false]) ∧ w = w'))
    by_cases hc : n = cntB begB s.data.toList
    · have hr : runeS s.data.toList n = ((s.size : Int), 0) := by unfold runeS; rw [if_neg hn, hq]; show (if n = cntB begB s.data.toList then _ else _) = _; rw [if_pos hc, HL.out]
      have HR := Lib.hid hr; clear hr
      have hc2 : (n == (cntB begB s.data.toList : Int)) = true := by simpa using hc
      have HQ := Lib.hid hq; clear hq
      clear hc
      go_enter Tryz.func200, Tryz.ntmps200
      go_wp2_with (first | (go_at_call 250; refine fd.mono ?_; rintro e w' ⟨rfl, rfl⟩) | (go_at_call 248; refine (count_begins _ _ hs).mono ?_; rintro e w' ⟨rfl, rfl⟩))
      go_returns
      rw [HR.out]; exact ⟨rfl, rfl⟩
    · have hr : runeS s.data.toList n = (0, 3) := by unfold runeS; rw [if_neg hn, hq]; show (if n = cntB begB s.data.toList then _ else _) = _; rw [if_neg hc]
      have HR := Lib.hid hr; clear hr
      have hc2 : (n == (cntB begB s.data.toList : Int)) = false := by simpa using hc
      have HQ := Lib.hid hq; clear hq
      clear hc
      go_enter Tryz.func200, Tryz.ntmps200
      go_wp2_with (first | (go_at_call 250; refine fd.mono ?_; rintro e w' ⟨rfl, rfl⟩) | (go_at_call 248; refine (count_begins _ _ hs).mono ?_; rintro e w' ⟨rfl, rfl⟩))
      go_returns
      rw [HR.out]; exact ⟨rfl, rfl⟩
theorem line_meas (s : ByteArray) (n : Int) (w : World) (hs : s.size ≤ 1000000) (hn2 : n ≤ maxLen) : Calls Tryz.prog 201 #[.string s, .int .i64 n] w fun e w' => e = .returned (.tuple #[.int .i64 (lineS s.data.toList n).1, .int .i64 (lineS s.data.toList n).2]) ∧ w = w' := by
  have hl : s.data.toList.length = s.size := by simp
  have HL := Lib.hid hl; clear hl
  by_cases hz : n = 0
  · subst hz
    go_enter Tryz.func201, Tryz.ntmps201
    go_wp2
    go_returns
    exact ⟨rfl, rfl⟩
  have hz2 : (n == 0) = false := by simpa using hz
  by_cases hn : n < 0
  · have hr : lineS s.data.toList n = (0, 3) := by unfold lineS; rw [if_neg hz, if_pos hn]
    have HR := Lib.hid hr; clear hr
    have hd : decide (0 < n) = false := by simp; omega
    clear hz
    go_enter Tryz.func201, Tryz.ntmps201
    go_wp2
    go_returns
    rw [HR.out]; exact ⟨rfl, rfl⟩
  have hd : decide (0 < n) = true := by simp; omega
  have fd := find_feeds s (n - 1) w (by unfold maxLen; omega) (by omega) (by unfold maxLen at *; omega)
  unfold maxLen at hn2
  have hi : IntKind.i64.wrap (n - 1) = n - 1 := IntWalk.i64_in _ (by omega)
  cases hq : nthB feedB s.data.toList (n - 1) with
  | some k =>
    have hr : lineS s.data.toList n = ((k : Int) + 1, 0) := by unfold lineS; rw [if_neg hz, if_neg hn, hq]
    have HR := Lib.hid hr; clear hr
    have hk := nthB_lt _ _ _ _ hq
    rw [HL.out] at hk
    replace fd := fd.mono (fun e w' h => (⟨h.1 k hq, h.2.2⟩ : e = .returned (.tuple #[.int .i64 k, .bool true]) ∧ w = w'))
    have HQ := Lib.hid hq; clear hq hz
    go_enter Tryz.func201, Tryz.ntmps201
    go_wp2_with (go_at_call 250; refine fd.mono ?_; rintro e w' ⟨rfl, rfl⟩)
    go_returns
    rw [HR.out]; exact ⟨rfl, rfl⟩
  | none =>
    have hr : lineS s.data.toList n = (0, 3) := by unfold lineS; rw [if_neg hz, if_neg hn, hq]
    have HR := Lib.hid hr; clear hr
    replace fd := fd.mono (fun e w' h => (⟨h.2.1 hq, h.2.2⟩ : e = .returned (.tuple #[.int .i64 0, .bool false]) ∧ w = w'))
    have HQ := Lib.hid hq; clear hq hz
    go_enter Tryz.func201, Tryz.ntmps201
    go_wp2_with (go_at_call 250; refine fd.mono ?_; rintro e w' ⟨rfl, rfl⟩)
    go_returns
    rw [HR.out]; exact ⟨rfl, rfl⟩
end Go.Proofs.YtdeiocppghhfdaaGreat
namespace Go.Proofs.YtdeiocppghhfdaaGreat
set_option linter.unusedVariables false
set_option linter.unusedSimpArgs false
set_option maxRecDepth 100000
set_option maxHeartbeats 8000000
open Go.RowKit Go.Lib Go.Shelf
theorem run_copyS {P : Program} (w : World) (dT sT ty elem : TypeId) (s : Nat) (g o dLen dCap : Nat) (a : Addr) (sLen sCap : Nat) (cur : Array Value) (t : TypeId) (cs : List Value) (k : Nat)
    (hu : P.underlying dT = some (.slice elem)) (hs : (P.info? elem).map (·.size) = some s)
    (hg : w.heap[g]? = some (.cells cur t (0, 0))) (hk : k = Nat.min sLen dLen) (hn : cs.length = k * s)
    (hsrc : ∀ j v, cs[j]? = some v → w.cell? (a.add j) = some v) (hfit : o + cs.length ≤ cur.size) (h1 : ∀ v ∈ cs, v.oneCell' = true) :
    (Builtin.copy_ #[dT, sT] ty #[.slice (some ⟨g, o, none⟩) dLen dCap, .slice (some a) sLen sCap]).run P w =
      .ok (goInt k) (w.setRow g (cur.toList.take o ++ cs ++ cur.toList.drop (o + cs.length)).toArray) := by
  have hl := run_loadCells_list (P := P) w a cs hsrc
  have hst := run_storeCells_at P g o t cs 0 cur w hg (by simpa using hfit) h1
  cases hq : P.info? elem with
  | none => simp [hq] at hs
  | some i =>
    have hi : i.size = s := by simpa [hq] using hs
    simp [Builtin.copy_, run_underlying hu, Builtin.lenOf, Builtin.firstCells, sizeOf, typeInfo, hq, hi, ← hk, ← hn, hl, hst]
theorem szMk : (Tryz.prog.info? 74).map (·.size) = some 3 := by kernel_rfl
theorem blk_cells {w : World} {b : Nat} {L : List Value} {T : TypeId} (h : w.heap[b]? = some (.cells L.toArray T (0, 0))) (j : Nat) (u : Value) (hu : L[j]? = some u) : w.cell? ((⟨b, 0, none⟩ : Addr).add j) = some u := by
  rw [Addr.add_lit, Nat.zero_add]
  simp only [World.cell?, h]
  simpa using hu
def insL (l : List MkV) (i : Nat) (m : MkV) : List MkV := l.take i ++ m :: l.drop i
theorem insL_len (l : List MkV) (i : Nat) (m : MkV) (hi : i ≤ l.length) : (insL l i m).length = l.length + 1 := by
  unfold insL; simp; omega
theorem ins_end (B vb : Nat) (v : Value) (l : List MkV) (m : MkV) (w : World) (hown : MOwn w B v l) (hv : w.heap[vb]? = some (.cells (mkL m).toArray 74 (0, 0))) (hs : l.length ≤ 1000) (hB : B ≤ w.heap.size) :
    Calls Tryz.prog 243 #[v, .int .i64 l.length, .slice (some ⟨vb, 0, none⟩) 1 1] w fun e w' => ∃ v', e = .returned v' ∧ MOwn w' B v' (insL l l.length m) ∧ Below B w w' := by
  obtain ⟨i0, hi, hz0, hz1, hz2⟩ := info_parts infoMk
  have hI : insL l l.length m = l ++ [m] := by unfold insL; simp
  have HI := Lib.hid hI; clear hI
  obtain ⟨ao, c, rfl⟩ := own_slice hown
  obtain ⟨_, hc⟩ := mrow_own rfl hown
  have hd : ((l.length : Int) == (l.length : Int)) = true := by simp
  have hnil : ao = none → l.length = 0 ∧ c = 0 := fun h => by
    subst h
    rcases hown.2 with ⟨h1, h2⟩ | ⟨g, cap, cur, h1, _⟩
    · injection h1 with _ _ h3; exact ⟨h2, h3⟩
    · injection h1 with h1; cases h1
  go_enter Tryz.func243, Tryz.ntmps243
  go_wp2_with (at_builtin; refine wpList_append_own _ rfl _ _ 65 rfl B 74 i0 _ 3 24 Tryz.underlying65 hi hz0 hz1 hz2 rfl (by decide) _ _ _ rfl hown ⟨vb, 0, none⟩ 1 1 (mkL m) rfl rfl (blk_cells hv) (mkL_ones m) (by unfold maxLen; omega) (by omega) hB ?_; intro v' w3 hown' hgrow _)
  all_goals
    obtain ⟨ao', c', rfl⟩ := own_slice hown'
    go_returns
    rw [HI.out]
    refine ⟨_, rfl, ?_, (Below.refl B w).grown hgrow hB (fun k hk => (hown.lt k hk).1)⟩
    unfold MOwn
    rw [List.length_append, mksL_app, mksL_one]
    exact hown'
theorem ins_cells (cur : List Value) (l : List MkV) (m : MkV) (i : Nat) (hi : i ≤ l.length) (hc : cur.take (l.length * 3) = mksL l) (hl : (l.length + 1) * 3 ≤ cur.length) :
    ((cur.take ((i + 1) * 3) ++ (mksL l).drop (i * 3) ++ cur.drop ((i + 1) * 3 + ((mksL l).drop (i * 3)).length)).take (i * 3) ++ mkL m ++ (cur.take ((i + 1) * 3) ++ (mksL l).drop (i * 3) ++ cur.drop ((i + 1) * 3 + ((mksL l).drop (i * 3)).length)).drop (i * 3 + (mkL m).length)).take ((l.length + 1) * 3) = mksL (insL l i m) := by
  have h1 : (mksL l).drop (i * 3) = mksL (l.drop i) := mksL_drop l i hi
  have h2 : cur.take (i * 3) = mksL (l.take i) := by
    rw [← mksL_take l i hi, ← hc, List.take_take, Nat.min_eq_left (by omega)]
  have hlen : ((mksL l).drop (i * 3)).length = (l.length - i) * 3 := by rw [List.length_drop, mksL_len]; omega
  rw [hlen]
  have e1 : (cur.take ((i + 1) * 3) ++ (mksL l).drop (i * 3) ++ cur.drop ((i + 1) * 3 + (l.length - i) * 3)).take (i * 3) = mksL (l.take i) := by
    rw [List.append_assoc, List.take_append_of_le_length (by rw [List.length_take]; omega), List.take_take, Nat.min_eq_left (by omega), h2]
  have e2 : (cur.take ((i + 1) * 3) ++ (mksL l).drop (i * 3) ++ cur.drop ((i + 1) * 3 + (l.length - i) * 3)).drop (i * 3 + (mkL m).length) = (mksL l).drop (i * 3) ++ cur.drop ((i + 1) * 3 + (l.length - i) * 3) := by
    rw [List.append_assoc, List.drop_left' (by rw [List.length_take, mkL_len]; omega)]
  rw [e1, e2, h1]
  unfold insL
  rw [mksL_app, show m :: l.drop i = [m] ++ l.drop i from rfl, mksL_app, mksL_one, ← List.append_assoc, ← List.append_assoc]
  rw [List.take_left' (by simp only [List.length_append, mksL_len, mkL_len, List.length_take, List.length_drop]; omega)]
theorem ins_shift (B g cap vb : Nat) (l : List MkV) (i : Nat) (m : MkV) (w : World) (hown : MOwn w B (.slice (some ⟨g, 0, none⟩) l.length cap) l) (hv : w.heap[vb]? = some (.cells (mkL m).toArray 74 (0, 0))) (hs : l.length ≤ 1000) (hi : i < l.length) (hroom : l.length + 1 ≤ cap) (hvg : vb ≠ g) :
    Calls Tryz.prog 243 #[.slice (some ⟨g, 0, none⟩) l.length cap, .int .i64 i, .slice (some ⟨vb, 0, none⟩) 1 1] w fun e w' => ∃ v', e = .returned v' ∧ MOwn w' B v' (insL l i m) ∧ Below B w w' := by
  obtain ⟨cur, hBg, hg, hcm, hcs, hct⟩ : ∃ cur, B ≤ g ∧ w.heap[g]? = some (.cells cur 74 (0, 0)) ∧ cap ≤ maxLen ∧ cur.size = cap * 3 ∧ cur.toList.take (l.length * 3) = mksL l := by
    rcases hown.2 with ⟨h1, _⟩ | ⟨g', cap', cur, h1, hBg, hg, _, h3, h4, h5⟩
    · injection h1 with h1; cases h1
    · injection h1 with h1 _ h6; injection h1 with h1; injection h1 with h1 _ _; subst h1; subst h6
      exact ⟨cur, hBg, hg, h3, h4, h5⟩
  unfold maxLen at hcm
  generalize hn : l.length = n at *
  have hz2 : ¬ ((i : Int) = (n : Int)) := by omega
  have hdl : ((mksL l).drop (i * 3)).length = (n - i) * 3 := by rw [List.length_drop, mksL_len, hn]; omega
  have hcl : cur.toList.length = cap * 3 := by simpa using hcs
  have hov : ∀ lb cb, (callFunc 281 #[.slice (some ⟨vb, 0, none⟩) 1 1, .slice (some ⟨g, (i + 1) * 3, none⟩) lb cb]).run Tryz.prog w = .ok (.value (.bool false)) w := fun lb cb => by
    rw [run_callFunc_extern Tryz.func281 (by kernel_rfl) (by kernel_rfl) (by kernel_rfl) (e := Extern.SlicesOverlaps.overlaps #[65, 65] #[4]) (by kernel_rfl),
      Lib.run_overlaps_apart w 65 4 74 Tryz.underlying65 3 (fun w => Tryz.sizeOf74 w) ⟨vb, 0, none⟩ ⟨g, (i + 1) * 3, none⟩ 1 1 lb cb hvg 74 74 3 (cap * 3) (by simp [World.shape?, hv, mkL_len]) (by simp [World.shape?, hg, hcs]) (by omega) (by simp [World.frozen?, hv]) (by simp [World.frozen?, hv])]
    rfl
  have hcp1 : ∀ ty dc sc, (Builtin.copy_ #[65, 65] ty #[.slice (some ⟨g, (i + 1) * 3, none⟩) (n + 1 - (i + 1)) dc, .slice (some ⟨g, i * 3, none⟩) (n + 1 - i) sc]).run Tryz.prog w.drew = .ok (goInt (n - i : Nat)) (w.drew.setRow g (cur.toList.take ((i + 1) * 3) ++ (mksL l).drop (i * 3) ++ cur.toList.drop ((i + 1) * 3 + ((mksL l).drop (i * 3)).length)).toArray) := fun ty dc sc =>
    run_copyS w.drew _ _ ty 74 3 g ((i + 1) * 3) (n + 1 - (i + 1)) dc ⟨g, i * 3, none⟩ (n + 1 - i) sc cur _ ((mksL l).drop (i * 3)) (n - i) Tryz.underlying65 szMk hg (by simp only [Nat.min_def]; split <;> omega) hdl
      (fun j v hj => by
        rw [Addr.add_lit]
        rw [List.getElem?_drop, ← hct, List.getElem?_take] at hj
        split at hj
        · simp only [World.cell?]; rw [show w.drew.heap[g]? = _ from hg]; simpa using hj
        · cases hj) (by rw [hdl]; omega) (fun v hv => mksL_ones l v (List.mem_of_mem_drop hv))
  generalize hC1 : (cur.toList.take ((i + 1) * 3) ++ (mksL l).drop (i * 3) ++ cur.toList.drop ((i + 1) * 3 + ((mksL l).drop (i * 3)).length)).toArray = C1 at hcp1
  have hC1l : C1.size = cap * 3 := by rw [← hC1]; simp only [List.size_toArray, List.length_append, hdl, List.length_take, List.length_drop, hcl]; omega
  have hcp2 : ∀ (W : World), W.heap = (w.drew.setRow g C1).heap → ∀ ty dc, (Builtin.copy_ #[65, 65] ty #[.slice (some ⟨g, i * 3, none⟩) (n + 1 - i) dc, .slice (some ⟨vb, 0, none⟩) 1 1]).run Tryz.prog W = .ok (goInt (1 : Nat)) (W.setRow g (C1.toList.take (i * 3) ++ mkL m ++ C1.toList.drop (i * 3 + (mkL m).length)).toArray) := fun W hW ty dc =>
    run_copyS W _ _ ty 74 3 g (i * 3) (n + 1 - i) dc ⟨vb, 0, none⟩ 1 1 C1 _ (mkL m) 1 Tryz.underlying65 szMk (by rw [hW]; exact setRow_heap _ _ _ _ _ _ hg) (by simp only [Nat.min_def]; split <;> omega) rfl
      (blk_cells (by rw [hW]; exact (setRow_other _ _ _ _ hvg).trans hv)) (by rw [mkL_len, hC1l]; omega) (mkL_ones m)
  generalize hC2 : (C1.toList.take (i * 3) ++ mkL m ++ C1.toList.drop (i * 3 + (mkL m).length)).toArray = C2 at hcp2
  have hC2l : C2.size = cap * 3 := by
    have : C1.toList.length = cap * 3 := by simpa using hC1l
    rw [← hC2]; simp only [List.size_toArray, List.length_append, mkL_len, List.length_take, List.length_drop, this]; omega
  have hfin : C2.toList.take ((n + 1) * 3) = mksL (insL l i m) := by
    rw [← hC2, ← hC1]
    have := ins_cells cur.toList l m i (by omega) (by rw [hn]; exact hct) (by rw [hn, hcl]; omega)
    rw [hn] at this
    exact this
  have hw1 : IntKind.i64.wrap ((i : Int) + 1) = (i : Int) + 1 := IntWalk.i64_in _ (by omega)
  have hw2 : IntKind.i64.wrap ((n : Int) + 1) = (n : Int) + 1 := IntWalk.i64_in _ (by omega)
  have htn : ((i : Int) + 1).toNat = i + 1 := by omega
  have htn2 : ((n : Int) + 1).toNat = n + 1 := by omega
  have hb2 : ¬ (cap = i + 1) := by omega
  have hb4 : ¬ (cap = i) := by omega
  have hb1 : (0 : Int) ≤ (i : Int) + 1 := by omega
  have hb3 : (i : Int) ≤ (n : Int) + 1 := by omega
  have hin : i ≤ n := by omega
  have hd1 : ((i : Int) == (n : Int)) = false := by simpa using hz2
  have hIL := insL_len l i m (by omega)
  have H := Lib.hid (And.intro hfin (And.intro hC2l hIL)); clear hfin hC2l hIL hC1 hC2 hC1l hdl hcl hct hcs
  have mixed : Tryz.prog.follows Departure.mixedOrders = true := by kernel_rfl
  go_enter Tryz.func243, Tryz.ntmps243
  go_wp2_with (simp only [hov])
  go_region_law_o (refine step_copy_runI rfl _ _ 65 65 rfl (.slice (some ⟨g, (i + 1) * 3, none⟩) (n + 1 - (i + 1)) (cap - (i + 1))) (.slice (some ⟨g, i * 3, none⟩) (n + 1 - i) (cap - i)) (by simp [Act.eval, Act.put]) (by simp [Act.eval, Act.put]) (hcp1 _ _ _) ?_)
  all_goals go_wp2_with (at_builtin; refine wpList_copy_runI _ rfl _ _ 65 65 rfl _ _ rfl rfl (hcp2 _ rfl _ _) ?_)
  all_goals go_returns
  all_goals
    obtain ⟨h1, h2, h3⟩ := H.out
    refine ⟨_, rfl, ?_, below_row (below_row (Below.refl B w).drew hBg _) hBg _⟩
    unfold MOwn
    rw [h3, hn]
    exact ⟨by rw [mksL_len, h3, hn], .inr ⟨g, cap, C2, rfl, hBg, setRow_heap _ _ _ _ _ _ (setRow_heap _ _ _ _ _ _ hg), hroom, hcm, h2, h1⟩⟩
theorem grow_cells (ROW : List Value) (l : List MkV) (m : MkV) (i : Nat) (hi : i ≤ l.length) (h1 : ROW.take (i * 3) = mksL (l.take i)) (hl : (l.length + 1) * 3 ≤ ROW.length) :
    ((ROW.take (i * 3) ++ mkL m ++ ROW.drop (i * 3 + (mkL m).length)).take ((i + 1) * 3) ++ (mksL l).drop (i * 3) ++ (ROW.take (i * 3) ++ mkL m ++ ROW.drop (i * 3 + (mkL m).length)).drop ((i + 1) * 3 + ((mksL l).drop (i * 3)).length)).take ((l.length + 1) * 3) = mksL (insL l i m) := by
  have h2 : (mksL l).drop (i * 3) = mksL (l.drop i) := mksL_drop l i hi
  have e1 : (ROW.take (i * 3) ++ mkL m ++ ROW.drop (i * 3 + (mkL m).length)).take ((i + 1) * 3) = mksL (l.take i) ++ mkL m := by
    rw [List.take_left' (by simp only [List.length_append, List.length_take, mkL_len]; omega), h1]
  rw [e1, h2]
  unfold insL
  rw [mksL_app, show m :: l.drop i = [m] ++ l.drop i from rfl, mksL_app, mksL_one, ← List.append_assoc]
  rw [List.take_left' (by simp only [List.length_append, mksL_len, mkL_len, List.length_take, List.length_drop]; omega)]
theorem ins_grow (B g cap vb : Nat) (l : List MkV) (i : Nat) (m : MkV) (w : World) (hown : MOwn w B (.slice (some ⟨g, 0, none⟩) l.length cap) l) (hv : w.heap[vb]? = some (.cells (mkL m).toArray 74 (0, 0))) (hs : l.length ≤ 1000) (hi : i < l.length) (hroom : ¬ l.length + 1 ≤ cap) (hBw : B ≤ w.heap.size) :
    Calls Tryz.prog 243 #[.slice (some ⟨g, 0, none⟩) l.length cap, .int .i64 i, .slice (some ⟨vb, 0, none⟩) 1 1] w fun e w' => ∃ v', e = .returned v' ∧ MOwn w' B v' (insL l i m) ∧ Below B w w' := by
  obtain ⟨i0, hi0, hz0, hz1, hz2⟩ := info_parts infoMk
  obtain ⟨cur, hg, hnc, hct⟩ : ∃ cur, w.heap[g]? = some (.cells cur 74 (0, 0)) ∧ l.length ≤ cap ∧ cur.toList.take (l.length * 3) = mksL l := by
    rcases hown.2 with ⟨h1, _⟩ | ⟨g', cap', cur, h1, hBg, hg, h2, h3, h4, h5⟩
    · injection h1 with h1; cases h1
    · injection h1 with h1 _ h6; injection h1 with h1; injection h1 with h1 _ _; subst h1; subst h6
      exact ⟨cur, hg, h2, h5⟩
  have hcap : cap = l.length := by omega
  subst hcap
  generalize hn : l.length = n at *
  have hgw : g < w.heap.size := (Array.getElem?_eq_some_iff.1 hg).1
  have hvw : vb < w.heap.size := (Array.getElem?_eq_some_iff.1 hv).1
  have hik : i + (n + 1 - i) = n + 1 := by omega
  have htk : (mksL l).take (i * 3) = mksL (l.take i) := mksL_take l i (by omega)
  have htl : (mksL (l.take i)).length = i * 3 := by rw [mksL_len, List.length_take, hn, Nat.min_eq_left (by omega)]
  have hcell : ∀ (W : World), W.heap[g]? = w.heap[g]? → ∀ j v, (mksL l)[j]? = some v → W.cell? ⟨g, j, none⟩ = some v := fun W hW j v hj => by
    rw [← hct, List.getElem?_take] at hj
    split at hj
    · simp only [World.cell?, hW, hg]; simpa using hj
    · cases hj
  have hold : (Builtin.firstCells i0.size i (.slice (some ⟨g, 0, none⟩) i n)).run Tryz.prog w.drew = .ok (mksL (l.take i)).toArray w.drew := by
    rw [hz1]
    exact run_firstCells_some w.drew 3 i ⟨g, 0, none⟩ i n (mksL (l.take i)) htl (fun j v hj => by
      rw [Addr.add_lit, Nat.zero_add]
      rw [← htk, List.getElem?_take] at hj
      split at hj
      · exact hcell w.drew rfl j v hj
      · cases hj)
  have hkk : (n : Int) + 1 - (i : Int) = ((n + 1 - i : Nat) : Int) := by omega
  have hrz : ∀ ty, (Builtin.append_ #[65, 3] ty #[.slice (some ⟨g, 0, none⟩) i n, .int .i64 ((n : Int) + 1 - (i : Int))]).run Tryz.prog w =
      .ok (.slice (some ⟨w.heap.size, 0, none⟩) (n + 1) (grownCap w (n + 1) n 74)) (w.drew.alloc (.cells ((mksL (l.take i)).toArray ++ Builtin.zeroCells (Value.agg #[.int .u32 0, .int .i64 0, .int .u8 0]).cells (n + 1 - i) ++ Builtin.zeroCells (Value.agg #[.int .u32 0, .int .i64 0, .int .u8 0]).cells (grownCap w (n + 1) n 74 - (n + 1))) 74)) := fun ty => by
    have h := Lib.run_append_grow_zeros w 65 3 ty 74 i0 _ .i64 .i64 Tryz.underlying65 Tryz.underlying3 hi0 hz0 (some ⟨g, 0, none⟩) i n (mksL (l.take i)) hold (n + 1 - i) (by omega) (by omega) (by omega) (by omega) (by rw [hz2]; omega) (by rw [hz2, hik]; exact growslice_fits (by omega) (by omega))
    rw [hik] at h
    rw [hkk]
    exact h
  have hGn : n + 1 ≤ grownCap w (n + 1) n 74 := grownCap_ge w _ _ _
  have hG63 : grownCap w (n + 1) n 74 ≤ maxLen := grownCap_le_maxLen w (n + 1) n _ (by unfold maxLen; omega)
  generalize grownCap w (n + 1) n 74 = G at *
  obtain ⟨ROW, hROW⟩ : ∃ ROW : Array Value, ROW = (mksL (l.take i)).toArray ++ Builtin.zeroCells (Value.agg #[.int .u32 0, .int .i64 0, .int .u8 0]).cells (n + 1 - i) ++ Builtin.zeroCells (Value.agg #[.int .u32 0, .int .i64 0, .int .u8 0]).cells (G - (n + 1)) := ⟨_, rfl⟩
  rw [← hROW] at hrz
  have hRl : ROW.size = G * 3 := by
    rw [hROW]; simp [Builtin.zeroCells, Value.cells, htl]; omega
  have hRt : ROW.toList.take (i * 3) = mksL (l.take i) := by
    rw [hROW]; simp only [Array.toList_append]
    rw [List.append_assoc, List.take_left' htl]
  have hRL : ROW.toList.length = G * 3 := by simpa using hRl
  obtain ⟨W1, hW1⟩ : ∃ W1, W1 = w.drew.alloc (.cells ROW 74) := ⟨_, rfl⟩
  rw [← hW1] at hrz
  have hN1 : W1.heap[w.heap.size]? = some (.cells ROW 74 (0, 0)) := by rw [hW1]; exact heap_alloc_new w.drew _
  have hV1 : W1.heap[vb]? = some (.cells (mkL m).toArray 74 (0, 0)) := by rw [hW1]; exact (heap_alloc_old w.drew _ hvw).trans hv
  have hg1 : W1.heap[g]? = w.heap[g]? := by rw [hW1]; exact heap_alloc_old w.drew _ hgw
  have hcpA : ∀ (W : World), W.heap = W1.heap → ∀ ty dc, (Builtin.copy_ #[65, 65] ty #[.slice (some ⟨w.heap.size, i * 3, none⟩) (n + 1 - i) dc, .slice (some ⟨vb, 0, none⟩) 1 1]).run Tryz.prog W = .ok (goInt (1 : Nat)) (W.setRow w.heap.size (ROW.toList.take (i * 3) ++ mkL m ++ ROW.toList.drop (i * 3 + (mkL m).length)).toArray) := fun W hW ty dc =>
    run_copyS W _ _ ty 74 3 w.heap.size (i * 3) (n + 1 - i) dc ⟨vb, 0, none⟩ 1 1 ROW _ (mkL m) 1 Tryz.underlying65 szMk (by rw [hW]; exact hN1) (by simp only [Nat.min_def]; split <;> omega) rfl
      (blk_cells (by rw [hW]; exact hV1)) (by rw [mkL_len, hRl]; omega) (mkL_ones m)
  have hdl : ((mksL l).drop (i * 3)).length = (n - i) * 3 := by rw [List.length_drop, mksL_len, hn]; omega
  have hfin := grow_cells ROW.toList l m i (by omega) hRt (by rw [hn, hRL]; omega)
  rw [hn] at hfin
  generalize hRA : (ROW.toList.take (i * 3) ++ mkL m ++ ROW.toList.drop (i * 3 + (mkL m).length)) = RA at hcpA hfin
  have hRAl : RA.length = G * 3 := by rw [← hRA]; simp only [List.length_append, mkL_len, List.length_take, List.length_drop, hRL]; omega
  have hcpB : ∀ (W : World), W.heap = (W1.setRow w.heap.size RA.toArray).heap → ∀ ty dc sc, (Builtin.copy_ #[65, 65] ty #[.slice (some ⟨w.heap.size, (i + 1) * 3, none⟩) (n + 1 - (i + 1)) dc, .slice (some ⟨g, i * 3, none⟩) (n - i) sc]).run Tryz.prog W = .ok (goInt (n - i : Nat)) (W.setRow w.heap.size (RA.take ((i + 1) * 3) ++ (mksL l).drop (i * 3) ++ RA.drop ((i + 1) * 3 + ((mksL l).drop (i * 3)).length)).toArray) := fun W hW ty dc sc => by
    have h := run_copyS W 65 65 ty 74 3 w.heap.size ((i + 1) * 3) (n + 1 - (i + 1)) dc ⟨g, i * 3, none⟩ (n - i) sc RA.toArray _ ((mksL l).drop (i * 3)) (n - i) Tryz.underlying65 szMk (by rw [hW]; exact setRow_heap _ _ _ _ _ _ hN1) (by simp only [Nat.min_def]; split <;> omega) hdl
      (fun j v hj => by
        rw [Addr.add_lit]
        rw [List.getElem?_drop] at hj
        exact hcell W (by rw [hW]; exact (setRow_other _ _ _ _ (by omega)).trans hg1) _ v hj) (by rw [hdl]; simp only [List.size_toArray, hRAl]; omega) (fun v hv => mksL_ones l v (List.mem_of_mem_drop hv))
    exact h
  generalize hRB : (RA.take ((i + 1) * 3) ++ (mksL l).drop (i * 3) ++ RA.drop ((i + 1) * 3 + ((mksL l).drop (i * 3)).length)) = RB at hcpB hfin
  have hRBl : RB.length = G * 3 := by rw [← hRB]; simp only [List.length_append, hdl, List.length_take, List.length_drop, hRAl]; omega
  have hIL := insL_len l i m (by omega)
  have hw1 : IntKind.i64.wrap ((i : Int) + 1) = (i : Int) + 1 := IntWalk.i64_in _ (by omega)
  have hw2 : IntKind.i64.wrap ((n : Int) + 1) = (n : Int) + 1 := IntWalk.i64_in _ (by omega)
  have hw3 : IntKind.i64.wrap ((n : Int) + 1 - (i : Int)) = (n : Int) + 1 - (i : Int) := IntWalk.i64_in _ (by omega)
  have htn : ((i : Int) + 1).toNat = i + 1 := by omega
  have hb1 : (0 : Int) ≤ (i : Int) + 1 := by omega
  have hb3 : (i : Int) ≤ (n : Int) := by omega
  have hb5 : (i : Int) + 1 ≤ (n : Int) + 1 := by omega
  have hin : i ≤ n := by omega
  have hGi : ¬ (G = i) := by omega
  have hGim : ¬ (G = i + 1) := by omega
  have hci : ¬ (n = i) := by omega
  have hd1 : ((i : Int) == (n : Int)) = false := by simp; omega
  have hB1 : Below B w W1 := by rw [hW1]; exact (Below.refl B w).drew.alloc hBw _
  have H := Lib.hid (And.intro hfin (And.intro hRBl (And.intro hIL (And.intro hN1 hGn)))); clear hfin hRBl hIL hRA hRB hRAl hRL hRl hRt hROW hdl hct hold htk htl hkk hik hcell hN1 hV1 hg1 hg hv hGn
  have mixed : Tryz.prog.follows Departure.mixedOrders = true := by kernel_rfl
  go_enter Tryz.func243, Tryz.ntmps243
  go_wp2_with (first
    | (at_builtin; refine Lib.wpList_append_run _ rfl _ _ _ _ rfl _ _ rfl rfl _ _ (hrz _) ?_)
    | (at_builtin; refine wpList_copy_runI _ rfl _ _ 65 65 rfl _ _ rfl rfl (hcpA _ rfl _ _) ?_)
    | (at_builtin; refine wpList_copy_runI _ rfl _ _ 65 65 rfl _ _ rfl rfl (hcpB _ rfl _ _ _) ?_))
  go_region_law_o (refine step_copy_runI rfl _ _ 65 65 rfl (.slice (some ⟨w.heap.size, (i + 1) * 3, none⟩) (n + 1 - (i + 1)) (G - (i + 1))) (.slice (some ⟨g, i * 3, none⟩) (n - i) (n - i)) (by simp [Act.eval, Act.put]) (by simp [Act.eval, Act.put]) (hcpB _ (by rw [hW1]; rfl) _ _ _) ?_)
  all_goals go_wp2
  all_goals go_returns
  all_goals
    obtain ⟨h1, h2, h3, h4, h5⟩ := H.out
    have h4' : ((w.alloc (.cells ROW 74)).drew.setRow w.heap.size RA.toArray).drew.heap[w.heap.size]? = some (.cells RA.toArray 74 (0, 0)) := setRow_heap _ _ _ _ _ _ (heap_alloc_new w _)
    refine ⟨_, rfl, ?_, below_row (below_row ((Below.refl B w).alloc hBw (.cells ROW 74)).drew hBw _).drew hBw _⟩
    unfold MOwn
    rw [h3, hn]
    exact ⟨by rw [mksL_len, h3, hn], .inr ⟨w.heap.size, G, RB.toArray, rfl, hBw, setRow_heap _ _ _ _ _ _ h4', h5, hG63, by simpa using h2, h1⟩⟩
theorem insert_any (B vb : Nat) (v : Value) (l : List MkV) (i : Nat) (m : MkV) (w : World) (hown : MOwn w B v l) (hv : w.heap[vb]? = some (.cells (mkL m).toArray 74 (0, 0))) (hs : l.length ≤ 1000) (hi : i ≤ l.length) (hB : B ≤ w.heap.size) (hvg : some vb ≠ v.ownBlock) :
    Calls Tryz.prog 243 #[v, .int .i64 i, .slice (some ⟨vb, 0, none⟩) 1 1] w fun e w' => ∃ v', e = .returned v' ∧ MOwn w' B v' (insL l i m) ∧ Below B w w' := by
  by_cases he : i = l.length
  · subst he
    exact ins_end B vb v l m w hown hv hs hB
  · rcases hown.2 with ⟨_, h0⟩ | ⟨g, cap, cur, rfl, _⟩
    · omega
    · by_cases hr : l.length + 1 ≤ cap
      · exact ins_shift B g cap vb l i m w hown hv hs (by omega) hr (fun e => hvg (by simp [Value.ownBlock, e]))
      · exact ins_grow B g cap vb l i m w hown hv hs (by omega) hr hB
end Go.Proofs.YtdeiocppghhfdaaGreat
namespace Go.Proofs.YtdeiocppghhfdaaGreat
set_option linter.unusedVariables false
set_option linter.unusedSimpArgs false
set_option maxRecDepth 100000
set_option maxHeartbeats 8000000
open Go Go.RowKit
variable {F : Fence} {n : Nat} {P : Program} {w : World}
def SeqStopsB {α : Type} (F : Fence) (n : Nat) (P : Program) (g : Nat) (bs lb : Array Value) (encs : α → Array Value) (Kp : World → World → Prop) (S Sp : List α → Prop) (N : Nat) (w : World) : Prop :=
  ∀ (l : Nat) (J Jx : List α → World → Prop) (W : World), Below w.heap.size w W → AbidesFrom W.heap.size J → AbidesFrom W.heap.size Jx →
    (∀ pre x W1, J pre W1 → pre.length < N → YieldAt F (n - 1) P l (encs x) W1 fun e W' =>
      (e = .returned (.bool true) ∧ J (pre ++ [x]) W' ∧ Kp W1 W') ∨ (e = .returned (.bool false) ∧ Jx (pre ++ [x]) W')) →
    J [] W →
    CallsIn F n P g (bs ++ #[.func (.yield l) #[] #[]] ++ lb) W fun e W' => (∃ v, e = .returned v) ∧ ((∃ xs, S xs ∧ J xs W') ∨ (∃ pre, Sp pre ∧ Jx pre W'))
theorem rangeB {α : Type} {g : Operand} {ps : Array Tmp} {assign body : Code} {Q : Exit → Act → World → Prop} {a : Act} {w : World}
    (hro : F.round = none) (h1 : 1 ≤ n) {gf : Nat} {bs lb : Array Value} (hg : a.eval g = .func (.func gf) bs lb) (hFg : F.fn gf) (eg : ∀ args w, (callFunc gf args).run P w = .ok (.enter gf args) w)
    {encs : α → Array Value} {Kp : World → World → Prop} {S Sp : List α → Prop} {N : Nat} {w0 : World} (hseq : SeqStopsB F (n - 1) P gf bs lb encs Kp S Sp N w0)
    (hKt : ∀ {A B C : World}, Kp A B → Kp B C → Kp A C) (hKb : ∀ (W : World) (l : Nat) (o o' : Obj), w.heap.size ≤ l → W.heap[l]? = some o → o.isCells = false → o.isWalk = false → Kp W (W.putObj l o')) (hb0 : Below w0.heap.size w0 w) (hps : ∀ x, (encs x).size = ps.size)
    (I : List α → World → Prop) (Ix : Code → List α → World → Prop) (hI : OwnFrom w.heap.size I) (hIx : ∀ c, OwnFrom w.heap.size (Ix c)) (h0 : I [] w) (Ax : α → Act → World → Prop) (hAx : ∀ x a', OwnFrom w.heap.size (fun (_ : Unit) W => Ax x a' W))
    (hassign : ∀ (l : Nat) (pre : List α) (x : α) (W : World) (K : Act → World → Prop), I pre W → (∀ a' W', KeepsFrom w.heap.size W W' → Kp W W' → I pre W' → Ax x a' W' → K a' W') →
      assign.wpIn (F.inRound l) (n - 1 - 1) P (Exit.then K (fun _ _ _ => False)) { tmps := (ps.zip (encs x)).foldl (fun t (p, v) => t.setIfInBounds p v) a.tmps, defers := [] } W)
    (hbody : ∀ (l : Nat) (pre : List α) (x : α) (a' : Act) (W : World), w.heap.size ≤ l → (∃ r, W.heap[l]? = some (.loop r)) → I pre W → Ax x a' W → pre.length < N → body.wpIn (F.inRound l) (n - 1 - 1) P (ownPostG w.heap.size Kp I Ix (pre ++ [x]) W) a' W)
    (hdone : ∀ (D : Nat) (xs : List α) (W : World), w.heap.size ≤ D → S xs → I xs W → W.heap[D]? = some (.deferred (some [])) → Q .normal { a with defers := { target := .collected D, args := #[] } :: a.defers } W)
    (hstop : ∀ (D : Nat) (c : Code) (pre : List α) (W : World), w.heap.size ≤ D → Sp pre → Ix c pre W → W.heap[D]? = some (.deferred (some [])) → c.wpIn F n P Q { a with defers := { target := .collected D, args := #[] } :: a.defers } W) :
    (Code.rangeFunc g ps assign body).wpIn F n P Q a w := by
  refine wpIn_rangeFunc ?_
  intro fn hfn
  rw [hro]
  obtain ⟨rec, hrec⟩ : ∃ rec : LoopState → Option Code → Loop, rec = fun st pe => { state := st, pending := pe, fn, tmps := a.tmps, params := ps, assign, body, defers := w.heap.size } := ⟨_, rfl⟩
  obtain ⟨W1, hW1⟩ : ∃ W1, (w.alloc (.deferred (some []))).alloc (.loop (rec .ready none)) = W1 := ⟨_, rfl⟩
  have hL1 : W1.heap[w.heap.size + 1]? = some (.loop (rec .ready none)) := by
    rw [← hW1]; have := World.alloc_heap_new (w.alloc (.deferred (some []))) (.loop (rec .ready none)); rwa [World.size_alloc] at this
  have hK1 : W1.heap[w.heap.size]? = some (.deferred (some [])) := by
    rw [← hW1]; exact (Below.heap_alloc _ _ _ (by simp)).trans (World.alloc_heap_new w _)
  have hI1 : I [] W1 := by rw [← hW1]; exact hI.alloc _ (hI.alloc _ h0)
  have hb1 : Below w0.heap.size w0 W1 := by
    rw [← hW1]; exact hb0.trans ((((Below.refl _ w).alloc (Nat.le_refl _) _).alloc (by simp) _).mono hb0.size)
  refine ⟨w.heap.size + 1, [{ target := .collected w.heap.size, args := #[] }], W1, { target := .fn (.func gf) lb, args := bs ++ #[.func (.yield (w.heap.size + 1)) #[] #[]] }, W1, gf,
    bs ++ #[.func (.yield (w.heap.size + 1)) #[] #[]] ++ lb, W1, ?_, ?_, ?_, ?_, fun _ => h1, ?_⟩
  · rw [← hW1, hrec]; exact run_enterLoop_outer _ _ _ _ _
  · simp only [resolve, hg]
    simp [go_sem]
  · intro f' hf'; simp [Target.leads] at hf'; subst hf'; exact hFg
  · simp [invoke, go_sem, eg]
  · -- THE ITERATOR's CONTRACT, AT THE CALLER's INVARIANT WITH THE TWO FACTS OF BOOK-KEEPING BESIDE IT
    have hnw : ∀ {A B : World} {row : Option Nat}, (∀ r, row = some r → W1.heap.size ≤ r ∧ ∃ o : Obj, A.heap[r]? = some o ∧ o.isWalk = true) → (∀ r, row = some r → w.heap.size ≤ r ∧ ∃ o : Obj, A.heap[r]? = some o ∧ o.isCells = false) :=
      fun hr r e => by obtain ⟨hB, o, ho, hw⟩ := hr r e; exact ⟨by rw [← hW1] at hB; simp at hB; omega, o, ho, Obj.not_cells_of_walk hw⟩
    refine (hseq (w.heap.size + 1)
      (fun pre W => I pre W ∧ W.heap[w.heap.size + 1]? = some (.loop (rec .ready none)) ∧ W.heap[w.heap.size]? = some (.deferred (some [])))
      (fun pre W => ∃ c, Ix c pre W ∧ W.heap[w.heap.size + 1]? = some (.loop (rec .done (some c))) ∧ W.heap[w.heap.size]? = some (.deferred (some [])))
      W1 hb1
      (fun s A B row hs hg' hr => ⟨hI s A B row hs.1 hg' (hnw (B := B) hr), (grownBy_keeps hg' (fun r e => (hr r e).2) hs.2.1 rfl).trans hs.2.1, (grownBy_keeps hg' (fun r e => (hr r e).2) hs.2.2 rfl).trans hs.2.2⟩)
      (fun s A B row hs hg' hr => by
        obtain ⟨c, hc, hl, hk⟩ := hs
        exact ⟨c, hIx c s A B row hc hg' (hnw (B := B) hr), (grownBy_keeps hg' (fun r e => (hr r e).2) hl rfl).trans hl, (grownBy_keeps hg' (fun r e => (hr r e).2) hk rfl).trans hk⟩)
      ?_ ⟨hI1, hL1, hK1⟩).mono ?_
    · -- ONE ROUND
      rintro pre x W ⟨hi, hl, hk⟩ hlen
      have hlt : w.heap.size + 1 < W.heap.size := (Array.getElem?_eq_some_iff.1 hl).1
      have hy := run_yield (P := P) (args := encs x) hl (by rw [hrec]; exact hps x)
      rw [hrec] at hy
      refine ⟨fn, _, assign, body, hy, roundIn_of_wpIn hfn (hassign _ pre x W _ hi ?_)⟩
      clear hy
      intro a' Wa hkfa hkpa hia hax
      replace hl := hkfa.same _ _ (by omega) hl rfl
      replace hk := hkfa.same _ _ (Nat.le_refl _) hk rfl
      replace hlt : w.heap.size + 1 < Wa.heap.size := (Array.getElem?_eq_some_iff.1 hl).1
      replace hi := hia
      clear hia
      revert hkpa hkfa
      generalize W = Wb
      intro hkfa hkpa
      obtain ⟨W, rfl⟩ : ∃ W, W = Wa := ⟨_, rfl⟩
      refine ⟨_, run_beginRound hl (by rw [hrec]), ?_⟩
      have hl2 : (W.putObj (w.heap.size + 1) (.loop { rec .ready none with state := .busy })).heap[w.heap.size + 1]? = some (.loop { rec .ready none with state := .busy }) := World.putObj_heap_same hlt
      have hk2 : (W.putObj (w.heap.size + 1) (.loop { rec .ready none with state := .busy })).heap[w.heap.size]? = some (.deferred (some [])) := (World.putObj_heap_other (by omega)).trans hk
      have hw2 : Kp W (W.putObj (w.heap.size + 1) (.loop { rec .ready none with state := .busy })) := hKb _ _ _ _ (by omega) hl rfl rfl
      refine wpIn_mono (hbody _ pre x a' _ (by omega) ⟨_, hl2⟩ (hI.putObj _ hi (by omega) hl rfl) ((hAx x a').putObj (s := ()) _ hax (by omega) hl rfl) hlen) ?_
      have fin : ∀ (jump : Option Code) (W3 : World), KeepsFrom w.heap.size (W.putObj (w.heap.size + 1) (.loop { rec .ready none with state := .busy })) W3 →
          (Instr.endRound (w.heap.size + 1) jump).run P W3 = .ok (.bool jump.isNone) (W3.putObj (w.heap.size + 1) (.loop (rec (if jump.isNone then .ready else .done) jump))) ∧
          W3.heap[w.heap.size + 1]? = some (.loop { rec .ready none with state := .busy }) ∧
          (W3.putObj (w.heap.size + 1) (.loop (rec (if jump.isNone then .ready else .done) jump))).heap[w.heap.size + 1]? = some (.loop (rec (if jump.isNone then .ready else .done) jump)) ∧
          (W3.putObj (w.heap.size + 1) (.loop (rec (if jump.isNone then .ready else .done) jump))).heap[w.heap.size]? = some (.deferred (some [])) := fun jump W3 hk3 => by
        have hl3 := hk3.same _ _ (by omega) hl2 rfl
        have := run_endRound (P := P) jump hl3
        rw [hrec] at this ⊢
        exact ⟨this, by rw [hrec] at hl3; exact hl3, World.putObj_heap_same (Array.getElem?_eq_some_iff.1 hl3).1, (World.putObj_heap_other (by omega)).trans (hk3.same _ _ (Nat.le_refl _) hk2 rfl)⟩
      rintro e a3 W3 hp
      cases e with
      | normal =>
        obtain ⟨hk3, hkp3, hi3⟩ := hp
        obtain ⟨hr, hl3, hl4, hk4⟩ := fin none W3 hk3
        exact ⟨_, _, hr, .inl ⟨rfl, ⟨hI.putObj _ hi3 (by omega) hl3 rfl, hl4, hk4⟩, hKt hkpa (hKt (hKt hw2 hkp3) (hKb _ _ _ _ (by omega) hl3 rfl rfl))⟩⟩
      | ret =>
        obtain ⟨hk3, hi3⟩ := hp
        obtain ⟨hr, hl3, hl4, hk4⟩ := fin (some .ret) W3 hk3
        exact ⟨_, _, hr, .inr ⟨rfl, .ret, (hIx _).putObj _ hi3 (by omega) hl3 rfl, hl4, hk4⟩⟩
      | exit id =>
        obtain ⟨hk3, hi3⟩ := hp
        obtain ⟨hr, hl3, hl4, hk4⟩ := fin (some (.exit id)) W3 hk3
        exact ⟨_, _, hr, .inr ⟨rfl, .exit id, (hIx _).putObj _ hi3 (by omega) hl3 rfl, hl4, hk4⟩⟩
      | goto t =>
        obtain ⟨hk3, hi3⟩ := hp
        obtain ⟨hr, hl3, hl4, hk4⟩ := fin (some (.goto t)) W3 hk3
        exact ⟨_, _, hr, .inr ⟨rfl, .goto t, (hIx _).putObj _ hi3 (by omega) hl3 rfl, hl4, hk4⟩⟩
      | panic ch => exact hp.elim
      | outgrown => exact hp.elim
    · -- BEHIND THE ITERATOR
      rintro e W2 ⟨⟨v, rfl⟩, (⟨xs, hS, hi, hl, hk⟩ | ⟨pre, hSp, c, hi, hl, hk⟩)⟩
      · exact ⟨none, _, by have := run_endLoop (P := P) hl (by rw [hrec]; simp); rw [hrec] at this; exact this, hdone _ xs _ (Nat.le_refl _) hS (hI.putObj _ hi (by omega) hl rfl) ((World.putObj_heap_other (by omega)).trans hk)⟩
      · exact ⟨some c, _, by have := run_endLoop (P := P) hl (by rw [hrec]; simp); rw [hrec] at this; exact this, hstop _ c pre _ (Nat.le_refl _) hSp ((hIx c).putObj _ hi (by omega) hl rfl) ((World.putObj_heap_other (by omega)).trans hk)⟩
end Go.Proofs.YtdeiocppghhfdaaGreat
namespace Go.Proofs.YtdeiocppghhfdaaGreat
set_option linter.unusedVariables false
set_option linter.unusedSimpArgs false
set_option maxRecDepth 100000
set_option maxHeartbeats 8000000
open Go.RowKit Go.Lib Go.Shelf
attribute [local go_sem] Oper.semAt_some
abbrev R3 := Int × Int × Int
def runsL : List PcV → Int → Int → List R3
  | [], _, _ => []
  | c :: d, a, t => if c.kind = 2 then runsL d a (t + c.text.size) else if c.kind = 3 then runsL d (a + c.n) t else (a, t, c.n) :: runsL d (a + c.n) (t + c.n)
def leftR (p : Int) : List R3 → Int → Int
  | [], r => r
  | x :: l, r => if p ≤ x.1 then r else leftR p l (x.2.1 + min x.2.2 (p - x.1))
def rightR (p : Int) : List R3 → Int → Int
  | [], e => e
  | x :: l, e => if p < x.1 + x.2.2 then x.2.1 + max 0 (p - x.1) else rightR p l e
def leftW (p : Int) : List R3 → Int → Int
  | [], r => r
  | x :: l, r => if p ≤ x.1 then r else leftW p l (IntKind.i64.wrap (x.2.1 + min x.2.2 (IntKind.i64.wrap (p - x.1))))
def rightW (p : Int) : List R3 → Int → Int
  | [], e => e
  | x :: l, e => if p < IntKind.i64.wrap (x.1 + x.2.2) then IntKind.i64.wrap (x.2.1 + max 0 (IntKind.i64.wrap (p - x.1))) else rightW p l e
def InR (x : R3) : Prop := 0 ≤ x.1 ∧ x.1 ≤ 1048576 ∧ 0 ≤ x.2.1 ∧ x.2.1 ≤ 1048576 ∧ 0 ≤ x.2.2 ∧ x.2.2 ≤ 1048576
theorem leftW_eq {p : Int} (h0 : 0 ≤ p) (h1 : p ≤ 1048576) : ∀ (l : List R3) (r : Int), (∀ x ∈ l, InR x) → leftW p l r = leftR p l r
  | [], _, _ => rfl
  | x :: l, r, h => by
    have hx := h x (by simp)
    unfold InR at hx
    rw [leftW, leftR, leftW_eq h0 h1 l _ (fun y hy => h y (by simp [hy]))]
    split
    · rfl
    · rw [IntWalk.i64_in (p - x.1) (by omega), IntWalk.i64_in _ (by omega)]
theorem rightW_eq {p : Int} (h0 : 0 ≤ p) (h1 : p ≤ 1048576) : ∀ (l : List R3) (e : Int), (∀ x ∈ l, InR x) → rightW p l e = rightR p l e
  | [], _, _ => rfl
  | x :: l, e, h => by
    have hx := h x (by simp)
    unfold InR at hx
    rw [rightW, rightR, rightW_eq h0 h1 l _ (fun y hy => h y (by simp [hy])), IntWalk.i64_in (p - x.1) (by omega), IntWalk.i64_in (x.1 + x.2.2) (by omega), IntWalk.i64_in (x.2.1 + _) (by omega)]
theorem left_runs (p : Int) : ∀ (d : List PcV) (a t r : Int), leftF p d a t r = leftR p (runsL d a t) r
  | [], _, _, _ => rfl
  | c :: d, a, t, r => by
    rw [leftF, runsL]
    split
    · exact left_runs p d _ _ _
    · split
      · exact left_runs p d _ _ _
      · rw [leftR]; dsimp only; split
        · rfl
        · exact left_runs p d _ _ _
theorem right_runs (p : Int) : ∀ (d : List PcV) (a t e : Int), rightF p d a t e = rightR p (runsL d a t) e
  | [], _, _, _ => rfl
  | c :: d, a, t, e => by
    rw [rightF, runsL]
    split
    · exact right_runs p d _ _ _
    · split
      · exact right_runs p d _ _ _
      · rw [rightR]; dsimp only; split
        · rfl
        · exact right_runs p d _ _ _
theorem runsL_drop (d : List PcV) (k : Nat) (c : PcV) (h : d[k]? = some c) (a t : Int) : runsL (d.drop k) a t = if c.kind = 2 then runsL (d.drop (k + 1)) a (t + c.text.size) else if c.kind = 3 then runsL (d.drop (k + 1)) (a + c.n) t else (a, t, c.n) :: runsL (d.drop (k + 1)) (a + c.n) (t + c.n) := by
  obtain ⟨hk, h⟩ := List.getElem?_eq_some_iff.1 h
  rw [List.drop_eq_getElem_cons hk, runsL, h]
def runV (x : R3) : Value := .agg #[.int .i64 x.1, .int .i64 x.2.1, .int .i64 x.2.2]
def IterPost (L : List R3) (J Jx : List R3 → World → Prop) (e : Ending) (W' : World) : Prop := (∃ v, e = .returned v) ∧ ((∃ ys, ys = L ∧ J ys W') ∨ (∃ pre, pre <+: L ∧ Jx pre W'))
def KeepX (s : Nat) (X Y : World) : Prop := X.heap.size ≤ Y.heap.size ∧ ∀ (k : Nat) (cs : Array Value) (T : TypeId) (fz : Nat × Nat), k ≠ s → X.heap[k]? = some (.cells cs T fz) → Y.heap[k]? = some (.cells cs T fz)
theorem KeepX.refl (s : Nat) (X : World) : KeepX s X X := ⟨Nat.le_refl _, fun _ _ _ _ _ h => h⟩
theorem KeepX.trans {s : Nat} {A B C : World} (h : KeepX s A B) (k : KeepX s B C) : KeepX s A C := ⟨Nat.le_trans h.1 k.1, fun i cs T fz hi ho => k.2 i cs T fz hi (h.2 i cs T fz hi ho)⟩
theorem KeepX.alloc (s : Nat) (X : World) (o : Obj) : KeepX s X (X.alloc o) := ⟨by simp, fun k _ _ _ _ h => (heap_alloc_old X o (Array.getElem?_eq_some_iff.1 h).1).trans h⟩
theorem KeepX.set (s : Nat) (X : World) (v : Value) : KeepX s X (X.setCell ⟨s, 0, none⟩ v) := ⟨by simp [World.setCell], fun k _ _ _ hk h => (Below.heap_setCell _ _ _ _ hk).trans h⟩
theorem KeepX.put (s : Nat) (W : World) (l : Nat) (o o' : Obj) (h : W.heap[l]? = some o) (ho : o.isCells = false) : KeepX s W (W.putObj l o') := ⟨by simp [World.putObj], fun k cs T fz _ hk => (World.putObj_heap_other (fun e => by subst e; rw [hk] at h; cases h; simp [Obj.isCells] at ho)).trans hk⟩
theorem KeepX.cell {s : Nat} {X Y : World} (h : KeepX s X Y) {a : Addr} {v : Value} (hs : a.block ≠ s) (hc : X.cell? a = some v) : Y.cell? a = some v := by
  unfold World.cell? at hc
  split at hc
  · rename_i cs T fz ho
    unfold World.cell?
    rw [h.2 _ _ _ _ hs ho]
    exact hc
  · cases hc
def RuI (L : List R3) (J : List R3 → World → Prop) (d : List PcV) (s : Nat) (W : World) (a t i : Value) (wr : World) : Prop :=
  ∃ (k : Nat) (a' t' : Int) (pre : List R3), a = .int .i64 a' ∧ t = .int .i64 t' ∧ i = .int .i64 k ∧ k ≤ d.length ∧ pre ++ runsL (d.drop k) a' t' = L ∧ lenF (d.drop k) a' t' = lenF d 0 0 ∧ 0 ≤ a' ∧ a' ≤ 1048576 ∧ 0 ≤ t' ∧ t' ≤ 1048576 ∧ pre.length ≤ k ∧ J pre wr ∧ KeepX s W wr
theorem lenF_in {p : PcV} {X Y Z : Int × Int × Int} {i o : Int} (h : Y.2.2 = 0) (hX : X = Y) (he : X = if pcB p then (if 1048576 - i < pcIn p ∨ 1048576 - o < pcOut p then (0, 0, 5) else Z) else (0, 0, 2)) : pcP p ∧ pcIn p ≤ 1048576 - i ∧ pcOut p ≤ 1048576 - o ∧ Z = Y := by
  subst hX
  split at he
  · rename_i hp
    split at he
    · rw [he] at h; simp at h
    · rename_i h2
      exact ⟨pcB_iff.1 hp, by omega, by omega, he.symm⟩
  · rw [he] at h; simp at h
theorem runs_inR : ∀ (d : List PcV) (a t : Int), (lenF d a t).2.2 = 0 → 0 ≤ a → a ≤ 1048576 → 0 ≤ t → t ≤ 1048576 → ∀ x ∈ runsL d a t, InR x
  | [], _, _, _, _, _, _, _, x, hx => by simp [runsL] at hx
  | c :: d, a, t, h, h1, h2, h3, h4, x, hx => by
    obtain ⟨hp, hi, ho, hz⟩ := lenF_in h rfl (by rw [lenF])
    have hi0 := pcIn_pos hp
    have ho0 := pcOut_pos hp
    rw [← hz] at h
    have ih := runs_inR d (a + pcIn c) (t + pcOut c) h (by omega) (by omega) (by omega) (by omega)
    rw [runsL] at hx
    unfold pcIn pcOut at *
    split at hx
    · rename_i hk; simp [hk] at ih; exact ih x.1 x.2.1 x.2.2 hx
    · split at hx
      · rename_i hk; simp [hk] at ih; exact ih x.1 x.2.1 x.2.2 hx
      · rename_i hk2 hk3
        have hk : c.kind = 1 := by unfold pcP at hp; omega
        simp [hk] at ih hi ho hi0 ho0
        rcases List.mem_cons.1 hx with rfl | hx
        · unfold InR; dsimp only; omega
        · exact ih x.1 x.2.1 x.2.2 hx
theorem runs_in (n : Nat) (hn : 1 ≤ n) (l s c : Nat) (ao : Option Addr) (d : List PcV) (hs : d.length ≤ 4096) (hl : (lenF d 0 0).2.2 = 0) (J Jx : List R3 → World → Prop)
    (hY : ∀ pre x W, J pre W → pre.length < 5000 → YieldAt Fence.wide (n - 1) Tryz.prog l #[runV x] W fun e W' =>
      (e = .returned (.bool true) ∧ J (pre ++ [x]) W' ∧ KeepX s W W') ∨ (e = .returned (.bool false) ∧ Jx (pre ++ [x]) W'))
    (W : World) (hA : ∀ pre X o, J pre X → J pre (X.alloc o)) (hr : PRow W ao d) (hr0 : ∀ b off, ao = some ⟨b, off, none⟩ → b ≠ s) (hn0 : s < W.heap.size) (hJ : J [] W) :
    CallsIn Fence.wide n Tryz.prog 297 #[.agg #[.slice ao d.length c, .bool false], .func (.yield l) #[] #[]] W (IterPost (runsL d 0 0) J Jx) := by
  have HL := Lib.hid hl; clear hl
  refine callsIn_of_wp Tryz.func297 rfl trivial ?_ rfl
  simp only [Tryz.ntmps297, List.size_toArray, List.length_cons, List.length_nil, Nat.reduceAdd, Nat.reduceSub, Array.replicate_succ, Array.replicate_zero, List.push_toArray, List.append_toArray, List.nil_append, List.cons_append]
  gi_wp2
  gi_loopw [4, 5, 12] (fun a t i wr => RuI (runsL d 0 0) J d s (W.alloc (.cells #[.slice ao d.length c, .bool false] 306)) a t i wr) (fun a t i wr => d.length - (intOf i).toNat)
  case atStart => exact ⟨0, 0, 0, [], rfl, rfl, rfl, by omega, rfl, rfl, by omega, by omega, by omega, by omega, by simp, hA _ _ _ hJ, KeepX.refl _ _⟩
  case round =>
    obtain ⟨k, a, t, pre, rfl, rfl, rfl, hk, hp, hlen, ha0, ha1, ht0, ht1, hpl, hJ', hB⟩ := hrel
    have Hp := Lib.hid hp; have Hlen := Lib.hid hlen; clear hp hlen
    have hlook := hB.2 _ _ _ _ (by omega) (heap_alloc_new W (.cells #[.slice ao d.length c, .bool false] 306))
    obtain ⟨lk0, lk1, _, _⟩ := cell_blk2 hlook
    have hlkl := (Array.getElem?_eq_some_iff.1 hlook).1
    by_cases hlt : k < d.length
    · have hc : d[k]? = some d[k] := List.getElem?_eq_getElem hlt
      generalize d[k] = p at hc
      obtain ⟨hpP, hpi, hpo, hZ⟩ := lenF_in HL.out Hlen.out (lenF_drop d k p hc a t)
      have hrd := runsL_drop d k p hc a t
      have Hrd := Lib.hid hrd; have HZ := Lib.hid hZ; clear hrd hZ
      rcases hr with ⟨_, h⟩ | ⟨b, off, rfl, hb, hcell⟩
      · rw [h] at hlt; simp at hlt
      have hbs := hr0 b off rfl
      have cc : ∀ i u, (pcL p)[i]? = some u → wr.cell? ⟨b, off + (k * 3 + i), none⟩ = some u := fun i u hu => hB.cell (a := ⟨b, off + (k * 3 + i), none⟩) hbs (Lib.cell?_alloc_some _ (hcell k p hc i u hu))
      have c0 := cc 0 _ rfl
      have c1 := cc 1 _ rfl
      have c2 := cc 2 _ rfl
      simp only [Nat.add_zero, ← Nat.add_assoc] at c0 c1 c2
      clear cc hcell
      have hBp := hB.trans (KeepX.alloc s wr (.cells #[.int .u8 p.kind, .int .i64 p.n, .string p.text] 94))
      have hJp := hA pre wr (.cells #[.int .u8 p.kind, .int .i64 p.n, .string p.text] 94) hJ'
      by_cases hk2 : p.kind = 2
      · have e2 : (p.kind == 2) = true := by simpa using hk2
        have ho : pcOut p = p.text.size := by simp [pcOut, hk2]
        have hi : pcIn p = 0 := by simp [pcIn, hk2]
        rw [ho] at hpo; have HZ' := HZ.out; rw [ho, hi] at HZ'; have HZ := Lib.hid HZ'; clear HZ'
        rw [hk2] at hBp hJp
        gi_wp2
        go_roundw
        case rel => exact ⟨k + 1, a, t + p.text.size, pre, rfl, by go_num, by go_num, by omega, by rw [← Hp.out, Hrd.out, if_pos hk2], by rw [← HZ.out, Int.add_zero], ha0, ha1, by omega, by omega, by omega, hJp, hBp⟩
        case measure => simp [intOf]; omega
      · by_cases hk3 : p.kind = 3
        · have e2 : (p.kind == 2) = false := by simpa using hk2
          have e3 : (p.kind == 3) = true := by simpa using hk3
          have ho : pcOut p = 0 := by simp [pcOut, hk3]
          have hi : pcIn p = p.n := by simp [pcIn, hk3]
          have hn := pcIn_pos hpP
          rw [hi] at hpi hn; have HZ' := HZ.out; rw [ho, hi] at HZ'; have HZ := Lib.hid HZ'; clear HZ'
          rw [hk3] at hBp hJp
          gi_wp2
          go_roundw
          case rel => exact ⟨k + 1, a + p.n, t, pre, by go_num, rfl, by go_num, by omega, by rw [← Hp.out, Hrd.out, if_neg hk2, if_pos hk3], by rw [← HZ.out, Int.add_zero], by omega, by omega, ht0, ht1, by omega, hJp, hBp⟩
          case measure => simp [intOf]; omega
        · have hk1 : p.kind = 1 := by unfold pcP at hpP; omega
          have e2 : (p.kind == 2) = false := by simpa using hk2
          have e3 : (p.kind == 3) = false := by simpa using hk3
          have ho : pcOut p = p.n := by simp [pcOut, hk1]
          have hi : pcIn p = p.n := by simp [pcIn, hk1]
          have hn := pcIn_pos hpP
          rw [hi] at hpi hn; rw [ho] at hpo; have HZ' := HZ.out; rw [ho, hi] at HZ'; have HZ := Lib.hid HZ'; clear HZ'
          rw [hk1] at hBp hJp
          have hBr := hBp.trans (KeepX.alloc s _ (.cells #[.int .i64 a, .int .i64 t, .int .i64 p.n] 313))
          have hJr := hA pre _ (.cells #[.int .i64 a, .int .i64 t, .int .i64 p.n] 313) hJp
          obtain ⟨fn, tmps, assign, body, hy, hR⟩ := hY pre (a, t, p.n) _ hJr (by omega)
          have hpb := (heap_alloc_old (wr.alloc (.cells #[.int .u8 1, .int .i64 p.n, .string p.text] 94)) (.cells #[.int .i64 a, .int .i64 t, .int .i64 p.n] 313) (by simp)).trans (heap_alloc_new wr (.cells #[.int .u8 1, .int .i64 p.n, .string p.text] 94))
          unfold runV at hy
          gi_wp2
          refine hR.mono ?_
          rintro e W1 (⟨rfl, hJ1, hk1'⟩ | ⟨rfl, hJ1⟩)
          · obtain ⟨q0, q1, q2⟩ := blk3' (hk1'.2 _ _ _ _ (by omega) hpb)
            gi_wp2
            go_roundw
            case rel => exact ⟨k + 1, a + p.n, t + p.n, pre ++ [(a, t, p.n)], by go_num, by go_num, by go_num, by omega, by rw [← Hp.out, Hrd.out, if_neg hk2, if_neg hk3, List.append_assoc]; rfl, HZ.out, by omega, by omega, by omega, by omega, by simp; omega, hJ1, hBr.trans hk1'⟩
            case measure => simp [intOf]; omega
          · gi_wp2
            refine bodyPost_ret (results_none rfl _ _ _) rfl ?_
            exact ⟨⟨_, rfl⟩, .inr ⟨pre ++ [(a, t, p.n)], ⟨runsL (d.drop (k + 1)) (a + p.n) (t + p.n), by rw [← Hp.out, Hrd.out, if_neg hk2, if_neg hk3, List.append_assoc]; rfl⟩, hJ1⟩⟩
    · gi_wp2
      go_end0
      refine ⟨⟨_, rfl⟩, .inl ⟨_, rfl, ?_⟩⟩
      rw [← Hp.out, List.drop_eq_nil_of_le (by omega)]
      simpa [runsL] using hJ'
theorem runs_stops (n : Nat) (hn : 1 ≤ n) (s c : Nat) (ao : Option Addr) (d : List PcV) (hs : d.length ≤ 4096) (hl : (lenF d 0 0).2.2 = 0) (w : World) (hr : PRow w ao d) (hr0 : ∀ b off, ao = some ⟨b, off, none⟩ → b ≠ s) (hn0 : s < w.heap.size) :
    SeqStopsB Fence.wide n Tryz.prog 297 #[.agg #[.slice ao d.length c, .bool false]] #[] (fun x : R3 => #[runV x]) (KeepX s) (fun ys => ys = runsL d 0 0) (fun pre => pre <+: runsL d 0 0) 5000 w := fun l J Jx W hW hJ _ hY h0 =>
  runs_in n hn l s c ao d hs hl J Jx hY W (fun pre X o h => hJ pre X _ none h (World.grownBy_alloc X o none) (fun r e => by cases e)) (hr.on hW) hr0 (Nat.lt_of_lt_of_le hn0 hW.size) h0
def LI (w : World) (p : Int) (pre : List R3) (W : World) : Prop :=
  (∃ r, W.heap[w.heap.size + 1]? = some (.cells #[.int .i64 p] 3 (0, 0)) ∧ W.heap[w.heap.size + 1 + 1]? = some (.cells #[.int .i64 r] 3 (0, 0)) ∧ ∀ rest, leftW p (pre ++ rest) 0 = leftW p rest r) ∧ Below w.heap.size w W
def LIx (w : World) (p : Int) (c : Code) (pre : List R3) (W : World) : Prop :=
  (c = .exit 0 ∧ ∃ r, W.heap[w.heap.size + 1 + 1]? = some (.cells #[.int .i64 r] 3 (0, 0)) ∧ ∀ rest, leftW p (pre ++ rest) 0 = r) ∧ Below w.heap.size w W
theorem kept_blk {W W' : World} {row : Option Nat} {k : Nat} {cs : Array Value} {T : TypeId} (h : W.heap[k]? = some (.cells cs T (0, 0))) (hg : W.grownBy W' row) (hr : ∀ r, row = some r → ∃ o : Obj, W.heap[r]? = some o ∧ o.isCells = false) : W'.heap[k]? = some (.cells cs T (0, 0)) :=
  (hg.block k (Array.getElem?_eq_some_iff.1 h).1 (fun e => by obtain ⟨o, h1, h2⟩ := hr k e.symm; rw [h] at h1; cases h1; simp [Obj.isCells] at h2)).trans h
theorem LI_own (w : World) (p : Int) (B : Nat) (hB : w.heap.size ≤ B) : OwnFrom B (LI w p) :=
  OwnFrom.and (fun _ _ _ _ hs hg hr => by obtain ⟨r, h1, h2, h3⟩ := hs; exact ⟨r, kept_blk h1 hg (fun r e => (hr r e).2), kept_blk h2 hg (fun r e => (hr r e).2), h3⟩) (ownFrom_below (Nat.le_refl _) hB)
theorem LIx_own (w : World) (p : Int) (B : Nat) (hB : w.heap.size ≤ B) (c : Code) : OwnFrom B (LIx w p c) :=
  OwnFrom.and (fun _ _ _ _ hs hg hr => by obtain ⟨h0, r, h1, h2⟩ := hs; exact ⟨h0, r, kept_blk h1 hg (fun r e => (hr r e).2), h2⟩) (ownFrom_below (Nat.le_refl _) hB)
def AxR (slot : Nat) (mk : Value → Value → Act) (x : R3) (a' : Act) (W : World) : Prop := ∃ g, a' = mk (.pointer (some ⟨g, 0, none⟩)) (runV x) ∧ W.heap[g]? = some (.cells #[.int .i64 x.1, .int .i64 x.2.1, .int .i64 x.2.2] 313 (0, 0))
theorem set_other {w : World} {b k : Nat} {o : Obj} (_ : w.heap[k]? = some o) (hne : k ≠ b) (u : Value) : (w.setCell ⟨b, 0, none⟩ u).heap[k]? = w.heap[k]? := Below.heap_setCell _ _ _ _ hne
theorem AxR_own (B : Nat) (slot : Nat) (mk : Value → Value → Act) (x : R3) (a' : Act) : OwnFrom B (fun (_ : Unit) W => AxR slot mk x a' W) :=
  fun _ _ _ _ hs hg hr => by obtain ⟨g, h1, h2⟩ := hs; exact ⟨g, h1, kept_blk h2 hg (fun r e => (hr r e).2)⟩
def LMk (w : World) (ao : Option Addr) (n c : Nat) (p : Int) (u v : Value) : Act :=
  { tmps := #[.agg #[.slice ao n c, .bool false], .int .i64 p, .pointer (some ⟨w.heap.size, 0, none⟩), .pointer (some ⟨w.heap.size + 1, 0, none⟩), .int .i64 0, .pointer (some ⟨w.heap.size + 1 + 1, 0, none⟩), .func (.func 297) #[.agg #[.slice ao n c, .bool false]] #[], u, .agg #[.slice ao n c, .bool false], .func (.func 297) #[.agg #[.slice ao n c, .bool false]] #[], .func (.func 297) #[.agg #[.slice ao n c, .bool false]] #[], v, undef, undef, undef, undef, undef, undef, undef, undef, undef, undef, undef, undef, undef, undef, undef], defers := [] }
theorem left_any (ao : Option Addr) (c : Nat) (d : List PcV) (p : Int) (w : World) (hr : PRow w ao d) (hs : d.length ≤ 4096) (hl : (lenF d 0 0).2.2 = 0) (hp0 : 0 ≤ p) (hp1 : p ≤ 1048576) :
    Calls Tryz.prog 294 #[.agg #[.slice ao d.length c, .bool false], .int .i64 p] w fun e w' => e = .returned (.int .i64 (leftF p d 0 0 0)) ∧ Below w.heap.size w w' := by
  rw [left_runs, ← leftW_eq hp0 hp1 _ _ (runs_inR d 0 0 hl (by omega) (by omega) (by omega) (by omega))]
  have hrb : ∀ b off, ao = some ⟨b, off, none⟩ → b ≠ w.heap.size + 1 + 1 := fun b off e => by
    rcases hr with ⟨h, _⟩ | ⟨b', off', h, hb, _⟩
    · rw [h] at e; cases e
    · rw [h] at e; injection e with e; injection e with e _ _; omega
  refine (callsIn_wide (n := 4)).1 ?_
  refine callsIn_of_wp_marks Tryz.func294 rfl trivial ?_ rfl
  simp only [Tryz.ntmps294, List.size_toArray, List.length_cons, List.length_nil, Nat.reduceAdd, Nat.reduceSub, Array.replicate_succ, Array.replicate_zero, List.push_toArray, List.append_toArray, List.nil_append, List.cons_append]
  gi_wp2
  have hrd : PRow (((w.alloc (.cells #[.slice ao d.length c, .bool false] 306)).alloc (.cells #[.int .i64 p] 3)).alloc (.cells #[.int .i64 0] 3)) ao d := hr.on ((((Below.refl _ w).alloc (Nat.le_refl _) _).alloc (by simp) _).alloc (by simp; omega) _)
  refine rangeB (α := R3) rfl (by omega) (gf := 297) (bs := #[.agg #[.slice ao d.length c, .bool false]]) (lb := #[]) rfl trivial (enters_of Tryz.func297 (by kernel_rfl) rfl)
    (runs_stops 3 (by omega) (w.heap.size + 1 + 1) c ao d hs hl _ hrd hrb (by simp)) (fun h k => h.trans k) (fun W l o o' _ h ho _ => KeepX.put _ W l o o' h ho) (Below.refl _ _) (fun _ => rfl)
    (LI w p) (LIx w p) (LI_own w p _ (by simp; omega)) (LIx_own w p _ (by simp; omega)) ?start (AxR 7 (LMk w ao d.length c p)) (fun x a' => AxR_own _ _ _ x a') ?assign ?body ?done ?stop
  case start =>
    have h1 := heap_alloc_new (w.alloc (.cells #[.slice ao d.length c, .bool false] 306)) (.cells #[.int .i64 p] 3)
    have h2 := heap_alloc_new ((w.alloc (.cells #[.slice ao d.length c, .bool false] 306)).alloc (.cells #[.int .i64 p] 3)) (.cells #[.int .i64 0] 3)
    simp only [World.size_alloc] at h1 h2
    exact ⟨⟨0, (heap_alloc_old _ _ (by simp)).trans h1, h2, fun _ => rfl⟩, (((Below.refl _ w).alloc (Nat.le_refl _) _).alloc (by simp) _).alloc (by simp; omega) _⟩
  case assign =>
    rintro l pre ⟨x0, x1, x2⟩ W K hI hK
    simp only [runV]
    gi_wp2
    exact hK _ _ (KeepsFrom.of_grownBy (World.grownBy_alloc W _ none) (fun j e => by cases e)) (KeepX.alloc _ _ _) ((LI_own w p _ (Nat.le_refl _)).alloc _ hI) ⟨W.heap.size, rfl, heap_alloc_new W _⟩
  case body =>
    rintro l pre x a' W _ _ ⟨⟨r, hp, ho, hf⟩, hB⟩ ⟨g, rfl, hg⟩ _
    obtain ⟨x0, x1, x2⟩ := x
    obtain ⟨cp, _⟩ := box1 hp
    obtain ⟨co, fo⟩ := box1 ho
    obtain ⟨g0, g1, g2⟩ := blk3' hg
    unfold LMk
    gi_wp2
    · exact ⟨KeepsFrom.refl _ _, ⟨rfl, r, ho, fun rest => by rw [List.append_assoc, hf]; show leftW p ((x0, x1, x2) :: rest) r = r; rw [leftW, if_pos (by assumption)]⟩, hB⟩
    · refine ⟨KeepsFrom.of_grownBy (grownBy_setCell' W _ _) (fun j e => by cases e; simp), KeepX.set _ _ _, ⟨_, (set_other hp (by omega) _).trans hp, box_set ho, fun rest => ?_⟩, hB.setCell (p := ⟨w.heap.size + 1 + 1, 0, none⟩) (by simp; omega) _⟩
      rw [List.append_assoc, hf]
      show leftW p ((x0, x1, x2) :: rest) r = _
      rw [leftW, if_neg (by omega)]
      simp only [IntWalk.i64_left]
  case done =>
    rintro D ys W hD rfl ⟨⟨r, hp, ho, hf⟩, hB⟩ hK
    obtain ⟨co, fo⟩ := box1 ho
    have hres := hf []
    rw [List.append_nil] at hres
    have Hres := Lib.hid (show leftW p (runsL d 0 0) 0 = r from hres)
    gi_wp2
    refine ⟨by simp, .inl ⟨_, _, rfl, run_takeDeferred hK, ?_⟩⟩
    exact ⟨.int .i64 r, by simp [results, Tryz.f294, go_sem], by rw [Hres.out], hB.trans (belowK_b (w := w) (Nat.le_refl _) W D _ _ (by simp at hD; omega) hK rfl rfl)⟩
  case stop =>
    rintro D cd pre W hD hpre ⟨⟨rfl, r, ho, hf⟩, hB⟩ hK
    obtain ⟨co, fo⟩ := box1 ho
    obtain ⟨tl, htl⟩ := hpre
    have hres := hf tl
    rw [htl] at hres
    have Hres := Lib.hid hres
    gi_wp2
    refine ⟨by simp, .inl ⟨_, _, rfl, run_takeDeferred hK, ?_⟩⟩
    exact ⟨.int .i64 r, by simp [results, Tryz.f294, go_sem], by rw [Hres.out], hB.trans (belowK_b (w := w) (Nat.le_refl _) W D _ _ (by simp at hD; omega) hK rfl rfl)⟩
def RI2 (w : World) (p q : Int) (pre : List R3) (W : World) : Prop :=
  (W.heap[w.heap.size + 1]? = some (.cells #[.int .i64 p] 3 (0, 0)) ∧ W.heap[w.heap.size + 1 + 1]? = some (.cells #[.int .i64 0] 3 (0, 0)) ∧ ∀ rest, rightW p (pre ++ rest) q = rightW p rest q) ∧ Below w.heap.size w W
def RIx2 (w : World) (p q : Int) (c : Code) (pre : List R3) (W : World) : Prop :=
  (c = .ret ∧ ∃ r, W.heap[w.heap.size + 1 + 1]? = some (.cells #[.int .i64 r] 3 (0, 0)) ∧ ∀ rest, rightW p (pre ++ rest) q = r) ∧ Below w.heap.size w W
theorem RI2_own (w : World) (p q : Int) (B : Nat) (hB : w.heap.size ≤ B) : OwnFrom B (RI2 w p q) :=
  OwnFrom.and (fun _ _ _ _ hs hg hr => by obtain ⟨h1, h2, h3⟩ := hs; exact ⟨kept_blk h1 hg (fun r e => (hr r e).2), kept_blk h2 hg (fun r e => (hr r e).2), h3⟩) (ownFrom_below (Nat.le_refl _) hB)
theorem RIx2_own (w : World) (p q : Int) (B : Nat) (hB : w.heap.size ≤ B) (c : Code) : OwnFrom B (RIx2 w p q c) :=
  OwnFrom.and (fun _ _ _ _ hs hg hr => by obtain ⟨h0, r, h1, h2⟩ := hs; exact ⟨h0, r, kept_blk h1 hg (fun r e => (hr r e).2), h2⟩) (ownFrom_below (Nat.le_refl _) hB)
def RMk (w : World) (ao : Option Addr) (n c : Nat) (p q : Int) (u v : Value) : Act :=
  { tmps := #[.agg #[.slice ao n c, .bool false], .int .i64 p, .int .i64 q, .pointer (some ⟨w.heap.size, 0, none⟩), .pointer (some ⟨w.heap.size + 1, 0, none⟩), undef, .pointer (some ⟨w.heap.size + 1 + 1, 0, none⟩), .func (.func 297) #[.agg #[.slice ao n c, .bool false]] #[], u, .agg #[.slice ao n c, .bool false], .func (.func 297) #[.agg #[.slice ao n c, .bool false]] #[], .func (.func 297) #[.agg #[.slice ao n c, .bool false]] #[], v, undef, undef, undef, undef, undef, undef, undef, undef, undef, undef, undef, undef, undef, undef, undef, undef], defers := [] }
theorem right_any (ao : Option Addr) (c : Nat) (d : List PcV) (p q : Int) (w : World) (hr : PRow w ao d) (hs : d.length ≤ 4096) (hl : (lenF d 0 0).2.2 = 0) (hp0 : 0 ≤ p) (hp1 : p ≤ 1048576) :
    Calls Tryz.prog 295 #[.agg #[.slice ao d.length c, .bool false], .int .i64 p, .int .i64 q] w fun e w' => e = .returned (.int .i64 (rightF p d 0 0 q)) ∧ Below w.heap.size w w' := by
  rw [right_runs, ← rightW_eq hp0 hp1 _ _ (runs_inR d 0 0 hl (by omega) (by omega) (by omega) (by omega))]
  have hrb : ∀ b off, ao = some ⟨b, off, none⟩ → b ≠ w.heap.size + 1 + 1 := fun b off e => by
    rcases hr with ⟨h, _⟩ | ⟨b', off', h, hb, _⟩
    · rw [h] at e; cases e
    · rw [h] at e; injection e with e; injection e with e _ _; omega
  refine (callsIn_wide (n := 4)).1 ?_
  refine callsIn_of_wp_marks Tryz.func295 rfl trivial ?_ rfl
  simp only [Tryz.ntmps295, List.size_toArray, List.length_cons, List.length_nil, Nat.reduceAdd, Nat.reduceSub, Array.replicate_succ, Array.replicate_zero, List.push_toArray, List.append_toArray, List.nil_append, List.cons_append]
  gi_wp2
  have hrd : PRow (((w.alloc (.cells #[.slice ao d.length c, .bool false] 306)).alloc (.cells #[.int .i64 p] 3)).alloc (.cells #[.int .i64 0] 3)) ao d := hr.on ((((Below.refl _ w).alloc (Nat.le_refl _) _).alloc (by simp) _).alloc (by simp; omega) _)
  refine rangeB (α := R3) rfl (by omega) (gf := 297) (bs := #[.agg #[.slice ao d.length c, .bool false]]) (lb := #[]) rfl trivial (enters_of Tryz.func297 (by kernel_rfl) rfl)
    (runs_stops 3 (by omega) (w.heap.size + 1 + 1) c ao d hs hl _ hrd hrb (by simp)) (fun h k => h.trans k) (fun W l o o' _ h ho _ => KeepX.put _ W l o o' h ho) (Below.refl _ _) (fun _ => rfl)
    (RI2 w p q) (RIx2 w p q) (RI2_own w p q _ (by simp; omega)) (RIx2_own w p q _ (by simp; omega)) ?start (AxR 8 (RMk w ao d.length c p q)) (fun x a' => AxR_own _ _ _ x a') ?assign ?body ?done ?stop
  case start =>
    have h1 := heap_alloc_new (w.alloc (.cells #[.slice ao d.length c, .bool false] 306)) (.cells #[.int .i64 p] 3)
    have h2 := heap_alloc_new ((w.alloc (.cells #[.slice ao d.length c, .bool false] 306)).alloc (.cells #[.int .i64 p] 3)) (.cells #[.int .i64 0] 3)
    simp only [World.size_alloc] at h1 h2
    exact ⟨⟨(heap_alloc_old _ _ (by simp)).trans h1, h2, fun _ => rfl⟩, (((Below.refl _ w).alloc (Nat.le_refl _) _).alloc (by simp) _).alloc (by simp; omega) _⟩
  case assign =>
    rintro l pre ⟨x0, x1, x2⟩ W K hI hK
    simp only [runV]
    gi_wp2
    exact hK _ _ (KeepsFrom.of_grownBy (World.grownBy_alloc W _ none) (fun j e => by cases e)) (KeepX.alloc _ _ _) ((RI2_own w p q _ (Nat.le_refl _)).alloc _ hI) ⟨W.heap.size, rfl, heap_alloc_new W _⟩
  case body =>
    rintro l pre x a' W _ _ ⟨⟨hp, ho, hf⟩, hB⟩ ⟨g, rfl, hg⟩ _
    obtain ⟨x0, x1, x2⟩ := x
    obtain ⟨cp, _⟩ := box1 hp
    obtain ⟨co, fo⟩ := box1 ho
    obtain ⟨g0, g1, g2⟩ := blk3' hg
    unfold RMk
    gi_wp2
    · refine ⟨KeepsFrom.of_grownBy (grownBy_setCell' W _ _) (fun j e => by cases e; simp), ⟨rfl, _, box_set ho, fun rest => ?_⟩, hB.setCell (p := ⟨w.heap.size + 1 + 1, 0, none⟩) (by simp; omega) _⟩
      rw [List.append_assoc, hf]
      show rightW p ((x0, x1, x2) :: rest) q = _
      rw [rightW, if_pos (by simp only [IntWalk.i64_left]; assumption)]
      simp only [IntWalk.i64_left]
    · exact ⟨KeepsFrom.refl _ _, KeepX.refl _ _, ⟨hp, ho, fun rest => by rw [List.append_assoc, hf]; show rightW p ((x0, x1, x2) :: rest) q = _; rw [rightW, if_neg (by simp only [IntWalk.i64_left]; omega)]⟩, hB⟩
  case done =>
    rintro D ys W hD rfl ⟨⟨hp, ho, hf⟩, hB⟩ hK
    obtain ⟨co, fo⟩ := box1 ho
    have hres := hf []
    rw [List.append_nil] at hres
    have Hres := Lib.hid (show rightW p (runsL d 0 0) q = q from hres)
    have hK' := (KeepsOthers.setCell W ⟨w.heap.size + 1 + 1, 0, none⟩ (.int .i64 q)).same D _ hK rfl
    have h5 := kept_blk (box_set (u := .int .i64 q) ho) (grownBy_putObj' _ D (.deferred none)) (fun r e => by cases e; exact ⟨_, hK', rfl⟩)
    obtain ⟨c5, _⟩ := box1 h5
    gi_wp2
    refine ⟨by simp, .inl ⟨_, _, rfl, run_takeDeferred hK', ?_⟩⟩
    exact ⟨.int .i64 q, by simp [results, Tryz.f295, go_sem, c5], by rw [Hres.out], (hB.setCell (p := ⟨w.heap.size + 1 + 1, 0, none⟩) (by simp; omega) _).trans (belowK_b (w := w) (Nat.le_refl _) _ D _ _ (by simp at hD; omega) hK' rfl rfl)⟩
  case stop =>
    rintro D cd pre W hD hpre ⟨⟨rfl, r, ho, hf⟩, hB⟩ hK
    obtain ⟨tl, htl⟩ := hpre
    have hres := hf tl
    rw [htl] at hres
    have Hres := Lib.hid hres
    have h5 := kept_blk ho (grownBy_putObj' _ D (.deferred none)) (fun r e => by cases e; exact ⟨_, hK, rfl⟩)
    obtain ⟨c5, _⟩ := box1 h5
    gi_wp2
    refine ⟨by simp, .inl ⟨_, _, rfl, run_takeDeferred hK, ?_⟩⟩
    exact ⟨.int .i64 r, by simp [results, Tryz.f295, go_sem, c5], by rw [Hres.out], hB.trans (belowK_b (w := w) (Nat.le_refl _) W D _ _ (by simp at hD; omega) hK rfl rfl)⟩
def posM (d : List PcV) (p g q : Int) : Int := if g = 0 then leftF p d 0 0 0 else rightF p d 0 0 q
theorem position_any (ao : Option Addr) (c : Nat) (d : List PcV) (p g : Int) (w : World) (hr : PRow w ao d) (hs : d.length ≤ 4096) (hc : d.length ≤ c) (hl : (lenS d).2.2 = 0) (hp0 : 0 ≤ p) (hp1 : p ≤ (lenS d).1) (hin : (lenS d).1 ≤ 1048576) (hg : g = 0 ∨ g = 1) :
    Calls Tryz.prog 278 #[.slice ao d.length c, .int .i64 p, .int .u8 g] w fun e w' => e = .returned (.tuple #[.int .i64 (posS d p g), .int .i64 0]) ∧ Below w.heap.size w w' := by
  have hl' : (lenF d 0 0).2.2 = 0 := by unfold lenS at hl; rw [if_neg (by omega)] at hl; exact hl
  have mv : ∀ (q : Int) (W : World), PRow W ao d → Calls Tryz.prog 290 #[.agg #[.slice ao d.length c, .bool false], .int .i64 p, .int .u8 g, .int .i64 (lenS d).1, .int .i64 q] W fun e w' => e = .returned (.tuple #[.int .i64 (posM d p g q), .int .i64 0]) ∧ Below W.heap.size W w' := by
    intro q W hW
    have d1 : decide (p < 0) = false := by simp; omega
    have d2 : decide ((lenS d).1 < p) = false := by simp; omega
    have hp2 : p ≤ 1048576 := by omega
    have hBa := fun o => (Below.refl W.heap.size W).alloc (Nat.le_refl _) o
    have hWo := fun o => hW.on (hBa o)
    clear hl hp1 hin
    rcases hg with rfl | rfl
    · go_enter Tryz.func290, Tryz.ntmps290
      go_wp2_with (go_at_call 294; refine (left_any ao c d p _ (hWo _) hs hl' hp0 hp2).mono ?_; rintro e w' ⟨rfl, hB⟩)
      go_returns
      exact ⟨rfl, (hBa _).trans (hB.mono (by simp))⟩
    · go_enter Tryz.func290, Tryz.ntmps290
      go_wp2_with (go_at_call 295; refine (right_any ao c d p q _ (hWo _) hs hl' hp0 hp2).mono ?_; rintro e w' ⟨rfl, hB⟩)
      go_returns
      exact ⟨rfl, (hBa _).trans (hB.mono (by simp))⟩
  have ln := lengths_any ao c d w hr (by omega) hc
  have hl2 := Lib.hid hl
  rw [hl] at ln
  have hrs := fun W (hB : Below w.heap.size w W) => hr.on hB
  clear hr hp1 hin hl hl'
  have hpm : posS d p g = posM d p g (lenS d).2.1 := rfl
  rw [hpm]
  clear hpm
  generalize (lenS d).1 = i1 at *
  generalize (lenS d).2.1 = i2 at *
  go_enter Tryz.func278, Tryz.ntmps278
  go_wp2_with (first | (go_at_call 111; refine ln.mono ?_; rintro e w1 ⟨rfl, hB1⟩) | (go_at_call 290; refine (mv i2 _ (hrs _ hB1)).mono ?_; rintro e w2 ⟨rfl, hB2⟩))
  go_returns
  exact ⟨rfl, hB1.trans (hB2.mono hB1.size)⟩
end Go.Proofs.YtdeiocppghhfdaaGreat
