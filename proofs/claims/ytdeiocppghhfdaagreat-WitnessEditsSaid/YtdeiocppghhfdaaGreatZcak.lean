/- Texts, one behind another. -/
import Derived.Test.YtdeiocppghhfdaaGreatZcaj
set_option linter.unusedVariables false
set_option linter.unusedSimpArgs false
set_option maxRecDepth 100000
set_option maxHeartbeats 8000000
namespace Go.Proofs.YtdeiocppghhfdaaGreat
open Go.RowKit
theorem run_eql_ints (w : World) (l : List Int) (d : Nat) (t e : TypeId) (n : Nat) (ht : Tryz.prog.underlying t = some (.array n e)) (he : Tryz.prog.underlying e = some (.int .i64)) (hsz : ∀ w, (sizeOf e).run Tryz.prog w = .ok 1 w) (hl : l.length = n) :
  (Op.equalIn (d + 2) t (.agg (l.map (Value.int .i64)).toArray) (.agg (Array.replicate n (.int .i64 0)))).run Tryz.prog w = .ok ((List.range n).all fun i => l.getD i 0 == 0) w := by
 rw [List.range_eq_range', Op.equalIn]
 simp only [Sem.run_bind, run_underlying ht, Result.andThen_ok, hsz, Std.Legacy.Range.forIn_eq_forIn_range', Std.Legacy.Range.size, Nat.sub_zero, Nat.add_sub_cancel, Nat.div_one]
 have hl2 : ∀ i ∈ List.range' 0 n 1, i < n := fun i hi => by simpa using (List.mem_range'_1.1 hi).2
 generalize List.range' 0 n 1 = r at hl2 ⊢
 induction r with
 | nil => simp
 | cons i r ih =>
  have hi : i < n := hl2 i (by simp)
  have px : (part e (l.map (Value.int .i64)).toArray (i * 1)).run Tryz.prog w = .ok (.int .i64 (l.getD i 0)) w := by
   simp [part, isAgg, run_underlying he, List.getD, List.getElem?_eq_getElem (show i < l.length by omega)]
  have py : (part e (Array.replicate n (Value.int .i64 0)) (i * 1)).run Tryz.prog w = .ok (.int .i64 0) w := by
   simp [part, isAgg, run_underlying he, hi]
  have pe : (Op.equalIn (d + 1) e (.int .i64 (l.getD i 0)) (.int .i64 0)).run Tryz.prog w = .ok (l.getD i 0 == 0) w := by
   rw [run_equalIn_int w d e .i64 .i64 _ _ he]
   try simp
  simp only [List.forIn_cons, Sem.run_bind, px, py, pe, Result.andThen_ok, List.all_cons]
  cases hb : (l.getD i 0 == 0)
  ·simp
  ·simp only [Bool.not_true, Bool.false_eq_true, if_false, Sem.run_pure, Result.andThen_ok, Bool.true_and]
   exact ih fun j hj => hl2 j (by simp [hj])
theorem eq3 (a b c : Int) (w : World) : (binOp .eql 266 (.agg #[.int .i64 a, .int .i64 b, .int .i64 c]) (.agg #[.int .i64 0, .int .i64 0, .int .i64 0])).run Tryz.prog w = .ok (.bool (a == 0 && b == 0 && c == 0)) w := by
 rw [run_eql_struct]
 have h := run_eql_ints w [a, b, c] 9998 266 3 3 Tryz.underlying266 Tryz.underlying3 (fun w => Tryz.sizeOf3 w) rfl
 have h2 : ((List.range 3).all fun i => [a, b, c].getD i 0 == 0) = (a == 0 && b == 0 && c == 0) := by
  simp [List.range_succ, Bool.and_assoc]
 rw [h2] at h
 have h3 : (Array.replicate 3 (Value.int .i64 0)) = #[.int .i64 0, .int .i64 0, .int .i64 0] := rfl
 rw [h3] at h
 have h4 : ([a, b, c].map (Value.int .i64)).toArray = #[.int .i64 a, .int .i64 b, .int .i64 c] := rfl
 rw [h4] at h
 rw [h]
 rfl
theorem new0 (w : World) (cs : Array Value) (t : TypeId) : (w.alloc (.cells cs t)).heap[w.heap.size]? = some (.cells cs t (0, 0)) := heap_alloc_new w _
theorem new1 (w : World) (o : Obj) (cs : Array Value) (t : TypeId) : ((w.alloc o).alloc (.cells cs t)).heap[w.heap.size + 1]? = some (.cells cs t (0, 0)) := by have := heap_alloc_new (w.alloc o) (.cells cs t); rwa [World.size_alloc] at this
def measL (a b c : Int) : List Value := [.int .i64 a, .int .i64 b, .int .i64 c]
theorem run_st {P : Program} {W : World} {g n : Nat} {T : TypeId} {cur : Array Value} (h : W.heap[g]? = some (.cells cur T (0, 0))) (hsz : cur.size = n) (L : List Value) (hL : L.length = n) (h1 : L.toArray.all (·.oneCell') = true) : (storeCells ⟨g, 0, none⟩ L).run P W = .ok () (W.setRow g L.toArray) := by
 have h := run_storeCells_at (P := P) g 0 T L 0 cur W h (by omega) (fun v hv => by rw [Array.all_eq_true'] at h1; exact h1 v (by simpa using hv))
 rw [h]
 congr 2
 rw [List.drop_eq_nil_of_le (by simp; omega)]
 simp
theorem below_row {B g : Nat} {w0 w : World} (hb : Below B w0 w) (hBg : B ≤ g) (cs : Array Value) : Below B w0 (w.setRow g cs) :=
 ⟨hb.os, hb.tape, hb.output, by rw [setRow_size]; exact hb.size, fun k hk => (setRow_other w g k cs (by omega)).trans (hb.block k hk)⟩
theorem measured_any (a b c : Int) (w : World) : Calls Tryz.prog 249 #[.agg #[.int .i64 a, .int .i64 b, .int .i64 c]] w fun e w' => e = .returned (.agg (measL a b c).toArray) ∧ Below w.heap.size w w' := by
 have he := eq3 a b c
 have hb := fun (o1 o2 : Obj) => ((Below.refl w.heap.size w).alloc (Nat.le_refl _) o1).alloc (by simp) o2
 by_cases hz : (a == 0 && b == 0 && c == 0) = true
 ·have hz' : a = 0 ∧ b = 0 ∧ c = 0 := by simpa [and_assoc] using hz
  obtain ⟨rfl, rfl, rfl⟩ := hz'
  go_enter Tryz.func249, Tryz.ntmps249
  go_wp2
  exact ⟨rfl, _, results_cell_row rfl _ _ _ _ _ _ _ rfl (new1 _ _ _ _) Tryz.underlying46 rfl (by kernel_rfl), rfl, hb _ _⟩
 ·have hz : (a == 0 && b == 0 && c == 0) = false := by simpa using hz
  rw [hz] at he
  go_enter Tryz.func249, Tryz.ntmps249
  go_wp2
  exact ⟨rfl, _, results_cell_row rfl _ _ _ _ _ _ _ rfl (new1 _ _ _ _) Tryz.underlying46 rfl (by kernel_rfl), rfl, hb _ _⟩
def fnB (f : Nat) : Int → Bool := if f = 245 then evB else if f = 246 then begB else feedB
theorem count_fn (f : Nat) (s : ByteArray) (w : World) (hf : f = 245 ∨ f = 246 ∨ f = 247) (hs : s.size ≤ maxLen) : Calls Tryz.prog 248 #[.string s, .func (.func f) #[] #[]] w fun e w' => e = .returned (.int .i64 (cntB (fnB f) s.data.toList)) ∧ w = w' := by
 rcases hf with rfl | rfl | rfl
 ·exact count_every s w hs
 ·exact count_begins s w hs
 ·exact count_feeds s w hs
theorem cntB_ev (l : List UInt8) : cntB evB l = l.length := by unfold cntB; rw [List.filter_eq_self.2 (by intro _ _; rfl)]
theorem of_meas (s : ByteArray) (w : World) (hs : s.size ≤ maxLen) : Calls Tryz.prog 199 #[.string s] w fun e w' => e = .returned (.agg (measL s.size (cntB begB s.data.toList) (cntB feedB s.data.toList)).toArray) ∧ Below w.heap.size w w' := by
 have i0 : ∀ w, (Instr.index 268 (.agg #[.func (.func 245) #[] #[], .func (.func 246) #[] #[], .func (.func 247) #[] #[]]) (.int .i64 0)).run Tryz.prog w = .ok (.func (.func 245) #[] #[]) w := fun _ => by kernel_rfl
 have i1 : ∀ w, (Instr.index 268 (.agg #[.func (.func 245) #[] #[], .func (.func 246) #[] #[], .func (.func 247) #[] #[]]) (.int .i64 1)).run Tryz.prog w = .ok (.func (.func 246) #[] #[]) w := fun _ => by kernel_rfl
 have i2 : ∀ w, (Instr.index 268 (.agg #[.func (.func 245) #[] #[], .func (.func 246) #[] #[], .func (.func 247) #[] #[]]) (.int .i64 2)).run Tryz.prog w = .ok (.func (.func 247) #[] #[]) w := fun _ => by kernel_rfl
 go_enter Tryz.func199, Tryz.ntmps199
 go_wp2_with fail
 refine wp_loop_rounds 4 ?_
 repeat any_goals (rw [rounds_succ]; go_wp2_with (go_at_call 248; refine (count_fn _ _ _ (by decide) hs).mono ?_; rintro e w' ⟨rfl, rfl⟩))
 all_goals (refine (measured_any _ _ _ _).mono ?_)
 all_goals rintro e w' ⟨rfl, hB⟩
 have hz := (hB.block w.heap.size (by simp; omega)).trans ((heap_alloc_old _ _ (by simp)).trans (new0 w _ _))
 have hst := fun a b c => run_st (P := Tryz.prog) (n := 3) hz rfl (measL a b c) rfl (by simp [measL, Value.oneCell'])
 go_wp2
 exact ⟨rfl, _, results_cell_row rfl _ _ _ _ _ _ _ rfl (setRow_heap _ _ _ _ _ _ hz) Tryz.underlying46 rfl (by kernel_rfl), by rw [show s.size = cntB (fnB 245) s.data.toList from (by rw [show fnB 245 = evB from rfl, cntB_ev]; simp)]; rfl, below_row ((((Below.refl w.heap.size w).alloc (Nat.le_refl _) _).alloc (by simp) _).trans (hB.mono (by simp; omega))) (Nat.le_refl _) _⟩
theorem find_begins (s : ByteArray) (n : Int) (w : World) (hs : s.size ≤ maxLen) (hn : 0 ≤ n) (hn2 : n ≤ maxLen) : Calls Tryz.prog 250 #[.string s, .func (.func 246) #[] #[], .int .i64 n] w fun e w' => (∀ k, nthB begB s.data.toList n = some k → e = .returned (.tuple #[.int .i64 k, .bool true])) ∧ (nthB begB s.data.toList n = none → e = .returned (.tuple #[.int .i64 0, .bool false])) ∧ w = w' := by
 unfold maxLen at hs hn2
 have hl : s.data.toList.length = s.size := by simp
 have HL := Lib.hid hl; clear hl
 go_enter Tryz.func250, Tryz.ntmps250
 go_wp2
 go_loop [2, 6, 7, 8, 11, 12, 13, 14, 15, 16, 17, 18, 19, 20, 21, 22, 23, 24, 25] (fun m r o x8 i x12 x13 x14 x15 x16 x17 x18 x19 x20 x21 x22 x23 x24 x25 => ∃ (k : Nat) (q : Int), i = .int .i64 k ∧ k ≤ s.size ∧ m = .int .i64 q ∧ 0 ≤ q ∧ q ≤ n ∧ nthB begB s.data.toList n = (nthB begB (s.data.toList.drop k) q).map (· + k)) (fun m r o x8 i x12 x13 x14 x15 x16 x17 x18 x19 x20 x21 x22 x23 x24 x25 => s.size - (intOf i).toNat)
 case atStart => exact ⟨0, n, rfl, by omega, rfl, hn, by omega, by simp⟩
 case round =>
  obtain ⟨k, q, rfl, hk, rfl, hq0, hq1, hq⟩ := hrel
  have Hq := Lib.hid hq; clear hq
  by_cases hlt : k < s.size
  ·have hb := byt_mk s k hlt
   have hd := nthB_drop begB s.data.toList k q (by rw [HL.out]; exact hlt)
   have Hd := Lib.hid hd; clear hd
   cases hp : begB (byt s.data.toList k) with
   | true =>
    rw [hp, if_pos rfl] at Hd
    by_cases hq2 : q = 0
    ·subst hq2
     rw [if_pos rfl] at Hd
     go_wp2_with (go_at_call 246; refine (begins_any _ _).mono ?_; try rw [hp]; rintro e w' ⟨rfl, rfl⟩)
     go_returns
     rw [Hq.out, Hd.out]
     refine ⟨fun k' h => ?_, fun h => ?_, rfl⟩
     ·simp at h; subst h; rfl
     ·simp at h
    ·rw [if_neg hq2] at Hd
     have hq3 : (q == 0) = false := by simpa using hq2
     go_wp2_with (go_at_call 246; refine (begins_any _ _).mono ?_; try rw [hp]; rintro e w' ⟨rfl, rfl⟩)
     go_round
     case rel => exact ⟨k + 1, q - 1, by go_num, by omega, by go_num, by omega, by omega, by rw [Hq.out, Hd.out, Option.map_map]; congr 1; funext x; simp; omega⟩
     case measure => simp [intOf]; omega
   | false =>
    rw [hp, if_neg (by simp)] at Hd
    go_wp2_with (go_at_call 246; refine (begins_any _ _).mono ?_; try rw [hp]; rintro e w' ⟨rfl, rfl⟩)
    go_round
    case rel => exact ⟨k + 1, q, by go_num, by omega, by go_num, by omega, by omega, by rw [Hq.out, Hd.out, Option.map_map]; congr 1; funext x; simp; omega⟩
    case measure => simp [intOf]; omega
  ·go_wp2
   go_returns
   rw [Hq.out, nthB_end _ _ _ _ (by rw [HL.out]; omega)]
   refine ⟨fun k' h => ?_, fun h => rfl, rfl⟩
   simp at h
theorem find_feeds (s : ByteArray) (n : Int) (w : World) (hs : s.size ≤ maxLen) (hn : 0 ≤ n) (hn2 : n ≤ maxLen) : Calls Tryz.prog 250 #[.string s, .func (.func 247) #[] #[], .int .i64 n] w fun e w' => (∀ k, nthB feedB s.data.toList n = some k → e = .returned (.tuple #[.int .i64 k, .bool true])) ∧ (nthB feedB s.data.toList n = none → e = .returned (.tuple #[.int .i64 0, .bool false])) ∧ w = w' := by
 unfold maxLen at hs hn2
 have hl : s.data.toList.length = s.size := by simp
 have HL := Lib.hid hl; clear hl
 go_enter Tryz.func250, Tryz.ntmps250
 go_wp2
 go_loop [2, 6, 7, 8, 11, 12, 13, 14, 15, 16, 17, 18, 19, 20, 21, 22, 23, 24, 25] (fun m r o x8 i x12 x13 x14 x15 x16 x17 x18 x19 x20 x21 x22 x23 x24 x25 => ∃ (k : Nat) (q : Int), i = .int .i64 k ∧ k ≤ s.size ∧ m = .int .i64 q ∧ 0 ≤ q ∧ q ≤ n ∧ nthB feedB s.data.toList n = (nthB feedB (s.data.toList.drop k) q).map (· + k)) (fun m r o x8 i x12 x13 x14 x15 x16 x17 x18 x19 x20 x21 x22 x23 x24 x25 => s.size - (intOf i).toNat)
 case atStart => exact ⟨0, n, rfl, by omega, rfl, hn, by omega, by simp⟩
 case round =>
  obtain ⟨k, q, rfl, hk, rfl, hq0, hq1, hq⟩ := hrel
  have Hq := Lib.hid hq; clear hq
  by_cases hlt : k < s.size
  ·have hb := byt_mk s k hlt
   have hd := nthB_drop feedB s.data.toList k q (by rw [HL.out]; exact hlt)
   have Hd := Lib.hid hd; clear hd
   cases hp : feedB (byt s.data.toList k) with
   | true =>
    rw [hp, if_pos rfl] at Hd
    by_cases hq2 : q = 0
    ·subst hq2
     rw [if_pos rfl] at Hd
     go_wp2_with (go_at_call 247; refine (feeds_any _ _).mono ?_; try rw [hp]; rintro e w' ⟨rfl, rfl⟩)
     go_returns
     rw [Hq.out, Hd.out]
     refine ⟨fun k' h => ?_, fun h => ?_, rfl⟩
     ·simp at h; subst h; rfl
     ·simp at h
    ·rw [if_neg hq2] at Hd
     have hq3 : (q == 0) = false := by simpa using hq2
     go_wp2_with (go_at_call 247; refine (feeds_any _ _).mono ?_; try rw [hp]; rintro e w' ⟨rfl, rfl⟩)
     go_round
     case rel => exact ⟨k + 1, q - 1, by go_num, by omega, by go_num, by omega, by omega, by rw [Hq.out, Hd.out, Option.map_map]; congr 1; funext x; simp; omega⟩
     case measure => simp [intOf]; omega
   | false =>
    rw [hp, if_neg (by simp)] at Hd
    go_wp2_with (go_at_call 247; refine (feeds_any _ _).mono ?_; try rw [hp]; rintro e w' ⟨rfl, rfl⟩)
    go_round
    case rel => exact ⟨k + 1, q, by go_num, by omega, by go_num, by omega, by omega, by rw [Hq.out, Hd.out, Option.map_map]; congr 1; funext x; simp; omega⟩
    case measure => simp [intOf]; omega
  ·go_wp2
   go_returns
   rw [Hq.out, nthB_end _ _ _ _ (by rw [HL.out]; omega)]
   refine ⟨fun k' h => ?_, fun h => rfl, rfl⟩
   simp at h
theorem rune_meas (s : ByteArray) (n : Int) (w : World) (hs : s.size ≤ maxLen) (hn2 : n ≤ maxLen) : Calls Tryz.prog 200 #[.string s, .int .i64 n] w fun e w' => e = .returned (.tuple #[.int .i64 (runeS s.data.toList n).1, .int .i64 (runeS s.data.toList n).2]) ∧ w = w' := by
 have hl : s.data.toList.length = s.size := by simp
 have HL := Lib.hid hl; clear hl
 by_cases hn : n < 0
 ·have hr : runeS s.data.toList n = (0, 3) := by unfold runeS; rw [if_pos hn]
  have HR := Lib.hid hr; clear hr
  have hd : decide (n < 0) = true := by simpa using hn
  go_enter Tryz.func200, Tryz.ntmps200
  go_wp2
  go_returns
  rw [HR.out]; exact ⟨rfl, rfl⟩
 have hd : decide (n < 0) = false := by simpa using hn
 have fd := find_begins s n w hs (by omega) hn2
 cases hq : nthB begB s.data.toList n with
 | some k =>
  have hr : runeS s.data.toList n = ((k : Int), 0) := by unfold runeS; rw [if_neg hn, hq]
  have HR := Lib.hid hr; clear hr
  replace fd := fd.mono (fun e w' h => (⟨h.1 k hq, h.2.2⟩ : e = .returned (.tuple #[.int .i64 k, .bool true]) ∧ w = w'))
  have HQ := Lib.hid hq; clear hq
  go_enter Tryz.func200, Tryz.ntmps200
  go_wp2_with (go_at_call 250; refine fd.mono ?_; rintro e w' ⟨rfl, rfl⟩)
  go_returns
  rw [HR.out]; exact ⟨rfl, rfl⟩
 | none =>
  replace fd := fd.mono (fun e w' h => (⟨h.2.1 hq, h.2.2⟩ : e = .returned (.tuple #[.int .i64 0, .bool false]) ∧ w = w'))
  by_cases hc : n = cntB begB s.data.toList
  ·have hr : runeS s.data.toList n = ((s.size : Int), 0) := by unfold runeS; rw [if_neg hn, hq]; show (if n = cntB begB s.data.toList then _ else _) = _; rw [if_pos hc, HL.out]
   have HR := Lib.hid hr; clear hr
   have hc2 : (n == (cntB begB s.data.toList : Int)) = true := by simpa using hc
   have HQ := Lib.hid hq; clear hq
   clear hc
   go_enter Tryz.func200, Tryz.ntmps200
   go_wp2_with (first | (go_at_call 250; refine fd.mono ?_; rintro e w' ⟨rfl, rfl⟩) | (go_at_call 248; refine (count_begins _ _ hs).mono ?_; rintro e w' ⟨rfl, rfl⟩))
   go_returns
   rw [HR.out]; exact ⟨rfl, rfl⟩
  ·have hr : runeS s.data.toList n = (0, 3) := by unfold runeS; rw [if_neg hn, hq]; show (if n = cntB begB s.data.toList then _ else _) = _; rw [if_neg hc]
   have HR := Lib.hid hr; clear hr
   have hc2 : (n == (cntB begB s.data.toList : Int)) = false := by simpa using hc
   have HQ := Lib.hid hq; clear hq
   clear hc
   go_enter Tryz.func200, Tryz.ntmps200
   go_wp2_with (first | (go_at_call 250; refine fd.mono ?_; rintro e w' ⟨rfl, rfl⟩) | (go_at_call 248; refine (count_begins _ _ hs).mono ?_; rintro e w' ⟨rfl, rfl⟩))
   go_returns
   rw [HR.out]; exact ⟨rfl, rfl⟩
theorem line_meas (s : ByteArray) (n : Int) (w : World) (hs : s.size ≤ 1000000) (hn2 : n ≤ maxLen) : Calls Tryz.prog 201 #[.string s, .int .i64 n] w fun e w' => e = .returned (.tuple #[.int .i64 (lineS s.data.toList n).1, .int .i64 (lineS s.data.toList n).2]) ∧ w = w' := by
 have hl : s.data.toList.length = s.size := by simp
 have HL := Lib.hid hl; clear hl
 by_cases hz : n = 0
 ·subst hz
  go_enter Tryz.func201, Tryz.ntmps201
  go_wp2
  go_returns
  exact ⟨rfl, rfl⟩
 have hz2 : (n == 0) = false := by simpa using hz
 by_cases hn : n < 0
 ·have hr : lineS s.data.toList n = (0, 3) := by unfold lineS; rw [if_neg hz, if_pos hn]
  have HR := Lib.hid hr; clear hr
  have hd : decide (0 < n) = false := by simp; omega
  clear hz
  go_enter Tryz.func201, Tryz.ntmps201
  go_wp2
  go_returns
  rw [HR.out]; exact ⟨rfl, rfl⟩
 have hd : decide (0 < n) = true := by simp; omega
 have fd := find_feeds s (n - 1) w (by unfold maxLen; omega) (by omega) (by unfold maxLen at *; omega)
 unfold maxLen at hn2
 have hi : IntKind.i64.wrap (n - 1) = n - 1 := IntWalk.i64_in _ (by omega)
 cases hq : nthB feedB s.data.toList (n - 1) with
 | some k =>
  have hr : lineS s.data.toList n = ((k : Int) + 1, 0) := by unfold lineS; rw [if_neg hz, if_neg hn, hq]
  have HR := Lib.hid hr; clear hr
  have hk := nthB_lt _ _ _ _ hq
  rw [HL.out] at hk
  replace fd := fd.mono (fun e w' h => (⟨h.1 k hq, h.2.2⟩ : e = .returned (.tuple #[.int .i64 k, .bool true]) ∧ w = w'))
  have HQ := Lib.hid hq; clear hq hz
  go_enter Tryz.func201, Tryz.ntmps201
  go_wp2_with (go_at_call 250; refine fd.mono ?_; rintro e w' ⟨rfl, rfl⟩)
  go_returns
  rw [HR.out]; exact ⟨rfl, rfl⟩
 | none =>
  have hr : lineS s.data.toList n = (0, 3) := by unfold lineS; rw [if_neg hz, if_neg hn, hq]
  have HR := Lib.hid hr; clear hr
  replace fd := fd.mono (fun e w' h => (⟨h.2.1 hq, h.2.2⟩ : e = .returned (.tuple #[.int .i64 0, .bool false]) ∧ w = w'))
  have HQ := Lib.hid hq; clear hq hz
  go_enter Tryz.func201, Tryz.ntmps201
  go_wp2_with (go_at_call 250; refine fd.mono ?_; rintro e w' ⟨rfl, rfl⟩)
  go_returns
  rw [HR.out]; exact ⟨rfl, rfl⟩
end Go.Proofs.YtdeiocppghhfdaaGreat
