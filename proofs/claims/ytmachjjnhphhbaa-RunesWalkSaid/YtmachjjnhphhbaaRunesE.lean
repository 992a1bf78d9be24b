/- Ranges over boundaries: Next, Prev, Clip of runes. -/
import Derived.Test.YtmachjjnhphhbaaRunesD
import Derived.RangeFuncNested
import Derived.RangeFuncBound
import Derived.RangeFuncCalls
import Derived.RangeFuncLeaves
import Derived.RangeFuncFrom
import Derived.Shelf.Abstract
import Derived.Shelf.RegionOpen
import Derived.OwnWalkIn
import Derived.TacticsInMore
import Derived.LoopNIn
import Derived.LoopIn
namespace Go.Proofs.Ytmachjjnhphhbaa
open Go.RowKit Go.Shelf
attribute [local go_sem] Oper.semAt_some

/-- The boundaries among f candidates from n on. -/
def upList (l : List UInt8) : Nat → Int → List Int
  | 0, _ => []
  | f + 1, n => if bndB l n then n :: upList l f (n + 1) else upList l f (n + 1)
def dnList (l : List UInt8) : Nat → List Int
  | 0 => []
  | k + 1 => if bndB l (k : Int) then (k : Int) :: dnList l k else dnList l k
theorem upList_head (l : List UInt8) : ∀ (f : Nat) (n : Int), upF l f n = match upList l f n with | [] => (0, false) | x :: _ => (x, true) := by
  intro f
  induction f with
  | zero => intro n; rfl
  | succ f ih =>
    intro n
    unfold upF upList
    split
    · rfl
    · exact ih _
theorem dnList_head (l : List UInt8) : ∀ (f : Nat), dnF l f = match dnList l f with | [] => (0, false) | x :: _ => (x, true) := by
  intro f
  induction f with
  | zero => rfl
  | succ f ih =>
    unfold dnF dnList
    split
    · rfl
    · exact ih

def RisV (w : World) : Value := .func (.func 36) #[] #[.pointer (some ⟨w.heap.size + 1, 0, none⟩), .pointer (some ⟨w.heap.size, 0, none⟩)]
theorem rising_any (s : ByteArray) (n : Int) (w : World) : Calls Try.prog 34 #[.string s, .int .i64 n] w fun e w' => e = .returned (.func (.func 36) #[] #[.pointer (some ⟨w.heap.size + 1, 0, none⟩), .pointer (some ⟨w.heap.size, 0, none⟩)]) ∧ (w.alloc (.cells #[.string s] 9)).alloc (.cells #[.int .i64 n] 3) = w' := by
  go_enter Try.func34, Try.ntmps34
  go_wp2
  go_ret
  exact ⟨rfl, rfl⟩

/-- What the call of an iterator comes to: all have come, or a round has said 'no more'. -/
def IterPost (L : List Int) (J Jx : List Int → World → Prop) (e : Ending) (W' : World) : Prop := (∃ v, e = .returned v) ∧ ((∃ ys, ys = L ∧ J ys W') ∨ (∃ pre, pre <+: L ∧ Jx pre W'))
set_option maxHeartbeats 1000000 in
theorem rising1_in (n : Nat) (hn : 1 ≤ n) (l Bn Bs n₀ : Nat) (s : ByteArray) (a : Int) (hs : s.size ≤ 140737488355328) (h0 : 0 ≤ a) (J Jx : List Int → World → Prop)
    (hY : ∀ pre x W, J pre W → pre.length < s.size + 1 → YieldAt Fence.wide (n - 1) Try.prog l #[.int .i64 x] W fun e W' =>
      (e = .returned (.bool true) ∧ J (pre ++ [x]) W' ∧ Below n₀ W W') ∨ (e = .returned (.bool false) ∧ Jx (pre ++ [x]) W'))
    (W : World) (hBn : W.cell? ⟨Bn, 0, none⟩ = some (.int .i64 a)) (hBs : W.cell? ⟨Bs, 0, none⟩ = some (.string s)) (hs0 : Bs < n₀) (hJ : J [] W) :
    CallsIn Fence.wide n Try.prog 36 #[.func (.yield l) #[] #[], .pointer (some ⟨Bn, 0, none⟩), .pointer (some ⟨Bs, 0, none⟩)] W (IterPost (upList s.data.toList (s.size + 1 - a.toNat) a) J Jx) := by
  refine callsIn_of_wp Try.func36 rfl trivial ?_ rfl
  simp only [Try.ntmps36, List.size_toArray, List.length_cons, List.length_nil, Nat.reduceAdd, Nat.reduceSub, Array.replicate_succ, Array.replicate_zero, List.push_toArray, List.append_toArray, List.nil_append, List.cons_append]
  gi_wp2
  gi_loopw [4] (fun t wr => ∃ (k : Nat) (pre : List Int), t = .int .i64 (a + k) ∧ k ≤ s.size + 1 - a.toNat ∧ pre ++ upList s.data.toList (s.size + 1 - a.toNat - k) (a + k) = upList s.data.toList (s.size + 1 - a.toNat) a ∧ pre.length ≤ k ∧ J pre wr ∧ Below n₀ W wr) (fun t wr => s.size + 1 - (intOf t).toNat)
  case atStart => exact ⟨0, [], int_eq (by omega), by omega, by simp, by simp, hJ, Below.refl _ _⟩
  case round =>
    obtain ⟨k, pre, rfl, hk, hp, hlen, hJ', hB⟩ := hrel
    have Hp := Lib.hid hp; clear hp
    have hcs := (hB.cell (p := ⟨Bs, 0, none⟩) hs0).trans hBs
    by_cases hlt : a + k ≤ s.size
    · have hst : upList s.data.toList (s.size + 1 - a.toNat - k) (a + k) = if bndB s.data.toList (a + k) then (a + k) :: upList s.data.toList (s.size + 1 - a.toNat - (k + 1)) (a + k + 1) else upList s.data.toList (s.size + 1 - a.toNat - (k + 1)) (a + k + 1) := by
        rw [show s.size + 1 - a.toNat - k = s.size + 1 - a.toNat - (k + 1) + 1 from by omega]
        rfl
      have Hst := Lib.hid hst; clear hst
      by_cases hb : bndB s.data.toList (a + k) = true
      · obtain ⟨fn, tmps, assign, body, hy, hR⟩ := hY pre (a + k) wr hJ' (by omega)
        gi_wp2_with (refine ⟨trivial, ?_⟩; gi_at_call 17; refine (callsIn_wide.2 (boundary_any _ _ _)).mono ?_; rintro e w' ⟨rfl, rfl⟩)
        refine hR.mono ?_
        rintro e W1 (⟨rfl, hJ1, hk1⟩ | ⟨rfl, hJ1⟩)
        · gi_wp2
          go_roundw
          case rel => exact ⟨k + 1, pre ++ [a + k], int_eq (by omega), by omega, by rw [← Hp.out, Hst.out, if_pos hb, List.append_assoc, show a + ((k + 1 : Nat) : Int) = a + k + 1 from by omega]; rfl, by simp; omega, hJ1, hB.trans hk1⟩
          case measure => simp [intOf]; omega
        · gi_wp2
          refine bodyPost_ret (results_none rfl _ _ _) rfl ?_
          exact ⟨⟨_, rfl⟩, .inr ⟨pre ++ [a + k], ⟨upList s.data.toList (s.size + 1 - a.toNat - (k + 1)) (a + k + 1), by rw [← Hp.out, Hst.out, if_pos hb, List.append_assoc]; rfl⟩, hJ1⟩⟩
      · have hb : bndB s.data.toList (a + k) = false := by simpa using hb
        gi_wp2_with (refine ⟨trivial, ?_⟩; gi_at_call 17; refine (callsIn_wide.2 (boundary_any _ _ _)).mono ?_; rintro e w' ⟨rfl, rfl⟩)
        refine ⟨fun _ h => (by cases h), ?_⟩
        gi_wp2
        go_roundw
        case rel => exact ⟨k + 1, pre, int_eq (by omega), by omega, by rw [← Hp.out, Hst.out, if_neg (by simp [hb])]; congr 2; omega, by omega, hJ', hB⟩
        case measure => simp [intOf]; omega
    · gi_wp2
      go_end0
      refine ⟨⟨_, rfl⟩, .inl ⟨_, rfl, ?_⟩⟩
      rw [← Hp.out, show s.size + 1 - a.toNat - k = 0 from by omega]
      simpa [upList] using hJ'
set_option maxHeartbeats 1000000 in
theorem falling1_in (n : Nat) (hn : 1 ≤ n) (l Bn Bs n₀ : Nat) (s : ByteArray) (m : Nat) (hs : s.size ≤ 140737488355328) (hm : m ≤ s.size + 1) (J Jx : List Int → World → Prop)
    (hY : ∀ pre x W, J pre W → pre.length < s.size + 1 → 0 ≤ x → x ≤ (s.size : Int) → YieldAt Fence.wide (n - 1) Try.prog l #[.int .i64 x] W fun e W' =>
      (e = .returned (.bool true) ∧ J (pre ++ [x]) W' ∧ Below n₀ W W') ∨ (e = .returned (.bool false) ∧ Jx (pre ++ [x]) W'))
    (W : World) (hBn : W.cell? ⟨Bn, 0, none⟩ = some (.int .i64 ((m : Int) - 1))) (hBs : W.cell? ⟨Bs, 0, none⟩ = some (.string s)) (hs0 : Bs < n₀) (hJ : J [] W) :
    CallsIn Fence.wide n Try.prog 37 #[.func (.yield l) #[] #[], .pointer (some ⟨Bn, 0, none⟩), .pointer (some ⟨Bs, 0, none⟩)] W (IterPost (dnList s.data.toList m) J Jx) := by
  refine callsIn_of_wp Try.func37 rfl trivial ?_ rfl
  simp only [Try.ntmps37, List.size_toArray, List.length_cons, List.length_nil, Nat.reduceAdd, Nat.reduceSub, Array.replicate_succ, Array.replicate_zero, List.push_toArray, List.append_toArray, List.nil_append, List.cons_append]
  gi_wp2
  gi_loopw [4] (fun t wr => ∃ (k : Nat) (pre : List Int), t = .int .i64 ((k : Int) - 1) ∧ k ≤ m ∧ pre ++ dnList s.data.toList k = dnList s.data.toList m ∧ pre.length ≤ m - k ∧ J pre wr ∧ Below n₀ W wr) (fun t wr => (intOf t + 1).toNat)
  case atStart => exact ⟨m, [], rfl, by omega, by simp, by simp, hJ, Below.refl _ _⟩
  case round =>
    obtain ⟨k, pre, rfl, hk, hp, hlen, hJ', hB⟩ := hrel
    have Hp := Lib.hid hp; clear hp
    have hcs := (hB.cell (p := ⟨Bs, 0, none⟩) hs0).trans hBs
    cases k with
    | zero =>
      gi_wp2
      go_end0
      refine ⟨⟨_, rfl⟩, .inl ⟨_, rfl, ?_⟩⟩
      rw [← Hp.out]
      simpa [dnList] using hJ'
    | succ k =>
      rw [show ((k + 1 : Nat) : Int) - 1 = (k : Int) from by omega]
      have hst : dnList s.data.toList (k + 1) = if bndB s.data.toList k then (k : Int) :: dnList s.data.toList k else dnList s.data.toList k := rfl
      have Hst := Lib.hid hst; clear hst
      by_cases hb : bndB s.data.toList k = true
      · obtain ⟨fn, tmps, assign, body, hy, hR⟩ := hY pre k wr hJ' (by omega) (by omega) (by omega)
        gi_wp2_with (refine ⟨trivial, ?_⟩; gi_at_call 17; refine (callsIn_wide.2 (boundary_any _ _ _)).mono ?_; rintro e w' ⟨rfl, rfl⟩)
        refine hR.mono ?_
        rintro e W1 (⟨rfl, hJ1, hk1⟩ | ⟨rfl, hJ1⟩)
        · gi_wp2
          go_roundw
          case rel => exact ⟨k, pre ++ [(k : Int)], rfl, by omega, by rw [← Hp.out, Hst.out, if_pos hb, List.append_assoc]; rfl, by simp; omega, hJ1, hB.trans hk1⟩
          case measure => simp [intOf]
        · gi_wp2
          refine bodyPost_ret (results_none rfl _ _ _) rfl ?_
          exact ⟨⟨_, rfl⟩, .inr ⟨pre ++ [(k : Int)], ⟨dnList s.data.toList k, by rw [← Hp.out, Hst.out, if_pos hb, List.append_assoc]; rfl⟩, hJ1⟩⟩
      · have hb : bndB s.data.toList k = false := by simpa using hb
        gi_wp2_with (refine ⟨trivial, ?_⟩; gi_at_call 17; refine (callsIn_wide.2 (boundary_any _ _ _)).mono ?_; rintro e w' ⟨rfl, rfl⟩)
        refine ⟨fun _ h => (by cases h), ?_⟩
        gi_wp2
        go_roundw
        case rel => exact ⟨k, pre, rfl, by omega, by rw [← Hp.out, Hst.out, if_neg (by simp [hb])], by omega, hJ', hB⟩
        case measure => simp [intOf]

theorem rising_stops (n : Nat) (hn : 1 ≤ n) (Bn Bs n₀ : Nat) (s : ByteArray) (a : Int) (hs : s.size ≤ 140737488355328) (h0 : 0 ≤ a) (w : World) (hBn : w.cell? ⟨Bn, 0, none⟩ = some (.int .i64 a)) (hBs : w.cell? ⟨Bs, 0, none⟩ = some (.string s)) (h1 : Bn < w.heap.size) (h2 : Bs < w.heap.size) (h3 : Bs < n₀) :
    SeqStopsK Fence.wide n Try.prog 36 #[.pointer (some ⟨Bn, 0, none⟩), .pointer (some ⟨Bs, 0, none⟩)] (fun x : Int => #[Value.int .i64 x]) (Below n₀) (fun ys => ys = upList s.data.toList (s.size + 1 - a.toNat) a) (fun pre => pre <+: upList s.data.toList (s.size + 1 - a.toNat) a) (s.size + 1) w := fun l J Jx W hW _ _ hY hJ =>
  rising1_in n hn l Bn Bs n₀ s a hs h0 J Jx hY W ((hW.cell (p := ⟨Bn, 0, none⟩) h1).trans hBn) ((hW.cell (p := ⟨Bs, 0, none⟩) h2).trans hBs) h3 hJ
theorem falling_stops (n : Nat) (hn : 1 ≤ n) (Bn Bs n₀ : Nat) (s : ByteArray) (m : Nat) (hs : s.size ≤ 140737488355328) (hm : m ≤ s.size + 1) (w : World) (hBn : w.cell? ⟨Bn, 0, none⟩ = some (.int .i64 ((m : Int) - 1))) (hBs : w.cell? ⟨Bs, 0, none⟩ = some (.string s)) (h1 : Bn < w.heap.size) (h2 : Bs < w.heap.size) (h3 : Bs < n₀) :
    SeqStopsK Fence.wide n Try.prog 37 #[.pointer (some ⟨Bn, 0, none⟩), .pointer (some ⟨Bs, 0, none⟩)] (fun x : Int => #[Value.int .i64 x]) (Below n₀) (fun ys => ys = dnList s.data.toList m) (fun pre => pre <+: dnList s.data.toList m) (s.size + 1) w := fun l J Jx W hW _ _ hY hJ =>
  falling1_in n hn l Bn Bs n₀ s m hs hm J Jx (fun pre x W h1 h2 _ _ => hY pre x W h1 h2) W ((hW.cell (p := ⟨Bn, 0, none⟩) h1).trans hBn) ((hW.cell (p := ⟨Bs, 0, none⟩) h2).trans hBs) h3 hJ
/-- The same, where the body is told that what it is handed lies within the string. -/
abbrev InS (n : Nat) : Type := { x : Int // 0 ≤ x ∧ x ≤ (n : Int) }
theorem falling_stopsB (n : Nat) (hn : 1 ≤ n) (Bn Bs n₀ : Nat) (s : ByteArray) (m : Nat) (hs : s.size ≤ 140737488355328) (hm : m ≤ s.size + 1) (w : World) (hBn : w.cell? ⟨Bn, 0, none⟩ = some (.int .i64 ((m : Int) - 1))) (hBs : w.cell? ⟨Bs, 0, none⟩ = some (.string s)) (h1 : Bn < w.heap.size) (h2 : Bs < w.heap.size) (h3 : Bs < n₀) :
    SeqStopsK Fence.wide n Try.prog 37 #[.pointer (some ⟨Bn, 0, none⟩), .pointer (some ⟨Bs, 0, none⟩)] (fun x : InS s.size => #[Value.int .i64 x.1]) (Below n₀) (fun ys => ys.map (·.1) = dnList s.data.toList m) (fun pre => pre.map (·.1) <+: dnList s.data.toList m) (s.size + 1) w := by
  intro l J Jx W hW _ _ hY hJ
  refine (falling1_in n hn l Bn Bs n₀ s m hs hm (fun xs W => ∃ ys : List (InS s.size), ys.map (·.1) = xs ∧ J ys W) (fun xs W => ∃ ys : List (InS s.size), ys.map (·.1) = xs ∧ Jx ys W) ?_ W ((hW.cell (p := ⟨Bn, 0, none⟩) h1).trans hBn) ((hW.cell (p := ⟨Bs, 0, none⟩) h2).trans hBs) h3 ⟨[], rfl, hJ⟩).mono ?_
  · rintro pre x W ⟨ys, rfl, hj⟩ hlen h0 hx
    refine (hY ys ⟨x, h0, hx⟩ W hj (by simpa using hlen)).mono ?_
    rintro e W' (⟨rfl, hj', hk⟩ | ⟨rfl, hj'⟩)
    · exact .inl ⟨rfl, ⟨_, by simp, hj'⟩, hk⟩
    · exact .inr ⟨rfl, ⟨_, by simp, hj'⟩⟩
  · rintro e W' ⟨hv, ⟨_, rfl, ys, hy, hj⟩ | ⟨_, hp, ys, rfl, hj⟩⟩
    · exact ⟨hv, .inl ⟨ys, hy, hj⟩⟩
    · exact ⟨hv, .inr ⟨ys, hp, hj⟩⟩
theorem falling_any (s : ByteArray) (n : Int) (w : World) : Calls Try.prog 35 #[.string s, .int .i64 n] w fun e w' => e = .returned (.func (.func 37) #[] #[.pointer (some ⟨w.heap.size + 1, 0, none⟩), .pointer (some ⟨w.heap.size, 0, none⟩)]) ∧ (w.alloc (.cells #[.string s] 9)).alloc (.cells #[.int .i64 n] 3) = w' := by
  go_enter Try.func35, Try.ntmps35
  go_wp2
  go_ret
  exact ⟨rfl, rfl⟩

theorem cell_of_box_l {W : World} {B : Nat} {v : Value} {t : TypeId} (h : W.heap[B]? = some (.cells #[v] t (0, 0))) : W.cell? ⟨B, 0, none⟩ = some v ∧ W.frozen? ⟨B, 0, none⟩ = false := by
  constructor <;> simp [World.cell?, World.frozen?, h]
theorem cell_new_l (W : World) (v : Value) (t : TypeId) : (W.alloc (.cells #[v] t)).cell? ⟨W.heap.size, 0, none⟩ = some v ∧ (W.alloc (.cells #[v] t)).frozen? ⟨W.heap.size, 0, none⟩ = false :=
  cell_of_box_l (World.alloc_heap_new W _)
theorem cell_alloc_l {W : World} {a : Addr} {v : Value} (o : Obj) (h : W.cell? a = some v) : (W.alloc o).cell? a = some v := cell_kept h (World.grownBy_alloc W o none) (fun r e => by cases e)
theorem frozen_alloc_l {W : World} {a : Addr} {v : Value} (o : Obj) (h : W.cell? a = some v) (hf : W.frozen? a = false) : (W.alloc o).frozen? a = false := (frozen_kept h (World.grownBy_alloc W o none) (fun r e => by cases e)).trans hf

/-- Two results in cells, of which nothing has been told yet; and told. -/
def I2 (w : World) (pre : List Int) (W : World) : Prop := (pre = [] ∧ W.cell? ⟨w.heap.size, 0, none⟩ = some (.int .i64 0) ∧ W.frozen? ⟨w.heap.size, 0, none⟩ = false ∧ W.cell? ⟨w.heap.size + 1, 0, none⟩ = some (.bool false) ∧ W.frozen? ⟨w.heap.size + 1, 0, none⟩ = false) ∧ Below w.heap.size w W
def Ix2 (w : World) (c : Code) (pre : List Int) (W : World) : Prop := (c = .ret ∧ ∃ x, pre = [x] ∧ W.cell? ⟨w.heap.size, 0, none⟩ = some (.int .i64 x) ∧ W.cell? ⟨w.heap.size + 1, 0, none⟩ = some (.bool true)) ∧ Below w.heap.size w W
theorem I2_own (w : World) (B : Nat) (hB : w.heap.size ≤ B) : OwnFrom B (I2 w) :=
  OwnFrom.and (Own.from (fun _ _ _ _ hs hg hr => ⟨hs.1, cell_kept hs.2.1 hg hr, (frozen_kept hs.2.1 hg hr).trans hs.2.2.1, cell_kept hs.2.2.2.1 hg hr, (frozen_kept hs.2.2.2.1 hg hr).trans hs.2.2.2.2⟩) _) (ownFrom_below (Nat.le_refl _) hB)
theorem Ix2_own (w : World) (B : Nat) (hB : w.heap.size ≤ B) (c : Code) : OwnFrom B (Ix2 w c) :=
  OwnFrom.and (Own.from (fun _ _ _ _ hs hg hr => by
    obtain ⟨h1, x, h2, h3, h4⟩ := hs
    exact ⟨h1, x, h2, cell_kept h3 hg hr, cell_kept h4 hg hr⟩) _) (ownFrom_below (Nat.le_refl _) hB)
/-- The round that writes both results. -/
theorem I2_round (w W : World) (x : Int) (hc1 : W.cell? ⟨w.heap.size, 0, none⟩ = some (.int .i64 0)) (hc2 : W.cell? ⟨w.heap.size + 1, 0, none⟩ = some (.bool false)) (hB : Below w.heap.size w W) :
    KeepsOthers W ((W.setCell ⟨w.heap.size, 0, none⟩ (.int .i64 x)).setCell ⟨w.heap.size + 1, 0, none⟩ (.bool true)) ∧ Ix2 w .ret [x] ((W.setCell ⟨w.heap.size, 0, none⟩ (.int .i64 x)).setCell ⟨w.heap.size + 1, 0, none⟩ (.bool true)) := by
  refine ⟨(KeepsOthers.setCell _ _ _).trans (KeepsOthers.setCell _ _ _), ⟨rfl, x, rfl, ?_, ?_⟩, (hB.setCell (p := ⟨w.heap.size, 0, none⟩) (Nat.le_refl _) _).setCell (p := ⟨w.heap.size + 1, 0, none⟩) (by simp) _⟩
  · rw [World.cell?_setCell_other _ _ _ _ (by simp)]
    exact World.cell?_setCell_same' _ _ _ (by rw [hc1]; rfl)
  · exact World.cell?_setCell_same' _ _ _ (by rw [World.cell?_setCell_other _ _ _ _ (by simp), hc2]; rfl)
theorem I2_start (w : World) (o1 o2 : Obj) : I2 w [] ((((w.alloc (.cells #[.int .i64 0] 3)).alloc (.cells #[.bool false] 4)).alloc o1).alloc o2) := by
  have c0 := cell_new_l w (.int .i64 0) 3
  have c1 := cell_new_l (w.alloc (.cells #[.int .i64 0] 3)) (.bool false) 4
  simp only [World.size_alloc] at c1
  refine ⟨⟨rfl, cell_alloc_l _ (cell_alloc_l _ (cell_alloc_l _ c0.1)), frozen_alloc_l _ (cell_alloc_l _ (cell_alloc_l _ c0.1)) (frozen_alloc_l _ (cell_alloc_l _ c0.1) (frozen_alloc_l _ c0.1 c0.2)), cell_alloc_l _ (cell_alloc_l _ c1.1), frozen_alloc_l _ (cell_alloc_l _ c1.1) (frozen_alloc_l _ c1.1 c1.2)⟩, ?_⟩
  exact ((((Below.refl _ w).alloc (Nat.le_refl _) _).alloc (by simp) _).alloc (by simp; omega) _).alloc (by simp; omega) _

set_option maxHeartbeats 1000000 in
theorem next_any (s : ByteArray) (a : Int) (w : World) (hs : s.size ≤ 140737488355328) : Calls Try.prog 23 #[.string s, .int .i64 a] w fun e w' => e = .returned (.tuple #[.int .i64 (nextL s.data.toList a).1, .bool (nextL s.data.toList a).2]) ∧ Below w.heap.size w w' := by
  refine (callsIn_wide (n := 4)).1 ?_
  have hl : s.data.toList.length = s.size := by simp
  have Hl := Lib.hid hl; clear hl
  refine callsIn_of_wp_marks Try.func23 rfl trivial ?_ rfl
  simp only [Try.ntmps23, List.size_toArray, List.length_cons, List.length_nil, Nat.reduceAdd, Nat.reduceSub, Array.replicate_succ, Array.replicate_zero, List.push_toArray, List.append_toArray, List.nil_append, List.cons_append]
  gi_wp2_with (refine ⟨trivial, ?_⟩; gi_at_call 34; refine (callsIn_wide.2 (rising_any _ _ _)).mono ?_; rintro e w' ⟨rfl, rfl⟩)
  · refine ⟨.tuple #[.int .i64 0, .bool false], by simp [results, Try.f23, go_sem], ret_two ?_, ((Below.refl _ w).alloc (Nat.le_refl _) _).alloc (by simp) _⟩
    unfold nextL
    rw [Hl.out, show ((s.size : Int) - max a (-1)).toNat = 0 from by omega]
    rfl
  · have c2 := cell_new_l ((w.alloc (.cells #[.int .i64 0] 3)).alloc (.cells #[.bool false] 4)) (.string s) 9
    have c3 := cell_new_l (((w.alloc (.cells #[.int .i64 0] 3)).alloc (.cells #[.bool false] 4)).alloc (.cells #[.string s] 9)) (.int .i64 0) 3
    simp only [World.size_alloc] at c2 c3
    have hnx : nextL s.data.toList a = upF s.data.toList (s.size + 1 - Int.toNat 0) 0 := by
      unfold nextL
      rw [Hl.out]
      congr 1 <;> omega
    have Hnx := Lib.hid hnx; clear hnx
    refine wpIn_rangeFunc_ownF rfl (by omega) (gf := 36) (lb := #[.pointer (some ⟨w.heap.size + 1 + 1 + 1, 0, none⟩), .pointer (some ⟨w.heap.size + 1 + 1, 0, none⟩)]) rfl trivial (enters_of Try.func36 (by kernel_rfl) rfl)
      (rising_stops 3 (by omega) _ _ (w.heap.size + 1 + 1 + 1) s 0 hs (by omega) _ c3.1 (cell_alloc_l _ c2.1) (by simp) (by simp) (by omega)) belowK_t (belowK_b (by simp)) (Below.refl _ _) (fun _ => rfl)
      (I2 w) (Ix2 w) (I2_own w _ (by simp; omega)) (Ix2_own w _ (by simp; omega)) (I2_start w _ _) ?a1 ?assign ?body ?done ?stop
    case assign =>
      intro l x W K hK
      gi_wp2
      exact hK
    case body =>
      rintro l pre x W ⟨⟨rfl, hc1, hf1, hc2, hf2⟩, hB⟩ _
      gi_wp2
      exact I2_round w W x hc1 hc2 hB
    case done =>
      rintro D ys W hD rfl ⟨⟨hys, hc1, hf1, hc2, hf2⟩, hB⟩ hK
      have Hys := Lib.hid hys; clear hys
      gi_wp2
      have hK' := ((KeepsOthers.setCell W ⟨w.heap.size, 0, none⟩ (.int .i64 0)).trans (KeepsOthers.setCell _ ⟨w.heap.size + 1, 0, none⟩ (.bool false))).same D _ hK rfl
      refine ⟨by simp, .inl ⟨_, _, rfl, run_takeDeferred hK', ?_⟩⟩
      have hc5 := cell_kept (show ((W.setCell ⟨w.heap.size, 0, none⟩ (.int .i64 0)).setCell ⟨w.heap.size + 1, 0, none⟩ (.bool false)).cell? ⟨w.heap.size, 0, none⟩ = some (.int .i64 0) by
        rw [World.cell?_setCell_other _ _ _ _ (by simp)]; exact World.cell?_setCell_same' _ _ _ (by rw [hc1]; rfl)) (grownBy_putObj' _ D (.deferred none)) (fun r e => by cases e; exact ⟨_, hK', rfl⟩)
      have hc6 := cell_kept (show ((W.setCell ⟨w.heap.size, 0, none⟩ (.int .i64 0)).setCell ⟨w.heap.size + 1, 0, none⟩ (.bool false)).cell? ⟨w.heap.size + 1, 0, none⟩ = some (.bool false) by
        exact World.cell?_setCell_same' _ _ _ (by rw [World.cell?_setCell_other _ _ _ _ (by simp), hc2]; rfl)) (grownBy_putObj' _ D (.deferred none)) (fun r e => by cases e; exact ⟨_, hK', rfl⟩)
      refine ⟨.tuple #[.int .i64 0, .bool false], by simp [results, Try.f23, go_sem, hc5, hc6], ret_two (by rw [Hnx.out, upList_head, Hys.out]), ((hB.setCell (p := ⟨w.heap.size, 0, none⟩) (Nat.le_refl _) _).setCell (p := ⟨w.heap.size + 1, 0, none⟩) (by simp) _).trans (belowK_b (w := w) (Nat.le_refl _) _ D _ _ (by simp at hD; omega) hK' rfl rfl)⟩
    case stop =>
      rintro D c pre W hD hpre ⟨⟨rfl, x, rfl, hc1, hc2⟩, hB⟩ hK
      have Hpre := Lib.hid hpre; clear hpre
      gi_wp2
      refine ⟨by simp, .inl ⟨_, _, rfl, run_takeDeferred hK, ?_⟩⟩
      have hc5 := cell_kept hc1 (grownBy_putObj' _ D (.deferred none)) (fun r e => by cases e; exact ⟨_, hK, rfl⟩)
      have hc6 := cell_kept hc2 (grownBy_putObj' _ D (.deferred none)) (fun r e => by cases e; exact ⟨_, hK, rfl⟩)
      refine ⟨.tuple #[.int .i64 x, .bool true], by simp [results, Try.f23, go_sem, hc5, hc6], ret_two ?_, hB.trans (belowK_b (w := w) (Nat.le_refl _) W D _ _ (by simp at hD; omega) hK rfl rfl)⟩
      obtain ⟨tl, htl⟩ := Hpre.out
      rw [Hnx.out, upList_head, ← htl]
      rfl
  · have c2 := cell_new_l ((w.alloc (.cells #[.int .i64 0] 3)).alloc (.cells #[.bool false] 4)) (.string s) 9
    have c3 := cell_new_l (((w.alloc (.cells #[.int .i64 0] 3)).alloc (.cells #[.bool false] 4)).alloc (.cells #[.string s] 9)) (.int .i64 (a + 1)) 3
    simp only [World.size_alloc] at c2 c3
    have hnx : nextL s.data.toList a = upF s.data.toList (s.size + 1 - Int.toNat (a + 1)) (a + 1) := by
      unfold nextL
      rw [Hl.out]
      congr 1 <;> omega
    have Hnx := Lib.hid hnx; clear hnx
    refine wpIn_rangeFunc_ownF rfl (by omega) (gf := 36) (lb := #[.pointer (some ⟨w.heap.size + 1 + 1 + 1, 0, none⟩), .pointer (some ⟨w.heap.size + 1 + 1, 0, none⟩)]) rfl trivial (enters_of Try.func36 (by kernel_rfl) rfl)
      (rising_stops 3 (by omega) _ _ (w.heap.size + 1 + 1 + 1) s (a + 1) hs (by omega) _ c3.1 (cell_alloc_l _ c2.1) (by simp) (by simp) (by omega)) belowK_t (belowK_b (by simp)) (Below.refl _ _) (fun _ => rfl)
      (I2 w) (Ix2 w) (I2_own w _ (by simp; omega)) (Ix2_own w _ (by simp; omega)) (I2_start w _ _) ?ba1 ?bassign ?bbody ?bdone ?bstop
    case bassign =>
      intro l x W K hK
      gi_wp2
      exact hK
    case bbody =>
      rintro l pre x W ⟨⟨rfl, hc1, hf1, hc2, hf2⟩, hB⟩ _
      gi_wp2
      exact I2_round w W x hc1 hc2 hB
    case bdone =>
      rintro D ys W hD rfl ⟨⟨hys, hc1, hf1, hc2, hf2⟩, hB⟩ hK
      have Hys := Lib.hid hys; clear hys
      gi_wp2
      have hK' := ((KeepsOthers.setCell W ⟨w.heap.size, 0, none⟩ (.int .i64 0)).trans (KeepsOthers.setCell _ ⟨w.heap.size + 1, 0, none⟩ (.bool false))).same D _ hK rfl
      refine ⟨by simp, .inl ⟨_, _, rfl, run_takeDeferred hK', ?_⟩⟩
      have hc5 := cell_kept (show ((W.setCell ⟨w.heap.size, 0, none⟩ (.int .i64 0)).setCell ⟨w.heap.size + 1, 0, none⟩ (.bool false)).cell? ⟨w.heap.size, 0, none⟩ = some (.int .i64 0) by
        rw [World.cell?_setCell_other _ _ _ _ (by simp)]; exact World.cell?_setCell_same' _ _ _ (by rw [hc1]; rfl)) (grownBy_putObj' _ D (.deferred none)) (fun r e => by cases e; exact ⟨_, hK', rfl⟩)
      have hc6 := cell_kept (show ((W.setCell ⟨w.heap.size, 0, none⟩ (.int .i64 0)).setCell ⟨w.heap.size + 1, 0, none⟩ (.bool false)).cell? ⟨w.heap.size + 1, 0, none⟩ = some (.bool false) by
        exact World.cell?_setCell_same' _ _ _ (by rw [World.cell?_setCell_other _ _ _ _ (by simp), hc2]; rfl)) (grownBy_putObj' _ D (.deferred none)) (fun r e => by cases e; exact ⟨_, hK', rfl⟩)
      refine ⟨.tuple #[.int .i64 0, .bool false], by simp [results, Try.f23, go_sem, hc5, hc6], ret_two (by rw [Hnx.out, upList_head, Hys.out]), ((hB.setCell (p := ⟨w.heap.size, 0, none⟩) (Nat.le_refl _) _).setCell (p := ⟨w.heap.size + 1, 0, none⟩) (by simp) _).trans (belowK_b (w := w) (Nat.le_refl _) _ D _ _ (by simp at hD; omega) hK' rfl rfl)⟩
    case bstop =>
      rintro D c pre W hD hpre ⟨⟨rfl, x, rfl, hc1, hc2⟩, hB⟩ hK
      have Hpre := Lib.hid hpre; clear hpre
      gi_wp2
      refine ⟨by simp, .inl ⟨_, _, rfl, run_takeDeferred hK, ?_⟩⟩
      have hc5 := cell_kept hc1 (grownBy_putObj' _ D (.deferred none)) (fun r e => by cases e; exact ⟨_, hK, rfl⟩)
      have hc6 := cell_kept hc2 (grownBy_putObj' _ D (.deferred none)) (fun r e => by cases e; exact ⟨_, hK, rfl⟩)
      refine ⟨.tuple #[.int .i64 x, .bool true], by simp [results, Try.f23, go_sem, hc5, hc6], ret_two ?_, hB.trans (belowK_b (w := w) (Nat.le_refl _) W D _ _ (by simp at hD; omega) hK rfl rfl)⟩
      obtain ⟨tl, htl⟩ := Hpre.out
      rw [Hnx.out, upList_head, ← htl]
      rfl
set_option maxHeartbeats 1000000 in
theorem prev_any (s : ByteArray) (a : Int) (w : World) (hs : s.size ≤ 140737488355328) (_ha : a ≤ 9223372036854775807) : Calls Try.prog 25 #[.string s, .int .i64 a] w fun e w' => e = .returned (.tuple #[.int .i64 (prevL s.data.toList a).1, .bool (prevL s.data.toList a).2]) ∧ Below w.heap.size w w' := by
  refine (callsIn_wide (n := 4)).1 ?_
  have hl : s.data.toList.length = s.size := by simp
  have Hl := Lib.hid hl; clear hl
  refine callsIn_of_wp_marks Try.func25 rfl trivial ?_ rfl
  simp only [Try.ntmps25, List.size_toArray, List.length_cons, List.length_nil, Nat.reduceAdd, Nat.reduceSub, Array.replicate_succ, Array.replicate_zero, List.push_toArray, List.append_toArray, List.nil_append, List.cons_append]
  gi_wp2_with (refine ⟨trivial, ?_⟩; gi_at_call 35; refine (callsIn_wide.2 (falling_any _ _ _)).mono ?_; rintro e w' ⟨rfl, rfl⟩)
  · refine ⟨.tuple #[.int .i64 0, .bool false], by simp [results, Try.f25, go_sem], ret_two ?_, ((Below.refl _ w).alloc (Nat.le_refl _) _).alloc (by simp) _⟩
    unfold prevL
    rw [Hl.out, show (min a ((s.size : Int) + 1)).toNat = 0 from by omega]
    rfl
  · have c2 := cell_new_l ((w.alloc (.cells #[.int .i64 0] 3)).alloc (.cells #[.bool false] 4)) (.string s) 9
    have c3 := cell_new_l (((w.alloc (.cells #[.int .i64 0] 3)).alloc (.cells #[.bool false] 4)).alloc (.cells #[.string s] 9)) (.int .i64 s.size) 3
    simp only [World.size_alloc] at c2 c3
    have em : (((s.size + 1) : Nat) : Int) - 1 = s.size := by omega
    rw [← em] at c3 ⊢
    have hnx : prevL s.data.toList a = dnF s.data.toList (s.size + 1) := by
      unfold prevL
      rw [Hl.out]
      congr 1
      omega
    have Hnx := Lib.hid hnx; clear hnx
    refine wpIn_rangeFunc_ownF rfl (by omega) (gf := 37) (lb := #[.pointer (some ⟨w.heap.size + 1 + 1 + 1, 0, none⟩), .pointer (some ⟨w.heap.size + 1 + 1, 0, none⟩)]) rfl trivial (enters_of Try.func37 (by kernel_rfl) rfl)
      (falling_stops 3 (by omega) _ _ (w.heap.size + 1 + 1 + 1) s (s.size + 1) hs (by omega) _ c3.1 (cell_alloc_l _ c2.1) (by simp) (by simp) (by omega)) belowK_t (belowK_b (by simp)) (Below.refl _ _) (fun _ => rfl)
      (I2 w) (Ix2 w) (I2_own w _ (by simp; omega)) (Ix2_own w _ (by simp; omega)) (I2_start w _ _) ?a1 ?assign ?body ?done ?stop
    case assign =>
      intro l x W K hK
      gi_wp2
      exact hK
    case body =>
      rintro l pre x W ⟨⟨rfl, hc1, hf1, hc2, hf2⟩, hB⟩ _
      gi_wp2
      exact I2_round w W x hc1 hc2 hB
    case done =>
      rintro D ys W hD rfl ⟨⟨hys, hc1, hf1, hc2, hf2⟩, hB⟩ hK
      have Hys := Lib.hid hys; clear hys
      gi_wp2
      have hK' := ((KeepsOthers.setCell W ⟨w.heap.size, 0, none⟩ (.int .i64 0)).trans (KeepsOthers.setCell _ ⟨w.heap.size + 1, 0, none⟩ (.bool false))).same D _ hK rfl
      refine ⟨by simp, .inl ⟨_, _, rfl, run_takeDeferred hK', ?_⟩⟩
      have hc5 := cell_kept (show ((W.setCell ⟨w.heap.size, 0, none⟩ (.int .i64 0)).setCell ⟨w.heap.size + 1, 0, none⟩ (.bool false)).cell? ⟨w.heap.size, 0, none⟩ = some (.int .i64 0) by
        rw [World.cell?_setCell_other _ _ _ _ (by simp)]; exact World.cell?_setCell_same' _ _ _ (by rw [hc1]; rfl)) (grownBy_putObj' _ D (.deferred none)) (fun r e => by cases e; exact ⟨_, hK', rfl⟩)
      have hc6 := cell_kept (show ((W.setCell ⟨w.heap.size, 0, none⟩ (.int .i64 0)).setCell ⟨w.heap.size + 1, 0, none⟩ (.bool false)).cell? ⟨w.heap.size + 1, 0, none⟩ = some (.bool false) by
        exact World.cell?_setCell_same' _ _ _ (by rw [World.cell?_setCell_other _ _ _ _ (by simp), hc2]; rfl)) (grownBy_putObj' _ D (.deferred none)) (fun r e => by cases e; exact ⟨_, hK', rfl⟩)
      refine ⟨.tuple #[.int .i64 0, .bool false], by simp [results, Try.f25, go_sem, hc5, hc6], ret_two (by rw [Hnx.out, dnList_head, Hys.out]), ((hB.setCell (p := ⟨w.heap.size, 0, none⟩) (Nat.le_refl _) _).setCell (p := ⟨w.heap.size + 1, 0, none⟩) (by simp) _).trans (belowK_b (w := w) (Nat.le_refl _) _ D _ _ (by simp at hD; omega) hK' rfl rfl)⟩
    case stop =>
      rintro D c pre W hD hpre ⟨⟨rfl, x, rfl, hc1, hc2⟩, hB⟩ hK
      have Hpre := Lib.hid hpre; clear hpre
      gi_wp2
      refine ⟨by simp, .inl ⟨_, _, rfl, run_takeDeferred hK, ?_⟩⟩
      have hc5 := cell_kept hc1 (grownBy_putObj' _ D (.deferred none)) (fun r e => by cases e; exact ⟨_, hK, rfl⟩)
      have hc6 := cell_kept hc2 (grownBy_putObj' _ D (.deferred none)) (fun r e => by cases e; exact ⟨_, hK, rfl⟩)
      refine ⟨.tuple #[.int .i64 x, .bool true], by simp [results, Try.f25, go_sem, hc5, hc6], ret_two ?_, hB.trans (belowK_b (w := w) (Nat.le_refl _) W D _ _ (by simp at hD; omega) hK rfl rfl)⟩
      obtain ⟨tl, htl⟩ := Hpre.out
      rw [Hnx.out, dnList_head, ← htl]
      rfl
  · have c2 := cell_new_l ((w.alloc (.cells #[.int .i64 0] 3)).alloc (.cells #[.bool false] 4)) (.string s) 9
    have c3 := cell_new_l (((w.alloc (.cells #[.int .i64 0] 3)).alloc (.cells #[.bool false] 4)).alloc (.cells #[.string s] 9)) (.int .i64 (a - 1)) 3
    simp only [World.size_alloc] at c2 c3
    have em : ((a.toNat : Nat) : Int) - 1 = (a - 1) := by omega
    rw [← em] at c3 ⊢
    have hnx : prevL s.data.toList a = dnF s.data.toList a.toNat := by
      unfold prevL
      rw [Hl.out]
      congr 1
      omega
    have Hnx := Lib.hid hnx; clear hnx
    refine wpIn_rangeFunc_ownF rfl (by omega) (gf := 37) (lb := #[.pointer (some ⟨w.heap.size + 1 + 1 + 1, 0, none⟩), .pointer (some ⟨w.heap.size + 1 + 1, 0, none⟩)]) rfl trivial (enters_of Try.func37 (by kernel_rfl) rfl)
      (falling_stops 3 (by omega) _ _ (w.heap.size + 1 + 1 + 1) s a.toNat hs (by omega) _ c3.1 (cell_alloc_l _ c2.1) (by simp) (by simp) (by omega)) belowK_t (belowK_b (by simp)) (Below.refl _ _) (fun _ => rfl)
      (I2 w) (Ix2 w) (I2_own w _ (by simp; omega)) (Ix2_own w _ (by simp; omega)) (I2_start w _ _) ?ba1 ?bassign ?bbody ?bdone ?bstop
    case bassign =>
      intro l x W K hK
      gi_wp2
      exact hK
    case bbody =>
      rintro l pre x W ⟨⟨rfl, hc1, hf1, hc2, hf2⟩, hB⟩ _
      gi_wp2
      exact I2_round w W x hc1 hc2 hB
    case bdone =>
      rintro D ys W hD rfl ⟨⟨hys, hc1, hf1, hc2, hf2⟩, hB⟩ hK
      have Hys := Lib.hid hys; clear hys
      gi_wp2
      have hK' := ((KeepsOthers.setCell W ⟨w.heap.size, 0, none⟩ (.int .i64 0)).trans (KeepsOthers.setCell _ ⟨w.heap.size + 1, 0, none⟩ (.bool false))).same D _ hK rfl
      refine ⟨by simp, .inl ⟨_, _, rfl, run_takeDeferred hK', ?_⟩⟩
      have hc5 := cell_kept (show ((W.setCell ⟨w.heap.size, 0, none⟩ (.int .i64 0)).setCell ⟨w.heap.size + 1, 0, none⟩ (.bool false)).cell? ⟨w.heap.size, 0, none⟩ = some (.int .i64 0) by
        rw [World.cell?_setCell_other _ _ _ _ (by simp)]; exact World.cell?_setCell_same' _ _ _ (by rw [hc1]; rfl)) (grownBy_putObj' _ D (.deferred none)) (fun r e => by cases e; exact ⟨_, hK', rfl⟩)
      have hc6 := cell_kept (show ((W.setCell ⟨w.heap.size, 0, none⟩ (.int .i64 0)).setCell ⟨w.heap.size + 1, 0, none⟩ (.bool false)).cell? ⟨w.heap.size + 1, 0, none⟩ = some (.bool false) by
        exact World.cell?_setCell_same' _ _ _ (by rw [World.cell?_setCell_other _ _ _ _ (by simp), hc2]; rfl)) (grownBy_putObj' _ D (.deferred none)) (fun r e => by cases e; exact ⟨_, hK', rfl⟩)
      refine ⟨.tuple #[.int .i64 0, .bool false], by simp [results, Try.f25, go_sem, hc5, hc6], ret_two (by rw [Hnx.out, dnList_head, Hys.out]), ((hB.setCell (p := ⟨w.heap.size, 0, none⟩) (Nat.le_refl _) _).setCell (p := ⟨w.heap.size + 1, 0, none⟩) (by simp) _).trans (belowK_b (w := w) (Nat.le_refl _) _ D _ _ (by simp at hD; omega) hK' rfl rfl)⟩
    case bstop =>
      rintro D c pre W hD hpre ⟨⟨rfl, x, rfl, hc1, hc2⟩, hB⟩ hK
      have Hpre := Lib.hid hpre; clear hpre
      gi_wp2
      refine ⟨by simp, .inl ⟨_, _, rfl, run_takeDeferred hK, ?_⟩⟩
      have hc5 := cell_kept hc1 (grownBy_putObj' _ D (.deferred none)) (fun r e => by cases e; exact ⟨_, hK, rfl⟩)
      have hc6 := cell_kept hc2 (grownBy_putObj' _ D (.deferred none)) (fun r e => by cases e; exact ⟨_, hK, rfl⟩)
      refine ⟨.tuple #[.int .i64 x, .bool true], by simp [results, Try.f25, go_sem, hc5, hc6], ret_two ?_, hB.trans (belowK_b (w := w) (Nat.le_refl _) W D _ _ (by simp at hD; omega) hK rfl rfl)⟩
      obtain ⟨tl, htl⟩ := Hpre.out
      rw [Hnx.out, dnList_head, ← htl]
      rfl
end Go.Proofs.Ytmachjjnhphhbaa
