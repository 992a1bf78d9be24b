/- Texts, one behind another. -/
import Derived.Test.YtdeiocppghhfdaaGreatZbas
import Derived.Test.YtdeiocppghhfdaaGreatZbau
set_option linter.unusedVariables false
set_option linter.unusedSimpArgs false
set_option maxRecDepth 100000
set_option maxHeartbeats 8000000
namespace Go.Proofs.YtdeiocppghhfdaaGreat
open Go.RowKit Go.Lib Go.Shelf
attribute [local go_sem, local simp] resF resL_len resL_ne rset0 rset1 rset2 rset3 rset4 rset5 rset6 rset7 rset8
theorem sn_len (g o : Nat) (cur : Array Value) (x : SnM) (q : OpV) (w : World) (h : SnAt w g o cur x) (hok : SnOK x.s) (hk : q.kind = 6) :
  Calls Tryz.prog 146 #[.pointer (some ⟨g, o, none⟩), .agg #[.int .u8 q.kind, .int .i64 q.slot, .int .i64 q.at_, .int .i64 q.n, .int .u32 q.id, .int .u8 q.grav, .string q.text]] w (SnPost g o cur w x (snpS x.s q)) := by
 have hsz := hok.1
 rw [snp6 hk]
 clear hk
 have hE := ed2_start w q
 have hN0 := h.below hE.bl
 obtain ⟨⟨c0, c1, c2, c3⟩, f0, f1, f2, f3⟩ := hN0.cells
 obtain ⟨p2, p3, p6, p4, p5⟩ := hE.o2
 have hrB : w.heap.size ≤ w.heap.size + 1 := by omega
 have om := fun W => of_meas x.s.text W (Nat.le_trans hsz (by decide))
 simp only [measL] at om
 go_enter Tryz.func146, Tryz.ntmps146
 go_wp2_with (go_at_call 199; refine (om _).mono ?_; rintro e w1 ⟨rfl, hb1⟩; have hE2 := hE.on hb1; have hst := res_st hE2.res rfl)
 exact ⟨rfl, _, results_cell_row rfl _ _ _ _ _ _ _ rfl (setRow_heap _ _ _ _ _ _ hE2.res) Tryz.underlying51 rfl (by kernel_rfl), rfl, h.post hE2.bl hE2.res hrB _⟩
theorem cut_eq (t : ByteArray) (a n : Int) (ha : 0 ≤ a) (hn : 0 ≤ n) : t.extract a.toNat (a + n).toNat = cutT t a n := by
 apply ByteArray.ext
 apply Array.toList_inj.1
 rw [ByteArray.data_extract, Array.toList_extract, List.extract_eq_take_drop]
 unfold cutT
 rw [show (a + n).toNat - a.toNat = n.toNat by omega]
theorem sn_read (g o : Nat) (cur : Array Value) (x : SnM) (q : OpV) (w : World) (h : SnAt w g o cur x) (hok : SnOK x.s) (hk : q.kind = 7) (ha : 0 ≤ q.at_) (ha2 : q.at_ ≤ maxLen) (hn : 0 ≤ q.n) (hn2 : q.n ≤ maxLen) :
  Calls Tryz.prog 147 #[.pointer (some ⟨g, o, none⟩), .agg #[.int .u8 q.kind, .int .i64 q.slot, .int .i64 q.at_, .int .i64 q.n, .int .u32 q.id, .int .u8 q.grav, .string q.text]] w (SnPost g o cur w x (snpS x.s q)) := by
 have hsz := hok.1
 rw [snp7 hk]
 clear hk
 have hE := ed2_start w q
 have hN0 := h.below hE.bl
 obtain ⟨⟨c0, c1, c2, c3⟩, f0, f1, f2, f3⟩ := hN0.cells
 obtain ⟨p2, p3, p6, p4, p5⟩ := hE.o2
 have hrB : w.heap.size ≤ w.heap.size + 1 := by omega
 by_cases h1 : (x.s.text.size : Int) < q.at_
 ·rw [if_pos (.inl h1)]
  have d : decide ((x.s.text.size : Int) < q.at_) = true := by simpa using h1
  go_enter Tryz.func147, Tryz.ntmps147
  go_wp2
  go_region
  go_wp2_with (go_at_call 99; refine (fail_any _ _).mono ?_; rintro e v7 ⟨rfl, hb7⟩; have hE7 := (by first | exact hE.on hb7 | exact hE.drew.on hb7 | exact hE.drew.drew.on hb7 : Ed2 w q (w.heap.size + 1) v7); have hst := res_st hE7.res rfl)
  exact ⟨rfl, _, results_cell_row rfl _ _ _ _ _ _ _ rfl (setRow_heap _ _ _ _ _ _ hE7.res) Tryz.underlying51 rfl (by kernel_rfl), rfl, h.post hE7.bl hE7.res hrB _⟩
 ·have d : decide ((x.s.text.size : Int) < q.at_) = false := by simpa using h1
  have hws : IntKind.i64.wrap ((x.s.text.size : Int) - q.at_) = (x.s.text.size : Int) - q.at_ := IntWalk.i64_in _ (by omega)
  by_cases h2 : (x.s.text.size : Int) - q.at_ < q.n
  ·rw [if_pos (.inr h2)]
   have d2 : decide ((x.s.text.size : Int) - q.at_ < q.n) = true := by simpa using h2
   go_enter Tryz.func147, Tryz.ntmps147
   go_wp2
   go_region
   go_wp2_with (go_at_call 99; refine (fail_any _ _).mono ?_; rintro e v7 ⟨rfl, hb7⟩; have hE7 := (by first | exact hE.on hb7 | exact hE.drew.on hb7 | exact hE.drew.drew.on hb7 : Ed2 w q (w.heap.size + 1) v7); have hst := res_st hE7.res rfl)
   exact ⟨rfl, _, results_cell_row rfl _ _ _ _ _ _ _ rfl (setRow_heap _ _ _ _ _ _ hE7.res) Tryz.underlying51 rfl (by kernel_rfl), rfl, h.post hE7.bl hE7.res hrB _⟩
  ·rw [if_neg (by omega)]
   have d2 : decide ((x.s.text.size : Int) - q.at_ < q.n) = false := by simpa using h2
   have hwr : IntKind.i64.wrap (q.at_ + q.n) = q.at_ + q.n := IntWalk.i64_in _ (by omega)
   have hst := res_st hE.res rfl
   have hst1 := res_st hE.drew.res rfl
   have hst2 := res_st hE.drew.drew.res rfl
   have b1 : 0 ≤ q.at_ + q.n := by omega
   have b2 : q.at_ + q.n ≤ (x.s.text.size : Int) := by omega
   have b3 : q.at_ ≤ q.at_ + q.n := by omega
   go_enter Tryz.func147, Tryz.ntmps147
   go_wp2
   go_region
   go_wp2
   go_region
   go_wp2
   rw [cut_eq _ _ _ ha hn]
   exact ⟨rfl, _, results_cell_row rfl _ _ _ _ _ _ _ rfl (setRow_heap _ _ _ _ _ _ hE.drew.drew.res) Tryz.underlying51 rfl (by kernel_rfl), rfl, h.post hE.drew.drew.bl hE.drew.drew.res hrB _⟩
theorem sn_rune (g o : Nat) (cur : Array Value) (x : SnM) (q : OpV) (w : World) (h : SnAt w g o cur x) (hok : SnOK x.s) (hk : q.kind = 8) (hn2 : q.n ≤ maxLen) :
  Calls Tryz.prog 148 #[.pointer (some ⟨g, o, none⟩), .agg #[.int .u8 q.kind, .int .i64 q.slot, .int .i64 q.at_, .int .i64 q.n, .int .u32 q.id, .int .u8 q.grav, .string q.text]] w (SnPost g o cur w x (snpS x.s q)) := by
 have hsz := hok.1
 rw [snp8 hk]
 clear hk
 have hE := ed2_start w q
 have hN0 := h.below hE.bl
 obtain ⟨⟨c0, c1, c2, c3⟩, f0, f1, f2, f3⟩ := hN0.cells
 obtain ⟨p2, p3, p6, p4, p5⟩ := hE.o2
 have hrB : w.heap.size ≤ w.heap.size + 1 := by omega
 have om := fun W => rune_meas x.s.text q.n W (Nat.le_trans hsz (by decide)) hn2
 have hst := res_st hE.res rfl
 have hst1 := res_st hE.drew.res rfl
 go_enter Tryz.func148, Tryz.ntmps148
 go_wp2
 go_region_with (go_at_call 200; refine (om _).mono ?_; rintro e w1 ⟨rfl, rfl⟩)
 all_goals go_wp2
 all_goals exact ⟨rfl, _, results_cell_row rfl _ _ _ _ _ _ _ rfl (setRow_heap _ _ _ _ _ _ hE.drew.res) Tryz.underlying51 rfl (by kernel_rfl), rfl, h.post hE.drew.bl hE.drew.res hrB _⟩
theorem sn_line (g o : Nat) (cur : Array Value) (x : SnM) (q : OpV) (w : World) (h : SnAt w g o cur x) (hok : SnOK x.s) (hk : q.kind = 9) (hn2 : q.n ≤ maxLen) :
  Calls Tryz.prog 149 #[.pointer (some ⟨g, o, none⟩), .agg #[.int .u8 q.kind, .int .i64 q.slot, .int .i64 q.at_, .int .i64 q.n, .int .u32 q.id, .int .u8 q.grav, .string q.text]] w (SnPost g o cur w x (snpS x.s q)) := by
 have hsz := hok.1
 rw [snp9 hk]
 clear hk
 have hE := ed2_start w q
 have hN0 := h.below hE.bl
 obtain ⟨⟨c0, c1, c2, c3⟩, f0, f1, f2, f3⟩ := hN0.cells
 obtain ⟨p2, p3, p6, p4, p5⟩ := hE.o2
 have hrB : w.heap.size ≤ w.heap.size + 1 := by omega
 have om := fun W => line_meas x.s.text q.n W (Nat.le_trans hsz (by decide)) hn2
 have hst := res_st hE.res rfl
 have hst1 := res_st hE.drew.res rfl
 go_enter Tryz.func149, Tryz.ntmps149
 go_wp2
 go_region_with (go_at_call 201; refine (om _).mono ?_; rintro e w1 ⟨rfl, rfl⟩)
 all_goals go_wp2
 all_goals exact ⟨rfl, _, results_cell_row rfl _ _ _ _ _ _ _ rfl (setRow_heap _ _ _ _ _ _ hE.drew.res) Tryz.underlying51 rfl (by kernel_rfl), rfl, h.post hE.drew.bl hE.drew.res hrB _⟩
end Go.Proofs.YtdeiocppghhfdaaGreat
namespace Go.Proofs.YtdeiocppghhfdaaGreat
open Go.RowKit Go.Lib Go.Shelf
attribute [local go_sem, local simp] resF resL_len resL_ne rset0 rset1 rset2 rset3 rset4 rset5 rset6 rset7 rset8
theorem find_has (id : Int) (l : List MkV) : hasM id l = (findM id l).isSome := by
 unfold hasM findM
 rw [Bool.eq_iff_iff, List.any_eq_true, List.find?_isSome]
theorem set3_pkg {w W : World} {q : OpV} {r g o : Nat} {cur : Array Value} {x : SnM} (hE : Ed2 w q r W) (hN : SnAt W g o cur x) (hr : r ≠ g) (p : Int) : SnAt (W.setCell ⟨g, o + 3, none⟩ (.int .i64 p)) g o (segA cur o (snL ⟨{ x.s with cursor := p }, x.mv⟩)) ⟨{ x.s with cursor := p }, x.mv⟩ ∧
  (W.setCell ⟨g, o + 3, none⟩ (.int .i64 p)).heap[r]? = some (.cells (resL {}).toArray 51 (0, 0)) ∧ (W.setCell ⟨g, o + 3, none⟩ (.int .i64 p)).drew.heap[r]? = some (.cells (resL {}).toArray 51 (0, 0)) ∧ (W.setCell ⟨g, o + 3, none⟩ (.int .i64 p)).drew.drew.heap[r]? = some (.cells (resL {}).toArray 51 (0, 0)) ∧ KeepF (fun k => k = g) W (W.setCell ⟨g, o + 3, none⟩ (.int .i64 p)) := by
 have hz := (setCell_ne W ⟨g, o + 3, none⟩ (.int .i64 p) r hr).trans hE.res
 exact ⟨hN.set3 p, hz, hz, hz, KeepF.set (F := fun k => k = g) (a := ⟨g, o + 3, none⟩) rfl _⟩
theorem frz3 {w : World} {b : Nat} {u v x : Value} {T : TypeId} (h : w.heap[b]? = some (.cells #[u, v, x] T (0, 0))) : w.frozen? ⟨b, 0, none⟩ = false ∧ w.frozen? ⟨b, 1, none⟩ = false ∧ w.frozen? ⟨b, 2, none⟩ = false := by
 refine ⟨?_, ?_, ?_⟩ <;> simp [World.frozen?, h]
theorem sn_mark (g o : Nat) (cur : Array Value) (x : SnM) (q : OpV) (w : World) (h : SnAt w g o cur x) (hok : SnOK x.s) (hk : q.kind = 10) :
  Calls Tryz.prog 150 #[.pointer (some ⟨g, o, none⟩), .agg #[.int .u8 q.kind, .int .i64 q.slot, .int .i64 q.at_, .int .i64 q.n, .int .u32 q.id, .int .u8 q.grav, .string q.text]] w (SnPost g o cur w x (snpS x.s q)) := by
 have hsz := hok.1
 rw [snp10 hk]
 clear hk
 have hE := ed2_start w q
 have hN0 := h.below hE.bl
 obtain ⟨⟨c0, c1, c2, c3⟩, f0, f1, f2, f3⟩ := hN0.cells
 obtain ⟨p2, p3, p6, p4, p5⟩ := hE.o2
 have hrB : w.heap.size ≤ w.heap.size + 1 := by omega
 obtain ⟨ao, cp, hmv⟩ := own_slice h.marks
 have h1 := h.marks
 rw [hmv] at h1 c2
 have c2' := fun u => Lib.cell?_alloc_some u c2
 have p4' := fun u => Lib.cell?_alloc_some u p4
 obtain ⟨hrow, hcp⟩ := mrow_own rfl h1
 have fa := fun W (hB : Below w.heap.size w W) => find_any ao cp x.s.marks q.id W (hrow.on hB) hok.2.1.2.1 (by have := hok.2.1.1; omega) hcp
 unfold foundV at fa
 simp only [find_has] at fa
 have hEx := hE.alc (.cells #[.int .u32 0, .int .i64 0, .int .u8 0] 74)
 have hsx : ((w.alloc (.cells #[.int .u8 q.kind, .int .i64 q.slot, .int .i64 q.at_, .int .i64 q.n, .int .u32 q.id, .int .u8 q.grav, .string q.text] 54)).alloc (.cells (resL {}).toArray 51)).heap.size = w.heap.size + 1 + 1 := by simp
 have hpx := heap_alloc_new ((w.alloc (.cells #[.int .u8 q.kind, .int .i64 q.slot, .int .i64 q.at_, .int .i64 q.n, .int .u32 q.id, .int .u8 q.grav, .string q.text] 54)).alloc (.cells (resL {}).toArray 51)) (.cells #[.int .u32 0, .int .i64 0, .int .u8 0] 74)
 rw [hsx] at hpx
 cases hf : findM q.id x.s.marks with
 | none =>
  simp only [hf, Option.isSome, Option.getD, mkL, zeroM] at fa
  go_enter Tryz.func150, Tryz.ntmps150
  go_wp2
  go_region_with (go_at_call 202; first | (refine (fa _ hE.bl.drew).mono ?_; rintro e w1 ⟨rfl, hb1⟩; have hE1 := hE.drew.on hb1; have hE2 := hE1.alc (.cells #[.int .u32 0, .int .i64 0, .int .u8 0] 74); have hst := res_st hE2.res rfl) | (refine (fa _ hEx.bl.drew).mono ?_; rintro e w1 ⟨rfl, hb1⟩; have hE1 := hEx.drew.on hb1; have hp1 := (hb1.block (w.heap.size + 1 + 1) (by simp)).trans hpx; obtain ⟨m0, m1, m2⟩ := blk3' hp1; obtain ⟨f0, f1, f2⟩ := frz3 hp1; have hE2 := ((hE1.set (w.heap.size + 1 + 1) 0 (.int .u32 0) (by omega) (by omega) (by omega)).set (w.heap.size + 1 + 1) 1 (.int .i64 0) (by omega) (by omega) (by omega)).set (w.heap.size + 1 + 1) 2 (.int .u8 0) (by omega) (by omega) (by omega); have hst := res_st hE2.res rfl))
  all_goals go_wp2_with (go_at_call 99; refine (fail_any _ _).mono ?_; rintro e v7 ⟨rfl, hb7⟩; have hE7 := hE2.on hb7; have hst7 := res_st hE7.res rfl)
  all_goals exact ⟨rfl, _, results_cell_row rfl _ _ _ _ _ _ _ rfl (setRow_heap _ _ _ _ _ _ hE7.res) Tryz.underlying51 rfl (by kernel_rfl), rfl, h.post hE7.bl hE7.res hrB _⟩
 | some m =>
  simp only [hf, Option.isSome, Option.getD, mkL, zeroM] at fa
  go_enter Tryz.func150, Tryz.ntmps150
  go_wp2
  go_region_with (go_at_call 202; first | (refine (fa _ hE.bl.drew).mono ?_; rintro e w1 ⟨rfl, hb1⟩; have hE1 := hE.drew.on hb1; have hE2 := hE1.alc (.cells #[.int .u32 m.id, .int .i64 m.at_, .int .u8 m.grav] 74); have hst := res_st hE2.res rfl) | (refine (fa _ hEx.bl.drew).mono ?_; rintro e w1 ⟨rfl, hb1⟩; have hE1 := hEx.drew.on hb1; have hp1 := (hb1.block (w.heap.size + 1 + 1) (by simp)).trans hpx; obtain ⟨m0, m1, m2⟩ := blk3' hp1; obtain ⟨f0, f1, f2⟩ := frz3 hp1; have hE2 := ((hE1.set (w.heap.size + 1 + 1) 0 (.int .u32 m.id) (by omega) (by omega) (by omega)).set (w.heap.size + 1 + 1) 1 (.int .i64 m.at_) (by omega) (by omega) (by omega)).set (w.heap.size + 1 + 1) 2 (.int .u8 m.grav) (by omega) (by omega) (by omega); have hst := res_st hE2.res rfl))
  all_goals go_wp2
  all_goals exact ⟨rfl, _, results_cell_row rfl _ _ _ _ _ _ _ rfl (setRow_heap _ _ _ _ _ _ hE2.res) Tryz.underlying51 rfl (by kernel_rfl), rfl, h.post hE2.bl hE2.res hrB _⟩
theorem sn_seek (g o : Nat) (cur : Array Value) (x : SnM) (q : OpV) (w : World) (h : SnAt w g o cur x) (hok : SnOK x.s) (hk : q.kind = 11) (ha : 0 ≤ q.at_) (ha2 : q.at_ ≤ maxLen) :
  Calls Tryz.prog 151 #[.pointer (some ⟨g, o, none⟩), .agg #[.int .u8 q.kind, .int .i64 q.slot, .int .i64 q.at_, .int .i64 q.n, .int .u32 q.id, .int .u8 q.grav, .string q.text]] w (SnPost g o cur w x (snpS x.s q)) := by
 have hsz := hok.1
 rw [snp11 hk]
 clear hk
 have hE := ed2_start w q
 have hN0 := h.below hE.bl
 obtain ⟨⟨c0, c1, c2, c3⟩, f0, f1, f2, f3⟩ := hN0.cells
 obtain ⟨p2, p3, p6, p4, p5⟩ := hE.o2
 have hrB : w.heap.size ≤ w.heap.size + 1 := by omega
 by_cases h1 : (x.s.text.size : Int) < q.at_
 ·rw [if_pos h1]
  have d : decide ((x.s.text.size : Int) < q.at_) = true := by simpa using h1
  go_enter Tryz.func151, Tryz.ntmps151
  go_wp2
  go_region
  go_wp2_with (go_at_call 99; refine (fail_any _ _).mono ?_; rintro e v7 ⟨rfl, hb7⟩; have hE7 := (by first | exact hE.on hb7 | exact hE.drew.on hb7 | exact hE.drew.drew.on hb7 : Ed2 w q (w.heap.size + 1) v7); have hst := res_st hE7.res rfl)
  exact ⟨rfl, _, results_cell_row rfl _ _ _ _ _ _ _ rfl (setRow_heap _ _ _ _ _ _ hE7.res) Tryz.underlying51 rfl (by kernel_rfl), rfl, h.post hE7.bl hE7.res hrB _⟩
 ·rw [if_neg h1]
  have d : decide ((x.s.text.size : Int) < q.at_) = false := by simpa using h1
  have hgr : w.heap.size + 1 ≠ g := by have := (Array.getElem?_eq_some_iff.1 h.blk).1; omega
  obtain ⟨hN3, hz3, hzd, hzdd, hK3⟩ := set3_pkg hE hN0 hgr q.at_
  have hst := res_st hzd rfl
  go_enter Tryz.func151, Tryz.ntmps151
  go_wp2
  go_region
  go_wp2
  exact ⟨rfl, _, results_cell_row rfl _ _ _ _ _ _ _ rfl (setRow_heap _ _ _ _ _ _ hz3) Tryz.underlying51 rfl (by kernel_rfl), rfl, SnAt.post2 (x := x) ⟨_, rfl, hN3.drew⟩ hE.bl hK3.drew hz3 hrB _⟩
theorem sn_next (g o : Nat) (cur : Array Value) (x : SnM) (q : OpV) (w : World) (h : SnAt w g o cur x) (hok : SnOK x.s) (hk : q.kind = 12) (hn : 0 ≤ q.n) (hn2 : q.n ≤ maxLen) :
  Calls Tryz.prog 152 #[.pointer (some ⟨g, o, none⟩), .agg #[.int .u8 q.kind, .int .i64 q.slot, .int .i64 q.at_, .int .i64 q.n, .int .u32 q.id, .int .u8 q.grav, .string q.text]] w (SnPost g o cur w x (snpS x.s q)) := by
 have hsz := hok.1
 rw [snp12 hk]
 clear hk
 have hE := ed2_start w q
 have hN0 := h.below hE.bl
 obtain ⟨⟨c0, c1, c2, c3⟩, f0, f1, f2, f3⟩ := hN0.cells
 obtain ⟨p2, p3, p6, p4, p5⟩ := hE.o2
 have hrB : w.heap.size ≤ w.heap.size + 1 := by omega
 obtain ⟨_, _, cu0, cu1⟩ := hok
 have hws : IntKind.i64.wrap ((x.s.text.size : Int) - x.s.cursor) = (x.s.text.size : Int) - x.s.cursor := IntWalk.i64_in _ (by omega)
 obtain ⟨m, hm⟩ : ∃ m, min q.n ((x.s.text.size : Int) - x.s.cursor) = m := ⟨_, rfl⟩
 have m0 : 0 ≤ m := by omega
 have m1 : x.s.cursor + m ≤ (x.s.text.size : Int) := by omega
 have m2 : 0 ≤ x.s.cursor + m := by omega
 have m3 : x.s.cursor ≤ x.s.cursor + m := by omega
 rw [hm]
 have hwr : IntKind.i64.wrap (x.s.cursor + m) = x.s.cursor + m := IntWalk.i64_in _ (by omega)
 have hgr : w.heap.size + 1 ≠ g := by have := (Array.getElem?_eq_some_iff.1 h.blk).1; omega
 obtain ⟨hN3, hz3, hzd, hzdd, hK3⟩ := set3_pkg hE hN0 hgr (x.s.cursor + m)
 have hst := res_st hzdd rfl
 go_enter Tryz.func152, Tryz.ntmps152
 go_wp2
 go_region
 go_wp2
 go_region
 go_wp2
 rw [cut_eq _ _ _ cu0 m0]
 exact ⟨rfl, _, results_cell_row rfl _ _ _ _ _ _ _ rfl (setRow_heap _ _ _ _ _ _ hz3) Tryz.underlying51 rfl (by kernel_rfl), rfl, SnAt.post2 (x := x) ⟨_, rfl, hN3.drew.drew⟩ hE.bl hK3.drew.drew hz3 hrB _⟩
end Go.Proofs.YtdeiocppghhfdaaGreat
namespace Go.Proofs.YtdeiocppghhfdaaGreat
open Go.RowKit Go.Lib Go.Shelf
attribute [local go_sem, local simp] resF resL_len resL_ne rset0 rset1 rset2 rset3 rset4 rset5 rset6 rset7 rset8 snF snL_len snL_ne
theorem put_pkg {w W : World} {q : OpV} {r g o : Nat} {cur : Array Value} {x : SnM} (hE : Ed2 w q r W) (hN : SnAt W g o cur x) (hr : r ≠ g) : SnAt (putSn W g o ⟨⟨false, ⟨#[]⟩, [], 0⟩, .slice none 0 0⟩) g o (segA cur o (snL ⟨⟨false, ⟨#[]⟩, [], 0⟩, .slice none 0 0⟩)) ⟨⟨false, ⟨#[]⟩, [], 0⟩, .slice none 0 0⟩ ∧ (putSn W g o ⟨⟨false, ⟨#[]⟩, [], 0⟩, .slice none 0 0⟩).heap[r]? = some (.cells (resL {}).toArray 51 (0, 0)) ∧ KeepF (fun k => k = g) W (putSn W g o ⟨⟨false, ⟨#[]⟩, [], 0⟩, .slice none 0 0⟩) :=
 ⟨hN.put ⟨rfl, .inl ⟨rfl, rfl⟩⟩, (putSn_ne _ _ _ _ _ hr).trans hE.res, KeepF.putSn _ _ _ _⟩
theorem sn_release (g o : Nat) (cur : Array Value) (x : SnM) (q : OpV) (w : World) (h : SnAt w g o cur x) (hok : SnOK x.s) (hk : q.kind = 13) :
  Calls Tryz.prog 153 #[.pointer (some ⟨g, o, none⟩), .agg #[.int .u8 q.kind, .int .i64 q.slot, .int .i64 q.at_, .int .i64 q.n, .int .u32 q.id, .int .u8 q.grav, .string q.text]] w (SnPost g o cur w x (snpS x.s q)) := by
 have hsz := hok.1
 rw [snp13 hk]
 clear hk
 have hE := ed2_start w q
 have hN0 := h.below hE.bl
 obtain ⟨⟨c0, c1, c2, c3⟩, f0, f1, f2, f3⟩ := hN0.cells
 obtain ⟨p2, p3, p6, p4, p5⟩ := hE.o2
 have hrB : w.heap.size ≤ w.heap.size + 1 := by omega
 have hgr : w.heap.size + 1 ≠ g := by have := (Array.getElem?_eq_some_iff.1 h.blk).1; omega
 obtain ⟨hN3, hz3, hK3⟩ := put_pkg hE hN0 hgr
 have hst := res_st hz3 rfl
 have hsn := hN0.stP ⟨⟨false, ⟨#[]⟩, [], 0⟩, .slice none 0 0⟩ rfl
 go_enter Tryz.func153, Tryz.ntmps153
 go_wp2
 have hp := SnAt.post2 (x := x) ⟨_, rfl, hN3⟩ hE.bl hK3 hz3 hrB (resL {}).toArray
 refine ⟨rfl, _, results_cell_row rfl _ _ _ _ _ _ _ rfl (setRow_heap _ _ _ _ _ _ hz3) Tryz.underlying51 rfl (by kernel_rfl), rfl, ?_⟩
 exact hp
end Go.Proofs.YtdeiocppghhfdaaGreat
