/- The texts MdV. -/
import Derived.Test.YtdeiocppghhfdaaGreatPug
namespace Go.Proofs.YtdeiocppghhfdaaGreat
set_option linter.unusedVariables false
set_option linter.unusedSimpArgs false
set_option maxRecDepth 100000
set_option maxHeartbeats 8000000
open Go.RowKit Go.Lib Go.Shelf
attribute [local go_sem, local simp] resF resL_len resL_ne rset0 rset1 rset2 rset3 rset4 rset5 rset6 rset7 rset8
theorem sn_len (g o : Nat) (cur : Array Value) (x : SnM) (q : OpV) (w : World) (h : SnAt w g o cur x) (hok : SnOK x.s) (hk : q.kind = 6) :
    Calls Tryz.prog 146 #[.pointer (some ⟨g, o, none⟩), .agg #[.int .u8 q.kind, .int .i64 q.slot, .int .i64 q.at_, .int .i64 q.n, .int .u32 q.id, .int .u8 q.grav, .string q.text]] w (SnPost g o cur w x (snpS x.s q)) := by
  have hsz := hok.1
  rw [snp6 hk]
  clear hk
  have hE := ed2_start w q
  have hN0 := h.below hE.bl
  obtain ⟨⟨c0, c1, c2, c3⟩, f0, f1, f2, f3⟩ := hN0.cells
  obtain ⟨p2, p3, p6, p4, p5⟩ := hE.o2
  have hrB : w.heap.size ≤ w.heap.size + 1 := by omega
  have om := fun W => of_meas x.s.text W (Nat.le_trans hsz (by decide))
  simp only [measL] at om
  go_enter Tryz.func146, Tryz.ntmps146
  go_wp2_with (go_at_call 199; refine (om _).mono ?_; rintro e w1 ⟨rfl, hb1⟩; have hE2 := hE.on hb1; have hst := res_st hE2.res rfl)
  exact ⟨rfl, _, results_cell_row rfl _ _ _ _ _ _ _ rfl (setRow_heap _ _ _ _ _ _ hE2.res) Tryz.underlying51 rfl (by kernel_rfl), rfl, h.post hE2.bl hE2.res hrB _⟩
theorem cut_eq (t : ByteArray) (a n : Int) (ha : 0 ≤ a) (hn : 0 ≤ n) : t.extract a.toNat (a + n).toNat = cutT t a n := by
  apply ByteArray.ext
  apply Array.toList_inj.1
  rw [ByteArray.data_extract, Array.toList_extract, List.extract_eq_take_drop]
  unfold cutT
  rw [show (a + n).toNat - a.toNat = n.toNat by omega]
theorem sn_read (g o : Nat) (cur : Array Value) (x : SnM) (q : OpV) (w : World) (h : SnAt w g o cur x) (hok : SnOK x.s) (hk : q.kind = 7) (ha : 0 ≤ q.at_) (ha2 : q.at_ ≤ maxLen) (hn : 0 ≤ q.n) (hn2 : q.n ≤ maxLen) :
    Calls Tryz.prog 147 #[.pointer (some ⟨g, o, none⟩), .agg #[.int .u8 q.kind, .int .i64 q.slot, .int .i64 q.at_, .int .i64 q.n, .int .u32 q.id, .int .u8 q.grav, .string q.text]] w (SnPost g o cur w x (snpS x.s q)) := by
  have hsz := hok.1
  rw [snp7 hk]
  clear hk
  have hE := ed2_start w q
  have hN0 := h.below hE.bl
  obtain ⟨⟨c0, c1, c2, c3⟩, f0, f1, f2, f3⟩ := hN0.cells
  obtain ⟨p2, p3, p6, p4, p5⟩ := hE.o2
  have hrB : w.heap.size ≤ w.heap.size + 1 := by omega
  by_cases h1 : (x.s.text.size : Int) < q.at_
  · rw [if_pos (.inl h1)]
    have d : decide ((x.s.text.size : Int) < q.at_) = true := by simpa using h1
    go_enter Tryz.func147, Tryz.ntmps147
    go_wp2
    go_region
    go_wp2_with (go_at_call 99; refine (fail_any _ _).mono ?_; rintro e v7 ⟨rfl, hb7⟩; have hE7 := (by first | exact hE.on hb7 | exact hE.drew.on hb7 | exact hE.drew.drew.on hb7 : Ed2 w q (w.heap.size + 1) v7); have hst := res_st hE7.res rfl)
    exact ⟨rfl, _, results_cell_row rfl _ _ _ _ _ _ _ rfl (setRow_heap _ _ _ _ _ _ hE7.res) Tryz.underlying51 rfl (by kernel_rfl), rfl, h.post hE7.bl hE7.res hrB _⟩
  · have d : decide ((x.s.text.size : Int) < q.at_) = false := by simpa using h1
    have hws : IntKind.i64.wrap ((x.s.text.size : Int) - q.at_) = (x.s.text.size : Int) - q.at_ := IntWalk.i64_in _ (by omega)
    by_cases h2 : (x.s.text.size : Int) - q.at_ < q.n
    · rw [if_pos (.inr h2)]
      have d2 : decide ((x.s.text.size : Int) - q.at_ < q.n) = true := by simpa using h2
      go_enter Tryz.func147, Tryz.ntmps147
      go_wp2
      go_region
      go_wp2_with (go_at_call 99; refine (fail_any _ _).mono ?_; rintro e v7 ⟨rfl, hb7⟩; have hE7 := (by first | exact hE.on hb7 | exact hE.drew.on hb7 | exact hE.drew.drew.on hb7 : Ed2 w q (w.heap.size + 1) v7); have hst := res_st hE7.res rfl)
      exact ⟨rfl, _, results_cell_row rfl _ _ _ _ _ _ _ rfl (setRow_heap _ _ _ _ _ _ hE7.res) Tryz.underlying51 rfl (by kernel_rfl), rfl, h.post hE7.bl hE7.res hrB _⟩
    · rw [if_neg (by omega)]
      have d2 : decide ((x.s.text.size : Int) - q.at_ < q.n) = false := by simpa using h2
      have hwr : IntKind.i64.wrap (q.at_ + q.n) = q.at_ + q.n := IntWalk.i64_in _ (by omega)
      have hst := res_st hE.res rfl
      have hst1 := res_st hE.drew.res rfl
      have hst2 := res_st hE.drew.drew.res rfl
      have b1 : 0 ≤ q.at_ + q.n := by omega
      have b2 : q.at_ + q.n ≤ (x.s.text.size : Int) := by omega
      have b3 : q.at_ ≤ q.at_ + q.n := by omega
      go_enter Tryz.func147, Tryz.ntmps147
      go_wp2
      go_region
      go_wp2
      go_region
      go_wp2
      rw [cut_eq _ _ _ ha hn]
      exact ⟨rfl, _, results_cell_row rfl _ _ _ _ _ _ _ rfl (setRow_heap _ _ _ _ _ _ hE.drew.drew.res) Tryz.underlying51 rfl (by kernel_rfl), rfl, h.post hE.drew.drew.bl hE.drew.drew.res hrB _⟩
theorem sn_rune (g o : Nat) (cur : Array Value) (x : SnM) (q : OpV) (w : World) (h : SnAt w g o cur x) (hok : SnOK x.s) (hk : q.kind = 8) (hn2 : q.n ≤ maxLen) :
    Calls Tryz.prog 148 #[.pointer (some ⟨g, o, none⟩), .agg #[.int .u8 q.kind, .int .i64 q.slot, .int .i64 q.at_, .int .i64 q.n, .int .u32 q.id, .int .u8 q.grav, .string q.text]] w (SnPost g o cur w x (snpS x.s q)) := by
  have hsz := hok.1
  rw [snp8 hk]
  clear hk
  have hE := ed2_start w q
  have hN0 := h.below hE.bl
  obtain ⟨⟨c0, c1, c2, c3⟩, f0, f1, f2, f3⟩ := hN0.cells
  obtain ⟨p2, p3, p6, p4, p5⟩ := hE.o2
  have hrB : w.heap.size ≤ w.heap.size + 1 := by omega
  have om := fun W => rune_meas x.s.text q.n W (Nat.le_trans hsz (by decide)) hn2
  have hst := res_st hE.res rfl
  have hst1 := res_st hE.drew.res rfl
  go_enter Tryz.func148, Tryz.ntmps148
  go_wp2
  go_region_with (go_at_call 200; refine (om _).mono ?_; rintro e w1 ⟨rfl, rfl⟩)
  all_goals go_wp2
  all_goals exact ⟨rfl, _, results_cell_row rfl _ _ _ _ _ _ _ rfl (setRow_heap _ _ _ _ _ _ hE.drew.res) Tryz.underlying51 rfl (by kernel_rfl), rfl, h.post hE.drew.bl hE.drew.res hrB _⟩
theorem sn_line (g o : Nat) (cur : Array Value) (x : SnM) (q : OpV) (w : World) (h : SnAt w g o cur x) (hok : SnOK x.s) (hk : q.kind = 9) (hn2 : q.n ≤ maxLen) :
    Calls Tryz.prog 149 #[.pointer (some ⟨g, o, none⟩), .agg #[.int .u8 q.kind, .int .i64 q.slot, .int .i64 q.at_, .int .i64 q.n, .int .u32 q.id, .int .u8 q.grav, .string q.text]] w (SnPost g o cur w x (snpS x.s q)) := by
  have hsz := hok.1
  rw [snp9 hk]
  clear hk
  have hE := ed2_start w q
  have hN0 := h.below hE.bl
  obtain ⟨⟨c0, c1, c2, c3⟩, f0, f1, f2, f3⟩ := hN0.cells
  obtain ⟨p2, p3, p6, p4, p5⟩ := hE.o2
  have hrB : w.heap.size ≤ w.heap.size + 1 := by omega
  have om := fun W => line_meas x.s.text q.n W (Nat.le_trans hsz (by decide)) hn2
  have hst := res_st hE.res rfl
  have hst1 := res_st hE.drew.res rfl
  go_enter Tryz.func149, Tryz.ntmps149
  go_wp2
  go_region_with (go_at_call 201; refine (om _).mono ?_; rintro e w1 ⟨rfl, rfl⟩)
  all_goals go_wp2
  all_goals exact ⟨rfl, _, results_cell_row rfl _ _ _ _ _ _ _ rfl (setRow_heap _ _ _ _ _ _ hE.drew.res) Tryz.underlying51 rfl (by kernel_rfl), rfl, h.post hE.drew.bl hE.drew.res hrB _⟩
end Go.Proofs.YtdeiocppghhfdaaGreat
