/- The texts RbA RbB RbC RbD. -/
import Derived.Test.YtlealeecmmpckaaGreatKxg
import Derived.Test.YtlealeecmmpckaaGreatKug
import Derived.Test.YtlealeecmmpckaaGreatKxc
import Derived.Test.YtlealeecmmpckaaGreatKxd
namespace Go.Proofs.YtlealeecmmpckaaGreat
set_option linter.unusedVariables false
set_option linter.unusedSimpArgs false
set_option maxRecDepth 100000
set_option maxHeartbeats 8000000
open Go.RowKit Go.Lib Go.Shelf
attribute [local go_sem, local simp] resF resL_len resL_ne rset0 rset1 rset2 rset3 rset4 rset5
theorem redit_range (b : Nat) (M : RM) (o : OpV) (w : World) (h : RdAt w b M) (hok : MSok M.st 100000) (ha : 0 ≤ o.at_ ∧ o.at_ ≤ 9223372036854775807) (hs : (M.text.size : Int) < o.at_ ∨ (o.at_ ≤ M.text.size ∧ (M.text.size : Int) - o.at_ < o.n)) :
    Calls Tryz.prog 59 #[.pointer (some ⟨b, 0, none⟩), .agg #[.int .u8 o.kind, .int .i64 o.slot, .int .i64 o.at_, .int .i64 o.n, .int .u32 o.id, .int .u8 o.grav, .string o.text]] w (RPost b w (failR 3, M.st) M) := by
  have hE := ed2_start w o
  have hM0 := h.below hE.bl
  have hsz : M.text.size ≤ 65536 := hok.size
  have hrB : w.heap.size ≤ w.heap.size + 1 := by omega
  obtain ⟨e2, e3, _⟩ := hE.o2
  have c2 := hM0.cs.2.2.1
  clear hok
  rcases hs with hs | ⟨hs1, hs2⟩
  · have t4 : decide ((M.text.size : Int) < o.at_) = true := by simpa using hs
    clear hs ha
    go_enter Tryz.func59, Tryz.ntmps59
    go_wp2_with (go_at_call 56; refine (rfail_any _ _).mono ?_; rintro e v7 ⟨rfl, hb7⟩; have hE7 := hE.on hb7; have hst := res_st hE7.res rfl)
    refine ⟨rfl, _, results_cell_row rfl _ _ _ _ _ _ _ rfl (setRow_heap _ _ _ _ _ _ hE7.res) Tryz.underlying36 rfl (by kernel_rfl), rfl, M, (hM0.below hb7).row hE7.res _, rfl, (KeepF.of_below hE7.bl).row hrB _, fun k hk => .inl hk⟩
  · have t4 : decide ((M.text.size : Int) < o.at_) = false := by simp; omega
    have hw : IntKind.i64.wrap ((M.text.size : Int) - o.at_) = (M.text.size : Int) - o.at_ := IntWalk.i64_in _ (by omega)
    have t5 : decide ((M.text.size : Int) - o.at_ < o.n) = true := by simpa using hs2
    clear hs1 hs2 ha
    go_enter Tryz.func59, Tryz.ntmps59
    go_wp2_with (go_at_call 56; refine (rfail_any _ _).mono ?_; rintro e v7 ⟨rfl, hb7⟩; have hE7 := hE.on hb7; have hst := res_st hE7.res rfl)
    refine ⟨rfl, _, results_cell_row rfl _ _ _ _ _ _ _ rfl (setRow_heap _ _ _ _ _ _ hE7.res) Tryz.underlying36 rfl (by kernel_rfl), rfl, M, (hM0.below hb7).row hE7.res _, rfl, (KeepF.of_below hE7.bl).row hrB _, fun k hk => .inl hk⟩
end Go.Proofs.YtlealeecmmpckaaGreat
namespace Go.Proofs.YtlealeecmmpckaaGreat
set_option linter.unusedVariables false
set_option linter.unusedSimpArgs false
set_option maxRecDepth 100000
set_option maxHeartbeats 8000000
open Go.RowKit Go.Lib Go.Shelf
attribute [local go_sem, local simp] resF resL_len resL_ne rset0 rset1 rset2 rset3 rset4 rset5
theorem redit_bnd1 (b : Nat) (M : RM) (o : OpV) (w : World) (h : RdAt w b M) (hok : MSok M.st 100000) (ha : 0 ≤ o.at_) (hs1 : o.at_ ≤ M.text.size) (hs2 : o.n ≤ (M.text.size : Int) - o.at_) (hbd : bndB M.text.data.toList o.at_ = false) :
    Calls Tryz.prog 59 #[.pointer (some ⟨b, 0, none⟩), .agg #[.int .u8 o.kind, .int .i64 o.slot, .int .i64 o.at_, .int .i64 o.n, .int .u32 o.id, .int .u8 o.grav, .string o.text]] w (RPost b w (failR 12, M.st) M) := by
  have hE := ed2_start w o
  have hM0 := h.below hE.bl
  have hsz : M.text.size ≤ 65536 := hok.size
  have hrB : w.heap.size ≤ w.heap.size + 1 := by omega
  obtain ⟨e2, e3, _⟩ := hE.o2
  have c2 := hM0.cs.2.2.1
  have hbo := fun W => refBoundary_any M.text o.at_ W
  rw [hbd] at hbo
  clear hok hbd
  have t4 : decide ((M.text.size : Int) < o.at_) = false := by simp; omega
  have hw : IntKind.i64.wrap ((M.text.size : Int) - o.at_) = (M.text.size : Int) - o.at_ := IntWalk.i64_in _ (by omega)
  have t5 : decide ((M.text.size : Int) - o.at_ < o.n) = false := by simp; omega
  clear hs1 hs2 ha
  go_enter Tryz.func59, Tryz.ntmps59
  go_wp2
  refine wp_region_noPanic ?_
  refine wp_region_held_drew (S := fun W => W.cell? ⟨b, 2, none⟩ = some (.string M.text) ∧ W.cell? ⟨w.heap.size, 2, none⟩ = some (.int .i64 o.at_)) (by kernel_rfl) ?_ (fun hHeld => ?_)
  · exact ⟨c2, e2⟩
  iterate 6 (first | (refine np_sn ?_; (try simp only [nSO])) | ((first | refine np_n ?_ ?_ ?_ | refine np_t 0 ?_ ?_ ?_); rotate_left 1; (· (intro w hSw; (try dsimp only at hSw); go_simp; all_goals with_reducible rfl)); (try simp only [nSO])))
  first | (refine np_s 6 ?_; (try simp only [nSO])) | (refine np_step (i := 6) rfl (by kernel_rfl) (fun K hK => ?_); rw [if_pos (by rfl)]; go_simp; ((go_at_call 97; refine (hbo _).mono ?_; rintro e w3 ⟨rfl, rfl⟩)); (try go_wp2_with fail); refine hK.out _ _ ?_ (fun hHeld => ?_); (· (exact ⟨c2, e2⟩)); clear hK K; (try simp only [nSO]))
  iterate 11 (first | (refine np_sn ?_; (try simp only [nSO])) | (refine np_n ?_ ?_ ?_; rotate_left 1; (· (intro w hSw; (try dsimp only at hSw); go_simp; all_goals with_reducible rfl)); (try simp only [nSO])))
  first | (refine np_s 18 ?_; (try simp only [nSO])) | (refine np_step (i := 18) rfl (by kernel_rfl) (fun K hK => ?_); rw [if_pos (by rfl)]; go_simp; ((go_at_call 97; refine (hbo _).mono ?_; rintro e w3 ⟨rfl, rfl⟩)); (try go_wp2_with fail); refine hK.out _ _ ?_ (fun hHeld => ?_); (· (exact ⟨c2, e2⟩)); clear hK K; (try simp only [nSO]))
  iterate 3 (first | (refine np_sn ?_; (try simp only [nSO])) | (refine np_n ?_ ?_ ?_; rotate_left 1; (· (intro w hSw; (try dsimp only at hSw); go_simp; all_goals with_reducible rfl)); (try simp only [nSO])))
  refine wpAnyH_done (by kernel_rfl) ?_ _
  refine NoPanic.normal ?_
  have hE3 := hE.drew
  have hM3 := hM0.below (Below.refl _ _).drew
  go_wp2_with (go_at_call 56; refine (rfail_any _ _).mono ?_; rintro e v7 ⟨rfl, hb7⟩; have hE7 := hE3.on hb7; have hst := res_st hE7.res rfl)
  refine ⟨rfl, _, results_cell_row rfl _ _ _ _ _ _ _ rfl (setRow_heap _ _ _ _ _ _ hE7.res) Tryz.underlying36 rfl (by kernel_rfl), rfl, M, (hM3.below hb7).row hE7.res _, rfl, (KeepF.of_below hE7.bl).row hrB _, fun k hk => .inl hk⟩
theorem redit_bnd2 (b : Nat) (M : RM) (o : OpV) (w : World) (h : RdAt w b M) (hok : MSok M.st 100000) (ha : 0 ≤ o.at_) (hs1 : o.at_ ≤ M.text.size) (hn : 0 ≤ o.n) (hs2 : o.n ≤ (M.text.size : Int) - o.at_) (hbd : bndB M.text.data.toList o.at_ = true) (hbd2 : bndB M.text.data.toList (o.at_ + o.n) = false) :
    Calls Tryz.prog 59 #[.pointer (some ⟨b, 0, none⟩), .agg #[.int .u8 o.kind, .int .i64 o.slot, .int .i64 o.at_, .int .i64 o.n, .int .u32 o.id, .int .u8 o.grav, .string o.text]] w (RPost b w (failR 12, M.st) M) := by
  have hE := ed2_start w o
  have hM0 := h.below hE.bl
  have hsz : M.text.size ≤ 65536 := hok.size
  have hrB : w.heap.size ≤ w.heap.size + 1 := by omega
  obtain ⟨e2, e3, _⟩ := hE.o2
  have c2 := hM0.cs.2.2.1
  have hbo := fun W => refBoundary_any M.text o.at_ W
  have hbo2 := fun W => refBoundary_any M.text (o.at_ + o.n) W
  rw [hbd] at hbo
  rw [hbd2] at hbo2
  have hw2 : IntKind.i64.wrap (o.at_ + o.n) = o.at_ + o.n := IntWalk.i64_in _ (by omega)
  clear hok hbd hbd2
  have t4 : decide ((M.text.size : Int) < o.at_) = false := by simp; omega
  have hw : IntKind.i64.wrap ((M.text.size : Int) - o.at_) = (M.text.size : Int) - o.at_ := IntWalk.i64_in _ (by omega)
  have t5 : decide ((M.text.size : Int) - o.at_ < o.n) = false := by simp; omega
  clear hs1 hs2 ha hn
  go_enter Tryz.func59, Tryz.ntmps59
  go_wp2
  refine wp_region_noPanic ?_
  refine wp_region_held_drew (S := fun W => W.cell? ⟨b, 2, none⟩ = some (.string M.text) ∧ W.cell? ⟨w.heap.size, 2, none⟩ = some (.int .i64 o.at_) ∧ W.cell? ⟨w.heap.size, 3, none⟩ = some (.int .i64 o.n)) (by kernel_rfl) ?_ (fun hHeld => ?_)
  · exact ⟨c2, e2, e3⟩
  iterate 6 (first | (refine np_sn ?_; (try simp only [nSO])) | ((first | refine np_n ?_ ?_ ?_ | refine np_t 0 ?_ ?_ ?_); rotate_left 1; (· (intro w hSw; (try dsimp only at hSw); go_simp; all_goals with_reducible rfl)); (try simp only [nSO])))
  first | (refine np_s 6 ?_; (try simp only [nSO])) | (refine np_step (i := 6) rfl (by kernel_rfl) (fun K hK => ?_); rw [if_pos (by rfl)]; go_simp; ((go_at_call 97; refine (hbo _).mono ?_; rintro e w3 ⟨rfl, rfl⟩)); (try go_wp2_with fail); refine hK.out _ _ ?_ (fun hHeld => ?_); (· (exact ⟨c2, e2, e3⟩)); clear hK K; (try simp only [nSO]))
  iterate 11 (first | (refine np_sn ?_; (try simp only [nSO])) | (refine np_n ?_ ?_ ?_; rotate_left 1; (· (intro w hSw; (try dsimp only at hSw); go_simp; all_goals with_reducible rfl)); (try simp only [nSO])))
  first | (refine np_s 18 ?_; (try simp only [nSO])) | (refine np_step (i := 18) rfl (by kernel_rfl) (fun K hK => ?_); rw [if_pos (by rfl)]; go_simp; ((go_at_call 97; refine (hbo2 _).mono ?_; rintro e w3 ⟨rfl, rfl⟩)); (try go_wp2_with fail); refine hK.out _ _ ?_ (fun hHeld => ?_); (· (exact ⟨c2, e2, e3⟩)); clear hK K; (try simp only [nSO]))
  iterate 3 (first | (refine np_sn ?_; (try simp only [nSO])) | (refine np_n ?_ ?_ ?_; rotate_left 1; (· (intro w hSw; (try dsimp only at hSw); go_simp; all_goals with_reducible rfl)); (try simp only [nSO])))
  refine wpAnyH_done (by kernel_rfl) ?_ _
  refine NoPanic.normal ?_
  have hE3 := hE.drew
  have hM3 := hM0.below (Below.refl _ _).drew
  go_wp2_with (go_at_call 56; refine (rfail_any _ _).mono ?_; rintro e v7 ⟨rfl, hb7⟩; have hE7 := hE3.on hb7; have hst := res_st hE7.res rfl)
  refine ⟨rfl, _, results_cell_row rfl _ _ _ _ _ _ _ rfl (setRow_heap _ _ _ _ _ _ hE7.res) Tryz.underlying36 rfl (by kernel_rfl), rfl, M, (hM3.below hb7).row hE7.res _, rfl, (KeepF.of_below hE7.bl).row hrB _, fun k hk => .inl hk⟩
end Go.Proofs.YtlealeecmmpckaaGreat
namespace Go.Proofs.YtlealeecmmpckaaGreat
set_option linter.unusedVariables false
set_option linter.unusedSimpArgs false
set_option maxRecDepth 100000
set_option maxHeartbeats 8000000
open Go.RowKit Go.Lib Go.Shelf
attribute [local go_sem, local simp] resF resL_len resL_ne rset0 rset1 rset2 rset3 rset4 rset5
theorem redit_long (b : Nat) (M : RM) (o : OpV) (w : World) (h : RdAt w b M) (hok : MSok M.st 100000) (ha : 0 ≤ o.at_) (hs1 : o.at_ ≤ M.text.size) (hn : 0 ≤ o.n) (hs2 : o.n ≤ (M.text.size : Int) - o.at_) (hbd : bndB M.text.data.toList o.at_ = true) (hbd2 : bndB M.text.data.toList (o.at_ + o.n) = true) (htx : o.text.size ≤ 256) (hlong : 65536 < (M.text.size : Int) - o.n + o.text.size) :
    Calls Tryz.prog 59 #[.pointer (some ⟨b, 0, none⟩), .agg #[.int .u8 o.kind, .int .i64 o.slot, .int .i64 o.at_, .int .i64 o.n, .int .u32 o.id, .int .u8 o.grav, .string o.text]] w (RPost b w (failR 5, M.st) M) := by
  have hE := ed2_start w o
  have hM0 := h.below hE.bl
  have hsz : M.text.size ≤ 65536 := hok.size
  have hrB : w.heap.size ≤ w.heap.size + 1 := by omega
  obtain ⟨e2, e3, e6, _⟩ := hE.o2
  have hw3 : IntKind.i64.wrap ((M.text.size : Int) - o.n) = (M.text.size : Int) - o.n := IntWalk.i64_in _ (by omega)
  have hw4 : IntKind.i64.wrap ((M.text.size : Int) - o.n + o.text.size) = (M.text.size : Int) - o.n + o.text.size := IntWalk.i64_in _ (by omega)
  have t7 : decide (65536 < (M.text.size : Int) - o.n + o.text.size) = true := by simpa using hlong
  have c2 := hM0.cs.2.2.1
  have hbo := fun W => refBoundary_any M.text o.at_ W
  have hbo2 := fun W => refBoundary_any M.text (o.at_ + o.n) W
  rw [hbd] at hbo
  rw [hbd2] at hbo2
  have hw2 : IntKind.i64.wrap (o.at_ + o.n) = o.at_ + o.n := IntWalk.i64_in _ (by omega)
  clear hok hbd hbd2
  have t4 : decide ((M.text.size : Int) < o.at_) = false := by simp; omega
  have hw : IntKind.i64.wrap ((M.text.size : Int) - o.at_) = (M.text.size : Int) - o.at_ := IntWalk.i64_in _ (by omega)
  have t5 : decide ((M.text.size : Int) - o.at_ < o.n) = false := by simp; omega
  clear hs1 hs2 ha hn hlong
  go_enter Tryz.func59, Tryz.ntmps59
  go_wp2
  refine wp_region_noPanic ?_
  refine wp_region_held_drew (S := fun W => W.cell? ⟨b, 2, none⟩ = some (.string M.text) ∧ W.cell? ⟨w.heap.size, 2, none⟩ = some (.int .i64 o.at_) ∧ W.cell? ⟨w.heap.size, 3, none⟩ = some (.int .i64 o.n)) (by kernel_rfl) ?_ (fun hHeld => ?_)
  · exact ⟨c2, e2, e3⟩
  iterate 6 (first | (refine np_sn ?_; (try simp only [nSO])) | ((first | refine np_n ?_ ?_ ?_ | refine np_t 0 ?_ ?_ ?_); rotate_left 1; (· (intro w hSw; (try dsimp only at hSw); go_simp; all_goals with_reducible rfl)); (try simp only [nSO])))
  first | (refine np_s 6 ?_; (try simp only [nSO])) | (refine np_step (i := 6) rfl (by kernel_rfl) (fun K hK => ?_); rw [if_pos (by rfl)]; go_simp; ((go_at_call 97; refine (hbo _).mono ?_; rintro e w3 ⟨rfl, rfl⟩)); (try go_wp2_with fail); refine hK.out _ _ ?_ (fun hHeld => ?_); (· (exact ⟨c2, e2, e3⟩)); clear hK K; (try simp only [nSO]))
  iterate 11 (first | (refine np_sn ?_; (try simp only [nSO])) | (refine np_n ?_ ?_ ?_; rotate_left 1; (· (intro w hSw; (try dsimp only at hSw); go_simp; all_goals with_reducible rfl)); (try simp only [nSO])))
  first | (refine np_s 18 ?_; (try simp only [nSO])) | (refine np_step (i := 18) rfl (by kernel_rfl) (fun K hK => ?_); rw [if_pos (by rfl)]; go_simp; ((go_at_call 97; refine (hbo2 _).mono ?_; rintro e w3 ⟨rfl, rfl⟩)); (try go_wp2_with fail); refine hK.out _ _ ?_ (fun hHeld => ?_); (· (exact ⟨c2, e2, e3⟩)); clear hK K; (try simp only [nSO]))
  iterate 3 (first | (refine np_sn ?_; (try simp only [nSO])) | (refine np_n ?_ ?_ ?_; rotate_left 1; (· (intro w hSw; (try dsimp only at hSw); go_simp; all_goals with_reducible rfl)); (try simp only [nSO])))
  refine wpAnyH_done (by kernel_rfl) ?_ _
  refine NoPanic.normal ?_
  have hE3 := hE.drew
  have e3' := hE3.o2.2.1
  have e6' := hE3.o2.2.2.1
  have hM3 := hM0.below (Below.refl _ _).drew
  go_wp2_with (go_at_call 56; refine (rfail_any _ _).mono ?_; rintro e v7 ⟨rfl, hb7⟩; have hE7 := hE3.on hb7; have hst := res_st hE7.res rfl)
  refine ⟨rfl, _, results_cell_row rfl _ _ _ _ _ _ _ rfl (setRow_heap _ _ _ _ _ _ hE7.res) Tryz.underlying36 rfl (by kernel_rfl), rfl, M, (hM3.below hb7).row hE7.res _, rfl, (KeepF.of_below hE7.bl).row hrB _, fun k hk => .inl hk⟩
end Go.Proofs.YtlealeecmmpckaaGreat
namespace Go.Proofs.YtlealeecmmpckaaGreat
set_option linter.unusedVariables false
set_option linter.unusedSimpArgs false
set_option maxRecDepth 100000
set_option maxHeartbeats 8000000
open Go.RowKit Go.Lib Go.Shelf
attribute [local go_sem, local simp] resF resL_len resL_ne rset0 rset1 rset2 rset3 rset4 rset5
theorem redit_ok (b : Nat) (M : RM) (o : OpV) (w : World) (h : RdAt w b M) (hok : MSok M.st 100000) (ha : 0 ≤ o.at_) (hs1 : o.at_ ≤ M.text.size) (hn : 0 ≤ o.n) (hs2 : o.n ≤ (M.text.size : Int) - o.at_) (hbd : bndB M.text.data.toList o.at_ = true) (hbd2 : bndB M.text.data.toList (o.at_ + o.n) = true) (htx : o.text.size ≤ 256) (hlong : ¬ 65536 < (M.text.size : Int) - o.n + o.text.size) (hrep : RepOK M.text.size o.at_ o.n o.text) :
    Calls Tryz.prog 59 #[.pointer (some ⟨b, 0, none⟩), .agg #[.int .u8 o.kind, .int .i64 o.slot, .int .i64 o.at_, .int .i64 o.n, .int .u32 o.id, .int .u8 o.grav, .string o.text]] w (RPost b w (repS M.st o.at_ o.n o.text) M) := by
  have hE := ed2_start w o
  have hM0 := h.below hE.bl
  obtain ⟨ao, cp, hmv⟩ := own_slice h.marks
  have h1 := h.marks
  rw [hmv] at h1
  obtain ⟨hrow, hcp⟩ := mrow_own rfl h1
  have hmk : MkOK M.text.size M.marks := hok.marks
  have hsz : M.text.size ≤ 65536 := hok.size
  have hn0 : 0 ≤ M.number := hok.num0
  have hn1 : M.number ≤ 100000 := hok.num1
  have hwn : IntKind.i64.wrap (M.number + 1) = M.number + 1 := IntWalk.i64_in _ (by omega)
  have hbw := (Array.getElem?_eq_some_iff.1 h.blk).1
  have hrB : w.heap.size ≤ w.heap.size + 1 := by omega
  obtain ⟨e2, e3, e6, _⟩ := hE.o2
  have hw3 : IntKind.i64.wrap ((M.text.size : Int) - o.n) = (M.text.size : Int) - o.n := IntWalk.i64_in _ (by omega)
  have hw4 : IntKind.i64.wrap ((M.text.size : Int) - o.n + o.text.size) = (M.text.size : Int) - o.n + o.text.size := IntWalk.i64_in _ (by omega)
  have t7 : decide (65536 < (M.text.size : Int) - o.n + o.text.size) = false := by simpa using hlong
  have c2 := hM0.cs.2.2.1
  have hbo := fun W => refBoundary_any M.text o.at_ W
  have hbo2 := fun W => refBoundary_any M.text (o.at_ + o.n) W
  rw [hbd] at hbo
  rw [hbd2] at hbo2
  have hw2 : IntKind.i64.wrap (o.at_ + o.n) = o.at_ + o.n := IntWalk.i64_in _ (by omega)
  clear hok hbd hbd2
  have t4 : decide ((M.text.size : Int) < o.at_) = false := by simp; omega
  have hw : IntKind.i64.wrap ((M.text.size : Int) - o.at_) = (M.text.size : Int) - o.at_ := IntWalk.i64_in _ (by omega)
  have t5 : decide ((M.text.size : Int) - o.at_ < o.n) = false := by simp; omega
  clear hs1 hs2 ha hn hlong
  have HREP := Lib.hid hrep
  have HMK := Lib.hid hmk
  have HHR := Lib.hid hrow
  have HCP := Lib.hid hcp
  clear hrep hmk hrow hcp
  go_enter Tryz.func59, Tryz.ntmps59
  go_wp2
  refine wp_region_noPanic ?_
  refine wp_region_held_drew (S := fun W => W.cell? ⟨b, 2, none⟩ = some (.string M.text) ∧ W.cell? ⟨w.heap.size, 2, none⟩ = some (.int .i64 o.at_) ∧ W.cell? ⟨w.heap.size, 3, none⟩ = some (.int .i64 o.n)) (by kernel_rfl) ?_ (fun hHeld => ?_)
  · exact ⟨c2, e2, e3⟩
  iterate 6 (first | (refine np_sn ?_; (try simp only [nSO])) | ((first | refine np_n ?_ ?_ ?_ | refine np_t 0 ?_ ?_ ?_); rotate_left 1; (· (intro w hSw; (try dsimp only at hSw); go_simp; all_goals with_reducible rfl)); (try simp only [nSO])))
  first | (refine np_s 6 ?_; (try simp only [nSO])) | (refine np_step (i := 6) rfl (by kernel_rfl) (fun K hK => ?_); rw [if_pos (by rfl)]; go_simp; ((go_at_call 97; refine (hbo _).mono ?_; rintro e w3 ⟨rfl, rfl⟩)); (try go_wp2_with fail); refine hK.out _ _ ?_ (fun hHeld => ?_); (· (exact ⟨c2, e2, e3⟩)); clear hK K; (try simp only [nSO]))
  iterate 11 (first | (refine np_sn ?_; (try simp only [nSO])) | (refine np_n ?_ ?_ ?_; rotate_left 1; (· (intro w hSw; (try dsimp only at hSw); go_simp; all_goals with_reducible rfl)); (try simp only [nSO])))
  first | (refine np_s 18 ?_; (try simp only [nSO])) | (refine np_step (i := 18) rfl (by kernel_rfl) (fun K hK => ?_); rw [if_pos (by rfl)]; go_simp; ((go_at_call 97; refine (hbo2 _).mono ?_; rintro e w3 ⟨rfl, rfl⟩)); (try go_wp2_with fail); refine hK.out _ _ ?_ (fun hHeld => ?_); (· (exact ⟨c2, e2, e3⟩)); clear hK K; (try simp only [nSO]))
  iterate 3 (first | (refine np_sn ?_; (try simp only [nSO])) | (refine np_n ?_ ?_ ?_; rotate_left 1; (· (intro w hSw; (try dsimp only at hSw); go_simp; all_goals with_reducible rfl)); (try simp only [nSO])))
  refine wpAnyH_done (by kernel_rfl) ?_ _
  refine NoPanic.normal ?_
  have hE3 := hE.drew
  have e2' := hE3.o2.1
  have e3' := hE3.o2.2.1
  have e6' := hE3.o2.2.2.1
  have hM3 := hM0.below (Below.refl _ _).drew
  have c2' := hM3.cs.2.2.1
  go_wp2_with (first
    | (go_at_call 98; refine (refReplace_ok M.text.size o.at_ o.n o.text _ HREP.out).mono ?_; rintro e w4 ⟨v4, rfl, hov, hb4⟩; obtain ⟨a4, p4, rfl⟩ := own_slice hov; have hE4 := hE3.on hb4; have hM4 := hM3.below hb4; have HPR := Lib.hid (prow_own rfl hov); have c34 := hM4.c3 hmv; have c24 := hM4.cs.2.2.1)
    | (go_at_call 99; refine (refShift_ok M.text.size o.at_ o.n o.text ao a4 cp p4 M.marks _ HREP.out (HHR.out.on hE4.bl) HPR.out.1 HMK.out HCP.out HPR.out.2).mono ?_; rintro e w5 ⟨v5, rfl, hov5, hb5⟩; obtain ⟨a5, p5, rfl⟩ := own_slice hov5; have hE5 := hE4.on hb5; have hM5 := hM4.below hb5; have f53 := hM5.f 3; have c53 := hM5.c3 hmv; have hM6 := hM5.setMarks (own_mono (Nat.zero_le _) hov5); have c26 := hM6.cs.2.2.1; have hov6 := own_keep (own_below6 hov hb5) hM5.blk (by decide) (fun k _ hk => setCell_ne w5 ⟨b, 3, none⟩ (.slice a5 (shiftM (repD M.text.size o.at_ o.n o.text) M.marks).length p5) k hk); have HP6 := Lib.hid (prow_own rfl hov6); have hz5 := hE5.res; have hz6 := (setCell_ne w5 ⟨b, 3, none⟩ (.slice a5 (shiftM (repD M.text.size o.at_ o.n o.text) M.marks).length p5) (w.heap.size + 1) (by show w.heap.size + 1 ≠ b; omega)).trans hz5)
    | (go_at_call 100; refine (refApply_ok M.text o.at_ o.n o.text a4 p4 _ HREP.out HP6.out.1 HP6.out.2).mono ?_; rintro e w7 ⟨rfl, hb7⟩; have hM7 := hM6.below hb7; have f72 := hM7.f 2; have c72 := hM7.cs.2.2.1; have hM8 := hM7.setText (repT M.text o.at_ o.n o.text); have c48 := hM8.cs.2.2.2.2.1; have f84 := hM8.f 4; have hM9 := hM8.setNum (M.number + 1); have c49 := hM9.cs.2.2.2.2.1; have hz7 := (hb7.block (w.heap.size + 1) (Array.getElem?_eq_some_iff.1 hz6).1).trans hz6; have hz9 := (setCell_ne (w7.setCell ⟨b, 2, none⟩ (.string (repT M.text o.at_ o.n o.text))) ⟨b, 4, none⟩ (.int .i64 (M.number + 1)) (w.heap.size + 1) (by show w.heap.size + 1 ≠ b; omega)).trans ((setCell_ne w7 ⟨b, 2, none⟩ (.string (repT M.text o.at_ o.n o.text)) (w.heap.size + 1) (by show w.heap.size + 1 ≠ b; omega)).trans hz7); have hst := res_st hz9 rfl))
  exact ⟨rfl, _, results_cell_row rfl _ _ _ _ _ _ _ rfl (setRow_heap _ _ _ _ _ _ hz9) Tryz.underlying36 rfl (by kernel_rfl), rfl, _, hM9.row hz9 _, rfl, (((((KeepF.of_below hE5.bl).trans (KeepF.set (F := M.fp b) (a := ⟨b, 3, none⟩) (.inl rfl) _)).trans (KeepF.of_below hb7)).trans (KeepF.set (F := M.fp b) (a := ⟨b, 2, none⟩) (.inl rfl) _)).trans (KeepF.set (F := M.fp b) (a := ⟨b, 4, none⟩) (.inl rfl) _)).row hrB _, fun k hk => .inl hk⟩
end Go.Proofs.YtlealeecmmpckaaGreat
