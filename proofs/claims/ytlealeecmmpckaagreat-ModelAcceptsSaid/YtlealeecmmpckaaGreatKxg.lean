/- The texts RaX RaY RaZ RaZ2. -/
import Derived.Test.YtlealeecmmpckaaGreatKug
import Derived.Test.YtlealeecmmpckaaGreatKxf
import Derived.Test.YtlealeecmmpckaaGreatKxd
import Derived.Test.YtlealeecmmpckaaGreatKui
namespace Go.Proofs.YtlealeecmmpckaaGreat
set_option linter.unusedVariables false
set_option linter.unusedSimpArgs false
set_option maxRecDepth 100000
set_option maxHeartbeats 8000000
open Go.RowKit Go.Lib Go.Shelf
attribute [local go_sem, local simp] resF resL_len resL_ne rset0 rset1 rset2 rset3 rset4 rset5
theorem Ed2.kd {w W : World} {r : Nat} {o : OpV} (h : Ed2 w o r W) : W.cell? ⟨w.heap.size, 0, none⟩ = some (.int .u8 o.kind) := by simp [World.cell?, h.op, opL]
theorem RdAt.c3 {W : World} {b : Nat} {M : RM} (h : RdAt W b M) {v : Value} (hv : M.mv = v) : W.cell? ⟨b, 3, none⟩ = some v := hv ▸ h.cs.2.2.2.1
theorem rmark_drop_none (b : Nat) (M : RM) (o : OpV) (w : World) (h : RdAt w b M) (hok : MSok M.st 100000) (hk : o.kind = 4) (hc : M.closed = false) (hs : hasM o.id M.marks = false) :
    Calls Tryz.prog 60 #[.pointer (some ⟨b, 0, none⟩), .agg #[.int .u8 o.kind, .int .i64 o.slot, .int .i64 o.at_, .int .i64 o.n, .int .u32 o.id, .int .u8 o.grav, .string o.text]] w (RPost b w (drpS M.st o) M) := by
  have hE := ed2_start w o
  have hM0 := h.below hE.bl
  obtain ⟨ao, cp, hmv⟩ := own_slice h.marks
  have h1 := h.marks
  rw [hmv] at h1
  obtain ⟨hrow, hcp⟩ := mrow_own rfl h1
  have hmk : MkOK bigN M.marks := hok.marks.big (by have := hok.size; unfold bigN; omega)
  have hrB : w.heap.size ≤ w.heap.size + 1 := by omega
  have hok := Lib.hid hok
  have hS : drpS M.st o = (failR 7, M.st) := by unfold drpS; rw [if_neg (by show ¬ (M.closed = true); simp [hc]), if_neg (by show ¬ (hasM o.id M.marks = true); simp [hs])]
  rw [hS]
  have e4 := hE.o2.2.2.2.1
  have e0 := hE.kd
  have e1 := hM0.c3 hmv
  have t3 : (o.kind == 3) = false := by rw [hk]; rfl
  clear hk
  go_enter Tryz.func60, Tryz.ntmps60
  go_wp2
  refine wp_region_noPanic ?_
  refine wp_region_held_drew (S := fun W => W.cell? ⟨b, 3, none⟩ = some (.slice ao M.marks.length cp) ∧ W.cell? ⟨w.heap.size, 4, none⟩ = some (.int .u32 o.id)) (by kernel_rfl) ?_ (fun hHeld => ?_)
  · first | exact ⟨hM2.c3 hmv, hE2.o2.2.2.2.1⟩ | exact ⟨e1, e4⟩
  iterate 6 (first | (refine np_sn ?_; (try simp only [nSO])) | ((first | refine np_n ?_ ?_ ?_ | refine np_t 0 ?_ ?_ ?_); rotate_left 1; (· (intro w hSw; (try dsimp only at hSw); go_simp; all_goals with_reducible rfl)); (try simp only [nSO])))
  first | (refine np_s 6 ?_; (try simp only [nSO])) | (refine np_step (i := 6) rfl (by kernel_rfl) (fun K hK => ?_); rw [if_pos (by rfl)]; go_simp; ((go_at_call 101; refine (refDrop_no ao cp M.marks o.id _ (hrow.on hE.bl.drew) hmk hcp hs).mono ?_; rintro e w2 ⟨rfl, hb2⟩; have hE2 := hE.drew.on hb2; have hM2 := (hM0.below (Below.refl _ _).drew).below hb2)); (try go_wp2_with fail); refine hK.out _ _ ?_ (fun hHeld => ?_); (· (first | exact ⟨hM2.c3 hmv, hE2.o2.2.2.2.1⟩ | exact ⟨e1, e4⟩)); clear hK K; (try simp only [nSO]))
  iterate 5 (first | (refine np_sn ?_; (try simp only [nSO])) | (refine np_n ?_ ?_ ?_; rotate_left 1; (· (intro w hSw; (try dsimp only at hSw); go_simp; all_goals with_reducible rfl)); (try simp only [nSO])))
  refine wpAnyH_done (by kernel_rfl) ?_ _
  refine NoPanic.normal ?_
  have e02 := hE2.kd
  go_wp2_with (go_at_call 56; refine (rfail_any _ _).mono ?_; rintro e v7 ⟨rfl, hb7⟩; have hE7 := hE2.on hb7; have hst := res_st hE7.res rfl)
  refine ⟨rfl, _, results_cell_row rfl _ _ _ _ _ _ _ rfl (setRow_heap _ _ _ _ _ _ hE7.res) Tryz.underlying36 rfl (by kernel_rfl), rfl, M, (hM2.below hb7).row hE7.res _, rfl, (KeepF.of_below hE7.bl).row hrB _, fun k hk => .inl hk⟩
theorem rmark_drop_yes (b : Nat) (M : RM) (o : OpV) (w : World) (h : RdAt w b M) (hok : MSok M.st 100000) (hk : o.kind = 4) (hc : M.closed = false) (hs : hasM o.id M.marks = true) :
    Calls Tryz.prog 60 #[.pointer (some ⟨b, 0, none⟩), .agg #[.int .u8 o.kind, .int .i64 o.slot, .int .i64 o.at_, .int .i64 o.n, .int .u32 o.id, .int .u8 o.grav, .string o.text]] w (RPost b w (drpS M.st o) M) := by
  have hE := ed2_start w o
  have hM0 := h.below hE.bl
  obtain ⟨ao, cp, hmv⟩ := own_slice h.marks
  have h1 := h.marks
  rw [hmv] at h1
  obtain ⟨hrow, hcp⟩ := mrow_own rfl h1
  have hmk : MkOK bigN M.marks := hok.marks.big (by have := hok.size; unfold bigN; omega)
  have hrB : w.heap.size ≤ w.heap.size + 1 := by omega
  have hbw := (Array.getElem?_eq_some_iff.1 h.blk).1
  have hn0 : 0 ≤ M.number := hok.num0
  have hn1 : M.number ≤ 100000 := hok.num1
  have hw : IntKind.i64.wrap (M.number + 1) = M.number + 1 := IntWalk.i64_in _ (by omega)
  have hS : drpS M.st o = editedS { M.st with marks := dropM o.id M.marks } := by unfold drpS; rw [if_neg (by show ¬ (M.closed = true); simp [hc]), if_pos (by exact hs)]; rfl
  rw [hS]
  have e4 := hE.o2.2.2.2.1
  have e1 := hM0.c3 hmv
  have t3 : (o.kind == 3) = false := by rw [hk]; rfl
  clear hk hok
  go_enter Tryz.func60, Tryz.ntmps60
  go_wp2
  refine wp_region_noPanic ?_
  refine wp_region_held_drew (S := fun W => W.cell? ⟨b, 3, none⟩ = some (.slice ao M.marks.length cp) ∧ W.cell? ⟨w.heap.size, 4, none⟩ = some (.int .u32 o.id)) (by kernel_rfl) ?_ (fun hHeld => ?_)
  · first | exact ⟨hM2.c3 hmv, hE2.o2.2.2.2.1⟩ | exact ⟨e1, e4⟩
  iterate 6 (first | (refine np_sn ?_; (try simp only [nSO])) | ((first | refine np_n ?_ ?_ ?_ | refine np_t 0 ?_ ?_ ?_); rotate_left 1; (· (intro w hSw; (try dsimp only at hSw); go_simp; all_goals with_reducible rfl)); (try simp only [nSO])))
  first | (refine np_s 6 ?_; (try simp only [nSO])) | (refine np_step (i := 6) rfl (by kernel_rfl) (fun K hK => ?_); rw [if_pos (by rfl)]; go_simp; ((go_at_call 101; refine (refDrop_yes ao cp M.marks o.id _ (hrow.on hE.bl.drew) hmk hcp hs).mono ?_; rintro e w2 ⟨v, rfl, hov, hb2⟩; obtain ⟨av, cv, rfl⟩ := own_slice hov; have hE2 := hE.drew.on hb2; have hM2 := (hM0.below (Below.refl _ _).drew).below hb2)); (try go_wp2_with fail); refine hK.out _ _ ?_ (fun hHeld => ?_); (· (first | exact ⟨hM2.c3 hmv, hE2.o2.2.2.2.1⟩ | exact ⟨e1, e4⟩)); clear hK K; (try simp only [nSO]))
  iterate 5 (first | (refine np_sn ?_; (try simp only [nSO])) | (refine np_n ?_ ?_ ?_; rotate_left 1; (· (intro w hSw; (try dsimp only at hSw); go_simp; all_goals with_reducible rfl)); (try simp only [nSO])))
  refine wpAnyH_done (by kernel_rfl) ?_ _
  refine NoPanic.normal ?_
  have e02 := hE2.kd
  have c32 := hM2.c3 hmv
  have f3 := hM2.f 3
  have hM3 := hM2.setMarks (own_mono (Nat.zero_le _) hov)
  have c4 := hM3.cs.2.2.2.2.1
  have f4 := hM3.f 4
  have hM4 := hM3.setNum (M.number + 1)
  have d4 := hM4.cs.2.2.2.2.1
  have hz4 := (setCell_ne (w2.setCell ⟨b, 3, none⟩ (.slice av (dropM o.id M.marks).length cv)) ⟨b, 4, none⟩ (.int .i64 (M.number + 1)) (w.heap.size + 1) (by show w.heap.size + 1 ≠ b; omega)).trans ((setCell_ne w2 ⟨b, 3, none⟩ (.slice av (dropM o.id M.marks).length cv) (w.heap.size + 1) (by show w.heap.size + 1 ≠ b; omega)).trans hE2.res)
  have hst := res_st hz4 rfl
  go_wp2
  refine ⟨rfl, _, results_cell_row rfl _ _ _ _ _ _ _ rfl (setRow_heap _ _ _ _ _ _ hz4) Tryz.underlying36 rfl (by kernel_rfl), rfl, _, hM4.row hz4 _, rfl, (((KeepF.of_below hE2.bl).trans (KeepF.set (F := M.fp b) (a := ⟨b, 3, none⟩) (.inl rfl) _)).trans (KeepF.set (F := M.fp b) (a := ⟨b, 4, none⟩) (.inl rfl) _)).row hrB _, fun k hk => .inl hk⟩
end Go.Proofs.YtlealeecmmpckaaGreat
namespace Go.Proofs.YtlealeecmmpckaaGreat
set_option linter.unusedVariables false
set_option linter.unusedSimpArgs false
set_option maxRecDepth 100000
set_option maxHeartbeats 8000000
open Go.RowKit Go.Lib Go.Shelf
attribute [local go_sem, local simp] resF resL_len resL_ne rset0 rset1 rset2 rset3 rset4 rset5
theorem refDrop_some (ad : Option Addr) (c : Nat) (l : List MkV) (id : Int) (w : World) (hr : MRow w ad l) (hok : MkOK bigN l) (hc : l.length ≤ c) : Calls Tryz.prog 101 #[.slice ad l.length c, .int .u32 id] w fun e w' => ∃ a n c x, e = .returned (.tuple #[.slice a n c, .int .i64 x]) ∧ Below w.heap.size w w' := by
  cases hs : hasM id l with
  | true =>
    refine (refDrop_yes ad c l id w hr hok hc hs).mono ?_
    rintro e w' ⟨v, h1, h2, h3⟩
    obtain ⟨av, cv, rfl⟩ := own_slice h2
    exact ⟨_, _, _, _, h1, h3⟩
  | false =>
    refine (refDrop_no ad c l id w hr hok hc hs).mono ?_
    rintro e w' ⟨h1, h3⟩
    exact ⟨_, _, _, _, h1, h3⟩
theorem rmark_set_range (b : Nat) (M : RM) (o : OpV) (w : World) (h : RdAt w b M) (hok : MSok M.st 100000) (hk : o.kind = 3) (hc : M.closed = false) (hs : (M.text.size : Int) < o.at_) :
    Calls Tryz.prog 60 #[.pointer (some ⟨b, 0, none⟩), .agg #[.int .u8 o.kind, .int .i64 o.slot, .int .i64 o.at_, .int .i64 o.n, .int .u32 o.id, .int .u8 o.grav, .string o.text]] w (RPost b w (setS M.st o) M) := by
  have hE := ed2_start w o
  have hM0 := h.below hE.bl
  obtain ⟨ao, cp, hmv⟩ := own_slice h.marks
  have h1 := h.marks
  rw [hmv] at h1
  obtain ⟨hrow, hcp⟩ := mrow_own rfl h1
  have hmk : MkOK bigN M.marks := hok.marks.big (by have := hok.size; unfold bigN; omega)
  have hrB : w.heap.size ≤ w.heap.size + 1 := by omega
  have hE3 : setE M.st o = 3 := by
    unfold setE; rw [if_neg (by show ¬ (M.closed = true); simp [hc])]; exact if_pos hs
  have hS : setS M.st o = (failR 3, M.st) := by unfold setS; rw [hE3, if_pos (by decide)]
  rw [hS]
  have e4 := hE.o2.2.2.2.1
  have e1 := hM0.c3 hmv
  have t3 : (o.kind == 3) = true := by rw [hk]; rfl
  have t4 : decide ((M.text.size : Int) < o.at_) = true := by simpa using hs
  clear hk hok hs hE3
  go_enter Tryz.func60, Tryz.ntmps60
  go_wp2
  refine wp_region_noPanic ?_
  refine wp_region_held_drew (S := fun W => W.cell? ⟨b, 3, none⟩ = some (.slice ao M.marks.length cp) ∧ W.cell? ⟨w.heap.size, 4, none⟩ = some (.int .u32 o.id)) (by kernel_rfl) ?_ (fun hHeld => ?_)
  · first | exact ⟨hM2.c3 hmv, hE2.o2.2.2.2.1⟩ | exact ⟨e1, e4⟩
  iterate 6 (first | (refine np_sn ?_; (try simp only [nSO])) | ((first | refine np_n ?_ ?_ ?_ | refine np_t 0 ?_ ?_ ?_); rotate_left 1; (· (intro w hSw; (try dsimp only at hSw); go_simp; all_goals with_reducible rfl)); (try simp only [nSO])))
  first | (refine np_s 6 ?_; (try simp only [nSO])) | (refine np_step (i := 6) rfl (by kernel_rfl) (fun K hK => ?_); rw [if_pos (by rfl)]; go_simp; ((go_at_call 101; refine (refDrop_some ao cp M.marks o.id _ (hrow.on hE.bl.drew) hmk hcp).mono ?_; rintro e w2 ⟨a5, n5, c5, x5, rfl, hb2⟩; have hE2 := hE.drew.on hb2; have hM2 := (hM0.below (Below.refl _ _).drew).below hb2)); (try go_wp2_with fail); refine hK.out _ _ ?_ (fun hHeld => ?_); (· (first | exact ⟨hM2.c3 hmv, hE2.o2.2.2.2.1⟩ | exact ⟨e1, e4⟩)); clear hK K; (try simp only [nSO]))
  iterate 5 (first | (refine np_sn ?_; (try simp only [nSO])) | (refine np_n ?_ ?_ ?_; rotate_left 1; (· (intro w hSw; (try dsimp only at hSw); go_simp; all_goals with_reducible rfl)); (try simp only [nSO])))
  refine wpAnyH_done (by kernel_rfl) ?_ _
  refine NoPanic.normal ?_
  have e02 := hE2.kd
  have e2 := hE2.o2.1
  have c2 := hM2.cs.2.2.1
  go_wp2
  refine wp_region_noPanic ?_
  refine wp_region_held_drew (S := fun W => W.cell? ⟨b, 2, none⟩ = some (.string M.text) ∧ W.cell? ⟨w.heap.size, 2, none⟩ = some (.int .i64 o.at_)) (by kernel_rfl) ?_ (fun hHeld => ?_)
  · exact ⟨c2, e2⟩
  iterate 8 (first | (refine np_sn ?_; (try simp only [nSO])) | ((first | refine np_n ?_ ?_ ?_ | refine np_t 0 ?_ ?_ ?_); rotate_left 1; (· (intro w hSw; (try dsimp only at hSw); go_simp; all_goals with_reducible rfl)); (try simp only [nSO])))
  refine wpAnyH_done (by kernel_rfl) ?_ _
  refine NoPanic.normal ?_
  have hE3 := hE2.drew
  have hM3 := hM2.below (Below.refl _ _).drew
  go_wp2_with (go_at_call 56; refine (rfail_any _ _).mono ?_; rintro e v7 ⟨rfl, hb7⟩; have hE7 := hE3.on hb7; have hst := res_st hE7.res rfl)
  refine ⟨rfl, _, results_cell_row rfl _ _ _ _ _ _ _ rfl (setRow_heap _ _ _ _ _ _ hE7.res) Tryz.underlying36 rfl (by kernel_rfl), rfl, M, (hM3.below hb7).row hE7.res _, rfl, (KeepF.of_below hE7.bl).row hrB _, fun k hk => .inl hk⟩
theorem rmark_set_bnd (b : Nat) (M : RM) (o : OpV) (w : World) (h : RdAt w b M) (hok : MSok M.st 100000) (hk : o.kind = 3) (hc : M.closed = false) (hs : o.at_ ≤ M.text.size) (hbd : bndB M.text.data.toList o.at_ = false) :
    Calls Tryz.prog 60 #[.pointer (some ⟨b, 0, none⟩), .agg #[.int .u8 o.kind, .int .i64 o.slot, .int .i64 o.at_, .int .i64 o.n, .int .u32 o.id, .int .u8 o.grav, .string o.text]] w (RPost b w (setS M.st o) M) := by
  have hE := ed2_start w o
  have hM0 := h.below hE.bl
  obtain ⟨ao, cp, hmv⟩ := own_slice h.marks
  have h1 := h.marks
  rw [hmv] at h1
  obtain ⟨hrow, hcp⟩ := mrow_own rfl h1
  have hmk : MkOK bigN M.marks := hok.marks.big (by have := hok.size; unfold bigN; omega)
  have hrB : w.heap.size ≤ w.heap.size + 1 := by omega
  have hE3 : setE M.st o = 12 := by
    unfold setE; rw [if_neg (by show ¬ (M.closed = true); simp [hc])]; exact (if_neg (by show ¬ ((M.text.size : Int) < o.at_); omega)).trans (if_neg (by show ¬ (bndB M.text.data.toList o.at_ = true); rw [hbd]; simp))
  have hS : setS M.st o = (failR 12, M.st) := by unfold setS; rw [hE3, if_pos (by decide)]
  rw [hS]
  have e4 := hE.o2.2.2.2.1
  have e1 := hM0.c3 hmv
  have t3 : (o.kind == 3) = true := by rw [hk]; rfl
  have t4 : decide ((M.text.size : Int) < o.at_) = false := by simp; omega
  have hbo := fun W => refBoundary_any M.text o.at_ W
  rw [hbd] at hbo
  clear hk hok hs hE3 hbd
  go_enter Tryz.func60, Tryz.ntmps60
  go_wp2
  refine wp_region_noPanic ?_
  refine wp_region_held_drew (S := fun W => W.cell? ⟨b, 3, none⟩ = some (.slice ao M.marks.length cp) ∧ W.cell? ⟨w.heap.size, 4, none⟩ = some (.int .u32 o.id)) (by kernel_rfl) ?_ (fun hHeld => ?_)
  · first | exact ⟨hM2.c3 hmv, hE2.o2.2.2.2.1⟩ | exact ⟨e1, e4⟩
  iterate 6 (first | (refine np_sn ?_; (try simp only [nSO])) | ((first | refine np_n ?_ ?_ ?_ | refine np_t 0 ?_ ?_ ?_); rotate_left 1; (· (intro w hSw; (try dsimp only at hSw); go_simp; all_goals with_reducible rfl)); (try simp only [nSO])))
  first | (refine np_s 6 ?_; (try simp only [nSO])) | (refine np_step (i := 6) rfl (by kernel_rfl) (fun K hK => ?_); rw [if_pos (by rfl)]; go_simp; ((go_at_call 101; refine (refDrop_some ao cp M.marks o.id _ (hrow.on hE.bl.drew) hmk hcp).mono ?_; rintro e w2 ⟨a5, n5, c5, x5, rfl, hb2⟩; have hE2 := hE.drew.on hb2; have hM2 := (hM0.below (Below.refl _ _).drew).below hb2)); (try go_wp2_with fail); refine hK.out _ _ ?_ (fun hHeld => ?_); (· (first | exact ⟨hM2.c3 hmv, hE2.o2.2.2.2.1⟩ | exact ⟨e1, e4⟩)); clear hK K; (try simp only [nSO]))
  iterate 5 (first | (refine np_sn ?_; (try simp only [nSO])) | (refine np_n ?_ ?_ ?_; rotate_left 1; (· (intro w hSw; (try dsimp only at hSw); go_simp; all_goals with_reducible rfl)); (try simp only [nSO])))
  refine wpAnyH_done (by kernel_rfl) ?_ _
  refine NoPanic.normal ?_
  have e02 := hE2.kd
  have e2 := hE2.o2.1
  have c2 := hM2.cs.2.2.1
  go_wp2
  refine wp_region_noPanic ?_
  refine wp_region_held_drew (S := fun W => W.cell? ⟨b, 2, none⟩ = some (.string M.text) ∧ W.cell? ⟨w.heap.size, 2, none⟩ = some (.int .i64 o.at_)) (by kernel_rfl) ?_ (fun hHeld => ?_)
  · exact ⟨c2, e2⟩
  iterate 8 (first | (refine np_sn ?_; (try simp only [nSO])) | ((first | refine np_n ?_ ?_ ?_ | refine np_t 0 ?_ ?_ ?_); rotate_left 1; (· (intro w hSw; (try dsimp only at hSw); go_simp; all_goals with_reducible rfl)); (try simp only [nSO])))
  refine wpAnyH_done (by kernel_rfl) ?_ _
  refine NoPanic.normal ?_
  have hE3 := hE2.drew.drew
  have hM3 := (hM2.below (Below.refl _ _).drew).below (Below.refl _ _).drew
  go_wp2
  refine wp_region_noPanic ?_
  refine wp_region_held_drew (S := fun W => W.cell? ⟨b, 2, none⟩ = some (.string M.text) ∧ W.cell? ⟨w.heap.size, 2, none⟩ = some (.int .i64 o.at_)) (by kernel_rfl) ?_ (fun hHeld => ?_)
  · exact ⟨c2, e2⟩
  iterate 6 (first | (refine np_sn ?_; (try simp only [nSO])) | ((first | refine np_n ?_ ?_ ?_ | refine np_t 0 ?_ ?_ ?_); rotate_left 1; (· (intro w hSw; (try dsimp only at hSw); go_simp; all_goals with_reducible rfl)); (try simp only [nSO])))
  first | (refine np_s 6 ?_; (try simp only [nSO])) | (refine np_step (i := 6) rfl (by kernel_rfl) (fun K hK => ?_); rw [if_pos (by rfl)]; go_simp; ((go_at_call 97; refine (hbo _).mono ?_; rintro e w3 ⟨rfl, rfl⟩)); (try go_wp2_with fail); refine hK.out _ _ ?_ (fun hHeld => ?_); (· (exact ⟨c2, e2⟩)); clear hK K; (try simp only [nSO]))
  first | (refine np_sn ?_; (try simp only [nSO])) | (refine np_n ?_ ?_ ?_; rotate_left 1; (· (intro w hSw; (try dsimp only at hSw); go_simp; all_goals with_reducible rfl)); (try simp only [nSO]))
  refine wpAnyH_done (by kernel_rfl) ?_ _
  refine NoPanic.normal ?_
  go_wp2_with (go_at_call 56; refine (rfail_any _ _).mono ?_; rintro e v7 ⟨rfl, hb7⟩; have hE7 := hE3.on hb7; have hst := res_st hE7.res rfl)
  refine ⟨rfl, _, results_cell_row rfl _ _ _ _ _ _ _ rfl (setRow_heap _ _ _ _ _ _ hE7.res) Tryz.underlying36 rfl (by kernel_rfl), rfl, M, (hM3.below hb7).row hE7.res _, rfl, (KeepF.of_below hE7.bl).row hrB _, fun k hk => .inl hk⟩
end Go.Proofs.YtlealeecmmpckaaGreat
namespace Go.Proofs.YtlealeecmmpckaaGreat
set_option linter.unusedVariables false
set_option linter.unusedSimpArgs false
set_option maxRecDepth 100000
set_option maxHeartbeats 8000000
open Go.RowKit Go.Lib Go.Shelf
attribute [local go_sem, local simp] resF resL_len resL_ne rset0 rset1 rset2 rset3 rset4 rset5
theorem rmark_set_ok (b : Nat) (M : RM) (o : OpV) (w : World) (h : RdAt w b M) (hok : MSok M.st 100000) (hk : o.kind = 3) (hc : M.closed = false) (hs : o.at_ ≤ M.text.size) (hbd : bndB M.text.data.toList o.at_ = true) (hm : MkIn bigN ⟨o.id, o.at_, o.grav⟩) (hl : hasM o.id M.marks = true ∨ M.marks.length < 64) :
    Calls Tryz.prog 60 #[.pointer (some ⟨b, 0, none⟩), .agg #[.int .u8 o.kind, .int .i64 o.slot, .int .i64 o.at_, .int .i64 o.n, .int .u32 o.id, .int .u8 o.grav, .string o.text]] w (RPost b w (setS M.st o) M) := by
  have hE := ed2_start w o
  have hM0 := h.below hE.bl
  obtain ⟨ao, cp, hmv⟩ := own_slice h.marks
  have h1 := h.marks
  rw [hmv] at h1
  obtain ⟨hrow, hcp⟩ := mrow_own rfl h1
  have hmk : MkOK bigN M.marks := hok.marks.big (by have := hok.size; unfold bigN; omega)
  have hrB : w.heap.size ≤ w.heap.size + 1 := by omega
  have hE3 : setE M.st o = 0 := by
    unfold setE; rw [if_neg (by show ¬ (M.closed = true); simp [hc])]; exact (if_neg (by show ¬ ((M.text.size : Int) < o.at_); omega)).trans (if_pos hbd)
  have hS : setS M.st o = editedS { M.st with marks := setM ⟨o.id, o.at_, o.grav⟩ M.marks } := by unfold setS; rw [hE3, if_neg (by decide)]; exact if_pos hl
  have hbw := (Array.getElem?_eq_some_iff.1 h.blk).1
  have hn0 : 0 ≤ M.number := hok.num0
  have hn1 : M.number ≤ 100000 := hok.num1
  have hw : IntKind.i64.wrap (M.number + 1) = M.number + 1 := IntWalk.i64_in _ (by omega)
  have hset := fun W (hr : MRow W ao M.marks) => refSet_ok ao cp M.marks ⟨o.id, o.at_, o.grav⟩ W hr hmk hm hcp hl
  have HSET := Lib.hid hset
  clear hset
  rw [hS]
  have e4 := hE.o2.2.2.2.1
  have e1 := hM0.c3 hmv
  have t3 : (o.kind == 3) = true := by rw [hk]; rfl
  have t4 : decide ((M.text.size : Int) < o.at_) = false := by simp; omega
  have hbo := fun W => refBoundary_any M.text o.at_ W
  rw [hbd] at hbo
  clear hk hok hs hE3 hbd hm hl
  go_enter Tryz.func60, Tryz.ntmps60
  go_wp2
  refine wp_region_noPanic ?_
  refine wp_region_held_drew (S := fun W => W.cell? ⟨b, 3, none⟩ = some (.slice ao M.marks.length cp) ∧ W.cell? ⟨w.heap.size, 4, none⟩ = some (.int .u32 o.id)) (by kernel_rfl) ?_ (fun hHeld => ?_)
  · first | exact ⟨hM2.c3 hmv, hE2.o2.2.2.2.1⟩ | exact ⟨e1, e4⟩
  iterate 6 (first | (refine np_sn ?_; (try simp only [nSO])) | ((first | refine np_n ?_ ?_ ?_ | refine np_t 0 ?_ ?_ ?_); rotate_left 1; (· (intro w hSw; (try dsimp only at hSw); go_simp; all_goals with_reducible rfl)); (try simp only [nSO])))
  first | (refine np_s 6 ?_; (try simp only [nSO])) | (refine np_step (i := 6) rfl (by kernel_rfl) (fun K hK => ?_); rw [if_pos (by rfl)]; go_simp; ((go_at_call 101; refine (refDrop_some ao cp M.marks o.id _ (hrow.on hE.bl.drew) hmk hcp).mono ?_; rintro e w2 ⟨a5, n5, c5, x5, rfl, hb2⟩; have hE2 := hE.drew.on hb2; have hM2 := (hM0.below (Below.refl _ _).drew).below hb2)); (try go_wp2_with fail); refine hK.out _ _ ?_ (fun hHeld => ?_); (· (first | exact ⟨hM2.c3 hmv, hE2.o2.2.2.2.1⟩ | exact ⟨e1, e4⟩)); clear hK K; (try simp only [nSO]))
  iterate 5 (first | (refine np_sn ?_; (try simp only [nSO])) | (refine np_n ?_ ?_ ?_; rotate_left 1; (· (intro w hSw; (try dsimp only at hSw); go_simp; all_goals with_reducible rfl)); (try simp only [nSO])))
  refine wpAnyH_done (by kernel_rfl) ?_ _
  refine NoPanic.normal ?_
  have e02 := hE2.kd
  have e2 := hE2.o2.1
  have c2 := hM2.cs.2.2.1
  go_wp2
  refine wp_region_noPanic ?_
  refine wp_region_held_drew (S := fun W => W.cell? ⟨b, 2, none⟩ = some (.string M.text) ∧ W.cell? ⟨w.heap.size, 2, none⟩ = some (.int .i64 o.at_)) (by kernel_rfl) ?_ (fun hHeld => ?_)
  · exact ⟨c2, e2⟩
  iterate 8 (first | (refine np_sn ?_; (try simp only [nSO])) | ((first | refine np_n ?_ ?_ ?_ | refine np_t 0 ?_ ?_ ?_); rotate_left 1; (· (intro w hSw; (try dsimp only at hSw); go_simp; all_goals with_reducible rfl)); (try simp only [nSO])))
  refine wpAnyH_done (by kernel_rfl) ?_ _
  refine NoPanic.normal ?_
  have hE3 := hE2.drew.drew
  have hM3 := (hM2.below (Below.refl _ _).drew).below (Below.refl _ _).drew
  go_wp2
  refine wp_region_noPanic ?_
  refine wp_region_held_drew (S := fun W => W.cell? ⟨b, 2, none⟩ = some (.string M.text) ∧ W.cell? ⟨w.heap.size, 2, none⟩ = some (.int .i64 o.at_)) (by kernel_rfl) ?_ (fun hHeld => ?_)
  · exact ⟨c2, e2⟩
  iterate 6 (first | (refine np_sn ?_; (try simp only [nSO])) | ((first | refine np_n ?_ ?_ ?_ | refine np_t 0 ?_ ?_ ?_); rotate_left 1; (· (intro w hSw; (try dsimp only at hSw); go_simp; all_goals with_reducible rfl)); (try simp only [nSO])))
  first | (refine np_s 6 ?_; (try simp only [nSO])) | (refine np_step (i := 6) rfl (by kernel_rfl) (fun K hK => ?_); rw [if_pos (by rfl)]; go_simp; ((go_at_call 97; refine (hbo _).mono ?_; rintro e w3 ⟨rfl, rfl⟩)); (try go_wp2_with fail); refine hK.out _ _ ?_ (fun hHeld => ?_); (· (exact ⟨c2, e2⟩)); clear hK K; (try simp only [nSO]))
  first | (refine np_sn ?_; (try simp only [nSO])) | (refine np_n ?_ ?_ ?_; rotate_left 1; (· (intro w hSw; (try dsimp only at hSw); go_simp; all_goals with_reducible rfl)); (try simp only [nSO]))
  refine wpAnyH_done (by kernel_rfl) ?_ _
  refine NoPanic.normal ?_
  have e5 := hE3.o2
  have c33 := hM3.c3 hmv
  go_wp2
  refine wp_region_noPanic ?_
  refine wp_region_held_drew (S := fun W => W.cell? ⟨b, 3, none⟩ = some (.slice ao M.marks.length cp) ∧ W.cell? ⟨w.heap.size, 4, none⟩ = some (.int .u32 o.id) ∧ W.cell? ⟨w.heap.size, 2, none⟩ = some (.int .i64 o.at_) ∧ W.cell? ⟨w.heap.size, 5, none⟩ = some (.int .u8 o.grav)) (by kernel_rfl) ?_ (fun hHeld => ?_)
  · first | exact ⟨hM4.c3 hmv, hE4.o2.2.2.2.1, hE4.o2.1, hE4.o2.2.2.2.2⟩ | exact ⟨c33, e5.2.2.2.1, e5.1, e5.2.2.2.2⟩
  iterate 11 (first | (refine np_sn ?_; (try simp only [nSO])) | ((first | refine np_n ?_ ?_ ?_ | refine np_t 0 ?_ ?_ ?_); rotate_left 1; (· (intro w hSw; (try dsimp only at hSw); go_simp; all_goals with_reducible rfl)); (try simp only [nSO])))
  first | (refine np_s 11 ?_; (try simp only [nSO])) | (refine np_step (i := 11) rfl (by kernel_rfl) (fun K hK => ?_); rw [if_pos (by rfl)]; go_simp; ((go_at_call 102; refine (HSET.out _ (hrow.on hE3.drew.bl)).mono ?_; rintro e w4 ⟨v, rfl, hov, hb4⟩; obtain ⟨av, cv, rfl⟩ := own_slice hov; have hE4 := hE3.drew.on hb4; have hM4 := (hM3.below (Below.refl _ _).drew).below hb4)); (try go_wp2_with fail); refine hK.out _ _ ?_ (fun hHeld => ?_); (· (first | exact ⟨hM4.c3 hmv, hE4.o2.2.2.2.1, hE4.o2.1, hE4.o2.2.2.2.2⟩ | exact ⟨c33, e5.2.2.2.1, e5.1, e5.2.2.2.2⟩)); clear hK K; (try simp only [nSO]))
  iterate 5 (first | (refine np_sn ?_; (try simp only [nSO])) | (refine np_n ?_ ?_ ?_; rotate_left 1; (· (intro w hSw; (try dsimp only at hSw); go_simp; all_goals with_reducible rfl)); (try simp only [nSO])))
  refine wpAnyH_done (by kernel_rfl) ?_ _
  refine NoPanic.normal ?_
  have c34 := hM4.c3 hmv
  have f3 := hM4.f 3
  have hM5 := hM4.setMarks (own_mono (Nat.zero_le _) hov)
  have c4 := hM5.cs.2.2.2.2.1
  have f4 := hM5.f 4
  have hM6 := hM5.setNum (M.number + 1)
  have d4 := hM6.cs.2.2.2.2.1
  have hz4 := (setCell_ne (w4.setCell ⟨b, 3, none⟩ (.slice av (setM ⟨o.id, o.at_, o.grav⟩ M.marks).length cv)) ⟨b, 4, none⟩ (.int .i64 (M.number + 1)) (w.heap.size + 1) (by show w.heap.size + 1 ≠ b; omega)).trans ((setCell_ne w4 ⟨b, 3, none⟩ (.slice av (setM ⟨o.id, o.at_, o.grav⟩ M.marks).length cv) (w.heap.size + 1) (by show w.heap.size + 1 ≠ b; omega)).trans hE4.res)
  have hst := res_st hz4 rfl
  go_wp2
  refine ⟨rfl, _, results_cell_row rfl _ _ _ _ _ _ _ rfl (setRow_heap _ _ _ _ _ _ hz4) Tryz.underlying36 rfl (by kernel_rfl), rfl, _, hM6.row hz4 _, rfl, (((KeepF.of_below hE4.bl).trans (KeepF.set (F := M.fp b) (a := ⟨b, 3, none⟩) (.inl rfl) _)).trans (KeepF.set (F := M.fp b) (a := ⟨b, 4, none⟩) (.inl rfl) _)).row hrB _, fun k hk => .inl hk⟩
end Go.Proofs.YtlealeecmmpckaaGreat
namespace Go.Proofs.YtlealeecmmpckaaGreat
set_option linter.unusedVariables false
set_option linter.unusedSimpArgs false
set_option maxRecDepth 100000
set_option maxHeartbeats 8000000
open Go.RowKit Go.Lib Go.Shelf
attribute [local go_sem, local simp] resF resL_len resL_ne rset0 rset1 rset2 rset3 rset4 rset5
theorem rmark_set_full (b : Nat) (M : RM) (o : OpV) (w : World) (h : RdAt w b M) (hok : MSok M.st 100000) (hk : o.kind = 3) (hc : M.closed = false) (hs : o.at_ ≤ M.text.size) (hbd : bndB M.text.data.toList o.at_ = true) (hm : MkIn bigN ⟨o.id, o.at_, o.grav⟩) (hl : ¬(hasM o.id M.marks = true ∨ M.marks.length < 64)) :
    Calls Tryz.prog 60 #[.pointer (some ⟨b, 0, none⟩), .agg #[.int .u8 o.kind, .int .i64 o.slot, .int .i64 o.at_, .int .i64 o.n, .int .u32 o.id, .int .u8 o.grav, .string o.text]] w (RPost b w (setS M.st o) M) := by
  have hE := ed2_start w o
  have hM0 := h.below hE.bl
  obtain ⟨ao, cp, hmv⟩ := own_slice h.marks
  have h1 := h.marks
  rw [hmv] at h1
  obtain ⟨hrow, hcp⟩ := mrow_own rfl h1
  have hmk : MkOK bigN M.marks := hok.marks.big (by have := hok.size; unfold bigN; omega)
  have hrB : w.heap.size ≤ w.heap.size + 1 := by omega
  have hE3 : setE M.st o = 0 := by
    unfold setE; rw [if_neg (by show ¬ (M.closed = true); simp [hc])]; exact (if_neg (by show ¬ ((M.text.size : Int) < o.at_); omega)).trans (if_pos hbd)
  have hS : setS M.st o = (failR 20, M.st) := by unfold setS; rw [hE3, if_neg (by decide)]; exact if_neg hl
  have hbw := (Array.getElem?_eq_some_iff.1 h.blk).1
  have hn0 : 0 ≤ M.number := hok.num0
  have hn1 : M.number ≤ 100000 := hok.num1
  have hw : IntKind.i64.wrap (M.number + 1) = M.number + 1 := IntWalk.i64_in _ (by omega)
  have hset := fun W (hr : MRow W ao M.marks) => refSet_full ao cp M.marks ⟨o.id, o.at_, o.grav⟩ W hr hmk hm hcp hl
  have HSET := Lib.hid hset
  clear hset
  rw [hS]
  have e4 := hE.o2.2.2.2.1
  have e1 := hM0.c3 hmv
  have t3 : (o.kind == 3) = true := by rw [hk]; rfl
  have t4 : decide ((M.text.size : Int) < o.at_) = false := by simp; omega
  have hbo := fun W => refBoundary_any M.text o.at_ W
  rw [hbd] at hbo
  clear hk hok hs hE3 hbd hm hl
  go_enter Tryz.func60, Tryz.ntmps60
  go_wp2
  refine wp_region_noPanic ?_
  refine wp_region_held_drew (S := fun W => W.cell? ⟨b, 3, none⟩ = some (.slice ao M.marks.length cp) ∧ W.cell? ⟨w.heap.size, 4, none⟩ = some (.int .u32 o.id)) (by kernel_rfl) ?_ (fun hHeld => ?_)
  · first | exact ⟨hM2.c3 hmv, hE2.o2.2.2.2.1⟩ | exact ⟨e1, e4⟩
  iterate 6 (first | (refine np_sn ?_; (try simp only [nSO])) | ((first | refine np_n ?_ ?_ ?_ | refine np_t 0 ?_ ?_ ?_); rotate_left 1; (· (intro w hSw; (try dsimp only at hSw); go_simp; all_goals with_reducible rfl)); (try simp only [nSO])))
  first | (refine np_s 6 ?_; (try simp only [nSO])) | (refine np_step (i := 6) rfl (by kernel_rfl) (fun K hK => ?_); rw [if_pos (by rfl)]; go_simp; ((go_at_call 101; refine (refDrop_some ao cp M.marks o.id _ (hrow.on hE.bl.drew) hmk hcp).mono ?_; rintro e w2 ⟨a5, n5, c5, x5, rfl, hb2⟩; have hE2 := hE.drew.on hb2; have hM2 := (hM0.below (Below.refl _ _).drew).below hb2)); (try go_wp2_with fail); refine hK.out _ _ ?_ (fun hHeld => ?_); (· (first | exact ⟨hM2.c3 hmv, hE2.o2.2.2.2.1⟩ | exact ⟨e1, e4⟩)); clear hK K; (try simp only [nSO]))
  iterate 5 (first | (refine np_sn ?_; (try simp only [nSO])) | (refine np_n ?_ ?_ ?_; rotate_left 1; (· (intro w hSw; (try dsimp only at hSw); go_simp; all_goals with_reducible rfl)); (try simp only [nSO])))
  refine wpAnyH_done (by kernel_rfl) ?_ _
  refine NoPanic.normal ?_
  have e02 := hE2.kd
  have e2 := hE2.o2.1
  have c2 := hM2.cs.2.2.1
  go_wp2
  refine wp_region_noPanic ?_
  refine wp_region_held_drew (S := fun W => W.cell? ⟨b, 2, none⟩ = some (.string M.text) ∧ W.cell? ⟨w.heap.size, 2, none⟩ = some (.int .i64 o.at_)) (by kernel_rfl) ?_ (fun hHeld => ?_)
  · exact ⟨c2, e2⟩
  iterate 8 (first | (refine np_sn ?_; (try simp only [nSO])) | ((first | refine np_n ?_ ?_ ?_ | refine np_t 0 ?_ ?_ ?_); rotate_left 1; (· (intro w hSw; (try dsimp only at hSw); go_simp; all_goals with_reducible rfl)); (try simp only [nSO])))
  refine wpAnyH_done (by kernel_rfl) ?_ _
  refine NoPanic.normal ?_
  have hE3 := hE2.drew.drew
  have hM3 := (hM2.below (Below.refl _ _).drew).below (Below.refl _ _).drew
  go_wp2
  refine wp_region_noPanic ?_
  refine wp_region_held_drew (S := fun W => W.cell? ⟨b, 2, none⟩ = some (.string M.text) ∧ W.cell? ⟨w.heap.size, 2, none⟩ = some (.int .i64 o.at_)) (by kernel_rfl) ?_ (fun hHeld => ?_)
  · exact ⟨c2, e2⟩
  iterate 6 (first | (refine np_sn ?_; (try simp only [nSO])) | ((first | refine np_n ?_ ?_ ?_ | refine np_t 0 ?_ ?_ ?_); rotate_left 1; (· (intro w hSw; (try dsimp only at hSw); go_simp; all_goals with_reducible rfl)); (try simp only [nSO])))
  first | (refine np_s 6 ?_; (try simp only [nSO])) | (refine np_step (i := 6) rfl (by kernel_rfl) (fun K hK => ?_); rw [if_pos (by rfl)]; go_simp; ((go_at_call 97; refine (hbo _).mono ?_; rintro e w3 ⟨rfl, rfl⟩)); (try go_wp2_with fail); refine hK.out _ _ ?_ (fun hHeld => ?_); (· (exact ⟨c2, e2⟩)); clear hK K; (try simp only [nSO]))
  first | (refine np_sn ?_; (try simp only [nSO])) | (refine np_n ?_ ?_ ?_; rotate_left 1; (· (intro w hSw; (try dsimp only at hSw); go_simp; all_goals with_reducible rfl)); (try simp only [nSO]))
  refine wpAnyH_done (by kernel_rfl) ?_ _
  refine NoPanic.normal ?_
  have e5 := hE3.o2
  have c33 := hM3.c3 hmv
  go_wp2
  refine wp_region_noPanic ?_
  refine wp_region_held_drew (S := fun W => W.cell? ⟨b, 3, none⟩ = some (.slice ao M.marks.length cp) ∧ W.cell? ⟨w.heap.size, 4, none⟩ = some (.int .u32 o.id) ∧ W.cell? ⟨w.heap.size, 2, none⟩ = some (.int .i64 o.at_) ∧ W.cell? ⟨w.heap.size, 5, none⟩ = some (.int .u8 o.grav)) (by kernel_rfl) ?_ (fun hHeld => ?_)
  · first | exact ⟨hM4.c3 hmv, hE4.o2.2.2.2.1, hE4.o2.1, hE4.o2.2.2.2.2⟩ | exact ⟨c33, e5.2.2.2.1, e5.1, e5.2.2.2.2⟩
  iterate 11 (first | (refine np_sn ?_; (try simp only [nSO])) | ((first | refine np_n ?_ ?_ ?_ | refine np_t 0 ?_ ?_ ?_); rotate_left 1; (· (intro w hSw; (try dsimp only at hSw); go_simp; all_goals with_reducible rfl)); (try simp only [nSO])))
  first | (refine np_s 11 ?_; (try simp only [nSO])) | (refine np_step (i := 11) rfl (by kernel_rfl) (fun K hK => ?_); rw [if_pos (by rfl)]; go_simp; ((go_at_call 102; refine (HSET.out _ (hrow.on hE3.drew.bl)).mono ?_; rintro e w4 ⟨rfl, hb4⟩; have hE4 := hE3.drew.on hb4; have hM4 := (hM3.below (Below.refl _ _).drew).below hb4)); (try go_wp2_with fail); refine hK.out _ _ ?_ (fun hHeld => ?_); (· (first | exact ⟨hM4.c3 hmv, hE4.o2.2.2.2.1, hE4.o2.1, hE4.o2.2.2.2.2⟩ | exact ⟨c33, e5.2.2.2.1, e5.1, e5.2.2.2.2⟩)); clear hK K; (try simp only [nSO]))
  iterate 5 (first | (refine np_sn ?_; (try simp only [nSO])) | (refine np_n ?_ ?_ ?_; rotate_left 1; (· (intro w hSw; (try dsimp only at hSw); go_simp; all_goals with_reducible rfl)); (try simp only [nSO])))
  refine wpAnyH_done (by kernel_rfl) ?_ _
  refine NoPanic.normal ?_
  go_wp2_with (go_at_call 56; refine (rfail_any _ _).mono ?_; rintro e v7 ⟨rfl, hb7⟩; have hE7 := hE4.on hb7; have hst := res_st hE7.res rfl)
  refine ⟨rfl, _, results_cell_row rfl _ _ _ _ _ _ _ rfl (setRow_heap _ _ _ _ _ _ hE7.res) Tryz.underlying36 rfl (by kernel_rfl), rfl, M, (hM4.below hb7).row hE7.res _, rfl, (KeepF.of_below hE7.bl).row hrB _, fun k hk => .inl hk⟩
end Go.Proofs.YtlealeecmmpckaaGreat
