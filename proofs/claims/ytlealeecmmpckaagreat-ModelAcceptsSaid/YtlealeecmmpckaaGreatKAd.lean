/- The texts RdE. -/
import Derived.Test.YtlealeecmmpckaaGreatKAx
import Derived.Test.YtlealeecmmpckaaGreatKug
import Derived.Test.YtlealeecmmpckaaGreatKAg
namespace Go.Proofs.YtlealeecmmpckaaGreat
set_option linter.unusedVariables false
set_option linter.unusedSimpArgs false
set_option maxRecDepth 100000
set_option maxHeartbeats 8000000
open Go.RowKit Go.Lib Go.Shelf
attribute [local go_sem, local simp] resF resL_len resL_ne rdF rdB_len rdB_ne
theorem raccept_rest (b : Nat) (c : Int) (M : RM) (q : OpV) (r : ResV) (i : ItV) (w : World) (h : RdAt w b M) (hok : MSok M.st 100000) (hi : OpIn q) (hS : sameB r i (doS M.st c q).1 = false) (hz : statE M.st c q = 0) (he : (doS M.st c q).1.err ≠ 13) (hk0 : 1 ≤ q.kind) (hk15 : q.kind ≠ 15) :
    Calls Tryz.prog 24 #[.pointer (some ⟨b, 0, none⟩), .int .i64 c, .agg #[.int .u8 q.kind, .int .i64 q.slot, .int .i64 q.at_, .int .i64 q.n, .int .u32 q.id, .int .u8 q.grav, .string q.text], .agg #[.int .i64 r.err, .int .i64 r.rev, .int .i64 r.slot, .int .i64 r.at_, .int .u8 r.grav, .string r.text, .int .i64 r.m1, .int .i64 r.m2, .int .i64 r.m3, .int .u8 i.k, .int .i64 i.f, .int .i64 i.t, .slice i.da i.dn i.dc]] w (RAccPost b w (accS M.st c q r i) M) := by
  have hB0 := ((Below.refl w.heap.size w).alloc (Nat.le_refl _) (.cells #[.int .u8 q.kind, .int .i64 q.slot, .int .i64 q.at_, .int .i64 q.n, .int .u32 q.id, .int .u8 q.grav, .string q.text] 28)).alloc (by simp) (.cells #[.int .i64 r.err, .int .i64 r.rev, .int .i64 r.slot, .int .i64 r.at_, .int .u8 r.grav, .string r.text, .int .i64 r.m1, .int .i64 r.m2, .int .i64 r.m3, .int .u8 i.k, .int .i64 i.f, .int .i64 i.t, .slice i.da i.dn i.dc] 36)
  have hq0 := (heap_alloc_old (w.alloc (.cells #[.int .u8 q.kind, .int .i64 q.slot, .int .i64 q.at_, .int .i64 q.n, .int .u32 q.id, .int .u8 q.grav, .string q.text] 28)) (.cells #[.int .i64 r.err, .int .i64 r.rev, .int .i64 r.slot, .int .i64 r.at_, .int .u8 r.grav, .string r.text, .int .i64 r.m1, .int .i64 r.m2, .int .i64 r.m3, .int .u8 i.k, .int .i64 i.f, .int .i64 i.t, .slice i.da i.dn i.dc] 36) (show w.heap.size < _ by simp)).trans (heap_alloc_new w _)
  have hr0 := heap_alloc_new (w.alloc (.cells #[.int .u8 q.kind, .int .i64 q.slot, .int .i64 q.at_, .int .i64 q.n, .int .u32 q.id, .int .u8 q.grav, .string q.text] 28)) (.cells #[.int .i64 r.err, .int .i64 r.rev, .int .i64 r.slot, .int .i64 r.at_, .int .u8 r.grav, .string r.text, .int .i64 r.m1, .int .i64 r.m2, .int .i64 r.m3, .int .u8 i.k, .int .i64 i.f, .int .i64 i.t, .slice i.da i.dn i.dc] 36)
  rw [World.size_alloc] at hr0
  have HOK := Lib.hid hok
  clear hok
  have hM0 := h.below hB0
  obtain ⟨R, hR⟩ : ∃ R, doS M.st c q = R := ⟨_, rfl⟩
  rw [hR] at hS he
  have HS := Lib.hid hS
  have HZ := Lib.hid hz
  obtain ⟨y, hA, hcase⟩ : ∃ y, accS M.st c q r i = (y, M.st) ∧ ((decide (q.kind ≤ 4) = true ∧ sameB r i (failR 14) = true ∧ y = true) ∨ (decide (q.kind ≤ 4) = true ∧ sameB r i (failR 14) = false ∧ decide (q.kind ≤ 2) = false ∧ y = false) ∨ (decide (q.kind ≤ 4) = true ∧ sameB r i (failR 14) = false ∧ decide (q.kind ≤ 2) = true ∧ (R.1.err == 0) = false ∧ y = false) ∨ (decide (q.kind ≤ 4) = true ∧ sameB r i (failR 14) = false ∧ decide (q.kind ≤ 2) = true ∧ (R.1.err == 0) = true ∧ sameB r i (failR 6) = y) ∨ (decide (q.kind ≤ 4) = false ∧ decide (q.kind ≤ 2) = false ∧ y = false)) := by
    have b13 : (R.1.err == 13) = false := by simpa using he
    have e1 : accS M.st c q r i = (accB M.st c q r i, M.st) := by unfold accS; rw [hR, if_neg (by simp [hS])]
    refine ⟨_, e1, ?_⟩
    unfold accB
    rw [hR, if_neg (by simp [hz]), if_neg hk15]
    by_cases hk4 : q.kind ≤ 4
    · cases h14 : sameB r i (failR 14) with
      | true =>
        refine .inl ⟨by simpa using hk4, rfl, ?_⟩
        have hk : q.kind = 1 ∨ q.kind = 2 ∨ q.kind = 3 ∨ q.kind = 4 := by omega
        rcases hk with hk | hk | hk | hk <;> simp [hk, b13]
      | false =>
        by_cases hk2 : q.kind ≤ 2
        · have hk : q.kind = 1 ∨ q.kind = 2 := by omega
          cases b0 : (R.1.err == 0) with
          | false => exact .inr (.inr (.inl ⟨by simpa using hk4, rfl, by simpa using hk2, rfl, by rcases hk with hk | hk <;> simp [hk]⟩))
          | true => exact .inr (.inr (.inr (.inl ⟨by simpa using hk4, rfl, by simpa using hk2, rfl, by rcases hk with hk | hk <;> simp [hk]⟩)))
        · have hk : q.kind = 3 ∨ q.kind = 4 := by omega
          exact .inr (.inl ⟨by simpa using hk4, rfl, by simpa using hk2, by rcases hk with hk | hk <;> simp [hk]⟩)
    · exact .inr (.inr (.inr (.inr ⟨by simpa using hk4, by simp; omega, by rw [if_neg (by omega), if_neg (by omega)]⟩)))
  have e13 : (R.1.err == 13) = false := by simpa using he
  have e13' : (R.1.err = 13) = False := by simpa using he
  have k15 : (q.kind == 15) = false := by simpa using hk15
  clear hz hS he hk0 hk15
  rw [hA]
  clear hA
  rcases hcase with ⟨k4, h14, rfl⟩ | ⟨k4, h14, k2, rfl⟩ | ⟨k4, h14, k2, b0, rfl⟩ | ⟨k4, h14, k2, b0, h6⟩ | ⟨k4, k2, rfl⟩
  all_goals
    (try have H14 := Lib.hid h14)
    (try have H6 := Lib.hid h6)
    (try clear h14)
    (try clear h6)
    go_enter Tryz.func24, Tryz.ntmps24
    go_wp2_with (first | (go_at_call 25; refine (rcopy_any b M _ hM0 HOK.out).mono ?_; rintro e w2 ⟨b2, M2, rfl, hM2, hst2, hb2, hf2⟩; have hq2 := (hb2.block _ (by simp; omega)).trans hq0; have hr2 := (hb2.block _ (by simp)).trans hr0; have hB2 := hB0.trans (hb2.mono (by simp; omega)); have hf2' : ∀ k, M2.fp b2 k → w.heap.size + 1 + 1 ≤ k := (fun k hk => by have := hf2 k hk; simpa using this); obtain ⟨y0, y1, y2, y3, y4, y5, y6⟩ := blk7 hq2; have hdo := rdo_any b2 c M2 q _ hM2 (by rw [hst2]; exact HOK.out) hi; rw [hst2, hR] at hdo; clear hf2 hb2) | (go_at_call 23; refine hdo.mono ?_; rintro e w3 ⟨rfl, M3, hM3, hst3, hk3, hf3⟩; have hq3 := (hk3.block _ (Array.getElem?_eq_some_iff.1 hq2).1 (fun hk => absurd (hf2' _ hk) (by omega))).trans hq2; have hr3 := (hk3.block _ (Array.getElem?_eq_some_iff.1 hr2).1 (fun hk => absurd (hf2' _ hk) (by omega))).trans hr2; have hB3 : Below w.heap.size w w3 := ⟨hk3.os.trans hB2.os, hk3.tape.trans hB2.tape, hk3.output.trans hB2.output, Nat.le_trans hB2.size hk3.size, fun k hk => (hk3.block k (by have := hB2.size; omega) (fun hf => absurd (hf2' _ hf) (by omega))).trans (hB2.block k hk)⟩; obtain ⟨W4, hs4, hw4, hb4⟩ := rnew_pkg w3 R.1; have hB4 := hB3.trans (hb4.mono hB3.size); have hq4 := (hb4.block _ (Array.getElem?_eq_some_iff.1 hq3).1).trans hq3; have hr4 := (hb4.block _ (Array.getElem?_eq_some_iff.1 hr3).1).trans hr3; have hM4 := hM3.below hb4; obtain ⟨a0, a1, a2, a3, a4, a5, a6, a7, a8, a9, a10, a11, a12⟩ := blk13 hr4; obtain ⟨d0, d1, d2, d3, d4, d5, d6, d7, d8, d9, d10, d11, d12⟩ := blk13 hw4; have hf3' : ∀ k, M3.fp b2 k → w.heap.size ≤ k := (fun k hk => (hf3 k hk).elim (fun h => by have := hf2' k h; omega) (fun h => by have := hB2.size; omega)); clear y0 y1 y2 y3 y4 y5 y6 hdo hf3 hM3) | (go_at_call 19; refine (rsame_any r R.1 i _).mono ?_; (try rw [HS.out]); rintro e w5 ⟨rfl, hb5⟩; have hB5 := hB4.trans (hb5.mono hB4.size); have hM5 := hM4.below hb5; have hq5 := (hb5.block _ (Array.getElem?_eq_some_iff.1 hq4).1).trans hq4; have hr5 := (hb5.block _ (Array.getElem?_eq_some_iff.1 hr4).1).trans hr4; have hw5 := (hb5.block _ (Array.getElem?_eq_some_iff.1 hw4).1).trans hw4; obtain ⟨p0, p1, p2, p3, p4, p5, p6⟩ := blk7 hq5; have hsta := rstat_any b M c q _ (h.below hB5); rw [HZ.out] at hsta; unfold OpV.v at hsta; obtain ⟨g0, _⟩ := blk13 hw5; clear a0 a1 a2 a3 a4 a5 a6 a7 a8 a9 a10 a11 a12 d0 d1 d2 d3 d4 d5 d6 d7 d8 d9 d10 d11 d12; obtain ⟨a0, a1, a2, a3, a4, a5, a6, a7, a8, a9, a10, a11, a12⟩ := blk13 hr5) | (go_at_call 57; refine hsta.mono ?_; rintro e w6 ⟨rfl, hb6⟩; have hB6 := hB5.trans (hb6.mono hB5.size); have hq6 := (hb6.block _ (Array.getElem?_eq_some_iff.1 hq5).1).trans hq5; have hr6 := (hb6.block _ (Array.getElem?_eq_some_iff.1 hr5).1).trans hr5; have hw6 := (hb6.block _ (Array.getElem?_eq_some_iff.1 hw5).1).trans hw5; obtain ⟨k0, _⟩ := blk7 hq6; obtain ⟨v0, _⟩ := blk13 hw6; obtain ⟨u0, u1, u2, u3, u4, u5, u6, u7, u8, u9, u10, u11, u12⟩ := blk13 hr6; clear p0 p1 p2 p3 p4 p5 p6 g0 a0 a1 a2 a3 a4 a5 a6 a7 a8 a9 a10 a11 a12; have k0' := (fun o => Lib.cell?_alloc_some o k0); have v0' := (fun o => Lib.cell?_alloc_some o v0); have kx : ∀ (o : Obj) W, Below (w6.alloc o).heap.size (w6.alloc o) W → (W.cell? ⟨w.heap.size, 0, none⟩ = some (.int .u8 q.kind) ∧ W.cell? ⟨w3.heap.size, 0, none⟩ = some (.int .i64 R.1.err)) ∧ W.cell? ⟨w.heap.size + 1, 0, none⟩ = some (.int .i64 r.err) ∧ W.cell? ⟨w.heap.size + 1, 1, none⟩ = some (.int .i64 r.rev) ∧ W.cell? ⟨w.heap.size + 1, 2, none⟩ = some (.int .i64 r.slot) ∧ W.cell? ⟨w.heap.size + 1, 3, none⟩ = some (.int .i64 r.at_) ∧ W.cell? ⟨w.heap.size + 1, 4, none⟩ = some (.int .u8 r.grav) ∧ W.cell? ⟨w.heap.size + 1, 5, none⟩ = some (.string r.text) ∧ W.cell? ⟨w.heap.size + 1, 6, none⟩ = some (.int .i64 r.m1) ∧ W.cell? ⟨w.heap.size + 1, 7, none⟩ = some (.int .i64 r.m2) ∧ W.cell? ⟨w.heap.size + 1, 8, none⟩ = some (.int .i64 r.m3) ∧ W.cell? ⟨w.heap.size + 1, 9, none⟩ = some (.int .u8 i.k) ∧ W.cell? ⟨w.heap.size + 1, 10, none⟩ = some (.int .i64 i.f) ∧ W.cell? ⟨w.heap.size + 1, 11, none⟩ = some (.int .i64 i.t) ∧ W.cell? ⟨w.heap.size + 1, 12, none⟩ = some (.slice i.da i.dn i.dc) := (fun o W hW => ⟨⟨cell_below (k0' o) hW, cell_below (v0' o) hW⟩, cell_below (Lib.cell?_alloc_some o u0) hW, cell_below (Lib.cell?_alloc_some o u1) hW, cell_below (Lib.cell?_alloc_some o u2) hW, cell_below (Lib.cell?_alloc_some o u3) hW, cell_below (Lib.cell?_alloc_some o u4) hW, cell_below (Lib.cell?_alloc_some o u5) hW, cell_below (Lib.cell?_alloc_some o u6) hW, cell_below (Lib.cell?_alloc_some o u7) hW, cell_below (Lib.cell?_alloc_some o u8) hW, cell_below (Lib.cell?_alloc_some o u9) hW, cell_below (Lib.cell?_alloc_some o u10) hW, cell_below (Lib.cell?_alloc_some o u11) hW, cell_below (Lib.cell?_alloc_some o u12) hW⟩); have Kx := Lib.hid kx; clear kx))
    refine wp_region_noPanic ?_
    refine wp_region_held_drew (S := fun W => (W.cell? ⟨w.heap.size, 0, none⟩ = some (.int .u8 q.kind) ∧ W.cell? ⟨w3.heap.size, 0, none⟩ = some (.int .i64 R.1.err)) ∧ W.cell? ⟨w.heap.size + 1, 0, none⟩ = some (.int .i64 r.err) ∧ W.cell? ⟨w.heap.size + 1, 1, none⟩ = some (.int .i64 r.rev) ∧ W.cell? ⟨w.heap.size + 1, 2, none⟩ = some (.int .i64 r.slot) ∧ W.cell? ⟨w.heap.size + 1, 3, none⟩ = some (.int .i64 r.at_) ∧ W.cell? ⟨w.heap.size + 1, 4, none⟩ = some (.int .u8 r.grav) ∧ W.cell? ⟨w.heap.size + 1, 5, none⟩ = some (.string r.text) ∧ W.cell? ⟨w.heap.size + 1, 6, none⟩ = some (.int .i64 r.m1) ∧ W.cell? ⟨w.heap.size + 1, 7, none⟩ = some (.int .i64 r.m2) ∧ W.cell? ⟨w.heap.size + 1, 8, none⟩ = some (.int .i64 r.m3) ∧ W.cell? ⟨w.heap.size + 1, 9, none⟩ = some (.int .u8 i.k) ∧ W.cell? ⟨w.heap.size + 1, 10, none⟩ = some (.int .i64 i.f) ∧ W.cell? ⟨w.heap.size + 1, 11, none⟩ = some (.int .i64 i.t) ∧ W.cell? ⟨w.heap.size + 1, 12, none⟩ = some (.slice i.da i.dn i.dc)) (by kernel_rfl) ?_ (fun hHeld => ?_)
    · first | exact Kx.out _ _ hb11' | exact Kx.out _ _ hb10' | exact Kx.out _ _ hb9'.drew | exact Kx.out _ _ hb9' | exact Kx.out _ _ hb8' | exact Kx.out _ _ (Below.refl _ _).drew.drew | exact Kx.out _ _ (Below.refl _ _).drew
    iterate 5 (first | (refine np_sn ?_; (try simp only [nSO])) | ((first | refine np_n ?_ ?_ ?_ | refine np_t 0 ?_ ?_ ?_); rotate_left 1; (· (intro w hSw; (try dsimp only at hSw); go_simp; all_goals with_reducible rfl)); (try simp only [nSO])))
    first | (refine np_s 5 ?_; (try simp only [nSO])) | (refine np_step (i := 5) rfl (by kernel_rfl) (fun K hK => ?_); rw [if_pos (by rfl)]; go_simp; ((go_at_call 56; refine (rfail_any _ _).mono ?_; rintro e w8 ⟨rfl, hb8⟩; have hb8' := Below.trans (Below.drew (Below.refl _ _)) hb8)); (try go_wp2_with fail); refine hK.out _ _ ?_ (fun hHeld => ?_); (· (first | exact Kx.out _ _ hb11' | exact Kx.out _ _ hb10' | exact Kx.out _ _ hb9'.drew | exact Kx.out _ _ hb9' | exact Kx.out _ _ hb8' | exact Kx.out _ _ (Below.refl _ _).drew.drew | exact Kx.out _ _ (Below.refl _ _).drew)); clear hK K; (try simp only [nSO]))
    first | (refine np_s 6 ?_; (try simp only [nSO])) | (refine np_step (i := 6) rfl (by kernel_rfl) (fun K hK => ?_); rw [if_pos (by rfl)]; go_simp; ((go_at_call 19; refine (rsame_any r (failR 14) i _).mono ?_; rw [H14.out]; rintro e w9 ⟨rfl, hb9⟩; have hb9' := hb8'.trans (hb9.mono hb8'.size))); (try go_wp2_with fail); refine hK.out _ _ ?_ (fun hHeld => ?_); (· (first | exact Kx.out _ _ hb11' | exact Kx.out _ _ hb10' | exact Kx.out _ _ hb9'.drew | exact Kx.out _ _ hb9' | exact Kx.out _ _ hb8' | exact Kx.out _ _ (Below.refl _ _).drew.drew | exact Kx.out _ _ (Below.refl _ _).drew)); clear hK K; (try simp only [nSO]))
    first | (refine np_sn ?_; (try simp only [nSO])) | (refine np_n ?_ ?_ ?_; rotate_left 1; (· (intro w hSw; (try dsimp only at hSw); go_simp; all_goals with_reducible rfl)); (try simp only [nSO]))
    refine wpAnyH_done (by kernel_rfl) ?_ _
    refine NoPanic.normal ?_
    go_wp2
  · go_returns
    exact ⟨rfl, M, h.below ((hB6.alloc hB6.size _).trans (hb9'.mono (hB6.alloc hB6.size _).size)), rfl, KeepF.of_below ((hB6.alloc hB6.size _).trans (hb9'.mono (hB6.alloc hB6.size _).size)), fun k hk => .inl hk⟩
  all_goals
    refine wp_region_noPanic ?_
    refine wp_region_held_drew (S := fun W => (W.cell? ⟨w.heap.size, 0, none⟩ = some (.int .u8 q.kind) ∧ W.cell? ⟨w3.heap.size, 0, none⟩ = some (.int .i64 R.1.err)) ∧ W.cell? ⟨w.heap.size + 1, 0, none⟩ = some (.int .i64 r.err) ∧ W.cell? ⟨w.heap.size + 1, 1, none⟩ = some (.int .i64 r.rev) ∧ W.cell? ⟨w.heap.size + 1, 2, none⟩ = some (.int .i64 r.slot) ∧ W.cell? ⟨w.heap.size + 1, 3, none⟩ = some (.int .i64 r.at_) ∧ W.cell? ⟨w.heap.size + 1, 4, none⟩ = some (.int .u8 r.grav) ∧ W.cell? ⟨w.heap.size + 1, 5, none⟩ = some (.string r.text) ∧ W.cell? ⟨w.heap.size + 1, 6, none⟩ = some (.int .i64 r.m1) ∧ W.cell? ⟨w.heap.size + 1, 7, none⟩ = some (.int .i64 r.m2) ∧ W.cell? ⟨w.heap.size + 1, 8, none⟩ = some (.int .i64 r.m3) ∧ W.cell? ⟨w.heap.size + 1, 9, none⟩ = some (.int .u8 i.k) ∧ W.cell? ⟨w.heap.size + 1, 10, none⟩ = some (.int .i64 i.f) ∧ W.cell? ⟨w.heap.size + 1, 11, none⟩ = some (.int .i64 i.t) ∧ W.cell? ⟨w.heap.size + 1, 12, none⟩ = some (.slice i.da i.dn i.dc)) (by kernel_rfl) ?_ (fun hHeld => ?_)
    · first | exact Kx.out _ _ hb11' | exact Kx.out _ _ hb10' | exact Kx.out _ _ hb9'.drew | exact Kx.out _ _ hb9' | exact Kx.out _ _ hb8' | exact Kx.out _ _ (Below.refl _ _).drew.drew | exact Kx.out _ _ (Below.refl _ _).drew
    iterate 10 (first | (refine np_sn ?_; (try simp only [nSO])) | ((first | refine np_n ?_ ?_ ?_ | refine np_t 0 ?_ ?_ ?_); rotate_left 1; (· (intro w hSw; (try dsimp only at hSw); go_simp; all_goals with_reducible rfl)); (try simp only [nSO])))
    first | (refine np_s 10 ?_; (try simp only [nSO])) | (refine np_step (i := 10) rfl (by kernel_rfl) (fun K hK => ?_); rw [if_pos (by rfl)]; go_simp; ((go_at_call 56; refine (rfail_any _ _).mono ?_; rintro e w10 ⟨rfl, hb10⟩; have hb10' := hb9'.drew.trans (hb10.mono hb9'.drew.size))); (try go_wp2_with fail); refine hK.out _ _ ?_ (fun hHeld => ?_); (· (first | exact Kx.out _ _ hb11' | exact Kx.out _ _ hb10' | exact Kx.out _ _ hb9'.drew | exact Kx.out _ _ hb9' | exact Kx.out _ _ hb8' | exact Kx.out _ _ (Below.refl _ _).drew.drew | exact Kx.out _ _ (Below.refl _ _).drew)); clear hK K; (try simp only [nSO]))
    first | (refine np_s 11 ?_; (try simp only [nSO])) | (refine np_step (i := 11) rfl (by kernel_rfl) (fun K hK => ?_); rw [if_pos (by rfl)]; go_simp; ((go_at_call 19; refine (rsame_any r (failR 6) i _).mono ?_; (try rw [H6.out]); rintro e w11 ⟨rfl, hb11⟩; have hb11' := hb10'.trans (hb11.mono hb10'.size))); (try go_wp2_with fail); refine hK.out _ _ ?_ (fun hHeld => ?_); (· (first | exact Kx.out _ _ hb11' | exact Kx.out _ _ hb10' | exact Kx.out _ _ hb9'.drew | exact Kx.out _ _ hb9' | exact Kx.out _ _ hb8' | exact Kx.out _ _ (Below.refl _ _).drew.drew | exact Kx.out _ _ (Below.refl _ _).drew)); clear hK K; (try simp only [nSO]))
    iterate 2 (first | (refine np_sn ?_; (try simp only [nSO])) | (refine np_n ?_ ?_ ?_; rotate_left 1; (· (intro w hSw; (try dsimp only at hSw); go_simp; all_goals with_reducible rfl)); (try simp only [nSO])))
    refine wpAnyH_done (by kernel_rfl) ?_ _
    refine NoPanic.normal ?_
    go_wp2
    go_returns
    first | exact ⟨rfl, M, h.below ((hB6.alloc hB6.size _).trans (hb11'.mono (hB6.alloc hB6.size _).size)), rfl, KeepF.of_below ((hB6.alloc hB6.size _).trans (hb11'.mono (hB6.alloc hB6.size _).size)), fun k hk => .inl hk⟩ | exact ⟨rfl, M, h.below ((hB6.alloc hB6.size _).trans (hb9'.drew.mono (hB6.alloc hB6.size _).size)), rfl, KeepF.of_below ((hB6.alloc hB6.size _).trans (hb9'.drew.mono (hB6.alloc hB6.size _).size)), fun k hk => .inl hk⟩ | exact ⟨rfl, M, h.below (((hB6.alloc hB6.size _).drew).drew), rfl, KeepF.of_below (((hB6.alloc hB6.size _).drew).drew), fun k hk => .inl hk⟩
end Go.Proofs.YtlealeecmmpckaaGreat
