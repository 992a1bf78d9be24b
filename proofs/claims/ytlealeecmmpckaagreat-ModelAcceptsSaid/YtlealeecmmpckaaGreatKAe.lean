/- The texts RdG. -/
import Derived.Test.YtlealeecmmpckaaGreatKAx
import Derived.Test.YtlealeecmmpckaaGreatKAg
namespace Go.Proofs.YtlealeecmmpckaaGreat
set_option linter.unusedVariables false
set_option linter.unusedSimpArgs false
set_option maxRecDepth 100000
set_option maxHeartbeats 8000000
open Go.RowKit Go.Lib Go.Shelf
attribute [local go_sem, local simp] resF resL_len resL_ne rdF rdB_len rdB_ne
theorem raccept_recv (b : Nat) (c : Int) (M : RM) (q : OpV) (r : ResV) (i : ItV) (w : World) (h : RdAt w b M) (hok : MSok M.st 100000) (hi : OpIn q) (hS : sameB r i (doS M.st c q).1 = false) (hz : statE M.st c q = 0) (he : (doS M.st c q).1.err ≠ 13) (hk : q.kind = 15) :
    Calls Tryz.prog 24 #[.pointer (some ⟨b, 0, none⟩), .int .i64 c, .agg #[.int .u8 q.kind, .int .i64 q.slot, .int .i64 q.at_, .int .i64 q.n, .int .u32 q.id, .int .u8 q.grav, .string q.text], .agg #[.int .i64 r.err, .int .i64 r.rev, .int .i64 r.slot, .int .i64 r.at_, .int .u8 r.grav, .string r.text, .int .i64 r.m1, .int .i64 r.m2, .int .i64 r.m3, .int .u8 i.k, .int .i64 i.f, .int .i64 i.t, .slice i.da i.dn i.dc]] w (RAccPost b w (accS M.st c q r i) M) := by
  have hB0 := ((Below.refl w.heap.size w).alloc (Nat.le_refl _) (.cells #[.int .u8 q.kind, .int .i64 q.slot, .int .i64 q.at_, .int .i64 q.n, .int .u32 q.id, .int .u8 q.grav, .string q.text] 28)).alloc (by simp) (.cells #[.int .i64 r.err, .int .i64 r.rev, .int .i64 r.slot, .int .i64 r.at_, .int .u8 r.grav, .string r.text, .int .i64 r.m1, .int .i64 r.m2, .int .i64 r.m3, .int .u8 i.k, .int .i64 i.f, .int .i64 i.t, .slice i.da i.dn i.dc] 36)
  have hq0 := (heap_alloc_old (w.alloc (.cells #[.int .u8 q.kind, .int .i64 q.slot, .int .i64 q.at_, .int .i64 q.n, .int .u32 q.id, .int .u8 q.grav, .string q.text] 28)) (.cells #[.int .i64 r.err, .int .i64 r.rev, .int .i64 r.slot, .int .i64 r.at_, .int .u8 r.grav, .string r.text, .int .i64 r.m1, .int .i64 r.m2, .int .i64 r.m3, .int .u8 i.k, .int .i64 i.f, .int .i64 i.t, .slice i.da i.dn i.dc] 36) (show w.heap.size < _ by simp)).trans (heap_alloc_new w _)
  have hr0 := heap_alloc_new (w.alloc (.cells #[.int .u8 q.kind, .int .i64 q.slot, .int .i64 q.at_, .int .i64 q.n, .int .u32 q.id, .int .u8 q.grav, .string q.text] 28)) (.cells #[.int .i64 r.err, .int .i64 r.rev, .int .i64 r.slot, .int .i64 r.at_, .int .u8 r.grav, .string r.text, .int .i64 r.m1, .int .i64 r.m2, .int .i64 r.m3, .int .u8 i.k, .int .i64 i.f, .int .i64 i.t, .slice i.da i.dn i.dc] 36)
  rw [World.size_alloc] at hr0
  have HOK := Lib.hid hok
  clear hok
  have hM0 := h.below hB0
  obtain ⟨R, hR⟩ : ∃ R, doS M.st c q = R := ⟨_, rfl⟩
  rw [hR] at hS he
  have HS := Lib.hid hS
  have HZ := Lib.hid hz
  obtain ⟨y, hA, hcase⟩ : ∃ y, accS M.st c q r i = (y, M.st) ∧ (((R.1.err == 17) = false ∧ y = false) ∨ ((R.1.err == 17) = true ∧ sameB r {} {} = false ∧ y = false) ∨ ((R.1.err == 17) = true ∧ sameB r {} {} = true ∧ (i.k == 1) = true ∧ y = true) ∨ ((R.1.err == 17) = true ∧ sameB r {} {} = true ∧ (i.k == 1) = false ∧ (i.k == 2) = y)) := by
    have e1 : accS M.st c q r i = (accB M.st c q r i, M.st) := by unfold accS; rw [hR, if_neg (by simp [hS])]
    refine ⟨_, e1, ?_⟩
    unfold accB
    rw [hR, if_neg (by simp [hz]), if_pos hk]
    cases (R.1.err == 17) <;> cases sameB r {} {} <;> cases (i.k == 1) <;> simp
  have e13 : (R.1.err == 13) = false := by simpa using he
  have e13' : (R.1.err = 13) = False := by simpa using he
  have k15 : (q.kind == 15) = true := by simpa using hk
  clear hz hS he hk
  rw [hA]
  clear hA
  rcases hcase with ⟨b17, rfl⟩ | ⟨b17, h0, rfl⟩ | ⟨b17, h0, b1, rfl⟩ | ⟨b17, h0, b1, h2⟩
  all_goals
    (try have H0 := Lib.hid h0)
    (try clear h0)
    go_enter Tryz.func24, Tryz.ntmps24
    go_wp2_with (first | (go_at_call 25; refine (rcopy_any b M _ hM0 HOK.out).mono ?_; rintro e w2 ⟨b2, M2, rfl, hM2, hst2, hb2, hf2⟩; have hq2 := (hb2.block _ (by simp; omega)).trans hq0; have hr2 := (hb2.block _ (by simp)).trans hr0; have hB2 := hB0.trans (hb2.mono (by simp; omega)); have hf2' : ∀ k, M2.fp b2 k → w.heap.size + 1 + 1 ≤ k := (fun k hk => by have := hf2 k hk; simpa using this); obtain ⟨y0, y1, y2, y3, y4, y5, y6⟩ := blk7 hq2; have hdo := rdo_any b2 c M2 q _ hM2 (by rw [hst2]; exact HOK.out) hi; rw [hst2, hR] at hdo; clear hf2 hb2) | (go_at_call 23; refine hdo.mono ?_; rintro e w3 ⟨rfl, M3, hM3, hst3, hk3, hf3⟩; have hq3 := (hk3.block _ (Array.getElem?_eq_some_iff.1 hq2).1 (fun hk => absurd (hf2' _ hk) (by omega))).trans hq2; have hr3 := (hk3.block _ (Array.getElem?_eq_some_iff.1 hr2).1 (fun hk => absurd (hf2' _ hk) (by omega))).trans hr2; have hB3 : Below w.heap.size w w3 := ⟨hk3.os.trans hB2.os, hk3.tape.trans hB2.tape, hk3.output.trans hB2.output, Nat.le_trans hB2.size hk3.size, fun k hk => (hk3.block k (by have := hB2.size; omega) (fun hf => absurd (hf2' _ hf) (by omega))).trans (hB2.block k hk)⟩; obtain ⟨W4, hs4, hw4, hb4⟩ := rnew_pkg w3 R.1; have hB4 := hB3.trans (hb4.mono hB3.size); have hq4 := (hb4.block _ (Array.getElem?_eq_some_iff.1 hq3).1).trans hq3; have hr4 := (hb4.block _ (Array.getElem?_eq_some_iff.1 hr3).1).trans hr3; have hM4 := hM3.below hb4; obtain ⟨a0, a1, a2, a3, a4, a5, a6, a7, a8, a9, a10, a11, a12⟩ := blk13 hr4; obtain ⟨d0, d1, d2, d3, d4, d5, d6, d7, d8, d9, d10, d11, d12⟩ := blk13 hw4; have hf3' : ∀ k, M3.fp b2 k → w.heap.size ≤ k := (fun k hk => (hf3 k hk).elim (fun h => by have := hf2' k h; omega) (fun h => by have := hB2.size; omega)); clear y0 y1 y2 y3 y4 y5 y6 hdo hf3 hM3) | (go_at_call 19; have hx := hB6; refine (rsame_any r {} {} _).mono ?_; rw [H0.out]; rintro e w8 ⟨rfl, hb8⟩; have u9b := cell_below (uk _) hb8) | (go_at_call 19; refine (rsame_any r R.1 i _).mono ?_; (try rw [HS.out]); rintro e w5 ⟨rfl, hb5⟩; have hB5 := hB4.trans (hb5.mono hB4.size); have hM5 := hM4.below hb5; have hq5 := (hb5.block _ (Array.getElem?_eq_some_iff.1 hq4).1).trans hq4; have hr5 := (hb5.block _ (Array.getElem?_eq_some_iff.1 hr4).1).trans hr4; have hw5 := (hb5.block _ (Array.getElem?_eq_some_iff.1 hw4).1).trans hw4; obtain ⟨p0, p1, p2, p3, p4, p5, p6⟩ := blk7 hq5; have hsta := rstat_any b M c q _ (h.below hB5); rw [HZ.out] at hsta; unfold OpV.v at hsta; obtain ⟨g0, _⟩ := blk13 hw5; clear a0 a1 a2 a3 a4 a5 a6 a7 a8 a9 a10 a11 a12 d0 d1 d2 d3 d4 d5 d6 d7 d8 d9 d10 d11 d12; obtain ⟨a0, a1, a2, a3, a4, a5, a6, a7, a8, a9, a10, a11, a12⟩ := blk13 hr5) | (go_at_call 57; refine hsta.mono ?_; rintro e w6 ⟨rfl, hb6⟩; have hB6 := hB5.trans (hb6.mono hB5.size); have hq6 := (hb6.block _ (Array.getElem?_eq_some_iff.1 hq5).1).trans hq5; have hr6 := (hb6.block _ (Array.getElem?_eq_some_iff.1 hr5).1).trans hr5; have hw6 := (hb6.block _ (Array.getElem?_eq_some_iff.1 hw5).1).trans hw5; obtain ⟨k0, _⟩ := blk7 hq6; obtain ⟨v0, _⟩ := blk13 hw6; obtain ⟨u0, u1, u2, u3, u4, u5, u6, u7, u8, u9, u10, u11, u12⟩ := blk13 hr6; clear p0 p1 p2 p3 p4 p5 p6 g0 a0 a1 a2 a3 a4 a5 a6 a7 a8 a9 a10 a11 a12; have k0' := (fun o => Lib.cell?_alloc_some o k0); have v0' := (fun o => Lib.cell?_alloc_some o v0); have uk := (fun o => Lib.cell?_alloc_some o u9)))
    go_returns
    first | exact ⟨rfl, M, h.below (((hB6.alloc hB6.size _).trans (hb8.mono (hB6.alloc hB6.size _).size))), rfl, KeepF.of_below (((hB6.alloc hB6.size _).trans (hb8.mono (hB6.alloc hB6.size _).size))), fun k hk => .inl hk⟩ | exact ⟨rfl, M, h.below (hB6.alloc hB6.size _), rfl, KeepF.of_below (hB6.alloc hB6.size _), fun k hk => .inl hk⟩
end Go.Proofs.YtlealeecmmpckaaGreat
