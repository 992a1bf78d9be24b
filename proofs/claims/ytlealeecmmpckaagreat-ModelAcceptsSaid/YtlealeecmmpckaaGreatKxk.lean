/- The texts RbI10 RbI11 RbI12 RbI13 RbJ. -/
import Derived.Test.YtlealeecmmpckaaGreatKug
import Derived.Test.YtlealeecmmpckaaGreatKxi
import Derived.Test.YtlealeecmmpckaaGreatKxe
import Derived.Test.YtlealeecmmpckaaGreatKxd
import Derived.Test.YtlealeecmmpckaaGreatKxj
namespace Go.Proofs.YtlealeecmmpckaaGreat
set_option linter.unusedVariables false
set_option linter.unusedSimpArgs false
set_option maxRecDepth 100000
set_option maxHeartbeats 8000000
open Go.RowKit Go.Lib Go.Shelf
attribute [local go_sem, local simp] sset0 sset1 sset2 resF resL_len resL_ne rset0 rset1 rset2 rset3 rset4 rset5 rset6 rset7 rset8 snF snL_len snL_ne mkL_len mkL_ne
attribute [local go_sem ↓] loadRs_eq
theorem rread_10a (b c k : Nat) (M : RM) (p n id grav : Int) (t : ByteArray) (w : World) (h : RdAt w b M) (S : SeM) (hS : M.seats[c]? = some S) (hl : S.sl.length = M.readers) (hr8 : M.readers ≤ 8) (hcl : M.seats.length ≤ 8) (x : SnM) (hx : S.sl[k]? = some x) (hh : x.s.held = true) (hok : SnOK x.s) (m : MkV) (hv : findM id x.s.marks = some m) :
    Calls Tryz.prog 58 #[.pointer (some ⟨b, 0, none⟩), .int .i64 (c : Int), .agg #[.int .u8 10, .int .i64 (k : Int), .int .i64 p, .int .i64 n, .int .u32 id, .int .u8 grav, .string t]] w (RPost b w ((snpS x.s ⟨10, k, p, n, id, grav, t⟩).1, M.st.putSlot c k (snpS x.s ⟨10, k, p, n, id, grav, t⟩).2) M) := by
  have hsz := hok.1
  rw [snp10 rfl]
  dsimp only
  rw [hv]
  obtain ⟨gs, cs, g, cp, gb, cb, cur, hD0⟩ := RdS.start w ⟨10, k, p, n, id, grav, t⟩ h hS
  obtain ⟨hc, _⟩ := List.getElem?_eq_some_iff.1 hS
  obtain ⟨hk, _⟩ := List.getElem?_eq_some_iff.1 hx
  have hcap := hD0.hA.cap
  have hrB : w.heap.size ≤ w.heap.size + 1 := by omega
  have t1 : decide (M.readers ≤ k) = false := by simp; omega
  obtain ⟨m1, m7, mr⟩ := hD0.md
  obtain ⟨o0, o1, o2, o3, o4, o5, o6⟩ := hD0.hE.o7
  clear hl
  go_enter Tryz.func58, Tryz.ntmps58
  go_wp2
  refine wp_region_noPanic ?_
  refine wp_region_held_drew (S := fun W => W.cell? ⟨b, 1, none⟩ = some (.int .i64 M.readers) ∧ W.cell? ⟨w.heap.size, 1, none⟩ = some (.int .i64 (k : Int))) (by kernel_rfl) ?_ (fun hHeld => ?_)
  · exact ⟨m1, o1⟩
  iterate 7 (((first | refine np_n ?_ ?_ ?_ | refine np_t 0 ?_ ?_ ?_); rotate_left 1; (· (intro w hSw; (try dsimp only at hSw); go_simp; all_goals with_reducible rfl)); (try simp only [nSO])))
  refine wpAnyH_done (by kernel_rfl) ?_ _
  refine NoPanic.normal ?_
  go_wp2
  refine wp_region_noPanic ?_
  refine wp_region_held_drew (S := fun W => W.cell? ⟨b, 7, none⟩ = some (.slice (some ⟨gs, 0, none⟩) M.seats.length cs) ∧ W.cell? ⟨gs, c, none⟩ = some (.slice (some ⟨g, 0, none⟩) S.sl.length cp) ∧ W.cell? ⟨w.heap.size, 1, none⟩ = some (.int .i64 (k : Int))) (by kernel_rfl) ?_ (fun hHeld => ?_)
  · exact ⟨m7, mr, o1⟩
  iterate 11 (((first | refine np_n ?_ ?_ ?_ | refine np_t 0 ?_ ?_ ?_); rotate_left 1; (· (intro w hSw; (try dsimp only at hSw); go_simp; all_goals with_reducible rfl)); (try simp only [nSO])))
  refine wpAnyH_done (by kernel_rfl) ?_ _
  refine NoPanic.normal ?_
  have hD := (hD0.on (Below.refl _ _).drew).on (Below.refl _ _).drew
  clear hD0 m1 m7 mr o0 o1 o2 o3 o4 o5 o6
  generalize hW3 : ((w.alloc (.cells #[.int .u8 10, .int .i64 (k : Int), .int .i64 p, .int .i64 n, .int .u32 id, .int .u8 grav, .string t] 28)).alloc (.cells (resL {}).toArray 36)).drew.drew = W3 at *
  obtain ⟨⟨s0, s1, s2, s3⟩, s4, s5, s6, s7⟩ := hD.sn hx
  rw [hh] at s0
  obtain ⟨W4, hs4, hg4, hb4⟩ := rnew_pkg W3 {}
  have hD4 := hD.on hb4
  obtain ⟨⟨s0, s1, s2, s3⟩, s4, s5, s6, s7⟩ := hD4.sn hx
  rw [hh] at s0
  obtain ⟨o0, o1, o2, o3, o4, o5, o6⟩ := hD4.hE.o7
  have rf := rs_frz hg4
  obtain ⟨r3, r4, r5, r6, r7, r8⟩ := rs_cell hg4
  obtain ⟨av, cv, hxv⟩ := own_slice (hD.hA.sn k x hx).marks
  have hmo := (hD.hA.sn k x hx).marks
  rw [hxv] at hmo
  rw [hxv] at s2
  obtain ⟨hrow, hcpm⟩ := mrow_own rfl hmo
  have hml := hok.2.1.1
  have fa := fun W (hB : Below W3.heap.size W3 W) => refFind_ok av cv x.s.marks id W (hrow.on hB) hml hcpm
  unfold foundV at fa
  simp only [find_has, hv, Option.isSome, Option.getD] at fa
  have HF := Lib.hid fa
  have kx : ∀ W, Below W3.heap.size W3 W → W.cell? ⟨g, k * 4 + 2, none⟩ = some (.slice av x.s.marks.length cv) ∧ W.cell? ⟨w.heap.size, 4, none⟩ = some (.int .u32 id) := fun W hB => by have hDk := hD.on hB; obtain ⟨⟨_, _, a2, _⟩, _⟩ := hDk.sn hx; rw [hxv] at a2; exact ⟨a2, hDk.hE.o7.2.2.2.2.1⟩
  have Kx := Lib.hid kx
  have hbx : Below W3.heap.size W3 (W4.drew.alloc (.cells #[.int .u32 0, .int .i64 0, .int .u8 0] 81)) := hb4.drew.alloc hb4.drew.size _
  have hgx : (W4.drew.alloc (.cells #[.int .u32 0, .int .i64 0, .int .u8 0] 81)).heap[W3.heap.size]? = some (.cells (resL {}).toArray 36 (0, 0)) := (heap_alloc_old W4 _ (Array.getElem?_eq_some_iff.1 hg4).1).trans hg4
  have hqx : (W4.drew.alloc (.cells #[.int .u32 0, .int .i64 0, .int .u8 0] 81)).heap[W4.heap.size]? = some (.cells #[.int .u32 0, .int .i64 0, .int .u8 0] 81 (0, 0)) := heap_alloc_new W4 _
  have hrq : W3.heap.size ≠ W4.heap.size := by have := (Array.getElem?_eq_some_iff.1 hg4).1; omega
  clear hok fa hv kx hmo hh
  go_wp2_with (simp only [hs4])
  refine wp_region_noPanic ?_
  refine wp_region_held_drew (S := fun W => W.cell? ⟨g, k * 4 + 2, none⟩ = some (.slice av x.s.marks.length cv) ∧ W.cell? ⟨w.heap.size, 4, none⟩ = some (.int .u32 id)) (by kernel_rfl) ?_ (fun hHeld => ?_)
  · first | exact Kx.out _ hBV | exact Kx.out _ (hBw.alloc hBw.size _) | exact Kx.out _ hBw | exact Kx.out _ hbx | exact Kx.out _ hb4.drew
  iterate 6 ((first | refine np_n ?_ ?_ ?_ | refine np_t 0 ?_ ?_ ?_); rotate_left 1; (· (intro w hSw; (try dsimp only at hSw); go_simp; all_goals with_reducible rfl)); (try simp only [nSO]))
  refine wpAnyH_ready (rs := [6, 10]) (by kernel_rfl) (by simp) (AllReadyH.cons rfl (fun K hK => ?_) (AllReadyH.cons rfl (fun K hK => ?_) AllReadyH.nil))
  · rw [if_pos (by rfl)]; go_simp; ((go_at_call 96; refine (HF.out _ hb4.drew).mono ?_; rintro e w1 ⟨rfl, hb1⟩; have hBw := hb4.drew.trans (hb1.mono hb4.size); have hgw := (hb1.block _ (Array.getElem?_eq_some_iff.1 hg4).1).trans hg4; obtain ⟨V, hsV, hqV, hbV⟩ := mnew_pkg w1 m; have hBV := hBw.trans (hbV.mono hBw.size); have hgV := (hbV.block _ (Array.getElem?_eq_some_iff.1 hgw).1).trans hgw)); (try go_wp2_with fail); refine hK.out _ _ ?_ (fun hHeld => ?_); (· (first | exact Kx.out _ hBV | exact Kx.out _ (hBw.alloc hBw.size _) | exact Kx.out _ hBw | exact Kx.out _ hbx | exact Kx.out _ hb4.drew)); clear hK K; (try simp only [nSO])
    refine np_t 7 ?_ ?_ ?_; rotate_left 1; (· (intro w hSw; (try dsimp only at hSw); go_simp; all_goals with_reducible rfl)); (try simp only [nSO])
    refine np_t 8 ?_ ?_ ?_; rotate_left 1; (· (intro w hSw; (try dsimp only at hSw); go_simp; all_goals with_reducible rfl)); (try simp only [nSO])
    refine np_t 9 ?_ ?_ ?_; rotate_left 1; (· (intro w hSw; (try dsimp only at hSw); go_simp; all_goals with_reducible rfl)); (try simp only [nSO])
    refine np_step (i := 10) rfl (by kernel_rfl) (fun K hK => ?_); rw [if_pos (by rfl)]; go_simp; (skip); (try go_wp2_with fail); refine hK.out _ _ ?_ (fun hHeld => ?_); (· (first | exact Kx.out _ hBV | exact Kx.out _ (hBw.alloc hBw.size _) | exact Kx.out _ hBw | exact Kx.out _ hbx | exact Kx.out _ hb4.drew)); clear hK K; (try simp only [nSO])
    refine np_step (i := 11) rfl (by kernel_rfl) (fun K hK => ?_); rw [if_pos (by rfl)]; go_simp; (skip); (try go_wp2_with fail); refine hK.out _ _ ?_ (fun hHeld => ?_); (· (first | exact Kx.out _ hBV | exact Kx.out _ (hBw.alloc hBw.size _) | exact Kx.out _ hBw | exact Kx.out _ hbx | exact Kx.out _ hb4.drew)); clear hK K; (try simp only [nSO])
    refine np_t 12 ?_ ?_ ?_; rotate_left 1; (· (intro w hSw; (try dsimp only at hSw); go_simp; all_goals with_reducible rfl)); (try simp only [nSO])
    refine wpAnyH_done (by kernel_rfl) ?_ _
    refine NoPanic.normal ?_
    obtain ⟨⟨⟨a1, a2⟩, ⟨a3, a4⟩, a5, a6⟩, ⟨⟨a7, a8⟩, a9⟩, ⟨⟨b7, b8⟩, b9⟩, ⟨hDV1, hz1⟩, ⟨hDV2, hz2⟩⟩ := hD.mk2 hBV hgV (Nat.le_refl _) hqV
    have hl1 := ld_rs _ hz1
    have hl2 := ld_rs _ hz2
    have hst1 := res_st hDV1.hE.res rfl
    have hst2 := res_st hDV2.hE.res rfl
    clear hsV hHeld HF Kx
    go_wp2
    go_region
    all_goals go_wp2
    all_goals first | exact ⟨rfl, _, results_cell_row rfl _ _ _ _ _ _ _ rfl (setRow_heap _ _ _ _ _ _ hDV1.hE.res) Tryz.underlying36 rfl (by kernel_rfl), hDV1.close hS hx _ _⟩ | exact ⟨rfl, _, results_cell_row rfl _ _ _ _ _ _ _ rfl (setRow_heap _ _ _ _ _ _ hDV2.hE.res) Tryz.underlying36 rfl (by kernel_rfl), hDV2.close hS hx _ _⟩
  · rw [if_pos (by rfl)]; go_simp; (skip); refine hK.out _ _ ?_ (fun hHeld => ?_); (· (first | exact Kx.out _ hBV | exact Kx.out _ (hBw.alloc hBw.size _) | exact Kx.out _ hBw | exact Kx.out _ hbx | exact Kx.out _ hb4.drew)); clear hK K; (try simp only [nSO])
    refine np_step (i := 6) rfl (by kernel_rfl) (fun K hK => ?_); rw [if_pos (by rfl)]; go_simp; ((go_at_call 96; refine (HF.out _ hbx).mono ?_; rintro e w1 ⟨rfl, hb1⟩; have hBw := hbx.trans (hb1.mono hbx.size); have hgw := (hb1.block _ (Array.getElem?_eq_some_iff.1 hgx).1).trans hgx; have hqw := (hb1.block _ (Array.getElem?_eq_some_iff.1 hqx).1).trans hqx; obtain ⟨V, hsV, hqV, hVk, hVB⟩ := mput_pkg hqw m; have hBV := hVB hBw hb4.size; have hgV := (hVk _ hrq).trans hgw)); (try go_wp2_with fail); refine hK.out _ _ ?_ (fun hHeld => ?_); (· (first | exact Kx.out _ hBV | exact Kx.out _ (hBw.alloc hBw.size _) | exact Kx.out _ hBw | exact Kx.out _ hbx | exact Kx.out _ hb4.drew)); clear hK K; (try simp only [nSO])
    refine np_t 7 ?_ ?_ ?_; rotate_left 1; (· (intro w hSw; (try dsimp only at hSw); go_simp; all_goals with_reducible rfl)); (try simp only [nSO])
    refine np_t 8 ?_ ?_ ?_; rotate_left 1; (· (intro w hSw; (try dsimp only at hSw); go_simp; all_goals with_reducible rfl)); (try simp only [nSO])
    refine np_t 9 ?_ ?_ ?_; rotate_left 1; (· (intro w hSw; (try dsimp only at hSw); go_simp; all_goals with_reducible rfl)); (try simp only [nSO])
    refine np_step (i := 11) rfl (by kernel_rfl) (fun K hK => ?_); rw [if_pos (by rfl)]; go_simp; (skip); (try go_wp2_with fail); refine hK.out _ _ ?_ (fun hHeld => ?_); (· (first | exact Kx.out _ hBV | exact Kx.out _ (hBw.alloc hBw.size _) | exact Kx.out _ hBw | exact Kx.out _ hbx | exact Kx.out _ hb4.drew)); clear hK K; (try simp only [nSO])
    refine np_t 12 ?_ ?_ ?_; rotate_left 1; (· (intro w hSw; (try dsimp only at hSw); go_simp; all_goals with_reducible rfl)); (try simp only [nSO])
    refine wpAnyH_done (by kernel_rfl) ?_ _
    refine NoPanic.normal ?_
    obtain ⟨⟨⟨a1, a2⟩, ⟨a3, a4⟩, a5, a6⟩, ⟨⟨a7, a8⟩, a9⟩, ⟨⟨b7, b8⟩, b9⟩, ⟨hDV1, hz1⟩, ⟨hDV2, hz2⟩⟩ := hD.mk2 hBV hgV (Nat.le_refl _) hqV
    have hl1 := ld_rs _ hz1
    have hl2 := ld_rs _ hz2
    have hst1 := res_st hDV1.hE.res rfl
    have hst2 := res_st hDV2.hE.res rfl
    clear hsV hHeld HF Kx
    go_wp2
    go_region
    all_goals go_wp2
    all_goals first | exact ⟨rfl, _, results_cell_row rfl _ _ _ _ _ _ _ rfl (setRow_heap _ _ _ _ _ _ hDV1.hE.res) Tryz.underlying36 rfl (by kernel_rfl), hDV1.close hS hx _ _⟩ | exact ⟨rfl, _, results_cell_row rfl _ _ _ _ _ _ _ rfl (setRow_heap _ _ _ _ _ _ hDV2.hE.res) Tryz.underlying36 rfl (by kernel_rfl), hDV2.close hS hx _ _⟩
theorem rread_10b (b c k : Nat) (M : RM) (p n id grav : Int) (t : ByteArray) (w : World) (h : RdAt w b M) (S : SeM) (hS : M.seats[c]? = some S) (hl : S.sl.length = M.readers) (hr8 : M.readers ≤ 8) (hcl : M.seats.length ≤ 8) (x : SnM) (hx : S.sl[k]? = some x) (hh : x.s.held = true) (hok : SnOK x.s) (hv : findM id x.s.marks = none) :
    Calls Tryz.prog 58 #[.pointer (some ⟨b, 0, none⟩), .int .i64 (c : Int), .agg #[.int .u8 10, .int .i64 (k : Int), .int .i64 p, .int .i64 n, .int .u32 id, .int .u8 grav, .string t]] w (RPost b w ((snpS x.s ⟨10, k, p, n, id, grav, t⟩).1, M.st.putSlot c k (snpS x.s ⟨10, k, p, n, id, grav, t⟩).2) M) := by
  have hsz := hok.1
  rw [snp10 rfl]
  dsimp only
  rw [hv]
  obtain ⟨gs, cs, g, cp, gb, cb, cur, hD0⟩ := RdS.start w ⟨10, k, p, n, id, grav, t⟩ h hS
  obtain ⟨hc, _⟩ := List.getElem?_eq_some_iff.1 hS
  obtain ⟨hk, _⟩ := List.getElem?_eq_some_iff.1 hx
  have hcap := hD0.hA.cap
  have hrB : w.heap.size ≤ w.heap.size + 1 := by omega
  have t1 : decide (M.readers ≤ k) = false := by simp; omega
  obtain ⟨m1, m7, mr⟩ := hD0.md
  obtain ⟨o0, o1, o2, o3, o4, o5, o6⟩ := hD0.hE.o7
  clear hl
  go_enter Tryz.func58, Tryz.ntmps58
  go_wp2
  refine wp_region_noPanic ?_
  refine wp_region_held_drew (S := fun W => W.cell? ⟨b, 1, none⟩ = some (.int .i64 M.readers) ∧ W.cell? ⟨w.heap.size, 1, none⟩ = some (.int .i64 (k : Int))) (by kernel_rfl) ?_ (fun hHeld => ?_)
  · exact ⟨m1, o1⟩
  iterate 7 (((first | refine np_n ?_ ?_ ?_ | refine np_t 0 ?_ ?_ ?_); rotate_left 1; (· (intro w hSw; (try dsimp only at hSw); go_simp; all_goals with_reducible rfl)); (try simp only [nSO])))
  refine wpAnyH_done (by kernel_rfl) ?_ _
  refine NoPanic.normal ?_
  go_wp2
  refine wp_region_noPanic ?_
  refine wp_region_held_drew (S := fun W => W.cell? ⟨b, 7, none⟩ = some (.slice (some ⟨gs, 0, none⟩) M.seats.length cs) ∧ W.cell? ⟨gs, c, none⟩ = some (.slice (some ⟨g, 0, none⟩) S.sl.length cp) ∧ W.cell? ⟨w.heap.size, 1, none⟩ = some (.int .i64 (k : Int))) (by kernel_rfl) ?_ (fun hHeld => ?_)
  · exact ⟨m7, mr, o1⟩
  iterate 11 (((first | refine np_n ?_ ?_ ?_ | refine np_t 0 ?_ ?_ ?_); rotate_left 1; (· (intro w hSw; (try dsimp only at hSw); go_simp; all_goals with_reducible rfl)); (try simp only [nSO])))
  refine wpAnyH_done (by kernel_rfl) ?_ _
  refine NoPanic.normal ?_
  have hD := (hD0.on (Below.refl _ _).drew).on (Below.refl _ _).drew
  clear hD0 m1 m7 mr o0 o1 o2 o3 o4 o5 o6
  generalize hW3 : ((w.alloc (.cells #[.int .u8 10, .int .i64 (k : Int), .int .i64 p, .int .i64 n, .int .u32 id, .int .u8 grav, .string t] 28)).alloc (.cells (resL {}).toArray 36)).drew.drew = W3 at *
  obtain ⟨⟨s0, s1, s2, s3⟩, s4, s5, s6, s7⟩ := hD.sn hx
  rw [hh] at s0
  obtain ⟨W4, hs4, hg4, hb4⟩ := rnew_pkg W3 {}
  have hD4 := hD.on hb4
  obtain ⟨⟨s0, s1, s2, s3⟩, s4, s5, s6, s7⟩ := hD4.sn hx
  rw [hh] at s0
  obtain ⟨o0, o1, o2, o3, o4, o5, o6⟩ := hD4.hE.o7
  have rf := rs_frz hg4
  obtain ⟨r3, r4, r5, r6, r7, r8⟩ := rs_cell hg4
  obtain ⟨av, cv, hxv⟩ := own_slice (hD.hA.sn k x hx).marks
  have hmo := (hD.hA.sn k x hx).marks
  rw [hxv] at hmo
  rw [hxv] at s2
  obtain ⟨hrow, hcpm⟩ := mrow_own rfl hmo
  have hml := hok.2.1.1
  have fa := fun W (hB : Below W3.heap.size W3 W) => refFind_ok av cv x.s.marks id W (hrow.on hB) hml hcpm
  unfold foundV at fa
  simp only [find_has, hv, Option.isSome, Option.getD] at fa
  have HF := Lib.hid fa
  have kx : ∀ W, Below W3.heap.size W3 W → W.cell? ⟨g, k * 4 + 2, none⟩ = some (.slice av x.s.marks.length cv) ∧ W.cell? ⟨w.heap.size, 4, none⟩ = some (.int .u32 id) := fun W hB => by have hDk := hD.on hB; obtain ⟨⟨_, _, a2, _⟩, _⟩ := hDk.sn hx; rw [hxv] at a2; exact ⟨a2, hDk.hE.o7.2.2.2.2.1⟩
  have Kx := Lib.hid kx
  have hbx : Below W3.heap.size W3 (W4.drew.alloc (.cells #[.int .u32 0, .int .i64 0, .int .u8 0] 81)) := hb4.drew.alloc hb4.drew.size _
  have hgx : (W4.drew.alloc (.cells #[.int .u32 0, .int .i64 0, .int .u8 0] 81)).heap[W3.heap.size]? = some (.cells (resL {}).toArray 36 (0, 0)) := (heap_alloc_old W4 _ (Array.getElem?_eq_some_iff.1 hg4).1).trans hg4
  have hqx : (W4.drew.alloc (.cells #[.int .u32 0, .int .i64 0, .int .u8 0] 81)).heap[W4.heap.size]? = some (.cells #[.int .u32 0, .int .i64 0, .int .u8 0] 81 (0, 0)) := heap_alloc_new W4 _
  have hrq : W3.heap.size ≠ W4.heap.size := by have := (Array.getElem?_eq_some_iff.1 hg4).1; omega
  clear hok fa hv kx hmo hh
  go_wp2_with (simp only [hs4])
  refine wp_region_noPanic ?_
  refine wp_region_held_drew (S := fun W => W.cell? ⟨g, k * 4 + 2, none⟩ = some (.slice av x.s.marks.length cv) ∧ W.cell? ⟨w.heap.size, 4, none⟩ = some (.int .u32 id)) (by kernel_rfl) ?_ (fun hHeld => ?_)
  · first | exact Kx.out _ hBV | exact Kx.out _ (hBw.alloc hBw.size _) | exact Kx.out _ hBw | exact Kx.out _ hbx | exact Kx.out _ hb4.drew
  iterate 6 ((first | refine np_n ?_ ?_ ?_ | refine np_t 0 ?_ ?_ ?_); rotate_left 1; (· (intro w hSw; (try dsimp only at hSw); go_simp; all_goals with_reducible rfl)); (try simp only [nSO]))
  refine wpAnyH_ready (rs := [6, 10]) (by kernel_rfl) (by simp) (AllReadyH.cons rfl (fun K hK => ?_) (AllReadyH.cons rfl (fun K hK => ?_) AllReadyH.nil))
  · rw [if_pos (by rfl)]; go_simp; ((go_at_call 96; refine (HF.out _ hb4.drew).mono ?_; rintro e w1 ⟨rfl, hb1⟩; have hBw := hb4.drew.trans (hb1.mono hb4.size); have hgw := (hb1.block _ (Array.getElem?_eq_some_iff.1 hg4).1).trans hg4; obtain ⟨V, hsV, hqV, hbV⟩ := mnew_pkg w1 zeroM; have hBV := hBw.trans (hbV.mono hBw.size); have hgV := (hbV.block _ (Array.getElem?_eq_some_iff.1 hgw).1).trans hgw)); (try go_wp2_with fail); refine hK.out _ _ ?_ (fun hHeld => ?_); (· (first | exact Kx.out _ hBV | exact Kx.out _ (hBw.alloc hBw.size _) | exact Kx.out _ hBw | exact Kx.out _ hbx | exact Kx.out _ hb4.drew)); clear hK K; (try simp only [nSO])
    refine np_t 7 ?_ ?_ ?_; rotate_left 1; (· (intro w hSw; (try dsimp only at hSw); go_simp; all_goals with_reducible rfl)); (try simp only [nSO])
    refine np_t 8 ?_ ?_ ?_; rotate_left 1; (· (intro w hSw; (try dsimp only at hSw); go_simp; all_goals with_reducible rfl)); (try simp only [nSO])
    refine np_t 9 ?_ ?_ ?_; rotate_left 1; (· (intro w hSw; (try dsimp only at hSw); go_simp; all_goals with_reducible rfl)); (try simp only [nSO])
    refine np_step (i := 10) rfl (by kernel_rfl) (fun K hK => ?_); rw [if_pos (by rfl)]; go_simp; (skip); (try go_wp2_with fail); refine hK.out _ _ ?_ (fun hHeld => ?_); (· (first | exact Kx.out _ hBV | exact Kx.out _ (hBw.alloc hBw.size _) | exact Kx.out _ hBw | exact Kx.out _ hbx | exact Kx.out _ hb4.drew)); clear hK K; (try simp only [nSO])
    refine np_step (i := 11) rfl (by kernel_rfl) (fun K hK => ?_); rw [if_pos (by rfl)]; go_simp; (skip); (try go_wp2_with fail); refine hK.out _ _ ?_ (fun hHeld => ?_); (· (first | exact Kx.out _ hBV | exact Kx.out _ (hBw.alloc hBw.size _) | exact Kx.out _ hBw | exact Kx.out _ hbx | exact Kx.out _ hb4.drew)); clear hK K; (try simp only [nSO])
    refine np_t 12 ?_ ?_ ?_; rotate_left 1; (· (intro w hSw; (try dsimp only at hSw); go_simp; all_goals with_reducible rfl)); (try simp only [nSO])
    refine wpAnyH_done (by kernel_rfl) ?_ _
    refine NoPanic.normal ?_
    have hDX := hD.on hBV
    clear hsV hHeld HF Kx
    go_wp2_with (go_at_call 56; refine (rfail_any _ _).mono ?_; rintro e v7 ⟨rfl, hb7⟩; have hD7 := hDX.on hb7; have hst := res_st hD7.hE.res rfl)
    exact ⟨rfl, _, results_cell_row rfl _ _ _ _ _ _ _ rfl (setRow_heap _ _ _ _ _ _ hD7.hE.res) Tryz.underlying36 rfl (by kernel_rfl), hD7.close hS hx _ _⟩
  · rw [if_pos (by rfl)]; go_simp; (skip); refine hK.out _ _ ?_ (fun hHeld => ?_); (· (first | exact Kx.out _ hBV | exact Kx.out _ (hBw.alloc hBw.size _) | exact Kx.out _ hBw | exact Kx.out _ hbx | exact Kx.out _ hb4.drew)); clear hK K; (try simp only [nSO])
    refine np_step (i := 6) rfl (by kernel_rfl) (fun K hK => ?_); rw [if_pos (by rfl)]; go_simp; ((go_at_call 96; refine (HF.out _ hbx).mono ?_; rintro e w1 ⟨rfl, hb1⟩; have hBw := hbx.trans (hb1.mono hbx.size); have hgw := (hb1.block _ (Array.getElem?_eq_some_iff.1 hgx).1).trans hgx; have hqw := (hb1.block _ (Array.getElem?_eq_some_iff.1 hqx).1).trans hqx; obtain ⟨V, hsV, hqV, hVk, hVB⟩ := mput_pkg hqw zeroM; have hBV := hVB hBw hb4.size; have hgV := (hVk _ hrq).trans hgw)); (try go_wp2_with fail); refine hK.out _ _ ?_ (fun hHeld => ?_); (· (first | exact Kx.out _ hBV | exact Kx.out _ (hBw.alloc hBw.size _) | exact Kx.out _ hBw | exact Kx.out _ hbx | exact Kx.out _ hb4.drew)); clear hK K; (try simp only [nSO])
    refine np_t 7 ?_ ?_ ?_; rotate_left 1; (· (intro w hSw; (try dsimp only at hSw); go_simp; all_goals with_reducible rfl)); (try simp only [nSO])
    refine np_t 8 ?_ ?_ ?_; rotate_left 1; (· (intro w hSw; (try dsimp only at hSw); go_simp; all_goals with_reducible rfl)); (try simp only [nSO])
    refine np_t 9 ?_ ?_ ?_; rotate_left 1; (· (intro w hSw; (try dsimp only at hSw); go_simp; all_goals with_reducible rfl)); (try simp only [nSO])
    refine np_step (i := 11) rfl (by kernel_rfl) (fun K hK => ?_); rw [if_pos (by rfl)]; go_simp; (skip); (try go_wp2_with fail); refine hK.out _ _ ?_ (fun hHeld => ?_); (· (first | exact Kx.out _ hBV | exact Kx.out _ (hBw.alloc hBw.size _) | exact Kx.out _ hBw | exact Kx.out _ hbx | exact Kx.out _ hb4.drew)); clear hK K; (try simp only [nSO])
    refine np_t 12 ?_ ?_ ?_; rotate_left 1; (· (intro w hSw; (try dsimp only at hSw); go_simp; all_goals with_reducible rfl)); (try simp only [nSO])
    refine wpAnyH_done (by kernel_rfl) ?_ _
    refine NoPanic.normal ?_
    have hDX := hD.on hBV
    clear hsV hHeld HF Kx
    go_wp2_with (go_at_call 56; refine (rfail_any _ _).mono ?_; rintro e v7 ⟨rfl, hb7⟩; have hD7 := hDX.on hb7; have hst := res_st hD7.hE.res rfl)
    exact ⟨rfl, _, results_cell_row rfl _ _ _ _ _ _ _ rfl (setRow_heap _ _ _ _ _ _ hD7.hE.res) Tryz.underlying36 rfl (by kernel_rfl), hD7.close hS hx _ _⟩
end Go.Proofs.YtlealeecmmpckaaGreat
namespace Go.Proofs.YtlealeecmmpckaaGreat
set_option linter.unusedVariables false
set_option linter.unusedSimpArgs false
set_option maxRecDepth 100000
set_option maxHeartbeats 8000000
open Go.RowKit Go.Lib Go.Shelf
attribute [local go_sem, local simp] sset0 sset1 sset2 resF resL_len resL_ne rset0 rset1 rset2 rset3 rset4 rset5 rset6 rset7 rset8 snF snL_len snL_ne
attribute [local go_sem ↓] loadRs_eq
theorem rread_11a (b c k : Nat) (M : RM) (p n id grav : Int) (t : ByteArray) (w : World) (h : RdAt w b M) (S : SeM) (hS : M.seats[c]? = some S) (hl : S.sl.length = M.readers) (hr8 : M.readers ≤ 8) (hcl : M.seats.length ≤ 8) (x : SnM) (hx : S.sl[k]? = some x) (hh : x.s.held = true) (hok : SnOK x.s) (hp : 0 ≤ p) (hp2 : p ≤ maxLen) (hn : 0 ≤ n) (hn2 : n ≤ maxLen) (h1 : (x.s.text.size : Int) < p) :
    Calls Tryz.prog 58 #[.pointer (some ⟨b, 0, none⟩), .int .i64 (c : Int), .agg #[.int .u8 11, .int .i64 (k : Int), .int .i64 p, .int .i64 n, .int .u32 id, .int .u8 grav, .string t]] w (RPost b w ((snpS x.s ⟨11, k, p, n, id, grav, t⟩).1, M.st.putSlot c k (snpS x.s ⟨11, k, p, n, id, grav, t⟩).2) M) := by
  have hsz := hok.1
  rw [snp11 rfl]
  dsimp only
  rw [if_pos h1]
  obtain ⟨gs, cs, g, cp, gb, cb, cur, hD0⟩ := RdS.start w ⟨11, k, p, n, id, grav, t⟩ h hS
  obtain ⟨hc, _⟩ := List.getElem?_eq_some_iff.1 hS
  obtain ⟨hk, _⟩ := List.getElem?_eq_some_iff.1 hx
  have hcap := hD0.hA.cap
  have hrB : w.heap.size ≤ w.heap.size + 1 := by omega
  have t1 : decide (M.readers ≤ k) = false := by simp; omega
  obtain ⟨m1, m7, mr⟩ := hD0.md
  obtain ⟨o0, o1, o2, o3, o4, o5, o6⟩ := hD0.hE.o7
  clear hl
  go_enter Tryz.func58, Tryz.ntmps58
  go_wp2
  refine wp_region_noPanic ?_
  refine wp_region_held_drew (S := fun W => W.cell? ⟨b, 1, none⟩ = some (.int .i64 M.readers) ∧ W.cell? ⟨w.heap.size, 1, none⟩ = some (.int .i64 (k : Int))) (by kernel_rfl) ?_ (fun hHeld => ?_)
  · exact ⟨m1, o1⟩
  iterate 7 (((first | refine np_n ?_ ?_ ?_ | refine np_t 0 ?_ ?_ ?_); rotate_left 1; (· (intro w hSw; (try dsimp only at hSw); go_simp; all_goals with_reducible rfl)); (try simp only [nSO])))
  refine wpAnyH_done (by kernel_rfl) ?_ _
  refine NoPanic.normal ?_
  go_wp2
  refine wp_region_noPanic ?_
  refine wp_region_held_drew (S := fun W => W.cell? ⟨b, 7, none⟩ = some (.slice (some ⟨gs, 0, none⟩) M.seats.length cs) ∧ W.cell? ⟨gs, c, none⟩ = some (.slice (some ⟨g, 0, none⟩) S.sl.length cp) ∧ W.cell? ⟨w.heap.size, 1, none⟩ = some (.int .i64 (k : Int))) (by kernel_rfl) ?_ (fun hHeld => ?_)
  · exact ⟨m7, mr, o1⟩
  iterate 11 (((first | refine np_n ?_ ?_ ?_ | refine np_t 0 ?_ ?_ ?_); rotate_left 1; (· (intro w hSw; (try dsimp only at hSw); go_simp; all_goals with_reducible rfl)); (try simp only [nSO])))
  refine wpAnyH_done (by kernel_rfl) ?_ _
  refine NoPanic.normal ?_
  have hD := (hD0.on (Below.refl _ _).drew).on (Below.refl _ _).drew
  clear hD0 m1 m7 mr o0 o1 o2 o3 o4 o5 o6
  generalize hW3 : ((w.alloc (.cells #[.int .u8 11, .int .i64 (k : Int), .int .i64 p, .int .i64 n, .int .u32 id, .int .u8 grav, .string t] 28)).alloc (.cells (resL {}).toArray 36)).drew.drew = W3 at *
  obtain ⟨⟨s0, s1, s2, s3⟩, s4, s5, s6, s7⟩ := hD.sn hx
  rw [hh] at s0
  obtain ⟨W4, hs4, hg4, hb4⟩ := rnew_pkg W3 {}
  have hD4 := hD.on hb4
  obtain ⟨⟨s0, s1, s2, s3⟩, s4, s5, s6, s7⟩ := hD4.sn hx
  rw [hh] at s0
  obtain ⟨o0, o1, o2, o3, o4, o5, o6⟩ := hD4.hE.o7
  have rf := rs_frz hg4
  obtain ⟨r3, r4, r5, r6, r7, r8⟩ := rs_cell hg4
  have hp3 := hp2
  have hn3 := hn2
  unfold maxLen at hp3 hn3
  have d1 : decide ((x.s.text.size : Int) < p) = true := by simpa using h1
  clear hok h1
  have hDX := hD4
  go_wp2_with (first | (simp only [hs4]) | go_at_call 56; refine (rfail_any _ _).mono ?_; rintro e v7 ⟨rfl, hb7⟩; have hD7 := hDX.on hb7; have hst := res_st hD7.hE.res rfl)
  exact ⟨rfl, _, results_cell_row rfl _ _ _ _ _ _ _ rfl (setRow_heap _ _ _ _ _ _ hD7.hE.res) Tryz.underlying36 rfl (by kernel_rfl), hD7.close hS hx _ _⟩
theorem rread_11b (b c k : Nat) (M : RM) (p n id grav : Int) (t : ByteArray) (w : World) (h : RdAt w b M) (S : SeM) (hS : M.seats[c]? = some S) (hl : S.sl.length = M.readers) (hr8 : M.readers ≤ 8) (hcl : M.seats.length ≤ 8) (x : SnM) (hx : S.sl[k]? = some x) (hh : x.s.held = true) (hok : SnOK x.s) (hp : 0 ≤ p) (hp2 : p ≤ maxLen) (hn : 0 ≤ n) (hn2 : n ≤ maxLen) (h1 : ¬ (x.s.text.size : Int) < p) :
    Calls Tryz.prog 58 #[.pointer (some ⟨b, 0, none⟩), .int .i64 (c : Int), .agg #[.int .u8 11, .int .i64 (k : Int), .int .i64 p, .int .i64 n, .int .u32 id, .int .u8 grav, .string t]] w (RPost b w ((snpS x.s ⟨11, k, p, n, id, grav, t⟩).1, M.st.putSlot c k (snpS x.s ⟨11, k, p, n, id, grav, t⟩).2) M) := by
  have hsz := hok.1
  rw [snp11 rfl]
  dsimp only
  rw [if_neg h1]
  obtain ⟨gs, cs, g, cp, gb, cb, cur, hD0⟩ := RdS.start w ⟨11, k, p, n, id, grav, t⟩ h hS
  obtain ⟨hc, _⟩ := List.getElem?_eq_some_iff.1 hS
  obtain ⟨hk, _⟩ := List.getElem?_eq_some_iff.1 hx
  have hcap := hD0.hA.cap
  have hrB : w.heap.size ≤ w.heap.size + 1 := by omega
  have t1 : decide (M.readers ≤ k) = false := by simp; omega
  obtain ⟨m1, m7, mr⟩ := hD0.md
  obtain ⟨o0, o1, o2, o3, o4, o5, o6⟩ := hD0.hE.o7
  clear hl
  go_enter Tryz.func58, Tryz.ntmps58
  go_wp2
  refine wp_region_noPanic ?_
  refine wp_region_held_drew (S := fun W => W.cell? ⟨b, 1, none⟩ = some (.int .i64 M.readers) ∧ W.cell? ⟨w.heap.size, 1, none⟩ = some (.int .i64 (k : Int))) (by kernel_rfl) ?_ (fun hHeld => ?_)
  · exact ⟨m1, o1⟩
  iterate 7 (((first | refine np_n ?_ ?_ ?_ | refine np_t 0 ?_ ?_ ?_); rotate_left 1; (· (intro w hSw; (try dsimp only at hSw); go_simp; all_goals with_reducible rfl)); (try simp only [nSO])))
  refine wpAnyH_done (by kernel_rfl) ?_ _
  refine NoPanic.normal ?_
  go_wp2
  refine wp_region_noPanic ?_
  refine wp_region_held_drew (S := fun W => W.cell? ⟨b, 7, none⟩ = some (.slice (some ⟨gs, 0, none⟩) M.seats.length cs) ∧ W.cell? ⟨gs, c, none⟩ = some (.slice (some ⟨g, 0, none⟩) S.sl.length cp) ∧ W.cell? ⟨w.heap.size, 1, none⟩ = some (.int .i64 (k : Int))) (by kernel_rfl) ?_ (fun hHeld => ?_)
  · exact ⟨m7, mr, o1⟩
  iterate 11 (((first | refine np_n ?_ ?_ ?_ | refine np_t 0 ?_ ?_ ?_); rotate_left 1; (· (intro w hSw; (try dsimp only at hSw); go_simp; all_goals with_reducible rfl)); (try simp only [nSO])))
  refine wpAnyH_done (by kernel_rfl) ?_ _
  refine NoPanic.normal ?_
  have hD := (hD0.on (Below.refl _ _).drew).on (Below.refl _ _).drew
  clear hD0 m1 m7 mr o0 o1 o2 o3 o4 o5 o6
  generalize hW3 : ((w.alloc (.cells #[.int .u8 11, .int .i64 (k : Int), .int .i64 p, .int .i64 n, .int .u32 id, .int .u8 grav, .string t] 28)).alloc (.cells (resL {}).toArray 36)).drew.drew = W3 at *
  obtain ⟨⟨s0, s1, s2, s3⟩, s4, s5, s6, s7⟩ := hD.sn hx
  rw [hh] at s0
  obtain ⟨W4, hs4, hg4, hb4⟩ := rnew_pkg W3 {}
  have hD4 := hD.on hb4
  obtain ⟨⟨s0, s1, s2, s3⟩, s4, s5, s6, s7⟩ := hD4.sn hx
  rw [hh] at s0
  obtain ⟨o0, o1, o2, o3, o4, o5, o6⟩ := hD4.hE.o7
  have rf := rs_frz hg4
  obtain ⟨r3, r4, r5, r6, r7, r8⟩ := rs_cell hg4
  have hp3 := hp2
  have hn3 := hn2
  unfold maxLen at hp3 hn3
  have d1 : decide ((x.s.text.size : Int) < p) = false := by simpa using h1
  have hN4 := hD4.hA.sn k x hx
  have hgr : g ≠ W3.heap.size := rblk_ne hN4.blk hg4
  have hgt : w.heap.size + 1 ≠ g := (rblk_ne hN4.blk hD4.hE.res).symm
  have hrt : w.heap.size + 1 ≠ W3.heap.size := by have := (Array.getElem?_eq_some_iff.1 hD.hE.res).1; omega
  have hNA := hN4.set3 p
  have hzA := (setCell_ne W4 ⟨g, k * 4 + 3, none⟩ (.int .i64 p) W3.heap.size hgr.symm).trans hg4
  have fA := rs_frz hzA 3
  have cA := (rs_cell hzA).1
  have hzB := rs_set hg4 3 (.int .i64 p) (rset3 {} p)
  have hNB := rn_other hN4 hg4 3 (.int .i64 p)
  obtain ⟨⟨_, _, _, cB⟩, _, _, _, fB⟩ := hNB.cells
  have f3 := rf 3
  have hzAB := rs_set hzA 3 (.int .i64 p) (rset3 {} p)
  have hzBA := (setCell_ne (W4.setCell ⟨W3.heap.size, 3, none⟩ (.int .i64 p)) ⟨g, k * 4 + 3, none⟩ (.int .i64 p) W3.heap.size hgr.symm).trans hzB
  have hN1 := rn_other hNA hzA 3 (.int .i64 p)
  have hN2 := hNB.set3 p
  have hK1 := (keepf_hi ((KeepF.of_below (F := fun k => k = g) hb4).trans (KeepF.set (F := fun k => k = g) (a := ⟨g, k * 4 + 3, none⟩) rfl (.int .i64 p))) W3.heap.size 3 (.int .i64 p) (Nat.le_refl _)).drew
  have hK2 := ((keepf_hi (KeepF.of_below (F := fun k => k = g) hb4) W3.heap.size 3 (.int .i64 p) (Nat.le_refl _)).trans (KeepF.set (F := fun k => k = g) (a := ⟨g, k * 4 + 3, none⟩) rfl (.int .i64 p))).drew
  have hl1 := ld_rs (W := ((W4.setCell ⟨g, k * 4 + 3, none⟩ (.int .i64 p)).setCell ⟨W3.heap.size, 3, none⟩ (.int .i64 p)).drew) { at_ := p } hzAB
  have hl2 := ld_rs (W := ((W4.setCell ⟨W3.heap.size, 3, none⟩ (.int .i64 p)).setCell ⟨g, k * 4 + 3, none⟩ (.int .i64 p)).drew) { at_ := p } hzBA
  have hz1 := hK1.block (w.heap.size + 1) (Array.getElem?_eq_some_iff.1 hD.hE.res).1 hgt |>.trans hD.hE.res
  have hz2 := hK2.block (w.heap.size + 1) (Array.getElem?_eq_some_iff.1 hD.hE.res).1 hgt |>.trans hD.hE.res
  have hst1 := res_st hz1 rfl
  have hst2 := res_st hz2 rfl
  clear hok h1
  go_wp2_with (simp only [hs4])
  go_region
  all_goals go_wp2
  all_goals first | exact ⟨rfl, _, results_cell_row rfl _ _ _ _ _ _ _ rfl (setRow_heap _ _ _ _ _ _ (hz1)) Tryz.underlying36 rfl (by kernel_rfl), hD.close2 hS hx (hN1.drew) (hK1) _ _⟩ | exact ⟨rfl, _, results_cell_row rfl _ _ _ _ _ _ _ rfl (setRow_heap _ _ _ _ _ _ (hz2)) Tryz.underlying36 rfl (by kernel_rfl), hD.close2 hS hx (hN2.drew) (hK2) _ _⟩
end Go.Proofs.YtlealeecmmpckaaGreat
namespace Go.Proofs.YtlealeecmmpckaaGreat
set_option linter.unusedVariables false
set_option linter.unusedSimpArgs false
set_option maxRecDepth 100000
set_option maxHeartbeats 8000000
open Go.RowKit Go.Lib Go.Shelf
attribute [local go_sem, local simp] sset0 sset1 sset2 resF resL_len resL_ne rset0 rset1 rset2 rset3 rset4 rset5 rset6 rset7 rset8 snF snL_len snL_ne
attribute [local go_sem ↓] loadRs_eq
theorem rread_12 (b c k : Nat) (M : RM) (p n id grav : Int) (t : ByteArray) (w : World) (h : RdAt w b M) (S : SeM) (hS : M.seats[c]? = some S) (hl : S.sl.length = M.readers) (hr8 : M.readers ≤ 8) (hcl : M.seats.length ≤ 8) (x : SnM) (hx : S.sl[k]? = some x) (hh : x.s.held = true) (hok : SnOK x.s) (hp : 0 ≤ p) (hp2 : p ≤ maxLen) (hn : 0 ≤ n) (hn2 : n ≤ maxLen) :
    Calls Tryz.prog 58 #[.pointer (some ⟨b, 0, none⟩), .int .i64 (c : Int), .agg #[.int .u8 12, .int .i64 (k : Int), .int .i64 p, .int .i64 n, .int .u32 id, .int .u8 grav, .string t]] w (RPost b w ((snpS x.s ⟨12, k, p, n, id, grav, t⟩).1, M.st.putSlot c k (snpS x.s ⟨12, k, p, n, id, grav, t⟩).2) M) := by
  have hsz := hok.1
  rw [snp12 rfl]
  dsimp only
  obtain ⟨_, _, cu0, cu1⟩ := hok
  have hws : IntKind.i64.wrap ((x.s.text.size : Int) - x.s.cursor) = (x.s.text.size : Int) - x.s.cursor := IntWalk.i64_in _ (by omega)
  obtain ⟨m, hm⟩ : ∃ m, min n ((x.s.text.size : Int) - x.s.cursor) = m := ⟨_, rfl⟩
  have m0 : 0 ≤ m := by omega
  have mm1 : x.s.cursor + m ≤ (x.s.text.size : Int) := by omega
  have mm2 : 0 ≤ x.s.cursor + m := by omega
  have mm3 : x.s.cursor ≤ x.s.cursor + m := by omega
  rw [hm]
  have hwr : IntKind.i64.wrap (x.s.cursor + m) = x.s.cursor + m := IntWalk.i64_in _ (by omega)
  obtain ⟨gs, cs, g, cp, gb, cb, cur, hD0⟩ := RdS.start w ⟨12, k, p, n, id, grav, t⟩ h hS
  obtain ⟨hc, _⟩ := List.getElem?_eq_some_iff.1 hS
  obtain ⟨hk, _⟩ := List.getElem?_eq_some_iff.1 hx
  have hcap := hD0.hA.cap
  have hrB : w.heap.size ≤ w.heap.size + 1 := by omega
  have t1 : decide (M.readers ≤ k) = false := by simp; omega
  obtain ⟨m1, m7, mr⟩ := hD0.md
  obtain ⟨o0, o1, o2, o3, o4, o5, o6⟩ := hD0.hE.o7
  clear hl
  go_enter Tryz.func58, Tryz.ntmps58
  go_wp2
  refine wp_region_noPanic ?_
  refine wp_region_held_drew (S := fun W => W.cell? ⟨b, 1, none⟩ = some (.int .i64 M.readers) ∧ W.cell? ⟨w.heap.size, 1, none⟩ = some (.int .i64 (k : Int))) (by kernel_rfl) ?_ (fun hHeld => ?_)
  · exact ⟨m1, o1⟩
  iterate 7 (((first | refine np_n ?_ ?_ ?_ | refine np_t 0 ?_ ?_ ?_); rotate_left 1; (· (intro w hSw; (try dsimp only at hSw); go_simp; all_goals with_reducible rfl)); (try simp only [nSO])))
  refine wpAnyH_done (by kernel_rfl) ?_ _
  refine NoPanic.normal ?_
  go_wp2
  refine wp_region_noPanic ?_
  refine wp_region_held_drew (S := fun W => W.cell? ⟨b, 7, none⟩ = some (.slice (some ⟨gs, 0, none⟩) M.seats.length cs) ∧ W.cell? ⟨gs, c, none⟩ = some (.slice (some ⟨g, 0, none⟩) S.sl.length cp) ∧ W.cell? ⟨w.heap.size, 1, none⟩ = some (.int .i64 (k : Int))) (by kernel_rfl) ?_ (fun hHeld => ?_)
  · exact ⟨m7, mr, o1⟩
  iterate 11 (((first | refine np_n ?_ ?_ ?_ | refine np_t 0 ?_ ?_ ?_); rotate_left 1; (· (intro w hSw; (try dsimp only at hSw); go_simp; all_goals with_reducible rfl)); (try simp only [nSO])))
  refine wpAnyH_done (by kernel_rfl) ?_ _
  refine NoPanic.normal ?_
  have hD := (hD0.on (Below.refl _ _).drew).on (Below.refl _ _).drew
  clear hD0 m1 m7 mr o0 o1 o2 o3 o4 o5 o6
  generalize hW3 : ((w.alloc (.cells #[.int .u8 12, .int .i64 (k : Int), .int .i64 p, .int .i64 n, .int .u32 id, .int .u8 grav, .string t] 28)).alloc (.cells (resL {}).toArray 36)).drew.drew = W3 at *
  obtain ⟨⟨s0, s1, s2, s3⟩, s4, s5, s6, s7⟩ := hD.sn hx
  rw [hh] at s0
  obtain ⟨W4, hs4, hg4, hb4⟩ := rnew_pkg W3 {}
  have hD4 := hD.on hb4
  obtain ⟨⟨s0, s1, s2, s3⟩, s4, s5, s6, s7⟩ := hD4.sn hx
  rw [hh] at s0
  obtain ⟨o0, o1, o2, o3, o4, o5, o6⟩ := hD4.hE.o7
  have rf := rs_frz hg4
  obtain ⟨r3, r4, r5, r6, r7, r8⟩ := rs_cell hg4
  have kx : ∀ W, Below W3.heap.size W3 W → (W.cell? ⟨g, k * 4 + 1, none⟩ = some (.string x.s.text) ∧ W.cell? ⟨g, k * 4 + 3, none⟩ = some (.int .i64 x.s.cursor)) ∧ W.cell? ⟨w.heap.size, 2, none⟩ = some (.int .i64 p) ∧ W.cell? ⟨w.heap.size, 3, none⟩ = some (.int .i64 n) ∧ W.cell? ⟨w.heap.size, 4, none⟩ = some (.int .u32 id) := fun W hB => by
    have hDk := hD.on hB
    obtain ⟨⟨_, a1, _, a3⟩, _⟩ := hDk.sn hx
    obtain ⟨_, _, b2, b3, b4, _⟩ := hDk.hE.o7
    exact ⟨⟨a1, a3⟩, b2, b3, b4⟩
  have Kx := Lib.hid kx
  clear kx
  have hq0 : Below W3.heap.size W3 W4.drew := hb4.drew
  have f5 := rf 5
  have hq0 := hq0.drew
  clear hh
  go_wp2_with (simp only [hs4])
  go_region
  go_wp2
  refine wp_region_noPanic ?_
  refine wp_region_held_drew (S := fun W => (W.cell? ⟨g, k * 4 + 1, none⟩ = some (.string x.s.text) ∧ W.cell? ⟨g, k * 4 + 3, none⟩ = some (.int .i64 x.s.cursor)) ∧ W.cell? ⟨w.heap.size, 2, none⟩ = some (.int .i64 p) ∧ W.cell? ⟨w.heap.size, 3, none⟩ = some (.int .i64 n) ∧ W.cell? ⟨w.heap.size, 4, none⟩ = some (.int .u32 id)) (by kernel_rfl) ?_ (fun hHeld => ?_)
  · first | exact Kx.out _ (below_hi hq0 _ _ _ (Nat.le_refl _)) | exact Kx.out _ hq0
  iterate 16 (((first | refine np_n ?_ ?_ ?_ | refine np_t 0 ?_ ?_ ?_); rotate_left 1; (· (intro w hSw; (try dsimp only at hSw); go_simp; all_goals with_reducible rfl)); (try simp only [nSO])))
  (refine np_step (i := 16) rfl (by kernel_rfl) (fun K hK => ?_); rw [if_pos (by rfl)]; go_simp; (skip); (try go_wp2_with fail); refine hK.out _ _ ?_ (fun hHeld => ?_); (· (first | exact Kx.out _ (below_hi hq0 _ _ _ (Nat.le_refl _)) | exact Kx.out _ hq0)); clear hK K; (try simp only [nSO]))
  refine wpAnyH_done (by kernel_rfl) ?_ _
  refine NoPanic.normal ?_
  rw [cut_eq _ _ _ cu0 m0]
  have hN4 := hD4.hA.sn k x hx
  have hgr : g ≠ W3.heap.size := rblk_ne hN4.blk hg4
  have hgt : w.heap.size + 1 ≠ g := (rblk_ne hN4.blk hD4.hE.res).symm
  have hz5 := rs_set hg4 5 (.string (cutT x.s.text x.s.cursor m)) (rset5 {} _)
  have hN5 := rn_other hN4 hg4 5 (.string (cutT x.s.text x.s.cursor m))
  obtain ⟨⟨_, _, _, v3⟩, _, _, _, v7⟩ := hN5.cells
  have hN6 := hN5.set3 (x.s.cursor + m)
  obtain ⟨⟨_, _, _, u3⟩, _⟩ := hN6.cells
  have hz6 := (setCell_ne (W4.setCell ⟨W3.heap.size, 5, none⟩ (.string (cutT x.s.text x.s.cursor m))) ⟨g, k * 4 + 3, none⟩ (.int .i64 (x.s.cursor + m)) W3.heap.size hgr.symm).trans hz5
  have f63 := rs_frz hz6 3
  have q63 := (rs_cell hz6).1
  have hz7 := rs_set hz6 3 (.int .i64 (x.s.cursor + m)) (rset3 _ _)
  have hld := ld_rs (W := (((W4.setCell ⟨W3.heap.size, 5, none⟩ (.string (cutT x.s.text x.s.cursor m))).setCell ⟨g, k * 4 + 3, none⟩ (.int .i64 (x.s.cursor + m))).setCell ⟨W3.heap.size, 3, none⟩ (.int .i64 (x.s.cursor + m))).drew.drew) _ hz7
  have hN7 := (rn_other hN6 hz6 3 (.int .i64 (x.s.cursor + m))).drew.drew
  have hK7 := (keepf_hi ((KeepF.of_below (F := fun k => k = g) (below_hi hb4 W3.heap.size 5 (.string (cutT x.s.text x.s.cursor m)) (Nat.le_refl _))).trans (KeepF.set (F := fun k => k = g) (a := ⟨g, k * 4 + 3, none⟩) rfl (.int .i64 (x.s.cursor + m)))) W3.heap.size 3 (.int .i64 (x.s.cursor + m)) (Nat.le_refl _)).drew.drew
  have hzt := hK7.block (w.heap.size + 1) (Array.getElem?_eq_some_iff.1 hD.hE.res).1 hgt |>.trans hD.hE.res
  have hst := res_st hzt rfl
  go_wp2
  exact ⟨rfl, _, results_cell_row rfl _ _ _ _ _ _ _ rfl (setRow_heap _ _ _ _ _ _ (hzt)) Tryz.underlying36 rfl (by kernel_rfl), hD.close2 hS hx (hN7) (hK7) _ _⟩
end Go.Proofs.YtlealeecmmpckaaGreat
namespace Go.Proofs.YtlealeecmmpckaaGreat
set_option linter.unusedVariables false
set_option linter.unusedSimpArgs false
set_option maxRecDepth 100000
set_option maxHeartbeats 8000000
open Go.RowKit Go.Lib Go.Shelf
attribute [local go_sem, local simp] sset0 sset1 sset2 resF resL_len resL_ne rset0 rset1 rset2 rset3 rset4 rset5 rset6 rset7 rset8 snF snL_len snL_ne
attribute [local go_sem ↓] loadRs_eq
theorem rread_13 (b c k : Nat) (M : RM) (p n id grav : Int) (t : ByteArray) (w : World) (h : RdAt w b M) (S : SeM) (hS : M.seats[c]? = some S) (hl : S.sl.length = M.readers) (hr8 : M.readers ≤ 8) (hcl : M.seats.length ≤ 8) (x : SnM) (hx : S.sl[k]? = some x) (hh : x.s.held = true) (hok : SnOK x.s) :
    Calls Tryz.prog 58 #[.pointer (some ⟨b, 0, none⟩), .int .i64 (c : Int), .agg #[.int .u8 13, .int .i64 (k : Int), .int .i64 p, .int .i64 n, .int .u32 id, .int .u8 grav, .string t]] w (RPost b w ((snpS x.s ⟨13, k, p, n, id, grav, t⟩).1, M.st.putSlot c k (snpS x.s ⟨13, k, p, n, id, grav, t⟩).2) M) := by
  rw [snp13 rfl]
  dsimp only
  obtain ⟨gs, cs, g, cp, gb, cb, cur, hD0⟩ := RdS.start w ⟨13, k, p, n, id, grav, t⟩ h hS
  obtain ⟨hc, _⟩ := List.getElem?_eq_some_iff.1 hS
  obtain ⟨hk, _⟩ := List.getElem?_eq_some_iff.1 hx
  have hcap := hD0.hA.cap
  have hrB : w.heap.size ≤ w.heap.size + 1 := by omega
  have t1 : decide (M.readers ≤ k) = false := by simp; omega
  obtain ⟨m1, m7, mr⟩ := hD0.md
  obtain ⟨o0, o1, o2, o3, o4, o5, o6⟩ := hD0.hE.o7
  clear hl
  go_enter Tryz.func58, Tryz.ntmps58
  go_wp2
  refine wp_region_noPanic ?_
  refine wp_region_held_drew (S := fun W => W.cell? ⟨b, 1, none⟩ = some (.int .i64 M.readers) ∧ W.cell? ⟨w.heap.size, 1, none⟩ = some (.int .i64 (k : Int))) (by kernel_rfl) ?_ (fun hHeld => ?_)
  · exact ⟨m1, o1⟩
  iterate 7 (((first | refine np_n ?_ ?_ ?_ | refine np_t 0 ?_ ?_ ?_); rotate_left 1; (· (intro w hSw; (try dsimp only at hSw); go_simp; all_goals with_reducible rfl)); (try simp only [nSO])))
  refine wpAnyH_done (by kernel_rfl) ?_ _
  refine NoPanic.normal ?_
  go_wp2
  refine wp_region_noPanic ?_
  refine wp_region_held_drew (S := fun W => W.cell? ⟨b, 7, none⟩ = some (.slice (some ⟨gs, 0, none⟩) M.seats.length cs) ∧ W.cell? ⟨gs, c, none⟩ = some (.slice (some ⟨g, 0, none⟩) S.sl.length cp) ∧ W.cell? ⟨w.heap.size, 1, none⟩ = some (.int .i64 (k : Int))) (by kernel_rfl) ?_ (fun hHeld => ?_)
  · exact ⟨m7, mr, o1⟩
  iterate 11 (((first | refine np_n ?_ ?_ ?_ | refine np_t 0 ?_ ?_ ?_); rotate_left 1; (· (intro w hSw; (try dsimp only at hSw); go_simp; all_goals with_reducible rfl)); (try simp only [nSO])))
  refine wpAnyH_done (by kernel_rfl) ?_ _
  refine NoPanic.normal ?_
  have hD := (hD0.on (Below.refl _ _).drew).on (Below.refl _ _).drew
  clear hD0 m1 m7 mr o0 o1 o2 o3 o4 o5 o6
  generalize hW3 : ((w.alloc (.cells #[.int .u8 13, .int .i64 (k : Int), .int .i64 p, .int .i64 n, .int .u32 id, .int .u8 grav, .string t] 28)).alloc (.cells (resL {}).toArray 36)).drew.drew = W3 at *
  obtain ⟨⟨s0, s1, s2, s3⟩, s4, s5, s6, s7⟩ := hD.sn hx
  rw [hh] at s0
  obtain ⟨W4, hs4, hg4, hb4⟩ := rnew_pkg W3 {}
  have hD4 := hD.on hb4
  obtain ⟨⟨s0, s1, s2, s3⟩, s4, s5, s6, s7⟩ := hD4.sn hx
  rw [hh] at s0
  obtain ⟨o0, o1, o2, o3, o4, o5, o6⟩ := hD4.hE.o7
  have rf := rs_frz hg4
  obtain ⟨r3, r4, r5, r6, r7, r8⟩ := rs_cell hg4
  clear hok
  have hsn := (hD4.hA.sn k x hx).stP ⟨⟨false, ⟨#[]⟩, [], 0⟩, .slice none 0 0⟩ rfl
  have hN4 := hD4.hA.sn k x hx
  have hN := hN4.put (y := ⟨⟨false, ⟨#[]⟩, [], 0⟩, .slice none 0 0⟩) (World.ownsRow_nil _ _ _ _)
  have hgr : g ≠ W3.heap.size := rblk_ne hN4.blk hg4
  have hgt : w.heap.size + 1 ≠ g := (rblk_ne hN4.blk hD4.hE.res).symm
  have hzr := (putSn_ne W4 g (k * 4) ⟨⟨false, ⟨#[]⟩, [], 0⟩, .slice none 0 0⟩ W3.heap.size hgr.symm).trans hg4
  have hld := ld_rs {} hzr
  have hzt := (putSn_ne W4 g (k * 4) ⟨⟨false, ⟨#[]⟩, [], 0⟩, .slice none 0 0⟩ (w.heap.size + 1) hgt).trans hD4.hE.res
  have hst := res_st hzt rfl
  have hK := KeepF.putSn W4 g (k * 4) ⟨⟨false, ⟨#[]⟩, [], 0⟩, .slice none 0 0⟩
  go_wp2_with (simp only [hs4])
  exact ⟨rfl, _, results_cell_row rfl _ _ _ _ _ _ _ rfl (setRow_heap _ _ _ _ _ _ (hzt)) Tryz.underlying36 rfl (by kernel_rfl), hD4.close2 hS hx (hN) (hK) _ _⟩
end Go.Proofs.YtlealeecmmpckaaGreat
namespace Go.Proofs.YtlealeecmmpckaaGreat
set_option linter.unusedVariables false
set_option linter.unusedSimpArgs false
set_option maxRecDepth 100000
set_option maxHeartbeats 8000000
open Go.RowKit Go.Lib Go.Shelf
theorem rread_any (b c : Nat) (M : RM) (o : OpV) (w : World) (h : RdAt w b M) (hok : MSok M.st 100000) (hi : OpIn o) (hx : opP o) (S : SeM) (hS : M.seats[c]? = some S) (hl : S.sl.length = M.readers) (hr8 : M.readers ≤ 8) (hcl : M.seats.length ≤ 8) (h1 : 6 ≤ o.kind) (h2 : o.kind ≤ 13) :
    Calls Tryz.prog 58 #[.pointer (some ⟨b, 0, none⟩), .int .i64 (c : Int), .agg #[.int .u8 o.kind, .int .i64 o.slot, .int .i64 o.at_, .int .i64 o.n, .int .u32 o.id, .int .u8 o.grav, .string o.text]] w (RPost b w (reaS M.st c o) M) := by
  obtain ⟨g0, g1, g2, g3, g4, _⟩ := hx
  have i2 := hi.at_.2
  have i3 := hi.n.2
  have e0 : M.st.seat c = S.st := RM.seat_st hS
  have hmem := List.mem_of_getElem? hS
  have hsl : S.st.slots.length = S.sl.length := List.length_map ..
  obtain ⟨K, sl, p, n, id, grav, t⟩ := o
  dsimp only at *
  obtain ⟨k, rfl⟩ : ∃ k : Nat, sl = k := ⟨sl.toNat, by omega⟩
  by_cases hk : M.readers ≤ k
  · have e1 : slotE (M.st.seat c) ⟨K, k, p, n, id, grav, t⟩ = 2 := by rw [e0]; unfold slotE; rw [if_pos (by dsimp only; omega)]
    rw [show reaS M.st c ⟨K, k, p, n, id, grav, t⟩ = (failR 2, M.st) by unfold reaS; rw [e1]; rfl]
    exact rread_none b c k M K p n id grav t w h S hS hl hr8 hcl hk
  · have hxx := List.getElem?_eq_getElem (l := S.sl) (i := k) (by omega)
    generalize S.sl[k]'(by omega) = x at hxx
    have hd : S.st.slots.getD k default = x.s := by
      rw [List.getD_eq_getElem?_getD]
      show ((S.sl.map (fun y : SnM => y.s))[k]?).getD default = _
      rw [List.getElem?_map, hxx]; rfl
    have e1 : slotE (M.st.seat c) ⟨K, k, p, n, id, grav, t⟩ = if x.s.held then 0 else 16 := by
      rw [e0]; unfold slotE; dsimp only; rw [if_neg (by omega), Int.toNat_natCast, hd]
    cases hh : x.s.held with
    | false =>
      rw [show reaS M.st c ⟨K, k, p, n, id, grav, t⟩ = (failR 16, M.st) by unfold reaS; rw [e1, hh]; rfl]
      exact rread_free b c k M K p n id grav t w h S hS hl hr8 hcl x hxx hh
    | true =>
      have hsn : SnOK x.s := (hok.slots S.st (List.mem_map.2 ⟨S, hmem, rfl⟩)).2 x.s (List.mem_map.2 ⟨x, List.mem_of_getElem? hxx, rfl⟩)
      have hR : reaS M.st c ⟨K, k, p, n, id, grav, t⟩ = ((snpS x.s ⟨K, k, p, n, id, grav, t⟩).1, M.st.putSlot c k (snpS x.s ⟨K, k, p, n, id, grav, t⟩).2) := by
        unfold reaS; rw [e1, hh, e0]; dsimp only; rw [Int.toNat_natCast, hd]; rfl
      rw [hR]
      have hp2 : p ≤ maxLen := by unfold maxLen; omega
      have hn2 : n ≤ maxLen := by unfold maxLen; omega
      have hK : K = 6 ∨ K = 7 ∨ K = 8 ∨ K = 9 ∨ K = 10 ∨ K = 11 ∨ K = 12 ∨ K = 13 := by omega
      clear e1 hR h1 h2 g0 g1 hi
      rcases hK with rfl | rfl | rfl | rfl | rfl | rfl | rfl | rfl
      · exact rread_6 b c k M p n id grav t w h S hS hl hr8 hcl x hxx hh hsn
      · by_cases a1 : (x.s.text.size : Int) < p
        · exact rread_7a b c k M p n id grav t w h S hS hl hr8 hcl x hxx hh hsn g2 hp2 g3 hn2 a1
        · by_cases a2 : (x.s.text.size : Int) - p < n
          · exact rread_7b b c k M p n id grav t w h S hS hl hr8 hcl x hxx hh hsn g2 hp2 g3 hn2 a1 a2
          · exact rread_7c b c k M p n id grav t w h S hS hl hr8 hcl x hxx hh hsn g2 hp2 g3 hn2 a1 a2
      · by_cases a1 : (runeS x.s.text.data.toList n).2 = 0
        · exact rread_8a b c k M p n id grav t w h S hS hl hr8 hcl x hxx hh hsn hn2 a1
        · exact rread_8b b c k M p n id grav t w h S hS hl hr8 hcl x hxx hh hsn hn2 a1
      · by_cases a1 : (lineS x.s.text.data.toList n).2 = 0
        · exact rread_9a b c k M p n id grav t w h S hS hl hr8 hcl x hxx hh hsn hn2 a1
        · exact rread_9b b c k M p n id grav t w h S hS hl hr8 hcl x hxx hh hsn hn2 a1
      · cases a1 : findM id x.s.marks with
        | some m => exact rread_10a b c k M p n id grav t w h S hS hl hr8 hcl x hxx hh hsn m a1
        | none => exact rread_10b b c k M p n id grav t w h S hS hl hr8 hcl x hxx hh hsn a1
      · by_cases a1 : (x.s.text.size : Int) < p
        · exact rread_11a b c k M p n id grav t w h S hS hl hr8 hcl x hxx hh hsn g2 hp2 g3 hn2 a1
        · exact rread_11b b c k M p n id grav t w h S hS hl hr8 hcl x hxx hh hsn g2 hp2 g3 hn2 a1
      · exact rread_12 b c k M p n id grav t w h S hS hl hr8 hcl x hxx hh hsn g2 hp2 g3 hn2
      · exact rread_13 b c k M p n id grav t w h S hS hl hr8 hcl x hxx hh hsn
end Go.Proofs.YtlealeecmmpckaaGreat
