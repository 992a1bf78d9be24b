/- The texts RbI0 RbI6 RbI7 RbI8 RbI9. -/
import Derived.Test.YtlealeecmmpckaaGreatKug
import Derived.Test.YtlealeecmmpckaaGreatKxi
import Derived.Test.YtlealeecmmpckaaGreatKxe
import Derived.Test.YtlealeecmmpckaaGreatKxd
namespace Go.Proofs.YtlealeecmmpckaaGreat
set_option linter.unusedVariables false
set_option linter.unusedSimpArgs false
set_option maxRecDepth 100000
set_option maxHeartbeats 8000000
open Go.RowKit Go.Lib Go.Shelf
attribute [local go_sem, local simp] sset0 sset1 sset2 resF resL_len resL_ne rset0 rset1 rset2 rset3 rset4 rset5 rset6 rset7 rset8 snF snL_len snL_ne
attribute [local go_sem ↓] loadRs_eq
theorem rread_free (b c k : Nat) (M : RM) (q p n id grav : Int) (t : ByteArray) (w : World) (h : RdAt w b M) (S : SeM) (hS : M.seats[c]? = some S) (hl : S.sl.length = M.readers) (hr8 : M.readers ≤ 8) (hcl : M.seats.length ≤ 8) (x : SnM) (hx : S.sl[k]? = some x) (hh : x.s.held = false) :
    Calls Tryz.prog 58 #[.pointer (some ⟨b, 0, none⟩), .int .i64 (c : Int), .agg #[.int .u8 q, .int .i64 (k : Int), .int .i64 p, .int .i64 n, .int .u32 id, .int .u8 grav, .string t]] w (RPost b w (failR 16, M.st) M) := by
  obtain ⟨gs, cs, g, cp, gb, cb, cur, hD0⟩ := RdS.start w ⟨q, k, p, n, id, grav, t⟩ h hS
  obtain ⟨hc, _⟩ := List.getElem?_eq_some_iff.1 hS
  obtain ⟨hk, _⟩ := List.getElem?_eq_some_iff.1 hx
  have hcap := hD0.hA.cap
  have hrB : w.heap.size ≤ w.heap.size + 1 := by omega
  have t1 : decide (M.readers ≤ k) = false := by simp; omega
  obtain ⟨m1, m7, mr⟩ := hD0.md
  obtain ⟨o0, o1, o2, o3, o4, o5, o6⟩ := hD0.hE.o7
  clear hl
  go_enter Tryz.func58, Tryz.ntmps58
  go_wp2
  refine wp_region_noPanic ?_
  refine wp_region_held_drew (S := fun W => W.cell? ⟨b, 1, none⟩ = some (.int .i64 M.readers) ∧ W.cell? ⟨w.heap.size, 1, none⟩ = some (.int .i64 (k : Int))) (by kernel_rfl) ?_ (fun hHeld => ?_)
  · exact ⟨m1, o1⟩
  iterate 7 (((first | refine np_n ?_ ?_ ?_ | refine np_t 0 ?_ ?_ ?_); rotate_left 1; (· (intro w hSw; (try dsimp only at hSw); go_simp; all_goals with_reducible rfl)); (try simp only [nSO])))
  refine wpAnyH_done (by kernel_rfl) ?_ _
  refine NoPanic.normal ?_
  go_wp2
  refine wp_region_noPanic ?_
  refine wp_region_held_drew (S := fun W => W.cell? ⟨b, 7, none⟩ = some (.slice (some ⟨gs, 0, none⟩) M.seats.length cs) ∧ W.cell? ⟨gs, c, none⟩ = some (.slice (some ⟨g, 0, none⟩) S.sl.length cp) ∧ W.cell? ⟨w.heap.size, 1, none⟩ = some (.int .i64 (k : Int))) (by kernel_rfl) ?_ (fun hHeld => ?_)
  · exact ⟨m7, mr, o1⟩
  iterate 11 (((first | refine np_n ?_ ?_ ?_ | refine np_t 0 ?_ ?_ ?_); rotate_left 1; (· (intro w hSw; (try dsimp only at hSw); go_simp; all_goals with_reducible rfl)); (try simp only [nSO])))
  refine wpAnyH_done (by kernel_rfl) ?_ _
  refine NoPanic.normal ?_
  have hD := (hD0.on (Below.refl _ _).drew).on (Below.refl _ _).drew
  clear hD0 m1 m7 mr o0 o1 o2 o3 o4 o5 o6
  generalize hW3 : ((w.alloc (.cells #[.int .u8 q, .int .i64 (k : Int), .int .i64 p, .int .i64 n, .int .u32 id, .int .u8 grav, .string t] 28)).alloc (.cells (resL {}).toArray 36)).drew.drew = W3 at *
  obtain ⟨⟨s0, s1, s2, s3⟩, s4, s5, s6, s7⟩ := hD.sn hx
  rw [hh] at s0
  have hDX := hD
  go_wp2_with (go_at_call 56; refine (rfail_any _ _).mono ?_; rintro e v7 ⟨rfl, hb7⟩; have hD7 := hDX.on hb7; have hst := res_st hD7.hE.res rfl)
  exact ⟨rfl, _, results_cell_row rfl _ _ _ _ _ _ _ rfl (setRow_heap _ _ _ _ _ _ hD7.hE.res) Tryz.underlying36 rfl (by kernel_rfl), hD7.closeF _ _⟩
theorem rread_none (b c k : Nat) (M : RM) (q p n id grav : Int) (t : ByteArray) (w : World) (h : RdAt w b M) (S : SeM) (hS : M.seats[c]? = some S) (hl : S.sl.length = M.readers) (hr8 : M.readers ≤ 8) (hcl : M.seats.length ≤ 8) (hk : M.readers ≤ k) :
    Calls Tryz.prog 58 #[.pointer (some ⟨b, 0, none⟩), .int .i64 (c : Int), .agg #[.int .u8 q, .int .i64 (k : Int), .int .i64 p, .int .i64 n, .int .u32 id, .int .u8 grav, .string t]] w (RPost b w (failR 2, M.st) M) := by
  obtain ⟨gs, cs, g, cp, gb, cb, cur, hD0⟩ := RdS.start w ⟨q, k, p, n, id, grav, t⟩ h hS
  have hrB : w.heap.size ≤ w.heap.size + 1 := by omega
  have t1 : decide (M.readers ≤ k) = true := by simp; omega
  obtain ⟨m1, m7, mr⟩ := hD0.md
  obtain ⟨o0, o1, o2, o3, o4, o5, o6⟩ := hD0.hE.o7
  clear hl hk
  go_enter Tryz.func58, Tryz.ntmps58
  go_wp2
  refine wp_region_noPanic ?_
  refine wp_region_held_drew (S := fun W => W.cell? ⟨b, 1, none⟩ = some (.int .i64 M.readers) ∧ W.cell? ⟨w.heap.size, 1, none⟩ = some (.int .i64 (k : Int))) (by kernel_rfl) ?_ (fun hHeld => ?_)
  · exact ⟨m1, o1⟩
  iterate 7 (((first | refine np_n ?_ ?_ ?_ | refine np_t 0 ?_ ?_ ?_); rotate_left 1; (· (intro w hSw; (try dsimp only at hSw); go_simp; all_goals with_reducible rfl)); (try simp only [nSO])))
  refine wpAnyH_done (by kernel_rfl) ?_ _
  refine NoPanic.normal ?_
  have hDX := hD0.on (Below.refl _ _).drew
  go_wp2_with (go_at_call 56; refine (rfail_any _ _).mono ?_; rintro e v7 ⟨rfl, hb7⟩; have hD7 := hDX.on hb7; have hst := res_st hD7.hE.res rfl)
  exact ⟨rfl, _, results_cell_row rfl _ _ _ _ _ _ _ rfl (setRow_heap _ _ _ _ _ _ hD7.hE.res) Tryz.underlying36 rfl (by kernel_rfl), hD7.closeF _ _⟩
end Go.Proofs.YtlealeecmmpckaaGreat
namespace Go.Proofs.YtlealeecmmpckaaGreat
set_option linter.unusedVariables false
set_option linter.unusedSimpArgs false
set_option maxRecDepth 100000
set_option maxHeartbeats 8000000
open Go.RowKit Go.Lib Go.Shelf
attribute [local go_sem, local simp] sset0 sset1 sset2 resF resL_len resL_ne rset0 rset1 rset2 rset3 rset4 rset5 rset6 rset7 rset8 snF snL_len snL_ne
attribute [local go_sem ↓] loadRs_eq
theorem rread_6 (b c k : Nat) (M : RM) (p n id grav : Int) (t : ByteArray) (w : World) (h : RdAt w b M) (S : SeM) (hS : M.seats[c]? = some S) (hl : S.sl.length = M.readers) (hr8 : M.readers ≤ 8) (hcl : M.seats.length ≤ 8) (x : SnM) (hx : S.sl[k]? = some x) (hh : x.s.held = true) (hok : SnOK x.s) :
    Calls Tryz.prog 58 #[.pointer (some ⟨b, 0, none⟩), .int .i64 (c : Int), .agg #[.int .u8 6, .int .i64 (k : Int), .int .i64 p, .int .i64 n, .int .u32 id, .int .u8 grav, .string t]] w (RPost b w ((snpS x.s ⟨6, k, p, n, id, grav, t⟩).1, M.st.putSlot c k (snpS x.s ⟨6, k, p, n, id, grav, t⟩).2) M) := by
  have hsz := hok.1
  rw [snp6 rfl]
  obtain ⟨gs, cs, g, cp, gb, cb, cur, hD0⟩ := RdS.start w ⟨6, k, p, n, id, grav, t⟩ h hS
  obtain ⟨hc, _⟩ := List.getElem?_eq_some_iff.1 hS
  obtain ⟨hk, _⟩ := List.getElem?_eq_some_iff.1 hx
  have hcap := hD0.hA.cap
  have hrB : w.heap.size ≤ w.heap.size + 1 := by omega
  have t1 : decide (M.readers ≤ k) = false := by simp; omega
  obtain ⟨m1, m7, mr⟩ := hD0.md
  obtain ⟨o0, o1, o2, o3, o4, o5, o6⟩ := hD0.hE.o7
  clear hl
  go_enter Tryz.func58, Tryz.ntmps58
  go_wp2
  refine wp_region_noPanic ?_
  refine wp_region_held_drew (S := fun W => W.cell? ⟨b, 1, none⟩ = some (.int .i64 M.readers) ∧ W.cell? ⟨w.heap.size, 1, none⟩ = some (.int .i64 (k : Int))) (by kernel_rfl) ?_ (fun hHeld => ?_)
  · exact ⟨m1, o1⟩
  iterate 7 (((first | refine np_n ?_ ?_ ?_ | refine np_t 0 ?_ ?_ ?_); rotate_left 1; (· (intro w hSw; (try dsimp only at hSw); go_simp; all_goals with_reducible rfl)); (try simp only [nSO])))
  refine wpAnyH_done (by kernel_rfl) ?_ _
  refine NoPanic.normal ?_
  go_wp2
  refine wp_region_noPanic ?_
  refine wp_region_held_drew (S := fun W => W.cell? ⟨b, 7, none⟩ = some (.slice (some ⟨gs, 0, none⟩) M.seats.length cs) ∧ W.cell? ⟨gs, c, none⟩ = some (.slice (some ⟨g, 0, none⟩) S.sl.length cp) ∧ W.cell? ⟨w.heap.size, 1, none⟩ = some (.int .i64 (k : Int))) (by kernel_rfl) ?_ (fun hHeld => ?_)
  · exact ⟨m7, mr, o1⟩
  iterate 11 (((first | refine np_n ?_ ?_ ?_ | refine np_t 0 ?_ ?_ ?_); rotate_left 1; (· (intro w hSw; (try dsimp only at hSw); go_simp; all_goals with_reducible rfl)); (try simp only [nSO])))
  refine wpAnyH_done (by kernel_rfl) ?_ _
  refine NoPanic.normal ?_
  have hD := (hD0.on (Below.refl _ _).drew).on (Below.refl _ _).drew
  clear hD0 m1 m7 mr o0 o1 o2 o3 o4 o5 o6
  generalize hW3 : ((w.alloc (.cells #[.int .u8 6, .int .i64 (k : Int), .int .i64 p, .int .i64 n, .int .u32 id, .int .u8 grav, .string t] 28)).alloc (.cells (resL {}).toArray 36)).drew.drew = W3 at *
  obtain ⟨⟨s0, s1, s2, s3⟩, s4, s5, s6, s7⟩ := hD.sn hx
  rw [hh] at s0
  obtain ⟨W4, hs4, hg4, hb4⟩ := rnew_pkg W3 {}
  have hD4 := hD.on hb4
  obtain ⟨⟨s0, s1, s2, s3⟩, s4, s5, s6, s7⟩ := hD4.sn hx
  rw [hh] at s0
  obtain ⟨o0, o1, o2, o3, o4, o5, o6⟩ := hD4.hE.o7
  have rf := rs_frz hg4
  obtain ⟨r3, r4, r5, r6, r7, r8⟩ := rs_cell hg4
  clear hok
  go_wp2_with (first | (simp only [hs4]) | (go_at_call 93; refine (refOf_any x.s.text _ (by omega)).mono ?_; rintro e w5 ⟨rfl, hb5⟩; have hD5 := hD4.on hb5; have hz5 := (hb5.block _ (Array.getElem?_eq_some_iff.1 hg4).1).trans hg4; have rf5 := rs_frz hz5; obtain ⟨q3, q4, q5, q6, q7, q8⟩ := rs_cell hz5; have g1 := rs_set hz5 6 (.int .i64 x.s.text.size) (rset6 {} _); have g2 := rs_set g1 7 (.int .i64 (cntB begB x.s.text.data.toList)) (rset7 _ _); have g3 := rs_set g2 8 (.int .i64 (cntB feedB x.s.text.data.toList)) (rset8 _ _); have hld := ld_rs _ g3; have hD6 := hD.on (below_hi (below_hi (below_hi (hb4.trans (hb5.mono hb4.size)) W3.heap.size 6 (.int .i64 x.s.text.size) (Nat.le_refl _)) W3.heap.size 7 (.int .i64 (cntB begB x.s.text.data.toList)) (Nat.le_refl _)) W3.heap.size 8 (.int .i64 (cntB feedB x.s.text.data.toList)) (Nat.le_refl _)); have hst := res_st hD6.hE.res rfl))
  exact ⟨rfl, _, results_cell_row rfl _ _ _ _ _ _ _ rfl (setRow_heap _ _ _ _ _ _ hD6.hE.res) Tryz.underlying36 rfl (by kernel_rfl), hD6.close hS hx _ _⟩
end Go.Proofs.YtlealeecmmpckaaGreat
namespace Go.Proofs.YtlealeecmmpckaaGreat
set_option linter.unusedVariables false
set_option linter.unusedSimpArgs false
set_option maxRecDepth 100000
set_option maxHeartbeats 8000000
open Go.RowKit Go.Lib Go.Shelf
attribute [local go_sem, local simp] sset0 sset1 sset2 resF resL_len resL_ne rset0 rset1 rset2 rset3 rset4 rset5 rset6 rset7 rset8 snF snL_len snL_ne
attribute [local go_sem ↓] loadRs_eq
theorem rread_7a (b c k : Nat) (M : RM) (p n id grav : Int) (t : ByteArray) (w : World) (h : RdAt w b M) (S : SeM) (hS : M.seats[c]? = some S) (hl : S.sl.length = M.readers) (hr8 : M.readers ≤ 8) (hcl : M.seats.length ≤ 8) (x : SnM) (hx : S.sl[k]? = some x) (hh : x.s.held = true) (hok : SnOK x.s) (hp : 0 ≤ p) (hp2 : p ≤ maxLen) (hn : 0 ≤ n) (hn2 : n ≤ maxLen) (h1 : (x.s.text.size : Int) < p) :
    Calls Tryz.prog 58 #[.pointer (some ⟨b, 0, none⟩), .int .i64 (c : Int), .agg #[.int .u8 7, .int .i64 (k : Int), .int .i64 p, .int .i64 n, .int .u32 id, .int .u8 grav, .string t]] w (RPost b w ((snpS x.s ⟨7, k, p, n, id, grav, t⟩).1, M.st.putSlot c k (snpS x.s ⟨7, k, p, n, id, grav, t⟩).2) M) := by
  have hsz := hok.1
  rw [snp7 rfl]
  dsimp only
  rw [if_pos (.inl h1)]
  obtain ⟨gs, cs, g, cp, gb, cb, cur, hD0⟩ := RdS.start w ⟨7, k, p, n, id, grav, t⟩ h hS
  obtain ⟨hc, _⟩ := List.getElem?_eq_some_iff.1 hS
  obtain ⟨hk, _⟩ := List.getElem?_eq_some_iff.1 hx
  have hcap := hD0.hA.cap
  have hrB : w.heap.size ≤ w.heap.size + 1 := by omega
  have t1 : decide (M.readers ≤ k) = false := by simp; omega
  obtain ⟨m1, m7, mr⟩ := hD0.md
  obtain ⟨o0, o1, o2, o3, o4, o5, o6⟩ := hD0.hE.o7
  clear hl
  go_enter Tryz.func58, Tryz.ntmps58
  go_wp2
  refine wp_region_noPanic ?_
  refine wp_region_held_drew (S := fun W => W.cell? ⟨b, 1, none⟩ = some (.int .i64 M.readers) ∧ W.cell? ⟨w.heap.size, 1, none⟩ = some (.int .i64 (k : Int))) (by kernel_rfl) ?_ (fun hHeld => ?_)
  · exact ⟨m1, o1⟩
  iterate 7 (((first | refine np_n ?_ ?_ ?_ | refine np_t 0 ?_ ?_ ?_); rotate_left 1; (· (intro w hSw; (try dsimp only at hSw); go_simp; all_goals with_reducible rfl)); (try simp only [nSO])))
  refine wpAnyH_done (by kernel_rfl) ?_ _
  refine NoPanic.normal ?_
  go_wp2
  refine wp_region_noPanic ?_
  refine wp_region_held_drew (S := fun W => W.cell? ⟨b, 7, none⟩ = some (.slice (some ⟨gs, 0, none⟩) M.seats.length cs) ∧ W.cell? ⟨gs, c, none⟩ = some (.slice (some ⟨g, 0, none⟩) S.sl.length cp) ∧ W.cell? ⟨w.heap.size, 1, none⟩ = some (.int .i64 (k : Int))) (by kernel_rfl) ?_ (fun hHeld => ?_)
  · exact ⟨m7, mr, o1⟩
  iterate 11 (((first | refine np_n ?_ ?_ ?_ | refine np_t 0 ?_ ?_ ?_); rotate_left 1; (· (intro w hSw; (try dsimp only at hSw); go_simp; all_goals with_reducible rfl)); (try simp only [nSO])))
  refine wpAnyH_done (by kernel_rfl) ?_ _
  refine NoPanic.normal ?_
  have hD := (hD0.on (Below.refl _ _).drew).on (Below.refl _ _).drew
  clear hD0 m1 m7 mr o0 o1 o2 o3 o4 o5 o6
  generalize hW3 : ((w.alloc (.cells #[.int .u8 7, .int .i64 (k : Int), .int .i64 p, .int .i64 n, .int .u32 id, .int .u8 grav, .string t] 28)).alloc (.cells (resL {}).toArray 36)).drew.drew = W3 at *
  obtain ⟨⟨s0, s1, s2, s3⟩, s4, s5, s6, s7⟩ := hD.sn hx
  rw [hh] at s0
  obtain ⟨W4, hs4, hg4, hb4⟩ := rnew_pkg W3 {}
  have hD4 := hD.on hb4
  obtain ⟨⟨s0, s1, s2, s3⟩, s4, s5, s6, s7⟩ := hD4.sn hx
  rw [hh] at s0
  obtain ⟨o0, o1, o2, o3, o4, o5, o6⟩ := hD4.hE.o7
  have rf := rs_frz hg4
  obtain ⟨r3, r4, r5, r6, r7, r8⟩ := rs_cell hg4
  have hp3 := hp2
  have hn3 := hn2
  unfold maxLen at hp3 hn3
  have d1 : decide ((x.s.text.size : Int) < p) = true := by simpa using h1
  clear hok h1
  have hDX := hD4
  go_wp2_with (first | (simp only [hs4]) | go_at_call 56; refine (rfail_any _ _).mono ?_; rintro e v7 ⟨rfl, hb7⟩; have hD7 := hDX.on hb7; have hst := res_st hD7.hE.res rfl)
  exact ⟨rfl, _, results_cell_row rfl _ _ _ _ _ _ _ rfl (setRow_heap _ _ _ _ _ _ hD7.hE.res) Tryz.underlying36 rfl (by kernel_rfl), hD7.close hS hx _ _⟩
theorem rread_7b (b c k : Nat) (M : RM) (p n id grav : Int) (t : ByteArray) (w : World) (h : RdAt w b M) (S : SeM) (hS : M.seats[c]? = some S) (hl : S.sl.length = M.readers) (hr8 : M.readers ≤ 8) (hcl : M.seats.length ≤ 8) (x : SnM) (hx : S.sl[k]? = some x) (hh : x.s.held = true) (hok : SnOK x.s) (hp : 0 ≤ p) (hp2 : p ≤ maxLen) (hn : 0 ≤ n) (hn2 : n ≤ maxLen) (h1 : ¬ (x.s.text.size : Int) < p) (h2 : (x.s.text.size : Int) - p < n) :
    Calls Tryz.prog 58 #[.pointer (some ⟨b, 0, none⟩), .int .i64 (c : Int), .agg #[.int .u8 7, .int .i64 (k : Int), .int .i64 p, .int .i64 n, .int .u32 id, .int .u8 grav, .string t]] w (RPost b w ((snpS x.s ⟨7, k, p, n, id, grav, t⟩).1, M.st.putSlot c k (snpS x.s ⟨7, k, p, n, id, grav, t⟩).2) M) := by
  have hsz := hok.1
  rw [snp7 rfl]
  dsimp only
  rw [if_pos (.inr h2)]
  obtain ⟨gs, cs, g, cp, gb, cb, cur, hD0⟩ := RdS.start w ⟨7, k, p, n, id, grav, t⟩ h hS
  obtain ⟨hc, _⟩ := List.getElem?_eq_some_iff.1 hS
  obtain ⟨hk, _⟩ := List.getElem?_eq_some_iff.1 hx
  have hcap := hD0.hA.cap
  have hrB : w.heap.size ≤ w.heap.size + 1 := by omega
  have t1 : decide (M.readers ≤ k) = false := by simp; omega
  obtain ⟨m1, m7, mr⟩ := hD0.md
  obtain ⟨o0, o1, o2, o3, o4, o5, o6⟩ := hD0.hE.o7
  clear hl
  go_enter Tryz.func58, Tryz.ntmps58
  go_wp2
  refine wp_region_noPanic ?_
  refine wp_region_held_drew (S := fun W => W.cell? ⟨b, 1, none⟩ = some (.int .i64 M.readers) ∧ W.cell? ⟨w.heap.size, 1, none⟩ = some (.int .i64 (k : Int))) (by kernel_rfl) ?_ (fun hHeld => ?_)
  · exact ⟨m1, o1⟩
  iterate 7 (((first | refine np_n ?_ ?_ ?_ | refine np_t 0 ?_ ?_ ?_); rotate_left 1; (· (intro w hSw; (try dsimp only at hSw); go_simp; all_goals with_reducible rfl)); (try simp only [nSO])))
  refine wpAnyH_done (by kernel_rfl) ?_ _
  refine NoPanic.normal ?_
  go_wp2
  refine wp_region_noPanic ?_
  refine wp_region_held_drew (S := fun W => W.cell? ⟨b, 7, none⟩ = some (.slice (some ⟨gs, 0, none⟩) M.seats.length cs) ∧ W.cell? ⟨gs, c, none⟩ = some (.slice (some ⟨g, 0, none⟩) S.sl.length cp) ∧ W.cell? ⟨w.heap.size, 1, none⟩ = some (.int .i64 (k : Int))) (by kernel_rfl) ?_ (fun hHeld => ?_)
  · exact ⟨m7, mr, o1⟩
  iterate 11 (((first | refine np_n ?_ ?_ ?_ | refine np_t 0 ?_ ?_ ?_); rotate_left 1; (· (intro w hSw; (try dsimp only at hSw); go_simp; all_goals with_reducible rfl)); (try simp only [nSO])))
  refine wpAnyH_done (by kernel_rfl) ?_ _
  refine NoPanic.normal ?_
  have hD := (hD0.on (Below.refl _ _).drew).on (Below.refl _ _).drew
  clear hD0 m1 m7 mr o0 o1 o2 o3 o4 o5 o6
  generalize hW3 : ((w.alloc (.cells #[.int .u8 7, .int .i64 (k : Int), .int .i64 p, .int .i64 n, .int .u32 id, .int .u8 grav, .string t] 28)).alloc (.cells (resL {}).toArray 36)).drew.drew = W3 at *
  obtain ⟨⟨s0, s1, s2, s3⟩, s4, s5, s6, s7⟩ := hD.sn hx
  rw [hh] at s0
  obtain ⟨W4, hs4, hg4, hb4⟩ := rnew_pkg W3 {}
  have hD4 := hD.on hb4
  obtain ⟨⟨s0, s1, s2, s3⟩, s4, s5, s6, s7⟩ := hD4.sn hx
  rw [hh] at s0
  obtain ⟨o0, o1, o2, o3, o4, o5, o6⟩ := hD4.hE.o7
  have rf := rs_frz hg4
  obtain ⟨r3, r4, r5, r6, r7, r8⟩ := rs_cell hg4
  have hp3 := hp2
  have hn3 := hn2
  unfold maxLen at hp3 hn3
  have d1 : decide ((x.s.text.size : Int) < p) = false := by simpa using h1
  have hws : IntKind.i64.wrap ((x.s.text.size : Int) - p) = (x.s.text.size : Int) - p := IntWalk.i64_in _ (by omega)
  have d2 : decide ((x.s.text.size : Int) - p < n) = true := by simpa using h2
  clear hok h1 h2
  have hDX := hD4
  go_wp2_with (first | (simp only [hs4]) | go_at_call 56; refine (rfail_any _ _).mono ?_; rintro e v7 ⟨rfl, hb7⟩; have hD7 := hDX.on hb7; have hst := res_st hD7.hE.res rfl)
  exact ⟨rfl, _, results_cell_row rfl _ _ _ _ _ _ _ rfl (setRow_heap _ _ _ _ _ _ hD7.hE.res) Tryz.underlying36 rfl (by kernel_rfl), hD7.close hS hx _ _⟩
theorem rread_7c (b c k : Nat) (M : RM) (p n id grav : Int) (t : ByteArray) (w : World) (h : RdAt w b M) (S : SeM) (hS : M.seats[c]? = some S) (hl : S.sl.length = M.readers) (hr8 : M.readers ≤ 8) (hcl : M.seats.length ≤ 8) (x : SnM) (hx : S.sl[k]? = some x) (hh : x.s.held = true) (hok : SnOK x.s) (hp : 0 ≤ p) (hp2 : p ≤ maxLen) (hn : 0 ≤ n) (hn2 : n ≤ maxLen) (h1 : ¬ (x.s.text.size : Int) < p) (h2 : ¬ (x.s.text.size : Int) - p < n) :
    Calls Tryz.prog 58 #[.pointer (some ⟨b, 0, none⟩), .int .i64 (c : Int), .agg #[.int .u8 7, .int .i64 (k : Int), .int .i64 p, .int .i64 n, .int .u32 id, .int .u8 grav, .string t]] w (RPost b w ((snpS x.s ⟨7, k, p, n, id, grav, t⟩).1, M.st.putSlot c k (snpS x.s ⟨7, k, p, n, id, grav, t⟩).2) M) := by
  have hsz := hok.1
  rw [snp7 rfl]
  dsimp only
  rw [if_neg (by omega)]
  obtain ⟨gs, cs, g, cp, gb, cb, cur, hD0⟩ := RdS.start w ⟨7, k, p, n, id, grav, t⟩ h hS
  obtain ⟨hc, _⟩ := List.getElem?_eq_some_iff.1 hS
  obtain ⟨hk, _⟩ := List.getElem?_eq_some_iff.1 hx
  have hcap := hD0.hA.cap
  have hrB : w.heap.size ≤ w.heap.size + 1 := by omega
  have t1 : decide (M.readers ≤ k) = false := by simp; omega
  obtain ⟨m1, m7, mr⟩ := hD0.md
  obtain ⟨o0, o1, o2, o3, o4, o5, o6⟩ := hD0.hE.o7
  clear hl
  go_enter Tryz.func58, Tryz.ntmps58
  go_wp2
  refine wp_region_noPanic ?_
  refine wp_region_held_drew (S := fun W => W.cell? ⟨b, 1, none⟩ = some (.int .i64 M.readers) ∧ W.cell? ⟨w.heap.size, 1, none⟩ = some (.int .i64 (k : Int))) (by kernel_rfl) ?_ (fun hHeld => ?_)
  · exact ⟨m1, o1⟩
  iterate 7 (((first | refine np_n ?_ ?_ ?_ | refine np_t 0 ?_ ?_ ?_); rotate_left 1; (· (intro w hSw; (try dsimp only at hSw); go_simp; all_goals with_reducible rfl)); (try simp only [nSO])))
  refine wpAnyH_done (by kernel_rfl) ?_ _
  refine NoPanic.normal ?_
  go_wp2
  refine wp_region_noPanic ?_
  refine wp_region_held_drew (S := fun W => W.cell? ⟨b, 7, none⟩ = some (.slice (some ⟨gs, 0, none⟩) M.seats.length cs) ∧ W.cell? ⟨gs, c, none⟩ = some (.slice (some ⟨g, 0, none⟩) S.sl.length cp) ∧ W.cell? ⟨w.heap.size, 1, none⟩ = some (.int .i64 (k : Int))) (by kernel_rfl) ?_ (fun hHeld => ?_)
  · exact ⟨m7, mr, o1⟩
  iterate 11 (((first | refine np_n ?_ ?_ ?_ | refine np_t 0 ?_ ?_ ?_); rotate_left 1; (· (intro w hSw; (try dsimp only at hSw); go_simp; all_goals with_reducible rfl)); (try simp only [nSO])))
  refine wpAnyH_done (by kernel_rfl) ?_ _
  refine NoPanic.normal ?_
  have hD := (hD0.on (Below.refl _ _).drew).on (Below.refl _ _).drew
  clear hD0 m1 m7 mr o0 o1 o2 o3 o4 o5 o6
  generalize hW3 : ((w.alloc (.cells #[.int .u8 7, .int .i64 (k : Int), .int .i64 p, .int .i64 n, .int .u32 id, .int .u8 grav, .string t] 28)).alloc (.cells (resL {}).toArray 36)).drew.drew = W3 at *
  obtain ⟨⟨s0, s1, s2, s3⟩, s4, s5, s6, s7⟩ := hD.sn hx
  rw [hh] at s0
  obtain ⟨W4, hs4, hg4, hb4⟩ := rnew_pkg W3 {}
  have hD4 := hD.on hb4
  obtain ⟨⟨s0, s1, s2, s3⟩, s4, s5, s6, s7⟩ := hD4.sn hx
  rw [hh] at s0
  obtain ⟨o0, o1, o2, o3, o4, o5, o6⟩ := hD4.hE.o7
  have rf := rs_frz hg4
  obtain ⟨r3, r4, r5, r6, r7, r8⟩ := rs_cell hg4
  have hp3 := hp2
  have hn3 := hn2
  unfold maxLen at hp3 hn3
  have d1 : decide ((x.s.text.size : Int) < p) = false := by simpa using h1
  have hws : IntKind.i64.wrap ((x.s.text.size : Int) - p) = (x.s.text.size : Int) - p := IntWalk.i64_in _ (by omega)
  have d2 : decide ((x.s.text.size : Int) - p < n) = false := by simpa using h2
  have hwr : IntKind.i64.wrap (p + n) = p + n := IntWalk.i64_in _ (by omega)
  have b1 : 0 ≤ p + n := by omega
  have b2 : p + n ≤ (x.s.text.size : Int) := by omega
  have b3 : p ≤ p + n := by omega
  have f5 := rf 5
  clear hok h1 h2 hn2 hp2
  have kx : ∀ W, Below W3.heap.size W3 W → (W.cell? ⟨g, k * 4 + 1, none⟩ = some (.string x.s.text) ∧ W.cell? ⟨g, k * 4 + 3, none⟩ = some (.int .i64 x.s.cursor)) ∧ W.cell? ⟨w.heap.size, 2, none⟩ = some (.int .i64 p) ∧ W.cell? ⟨w.heap.size, 3, none⟩ = some (.int .i64 n) ∧ W.cell? ⟨w.heap.size, 4, none⟩ = some (.int .u32 id) := fun W hB => by
    have hDk := hD.on hB
    obtain ⟨⟨_, a1, _, a3⟩, _⟩ := hDk.sn hx
    obtain ⟨_, _, b2, b3, b4, _⟩ := hDk.hE.o7
    exact ⟨⟨a1, a3⟩, b2, b3, b4⟩
  have Kx := Lib.hid kx
  clear kx
  have hq0 : Below W3.heap.size W3 W4.drew := hb4.drew
  go_wp2_with (simp only [hs4])
  refine wp_region_noPanic ?_
  refine wp_region_held_drew (S := fun W => (W.cell? ⟨g, k * 4 + 1, none⟩ = some (.string x.s.text) ∧ W.cell? ⟨g, k * 4 + 3, none⟩ = some (.int .i64 x.s.cursor)) ∧ W.cell? ⟨w.heap.size, 2, none⟩ = some (.int .i64 p) ∧ W.cell? ⟨w.heap.size, 3, none⟩ = some (.int .i64 n) ∧ W.cell? ⟨w.heap.size, 4, none⟩ = some (.int .u32 id)) (by kernel_rfl) ?_ (fun hHeld => ?_)
  · first | exact Kx.out _ (below_hi hq0 _ _ _ (Nat.le_refl _)) | exact Kx.out _ hq0
  iterate 13 (((first | refine np_n ?_ ?_ ?_ | refine np_t 0 ?_ ?_ ?_); rotate_left 1; (· (intro w hSw; (try dsimp only at hSw); go_simp; all_goals with_reducible rfl)); (try simp only [nSO])))
  (refine np_step (i := 13) rfl (by kernel_rfl) (fun K hK => ?_); rw [if_pos (by rfl)]; go_simp; (skip); (try go_wp2_with fail); refine hK.out _ _ ?_ (fun hHeld => ?_); (· (first | exact Kx.out _ (below_hi hq0 _ _ _ (Nat.le_refl _)) | exact Kx.out _ hq0)); clear hK K; (try simp only [nSO]))
  refine wpAnyH_done (by kernel_rfl) ?_ _
  refine NoPanic.normal ?_
  have hld := fun t => ld_rs (W := (W4.setCell ⟨W3.heap.size, 5, none⟩ (.string t)).drew) { text := t } (rs_set (W := W4) hg4 5 (.string t) (rset5 {} t))
  have hDV := fun t => hD.on (W' := (W4.setCell ⟨W3.heap.size, 5, none⟩ (.string t)).drew) (below_hi hb4 W3.heap.size 5 (.string t) (Nat.le_refl _)).drew
  have hst := fun t => res_st (hDV t).hE.res rfl
  go_wp2
  rw [cut_eq _ _ _ hp hn]
  exact ⟨rfl, _, results_cell_row rfl _ _ _ _ _ _ _ rfl (setRow_heap _ _ _ _ _ _ (hDV _).hE.res) Tryz.underlying36 rfl (by kernel_rfl), (hDV _).close hS hx _ _⟩
end Go.Proofs.YtlealeecmmpckaaGreat
namespace Go.Proofs.YtlealeecmmpckaaGreat
set_option linter.unusedVariables false
set_option linter.unusedSimpArgs false
set_option maxRecDepth 100000
set_option maxHeartbeats 8000000
open Go.RowKit Go.Lib Go.Shelf
attribute [local go_sem, local simp] sset0 sset1 sset2 resF resL_len resL_ne rset0 rset1 rset2 rset3 rset4 rset5 rset6 rset7 rset8 snF snL_len snL_ne
attribute [local go_sem ↓] loadRs_eq
theorem rread_8a (b c k : Nat) (M : RM) (p n id grav : Int) (t : ByteArray) (w : World) (h : RdAt w b M) (S : SeM) (hS : M.seats[c]? = some S) (hl : S.sl.length = M.readers) (hr8 : M.readers ≤ 8) (hcl : M.seats.length ≤ 8) (x : SnM) (hx : S.sl[k]? = some x) (hh : x.s.held = true) (hok : SnOK x.s) (hn2 : n ≤ maxLen) (hv : (runeS x.s.text.data.toList n).2 = 0) :
    Calls Tryz.prog 58 #[.pointer (some ⟨b, 0, none⟩), .int .i64 (c : Int), .agg #[.int .u8 8, .int .i64 (k : Int), .int .i64 p, .int .i64 n, .int .u32 id, .int .u8 grav, .string t]] w (RPost b w ((snpS x.s ⟨8, k, p, n, id, grav, t⟩).1, M.st.putSlot c k (snpS x.s ⟨8, k, p, n, id, grav, t⟩).2) M) := by
  have hsz := hok.1
  rw [snp8 rfl]
  dsimp only
  have hru := fun W => refRuneAt_any x.s.text n W (by omega)
  generalize runeS x.s.text.data.toList n = uv at *
  obtain ⟨u, v⟩ := uv
  dsimp only at *
  subst hv
  obtain ⟨gs, cs, g, cp, gb, cb, cur, hD0⟩ := RdS.start w ⟨8, k, p, n, id, grav, t⟩ h hS
  obtain ⟨hc, _⟩ := List.getElem?_eq_some_iff.1 hS
  obtain ⟨hk, _⟩ := List.getElem?_eq_some_iff.1 hx
  have hcap := hD0.hA.cap
  have hrB : w.heap.size ≤ w.heap.size + 1 := by omega
  have t1 : decide (M.readers ≤ k) = false := by simp; omega
  obtain ⟨m1, m7, mr⟩ := hD0.md
  obtain ⟨o0, o1, o2, o3, o4, o5, o6⟩ := hD0.hE.o7
  clear hl
  go_enter Tryz.func58, Tryz.ntmps58
  go_wp2
  refine wp_region_noPanic ?_
  refine wp_region_held_drew (S := fun W => W.cell? ⟨b, 1, none⟩ = some (.int .i64 M.readers) ∧ W.cell? ⟨w.heap.size, 1, none⟩ = some (.int .i64 (k : Int))) (by kernel_rfl) ?_ (fun hHeld => ?_)
  · exact ⟨m1, o1⟩
  iterate 7 (((first | refine np_n ?_ ?_ ?_ | refine np_t 0 ?_ ?_ ?_); rotate_left 1; (· (intro w hSw; (try dsimp only at hSw); go_simp; all_goals with_reducible rfl)); (try simp only [nSO])))
  refine wpAnyH_done (by kernel_rfl) ?_ _
  refine NoPanic.normal ?_
  go_wp2
  refine wp_region_noPanic ?_
  refine wp_region_held_drew (S := fun W => W.cell? ⟨b, 7, none⟩ = some (.slice (some ⟨gs, 0, none⟩) M.seats.length cs) ∧ W.cell? ⟨gs, c, none⟩ = some (.slice (some ⟨g, 0, none⟩) S.sl.length cp) ∧ W.cell? ⟨w.heap.size, 1, none⟩ = some (.int .i64 (k : Int))) (by kernel_rfl) ?_ (fun hHeld => ?_)
  · exact ⟨m7, mr, o1⟩
  iterate 11 (((first | refine np_n ?_ ?_ ?_ | refine np_t 0 ?_ ?_ ?_); rotate_left 1; (· (intro w hSw; (try dsimp only at hSw); go_simp; all_goals with_reducible rfl)); (try simp only [nSO])))
  refine wpAnyH_done (by kernel_rfl) ?_ _
  refine NoPanic.normal ?_
  have hD := (hD0.on (Below.refl _ _).drew).on (Below.refl _ _).drew
  clear hD0 m1 m7 mr o0 o1 o2 o3 o4 o5 o6
  generalize hW3 : ((w.alloc (.cells #[.int .u8 8, .int .i64 (k : Int), .int .i64 p, .int .i64 n, .int .u32 id, .int .u8 grav, .string t] 28)).alloc (.cells (resL {}).toArray 36)).drew.drew = W3 at *
  obtain ⟨⟨s0, s1, s2, s3⟩, s4, s5, s6, s7⟩ := hD.sn hx
  rw [hh] at s0
  obtain ⟨W4, hs4, hg4, hb4⟩ := rnew_pkg W3 {}
  have hD4 := hD.on hb4
  obtain ⟨⟨s0, s1, s2, s3⟩, s4, s5, s6, s7⟩ := hD4.sn hx
  rw [hh] at s0
  obtain ⟨o0, o1, o2, o3, o4, o5, o6⟩ := hD4.hE.o7
  have rf := rs_frz hg4
  obtain ⟨r3, r4, r5, r6, r7, r8⟩ := rs_cell hg4
  clear hok
  have kx : ∀ W, Below W3.heap.size W3 W → (W.cell? ⟨g, k * 4 + 1, none⟩ = some (.string x.s.text) ∧ W.cell? ⟨g, k * 4 + 3, none⟩ = some (.int .i64 x.s.cursor)) ∧ W.cell? ⟨w.heap.size, 2, none⟩ = some (.int .i64 p) ∧ W.cell? ⟨w.heap.size, 3, none⟩ = some (.int .i64 n) ∧ W.cell? ⟨w.heap.size, 4, none⟩ = some (.int .u32 id) := fun W hB => by
    have hDk := hD.on hB
    obtain ⟨⟨_, a1, _, a3⟩, _⟩ := hDk.sn hx
    obtain ⟨_, _, b2, b3, b4, _⟩ := hDk.hE.o7
    exact ⟨⟨a1, a3⟩, b2, b3, b4⟩
  have Kx := Lib.hid kx
  clear kx
  have hq0 : Below W3.heap.size W3 W4.drew := hb4.drew
  go_wp2_with (simp only [hs4])
  refine wp_region_noPanic ?_
  refine wp_region_held_drew (S := fun W => (W.cell? ⟨g, k * 4 + 1, none⟩ = some (.string x.s.text) ∧ W.cell? ⟨g, k * 4 + 3, none⟩ = some (.int .i64 x.s.cursor)) ∧ W.cell? ⟨w.heap.size, 2, none⟩ = some (.int .i64 p) ∧ W.cell? ⟨w.heap.size, 3, none⟩ = some (.int .i64 n) ∧ W.cell? ⟨w.heap.size, 4, none⟩ = some (.int .u32 id)) (by kernel_rfl) ?_ (fun hHeld => ?_)
  · first | exact Kx.out _ (below_hi hq5 _ _ _ (Nat.le_refl _)) | exact Kx.out _ hq5 | exact Kx.out _ hq0
  iterate 6 (((first | refine np_n ?_ ?_ ?_ | refine np_t 0 ?_ ?_ ?_); rotate_left 1; (· (intro w hSw; (try dsimp only at hSw); go_simp; all_goals with_reducible rfl)); (try simp only [nSO])))
  (refine np_step (i := 6) rfl (by kernel_rfl) (fun K hK => ?_); rw [if_pos (by rfl)]; go_simp; ((go_at_call 94; refine (hru _).mono ?_; rintro e w5 ⟨rfl, rfl⟩; have hq5 : Below W3.heap.size W3 W4.drew := hq0; have hg5 : W4.drew.heap[W3.heap.size]? = some (.cells (resL {}).toArray 36 (0, 0)) := hg4; have f53 := rs_frz hg5 3)); (try go_wp2_with fail); refine hK.out _ _ ?_ (fun hHeld => ?_); (· (first | exact Kx.out _ (below_hi hq5 _ _ _ (Nat.le_refl _)) | exact Kx.out _ hq5 | exact Kx.out _ hq0)); clear hK K; (try simp only [nSO]))
  iterate 4 ((refine np_n ?_ ?_ ?_; rotate_left 1; (· (intro w hSw; (try dsimp only at hSw); go_simp; all_goals with_reducible rfl)); (try simp only [nSO])))
  (refine np_step (i := 11) rfl (by kernel_rfl) (fun K hK => ?_); rw [if_pos (by rfl)]; go_simp; (skip); (try go_wp2_with fail); refine hK.out _ _ ?_ (fun hHeld => ?_); (· (first | exact Kx.out _ (below_hi hq5 _ _ _ (Nat.le_refl _)) | exact Kx.out _ hq5 | exact Kx.out _ hq0)); clear hK K; (try simp only [nSO]))
  (refine np_n ?_ ?_ ?_; rotate_left 1; (· (intro w hSw; (try dsimp only at hSw); go_simp; all_goals with_reducible rfl)); (try simp only [nSO]))
  refine wpAnyH_done (by kernel_rfl) ?_ _
  refine NoPanic.normal ?_
  have hld := fun t => ld_rs (W := (W4.setCell ⟨W3.heap.size, 3, none⟩ (.int .i64 t)).drew) { at_ := t } (rs_set (W := W4) hg4 3 (.int .i64 t) (rset3 {} t))
  have hDV := fun t => hD.on (W' := (W4.setCell ⟨W3.heap.size, 3, none⟩ (.int .i64 t)).drew) (below_hi hb4 W3.heap.size 3 (.int .i64 t) (Nat.le_refl _)).drew
  have hst := fun t => res_st (hDV t).hE.res rfl
  go_wp2
  exact ⟨rfl, _, results_cell_row rfl _ _ _ _ _ _ _ rfl (setRow_heap _ _ _ _ _ _ (hDV _).hE.res) Tryz.underlying36 rfl (by kernel_rfl), (hDV _).close hS hx _ _⟩
theorem rread_8b (b c k : Nat) (M : RM) (p n id grav : Int) (t : ByteArray) (w : World) (h : RdAt w b M) (S : SeM) (hS : M.seats[c]? = some S) (hl : S.sl.length = M.readers) (hr8 : M.readers ≤ 8) (hcl : M.seats.length ≤ 8) (x : SnM) (hx : S.sl[k]? = some x) (hh : x.s.held = true) (hok : SnOK x.s) (hn2 : n ≤ maxLen) (hv : (runeS x.s.text.data.toList n).2 ≠ 0) :
    Calls Tryz.prog 58 #[.pointer (some ⟨b, 0, none⟩), .int .i64 (c : Int), .agg #[.int .u8 8, .int .i64 (k : Int), .int .i64 p, .int .i64 n, .int .u32 id, .int .u8 grav, .string t]] w (RPost b w ((snpS x.s ⟨8, k, p, n, id, grav, t⟩).1, M.st.putSlot c k (snpS x.s ⟨8, k, p, n, id, grav, t⟩).2) M) := by
  have hsz := hok.1
  rw [snp8 rfl]
  dsimp only
  have hu := rune_err hv
  have hru := fun W => refRuneAt_any x.s.text n W (by omega)
  generalize runeS x.s.text.data.toList n = uv at *
  obtain ⟨u, v⟩ := uv
  dsimp only at *
  subst hu
  have hvd : (v == 0) = false := by simpa using hv
  obtain ⟨gs, cs, g, cp, gb, cb, cur, hD0⟩ := RdS.start w ⟨8, k, p, n, id, grav, t⟩ h hS
  obtain ⟨hc, _⟩ := List.getElem?_eq_some_iff.1 hS
  obtain ⟨hk, _⟩ := List.getElem?_eq_some_iff.1 hx
  have hcap := hD0.hA.cap
  have hrB : w.heap.size ≤ w.heap.size + 1 := by omega
  have t1 : decide (M.readers ≤ k) = false := by simp; omega
  obtain ⟨m1, m7, mr⟩ := hD0.md
  obtain ⟨o0, o1, o2, o3, o4, o5, o6⟩ := hD0.hE.o7
  clear hl
  go_enter Tryz.func58, Tryz.ntmps58
  go_wp2
  refine wp_region_noPanic ?_
  refine wp_region_held_drew (S := fun W => W.cell? ⟨b, 1, none⟩ = some (.int .i64 M.readers) ∧ W.cell? ⟨w.heap.size, 1, none⟩ = some (.int .i64 (k : Int))) (by kernel_rfl) ?_ (fun hHeld => ?_)
  · exact ⟨m1, o1⟩
  iterate 7 (((first | refine np_n ?_ ?_ ?_ | refine np_t 0 ?_ ?_ ?_); rotate_left 1; (· (intro w hSw; (try dsimp only at hSw); go_simp; all_goals with_reducible rfl)); (try simp only [nSO])))
  refine wpAnyH_done (by kernel_rfl) ?_ _
  refine NoPanic.normal ?_
  go_wp2
  refine wp_region_noPanic ?_
  refine wp_region_held_drew (S := fun W => W.cell? ⟨b, 7, none⟩ = some (.slice (some ⟨gs, 0, none⟩) M.seats.length cs) ∧ W.cell? ⟨gs, c, none⟩ = some (.slice (some ⟨g, 0, none⟩) S.sl.length cp) ∧ W.cell? ⟨w.heap.size, 1, none⟩ = some (.int .i64 (k : Int))) (by kernel_rfl) ?_ (fun hHeld => ?_)
  · exact ⟨m7, mr, o1⟩
  iterate 11 (((first | refine np_n ?_ ?_ ?_ | refine np_t 0 ?_ ?_ ?_); rotate_left 1; (· (intro w hSw; (try dsimp only at hSw); go_simp; all_goals with_reducible rfl)); (try simp only [nSO])))
  refine wpAnyH_done (by kernel_rfl) ?_ _
  refine NoPanic.normal ?_
  have hD := (hD0.on (Below.refl _ _).drew).on (Below.refl _ _).drew
  clear hD0 m1 m7 mr o0 o1 o2 o3 o4 o5 o6
  generalize hW3 : ((w.alloc (.cells #[.int .u8 8, .int .i64 (k : Int), .int .i64 p, .int .i64 n, .int .u32 id, .int .u8 grav, .string t] 28)).alloc (.cells (resL {}).toArray 36)).drew.drew = W3 at *
  obtain ⟨⟨s0, s1, s2, s3⟩, s4, s5, s6, s7⟩ := hD.sn hx
  rw [hh] at s0
  obtain ⟨W4, hs4, hg4, hb4⟩ := rnew_pkg W3 {}
  have hD4 := hD.on hb4
  obtain ⟨⟨s0, s1, s2, s3⟩, s4, s5, s6, s7⟩ := hD4.sn hx
  rw [hh] at s0
  obtain ⟨o0, o1, o2, o3, o4, o5, o6⟩ := hD4.hE.o7
  have rf := rs_frz hg4
  obtain ⟨r3, r4, r5, r6, r7, r8⟩ := rs_cell hg4
  clear hok
  have kx : ∀ W, Below W3.heap.size W3 W → (W.cell? ⟨g, k * 4 + 1, none⟩ = some (.string x.s.text) ∧ W.cell? ⟨g, k * 4 + 3, none⟩ = some (.int .i64 x.s.cursor)) ∧ W.cell? ⟨w.heap.size, 2, none⟩ = some (.int .i64 p) ∧ W.cell? ⟨w.heap.size, 3, none⟩ = some (.int .i64 n) ∧ W.cell? ⟨w.heap.size, 4, none⟩ = some (.int .u32 id) := fun W hB => by
    have hDk := hD.on hB
    obtain ⟨⟨_, a1, _, a3⟩, _⟩ := hDk.sn hx
    obtain ⟨_, _, b2, b3, b4, _⟩ := hDk.hE.o7
    exact ⟨⟨a1, a3⟩, b2, b3, b4⟩
  have Kx := Lib.hid kx
  clear kx
  have hq0 : Below W3.heap.size W3 W4.drew := hb4.drew
  go_wp2_with (simp only [hs4])
  refine wp_region_noPanic ?_
  refine wp_region_held_drew (S := fun W => (W.cell? ⟨g, k * 4 + 1, none⟩ = some (.string x.s.text) ∧ W.cell? ⟨g, k * 4 + 3, none⟩ = some (.int .i64 x.s.cursor)) ∧ W.cell? ⟨w.heap.size, 2, none⟩ = some (.int .i64 p) ∧ W.cell? ⟨w.heap.size, 3, none⟩ = some (.int .i64 n) ∧ W.cell? ⟨w.heap.size, 4, none⟩ = some (.int .u32 id)) (by kernel_rfl) ?_ (fun hHeld => ?_)
  · first | exact Kx.out _ (below_hi hq5 _ _ _ (Nat.le_refl _)) | exact Kx.out _ hq5 | exact Kx.out _ hq0
  iterate 6 (((first | refine np_n ?_ ?_ ?_ | refine np_t 0 ?_ ?_ ?_); rotate_left 1; (· (intro w hSw; (try dsimp only at hSw); go_simp; all_goals with_reducible rfl)); (try simp only [nSO])))
  (refine np_step (i := 6) rfl (by kernel_rfl) (fun K hK => ?_); rw [if_pos (by rfl)]; go_simp; ((go_at_call 94; refine (hru _).mono ?_; rintro e w5 ⟨rfl, rfl⟩; have hq5 : Below W3.heap.size W3 W4.drew := hq0; have hg5 : W4.drew.heap[W3.heap.size]? = some (.cells (resL {}).toArray 36 (0, 0)) := hg4; have f53 := rs_frz hg5 3)); (try go_wp2_with fail); refine hK.out _ _ ?_ (fun hHeld => ?_); (· (first | exact Kx.out _ (below_hi hq5 _ _ _ (Nat.le_refl _)) | exact Kx.out _ hq5 | exact Kx.out _ hq0)); clear hK K; (try simp only [nSO]))
  iterate 4 ((refine np_n ?_ ?_ ?_; rotate_left 1; (· (intro w hSw; (try dsimp only at hSw); go_simp; all_goals with_reducible rfl)); (try simp only [nSO])))
  (refine np_step (i := 11) rfl (by kernel_rfl) (fun K hK => ?_); rw [if_pos (by rfl)]; go_simp; (skip); (try go_wp2_with fail); refine hK.out _ _ ?_ (fun hHeld => ?_); (· (first | exact Kx.out _ (below_hi hq5 _ _ _ (Nat.le_refl _)) | exact Kx.out _ hq5 | exact Kx.out _ hq0)); clear hK K; (try simp only [nSO]))
  (refine np_n ?_ ?_ ?_; rotate_left 1; (· (intro w hSw; (try dsimp only at hSw); go_simp; all_goals with_reducible rfl)); (try simp only [nSO]))
  refine wpAnyH_done (by kernel_rfl) ?_ _
  refine NoPanic.normal ?_
  have hDX := hD.on (W' := (W4.setCell ⟨W3.heap.size, 3, none⟩ (.int .i64 0)).drew) (below_hi hb4 W3.heap.size 3 (.int .i64 0) (Nat.le_refl _)).drew
  go_wp2_with (go_at_call 56; refine (rfail_any _ _).mono ?_; rintro e v7 ⟨rfl, hb7⟩; have hD7 := hDX.on hb7; have hst := res_st hD7.hE.res rfl)
  exact ⟨rfl, _, results_cell_row rfl _ _ _ _ _ _ _ rfl (setRow_heap _ _ _ _ _ _ hD7.hE.res) Tryz.underlying36 rfl (by kernel_rfl), hD7.close hS hx _ _⟩
end Go.Proofs.YtlealeecmmpckaaGreat
namespace Go.Proofs.YtlealeecmmpckaaGreat
set_option linter.unusedVariables false
set_option linter.unusedSimpArgs false
set_option maxRecDepth 100000
set_option maxHeartbeats 8000000
open Go.RowKit Go.Lib Go.Shelf
attribute [local go_sem, local simp] sset0 sset1 sset2 resF resL_len resL_ne rset0 rset1 rset2 rset3 rset4 rset5 rset6 rset7 rset8 snF snL_len snL_ne
attribute [local go_sem ↓] loadRs_eq
theorem rread_9a (b c k : Nat) (M : RM) (p n id grav : Int) (t : ByteArray) (w : World) (h : RdAt w b M) (S : SeM) (hS : M.seats[c]? = some S) (hl : S.sl.length = M.readers) (hr8 : M.readers ≤ 8) (hcl : M.seats.length ≤ 8) (x : SnM) (hx : S.sl[k]? = some x) (hh : x.s.held = true) (hok : SnOK x.s) (hn2 : n ≤ maxLen) (hv : (lineS x.s.text.data.toList n).2 = 0) :
    Calls Tryz.prog 58 #[.pointer (some ⟨b, 0, none⟩), .int .i64 (c : Int), .agg #[.int .u8 9, .int .i64 (k : Int), .int .i64 p, .int .i64 n, .int .u32 id, .int .u8 grav, .string t]] w (RPost b w ((snpS x.s ⟨9, k, p, n, id, grav, t⟩).1, M.st.putSlot c k (snpS x.s ⟨9, k, p, n, id, grav, t⟩).2) M) := by
  have hsz := hok.1
  rw [snp9 rfl]
  dsimp only
  have hru := fun W => refLine_any x.s.text n W (by omega)
  generalize lineS x.s.text.data.toList n = uv at *
  obtain ⟨u, v⟩ := uv
  dsimp only at *
  subst hv
  obtain ⟨gs, cs, g, cp, gb, cb, cur, hD0⟩ := RdS.start w ⟨9, k, p, n, id, grav, t⟩ h hS
  obtain ⟨hc, _⟩ := List.getElem?_eq_some_iff.1 hS
  obtain ⟨hk, _⟩ := List.getElem?_eq_some_iff.1 hx
  have hcap := hD0.hA.cap
  have hrB : w.heap.size ≤ w.heap.size + 1 := by omega
  have t1 : decide (M.readers ≤ k) = false := by simp; omega
  obtain ⟨m1, m7, mr⟩ := hD0.md
  obtain ⟨o0, o1, o2, o3, o4, o5, o6⟩ := hD0.hE.o7
  clear hl
  go_enter Tryz.func58, Tryz.ntmps58
  go_wp2
  refine wp_region_noPanic ?_
  refine wp_region_held_drew (S := fun W => W.cell? ⟨b, 1, none⟩ = some (.int .i64 M.readers) ∧ W.cell? ⟨w.heap.size, 1, none⟩ = some (.int .i64 (k : Int))) (by kernel_rfl) ?_ (fun hHeld => ?_)
  · exact ⟨m1, o1⟩
  iterate 7 (((first | refine np_n ?_ ?_ ?_ | refine np_t 0 ?_ ?_ ?_); rotate_left 1; (· (intro w hSw; (try dsimp only at hSw); go_simp; all_goals with_reducible rfl)); (try simp only [nSO])))
  refine wpAnyH_done (by kernel_rfl) ?_ _
  refine NoPanic.normal ?_
  go_wp2
  refine wp_region_noPanic ?_
  refine wp_region_held_drew (S := fun W => W.cell? ⟨b, 7, none⟩ = some (.slice (some ⟨gs, 0, none⟩) M.seats.length cs) ∧ W.cell? ⟨gs, c, none⟩ = some (.slice (some ⟨g, 0, none⟩) S.sl.length cp) ∧ W.cell? ⟨w.heap.size, 1, none⟩ = some (.int .i64 (k : Int))) (by kernel_rfl) ?_ (fun hHeld => ?_)
  · exact ⟨m7, mr, o1⟩
  iterate 11 (((first | refine np_n ?_ ?_ ?_ | refine np_t 0 ?_ ?_ ?_); rotate_left 1; (· (intro w hSw; (try dsimp only at hSw); go_simp; all_goals with_reducible rfl)); (try simp only [nSO])))
  refine wpAnyH_done (by kernel_rfl) ?_ _
  refine NoPanic.normal ?_
  have hD := (hD0.on (Below.refl _ _).drew).on (Below.refl _ _).drew
  clear hD0 m1 m7 mr o0 o1 o2 o3 o4 o5 o6
  generalize hW3 : ((w.alloc (.cells #[.int .u8 9, .int .i64 (k : Int), .int .i64 p, .int .i64 n, .int .u32 id, .int .u8 grav, .string t] 28)).alloc (.cells (resL {}).toArray 36)).drew.drew = W3 at *
  obtain ⟨⟨s0, s1, s2, s3⟩, s4, s5, s6, s7⟩ := hD.sn hx
  rw [hh] at s0
  obtain ⟨W4, hs4, hg4, hb4⟩ := rnew_pkg W3 {}
  have hD4 := hD.on hb4
  obtain ⟨⟨s0, s1, s2, s3⟩, s4, s5, s6, s7⟩ := hD4.sn hx
  rw [hh] at s0
  obtain ⟨o0, o1, o2, o3, o4, o5, o6⟩ := hD4.hE.o7
  have rf := rs_frz hg4
  obtain ⟨r3, r4, r5, r6, r7, r8⟩ := rs_cell hg4
  clear hok
  have kx : ∀ W, Below W3.heap.size W3 W → (W.cell? ⟨g, k * 4 + 1, none⟩ = some (.string x.s.text) ∧ W.cell? ⟨g, k * 4 + 3, none⟩ = some (.int .i64 x.s.cursor)) ∧ W.cell? ⟨w.heap.size, 2, none⟩ = some (.int .i64 p) ∧ W.cell? ⟨w.heap.size, 3, none⟩ = some (.int .i64 n) ∧ W.cell? ⟨w.heap.size, 4, none⟩ = some (.int .u32 id) := fun W hB => by
    have hDk := hD.on hB
    obtain ⟨⟨_, a1, _, a3⟩, _⟩ := hDk.sn hx
    obtain ⟨_, _, b2, b3, b4, _⟩ := hDk.hE.o7
    exact ⟨⟨a1, a3⟩, b2, b3, b4⟩
  have Kx := Lib.hid kx
  clear kx
  have hq0 : Below W3.heap.size W3 W4.drew := hb4.drew
  go_wp2_with (simp only [hs4])
  refine wp_region_noPanic ?_
  refine wp_region_held_drew (S := fun W => (W.cell? ⟨g, k * 4 + 1, none⟩ = some (.string x.s.text) ∧ W.cell? ⟨g, k * 4 + 3, none⟩ = some (.int .i64 x.s.cursor)) ∧ W.cell? ⟨w.heap.size, 2, none⟩ = some (.int .i64 p) ∧ W.cell? ⟨w.heap.size, 3, none⟩ = some (.int .i64 n) ∧ W.cell? ⟨w.heap.size, 4, none⟩ = some (.int .u32 id)) (by kernel_rfl) ?_ (fun hHeld => ?_)
  · first | exact Kx.out _ (below_hi hq5 _ _ _ (Nat.le_refl _)) | exact Kx.out _ hq5 | exact Kx.out _ hq0
  iterate 6 (((first | refine np_n ?_ ?_ ?_ | refine np_t 0 ?_ ?_ ?_); rotate_left 1; (· (intro w hSw; (try dsimp only at hSw); go_simp; all_goals with_reducible rfl)); (try simp only [nSO])))
  (refine np_step (i := 6) rfl (by kernel_rfl) (fun K hK => ?_); rw [if_pos (by rfl)]; go_simp; ((go_at_call 95; refine (hru _).mono ?_; rintro e w5 ⟨rfl, hb5⟩; have hq5 := hq0.trans (hb5.mono hq0.size); have hg5 := (hb5.block _ (Array.getElem?_eq_some_iff.1 hg4).1).trans hg4; have f53 := rs_frz hg5 3; have q53 := (rs_cell hg5).1)); (try go_wp2_with fail); refine hK.out _ _ ?_ (fun hHeld => ?_); (· (first | exact Kx.out _ (below_hi hq5 _ _ _ (Nat.le_refl _)) | exact Kx.out _ hq5 | exact Kx.out _ hq0)); clear hK K; (try simp only [nSO]))
  iterate 4 ((refine np_n ?_ ?_ ?_; rotate_left 1; (· (intro w hSw; (try dsimp only at hSw); go_simp; all_goals with_reducible rfl)); (try simp only [nSO])))
  (refine np_step (i := 11) rfl (by kernel_rfl) (fun K hK => ?_); rw [if_pos (by rfl)]; go_simp; (skip); (try go_wp2_with fail); refine hK.out _ _ ?_ (fun hHeld => ?_); (· (first | exact Kx.out _ (below_hi hq5 _ _ _ (Nat.le_refl _)) | exact Kx.out _ hq5 | exact Kx.out _ hq0)); clear hK K; (try simp only [nSO]))
  (refine np_n ?_ ?_ ?_; rotate_left 1; (· (intro w hSw; (try dsimp only at hSw); go_simp; all_goals with_reducible rfl)); (try simp only [nSO]))
  refine wpAnyH_done (by kernel_rfl) ?_ _
  refine NoPanic.normal ?_
  have hld := fun t => ld_rs (W := (w5.setCell ⟨W3.heap.size, 3, none⟩ (.int .i64 t))) { at_ := t } (rs_set (W := w5) hg5 3 (.int .i64 t) (rset3 {} t))
  have hDV := fun t => hD.on (W' := (w5.setCell ⟨W3.heap.size, 3, none⟩ (.int .i64 t))) (below_hi hq5 W3.heap.size 3 (.int .i64 t) (Nat.le_refl _))
  have hst := fun t => res_st (hDV t).hE.res rfl
  go_wp2
  exact ⟨rfl, _, results_cell_row rfl _ _ _ _ _ _ _ rfl (setRow_heap _ _ _ _ _ _ (hDV _).hE.res) Tryz.underlying36 rfl (by kernel_rfl), (hDV _).close hS hx _ _⟩
theorem rread_9b (b c k : Nat) (M : RM) (p n id grav : Int) (t : ByteArray) (w : World) (h : RdAt w b M) (S : SeM) (hS : M.seats[c]? = some S) (hl : S.sl.length = M.readers) (hr8 : M.readers ≤ 8) (hcl : M.seats.length ≤ 8) (x : SnM) (hx : S.sl[k]? = some x) (hh : x.s.held = true) (hok : SnOK x.s) (hn2 : n ≤ maxLen) (hv : (lineS x.s.text.data.toList n).2 ≠ 0) :
    Calls Tryz.prog 58 #[.pointer (some ⟨b, 0, none⟩), .int .i64 (c : Int), .agg #[.int .u8 9, .int .i64 (k : Int), .int .i64 p, .int .i64 n, .int .u32 id, .int .u8 grav, .string t]] w (RPost b w ((snpS x.s ⟨9, k, p, n, id, grav, t⟩).1, M.st.putSlot c k (snpS x.s ⟨9, k, p, n, id, grav, t⟩).2) M) := by
  have hsz := hok.1
  rw [snp9 rfl]
  dsimp only
  have hu := line_err hv
  have hru := fun W => refLine_any x.s.text n W (by omega)
  generalize lineS x.s.text.data.toList n = uv at *
  obtain ⟨u, v⟩ := uv
  dsimp only at *
  subst hu
  have hvd : (v == 0) = false := by simpa using hv
  obtain ⟨gs, cs, g, cp, gb, cb, cur, hD0⟩ := RdS.start w ⟨9, k, p, n, id, grav, t⟩ h hS
  obtain ⟨hc, _⟩ := List.getElem?_eq_some_iff.1 hS
  obtain ⟨hk, _⟩ := List.getElem?_eq_some_iff.1 hx
  have hcap := hD0.hA.cap
  have hrB : w.heap.size ≤ w.heap.size + 1 := by omega
  have t1 : decide (M.readers ≤ k) = false := by simp; omega
  obtain ⟨m1, m7, mr⟩ := hD0.md
  obtain ⟨o0, o1, o2, o3, o4, o5, o6⟩ := hD0.hE.o7
  clear hl
  go_enter Tryz.func58, Tryz.ntmps58
  go_wp2
  refine wp_region_noPanic ?_
  refine wp_region_held_drew (S := fun W => W.cell? ⟨b, 1, none⟩ = some (.int .i64 M.readers) ∧ W.cell? ⟨w.heap.size, 1, none⟩ = some (.int .i64 (k : Int))) (by kernel_rfl) ?_ (fun hHeld => ?_)
  · exact ⟨m1, o1⟩
  iterate 7 (((first | refine np_n ?_ ?_ ?_ | refine np_t 0 ?_ ?_ ?_); rotate_left 1; (· (intro w hSw; (try dsimp only at hSw); go_simp; all_goals with_reducible rfl)); (try simp only [nSO])))
  refine wpAnyH_done (by kernel_rfl) ?_ _
  refine NoPanic.normal ?_
  go_wp2
  refine wp_region_noPanic ?_
  refine wp_region_held_drew (S := fun W => W.cell? ⟨b, 7, none⟩ = some (.slice (some ⟨gs, 0, none⟩) M.seats.length cs) ∧ W.cell? ⟨gs, c, none⟩ = some (.slice (some ⟨g, 0, none⟩) S.sl.length cp) ∧ W.cell? ⟨w.heap.size, 1, none⟩ = some (.int .i64 (k : Int))) (by kernel_rfl) ?_ (fun hHeld => ?_)
  · exact ⟨m7, mr, o1⟩
  iterate 11 (((first | refine np_n ?_ ?_ ?_ | refine np_t 0 ?_ ?_ ?_); rotate_left 1; (· (intro w hSw; (try dsimp only at hSw); go_simp; all_goals with_reducible rfl)); (try simp only [nSO])))
  refine wpAnyH_done (by kernel_rfl) ?_ _
  refine NoPanic.normal ?_
  have hD := (hD0.on (Below.refl _ _).drew).on (Below.refl _ _).drew
  clear hD0 m1 m7 mr o0 o1 o2 o3 o4 o5 o6
  generalize hW3 : ((w.alloc (.cells #[.int .u8 9, .int .i64 (k : Int), .int .i64 p, .int .i64 n, .int .u32 id, .int .u8 grav, .string t] 28)).alloc (.cells (resL {}).toArray 36)).drew.drew = W3 at *
  obtain ⟨⟨s0, s1, s2, s3⟩, s4, s5, s6, s7⟩ := hD.sn hx
  rw [hh] at s0
  obtain ⟨W4, hs4, hg4, hb4⟩ := rnew_pkg W3 {}
  have hD4 := hD.on hb4
  obtain ⟨⟨s0, s1, s2, s3⟩, s4, s5, s6, s7⟩ := hD4.sn hx
  rw [hh] at s0
  obtain ⟨o0, o1, o2, o3, o4, o5, o6⟩ := hD4.hE.o7
  have rf := rs_frz hg4
  obtain ⟨r3, r4, r5, r6, r7, r8⟩ := rs_cell hg4
  clear hok
  have kx : ∀ W, Below W3.heap.size W3 W → (W.cell? ⟨g, k * 4 + 1, none⟩ = some (.string x.s.text) ∧ W.cell? ⟨g, k * 4 + 3, none⟩ = some (.int .i64 x.s.cursor)) ∧ W.cell? ⟨w.heap.size, 2, none⟩ = some (.int .i64 p) ∧ W.cell? ⟨w.heap.size, 3, none⟩ = some (.int .i64 n) ∧ W.cell? ⟨w.heap.size, 4, none⟩ = some (.int .u32 id) := fun W hB => by
    have hDk := hD.on hB
    obtain ⟨⟨_, a1, _, a3⟩, _⟩ := hDk.sn hx
    obtain ⟨_, _, b2, b3, b4, _⟩ := hDk.hE.o7
    exact ⟨⟨a1, a3⟩, b2, b3, b4⟩
  have Kx := Lib.hid kx
  clear kx
  have hq0 : Below W3.heap.size W3 W4.drew := hb4.drew
  go_wp2_with (simp only [hs4])
  refine wp_region_noPanic ?_
  refine wp_region_held_drew (S := fun W => (W.cell? ⟨g, k * 4 + 1, none⟩ = some (.string x.s.text) ∧ W.cell? ⟨g, k * 4 + 3, none⟩ = some (.int .i64 x.s.cursor)) ∧ W.cell? ⟨w.heap.size, 2, none⟩ = some (.int .i64 p) ∧ W.cell? ⟨w.heap.size, 3, none⟩ = some (.int .i64 n) ∧ W.cell? ⟨w.heap.size, 4, none⟩ = some (.int .u32 id)) (by kernel_rfl) ?_ (fun hHeld => ?_)
  · first | exact Kx.out _ (below_hi hq5 _ _ _ (Nat.le_refl _)) | exact Kx.out _ hq5 | exact Kx.out _ hq0
  iterate 6 (((first | refine np_n ?_ ?_ ?_ | refine np_t 0 ?_ ?_ ?_); rotate_left 1; (· (intro w hSw; (try dsimp only at hSw); go_simp; all_goals with_reducible rfl)); (try simp only [nSO])))
  (refine np_step (i := 6) rfl (by kernel_rfl) (fun K hK => ?_); rw [if_pos (by rfl)]; go_simp; ((go_at_call 95; refine (hru _).mono ?_; rintro e w5 ⟨rfl, hb5⟩; have hq5 := hq0.trans (hb5.mono hq0.size); have hg5 := (hb5.block _ (Array.getElem?_eq_some_iff.1 hg4).1).trans hg4; have f53 := rs_frz hg5 3; have q53 := (rs_cell hg5).1)); (try go_wp2_with fail); refine hK.out _ _ ?_ (fun hHeld => ?_); (· (first | exact Kx.out _ (below_hi hq5 _ _ _ (Nat.le_refl _)) | exact Kx.out _ hq5 | exact Kx.out _ hq0)); clear hK K; (try simp only [nSO]))
  iterate 4 ((refine np_n ?_ ?_ ?_; rotate_left 1; (· (intro w hSw; (try dsimp only at hSw); go_simp; all_goals with_reducible rfl)); (try simp only [nSO])))
  (refine np_step (i := 11) rfl (by kernel_rfl) (fun K hK => ?_); rw [if_pos (by rfl)]; go_simp; (skip); (try go_wp2_with fail); refine hK.out _ _ ?_ (fun hHeld => ?_); (· (first | exact Kx.out _ (below_hi hq5 _ _ _ (Nat.le_refl _)) | exact Kx.out _ hq5 | exact Kx.out _ hq0)); clear hK K; (try simp only [nSO]))
  (refine np_n ?_ ?_ ?_; rotate_left 1; (· (intro w hSw; (try dsimp only at hSw); go_simp; all_goals with_reducible rfl)); (try simp only [nSO]))
  refine wpAnyH_done (by kernel_rfl) ?_ _
  refine NoPanic.normal ?_
  have hDX := hD.on (W' := (w5.setCell ⟨W3.heap.size, 3, none⟩ (.int .i64 0))) (below_hi hq5 W3.heap.size 3 (.int .i64 0) (Nat.le_refl _))
  go_wp2_with (go_at_call 56; refine (rfail_any _ _).mono ?_; rintro e v7 ⟨rfl, hb7⟩; have hD7 := hDX.on hb7; have hst := res_st hD7.hE.res rfl)
  exact ⟨rfl, _, results_cell_row rfl _ _ _ _ _ _ _ rfl (setRow_heap _ _ _ _ _ _ hD7.hE.res) Tryz.underlying36 rfl (by kernel_rfl), hD7.close hS hx _ _⟩
end Go.Proofs.YtlealeecmmpckaaGreat
