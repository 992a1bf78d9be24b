/- ModelDoes: the law returns true for every input, and leaves its arguments as they were. -/
import Derived.Test.YtlealeecmmpckaaGreatBug
import Derived.Test.YtlealeecmmpckaaGreatBxm
import Derived.Test.YtlealeecmmpckaaGreatBxe
import Derived.Test.YtlealeecmmpckaaGreatBun
import Derived.Test.YtlealeecmmpckaaGreatBul
import Derived.Test.YtlealeecmmpckaaGreatBua
import Derived.Carry
namespace Go.Proofs.YtlealeecmmpckaaGreat
set_option linter.unusedVariables false
set_option linter.unusedSimpArgs false
open Go.RowKit Go.Lib Go.Shelf
attribute [local go_sem, local simp] resF resL_len resL_ne

def DoI (w : World) (p : Option Addr) (len cp bm br : Nat) (a : Act) (wr : World) : Prop :=
  ∃ (j : Nat) (M : MM) (R : RM) (u : Nat → Value), a = { tmps := #[u 0, .slice p len cp, u 2, u 3, u 4, .pointer (some ⟨bm, 0, none⟩), .int .i64 0, .pointer (some ⟨br, 0, none⟩), .int .i64 0, .int .i64 j, u 10, u 11, u 12, u 13, u 14, u 15, u 16, u 17, u 18, u 19, u 20, u 21, u 22, u 23, u 24, u 25, u 26, u 27, u 28, u 29, u 30, u 31, u 32, u 33, u 34, u 35, u 36, u 37, u 38, u 39, u 40, u 41, u 42, u 43, u 44, u 45, u 46, u 47, u 48, u 49, u 50, u 51, u 52, u 53, u 54, u 55, u 56, u 57, u 58, u 59, u 60, u 61, u 62, u 63, u 64, u 65, u 66, u 67, u 68, u 69, u 70, u 71, u 72, u 73, u 74, u 75, u 76, u 77], defers := [] } ∧ j ≤ len ∧ Pair w wr bm M br R ∧ M.st = R.st ∧ MSok M.st j
theorem DoI.intro {w : World} {p : Option Addr} {len cp bm br : Nat} {a : Act} {wr : World} (j : Nat) (M : MM) (R : RM) (h : a = { tmps := #[a.tmps.getD 0 undef, .slice p len cp, a.tmps.getD 2 undef, a.tmps.getD 3 undef, a.tmps.getD 4 undef, .pointer (some ⟨bm, 0, none⟩), .int .i64 0, .pointer (some ⟨br, 0, none⟩), .int .i64 0, .int .i64 j, a.tmps.getD 10 undef, a.tmps.getD 11 undef, a.tmps.getD 12 undef, a.tmps.getD 13 undef, a.tmps.getD 14 undef, a.tmps.getD 15 undef, a.tmps.getD 16 undef, a.tmps.getD 17 undef, a.tmps.getD 18 undef, a.tmps.getD 19 undef, a.tmps.getD 20 undef, a.tmps.getD 21 undef, a.tmps.getD 22 undef, a.tmps.getD 23 undef, a.tmps.getD 24 undef, a.tmps.getD 25 undef, a.tmps.getD 26 undef, a.tmps.getD 27 undef, a.tmps.getD 28 undef, a.tmps.getD 29 undef, a.tmps.getD 30 undef, a.tmps.getD 31 undef, a.tmps.getD 32 undef, a.tmps.getD 33 undef, a.tmps.getD 34 undef, a.tmps.getD 35 undef, a.tmps.getD 36 undef, a.tmps.getD 37 undef, a.tmps.getD 38 undef, a.tmps.getD 39 undef, a.tmps.getD 40 undef, a.tmps.getD 41 undef, a.tmps.getD 42 undef, a.tmps.getD 43 undef, a.tmps.getD 44 undef, a.tmps.getD 45 undef, a.tmps.getD 46 undef, a.tmps.getD 47 undef, a.tmps.getD 48 undef, a.tmps.getD 49 undef, a.tmps.getD 50 undef, a.tmps.getD 51 undef, a.tmps.getD 52 undef, a.tmps.getD 53 undef, a.tmps.getD 54 undef, a.tmps.getD 55 undef, a.tmps.getD 56 undef, a.tmps.getD 57 undef, a.tmps.getD 58 undef, a.tmps.getD 59 undef, a.tmps.getD 60 undef, a.tmps.getD 61 undef, a.tmps.getD 62 undef, a.tmps.getD 63 undef, a.tmps.getD 64 undef, a.tmps.getD 65 undef, a.tmps.getD 66 undef, a.tmps.getD 67 undef, a.tmps.getD 68 undef, a.tmps.getD 69 undef, a.tmps.getD 70 undef, a.tmps.getD 71 undef, a.tmps.getD 72 undef, a.tmps.getD 73 undef, a.tmps.getD 74 undef, a.tmps.getD 75 undef, a.tmps.getD 76 undef, a.tmps.getD 77 undef], defers := [] })
    (hj : j ≤ len) (hP : Pair w wr bm M br R) (hst : M.st = R.st) (hok : MSok M.st j) : DoI w p len cp bm br a wr := ⟨j, M, R, fun i => a.tmps.getD i undef, h, hj, hP, hst, hok⟩
/-- Both constructors. -/
theorem new_m {c : CfgV} (he : cfgE c = 0) (W : World) : Calls Tryz.prog 20 #[c.v] W fun e w' => ∃ b M, e = .returned (.tuple #[.pointer (some ⟨b, 0, none⟩), .int .i64 0]) ∧ MdAt w' b M ∧ M.st = newS c ∧ Below W.heap.size W w' ∧ ∀ k, M.fp b k → W.heap.size ≤ k :=
  (new_any c W).mono fun e w' h => h.elim (fun h => absurd he h.1) fun ⟨_, h⟩ => h
theorem new_r {c : CfgV} (he : cfgE c = 0) (W : World) : Calls Tryz.prog 21 #[c.v] W fun e w' => ∃ b M, e = .returned (.tuple #[.pointer (some ⟨b, 0, none⟩), .int .i64 0]) ∧ RdAt w' b M ∧ M.st = newS c ∧ Below W.heap.size W w' ∧ ∀ k, M.fp b k → W.heap.size ≤ k :=
  (rnew_any c W).mono fun e w' h => h.elim (fun h => absurd he h.1) fun ⟨_, h⟩ => h
theorem new_m0 {c : CfgV} (he : cfgE c ≠ 0) (W : World) : Calls Tryz.prog 20 #[c.v] W fun e w' => e = .returned (.tuple #[.pointer none, .int .i64 (cfgE c)]) ∧ Below W.heap.size W w' :=
  (new_any c W).mono fun e w' h => h.elim (fun h => ⟨h.2.1, h.2.2⟩) fun h => absurd h.1 he
theorem new_r0 {c : CfgV} (he : cfgE c ≠ 0) (W : World) : Calls Tryz.prog 21 #[c.v] W fun e w' => e = .returned (.tuple #[.pointer none, .int .i64 (cfgE c)]) ∧ Below W.heap.size W w' :=
  (rnew_any c W).mono fun e w' h => h.elim (fun h => ⟨h.2.1, h.2.2⟩) fun h => absurd h.1 he
set_option maxRecDepth 100000 in
set_option maxHeartbeats 4000000 in
theorem does_long (c : CfgV) (p : Option Addr) (cp : Nat) (l : List ActV) (w : World) (hl : 2000 < c.text.size ∨ 60 < l.length) :
    Calls Tryz.prog 6 #[c.v, .slice p l.length cp] w fun e w' => e = .returned (.bool true) ∧ Below w.heap.size w w' := by
  have hB0 := (Below.refl w.heap.size w).alloc (Nat.le_refl _) (.cells #[.int .i64 c.slots, .int .u64 c.gens, .int .i64 c.clients, .int .i64 c.readers, .int .i64 c.queue, .int .i64 c.batch, .int .i64 c.feed, .string c.text] 24)
  have hlo := fun W => long_any c l.length W
  rw [show (decide (2000 < c.text.size) || decide (60 < l.length)) = true by simp; omega] at hlo
  unfold CfgV.v at *
  go_enter Tryz.func6, Tryz.ntmps6
  go_wp2_with (first | (go_at_call 13; refine (known_any _).mono ?_; rintro e w2 ⟨rfl, hb2⟩; have hB2 := hB1.trans (hb2.mono hB1.size)) | (go_at_call 12; refine (hlo _).mono ?_; rintro e w1 ⟨rfl, hb1⟩; have hB1 := hB0.trans (hb1.mono hB0.size)))
  go_returns
  exact ⟨rfl, hB2⟩
set_option maxRecDepth 100000 in
set_option maxHeartbeats 4000000 in
theorem does_none (c : CfgV) (p : Option Addr) (cp : Nat) (l : List ActV) (w : World) (h1 : c.text.size ≤ 2000) (h2 : l.length ≤ 60) (hc : cfgE c ≠ 0) :
    Calls Tryz.prog 6 #[c.v, .slice p l.length cp] w fun e w' => e = .returned (.bool true) ∧ Below w.heap.size w w' := by
  have hB0 := (Below.refl w.heap.size w).alloc (Nat.le_refl _) (.cells #[.int .i64 c.slots, .int .u64 c.gens, .int .i64 c.clients, .int .i64 c.readers, .int .i64 c.queue, .int .i64 c.batch, .int .i64 c.feed, .string c.text] 24)
  have hz0 := heap_alloc_new w (.cells #[.int .i64 c.slots, .int .u64 c.gens, .int .i64 c.clients, .int .i64 c.readers, .int .i64 c.queue, .int .i64 c.batch, .int .i64 c.feed, .string c.text] 24)
  have hlo := fun W => long_any c l.length W
  rw [show (decide (2000 < c.text.size) || decide (60 < l.length)) = false by simp; omega] at hlo
  have hm2 := fun W => new_m0 hc W
  have hr2 := fun W => new_r0 hc W
  generalize cfgE c = E at *
  clear hc h1 h2
  unfold CfgV.v at *
  obtain ⟨x, hx⟩ : ∃ x, decide (0 < l.length) = x := ⟨_, rfl⟩
  cases x
  all_goals
    go_enter Tryz.func6, Tryz.ntmps6
    go_wp2_with (first | (go_at_call 21; refine (hr2 _).mono ?_; rintro e w3 ⟨rfl, hb3⟩; have hB3 := hB2.trans (hb3.mono hB2.size)) | (go_at_call 20; refine (hm2 _).mono ?_; rintro e w2 ⟨rfl, hb2⟩; have hB2 := hB1.trans (hb2.mono hB1.size); have hz2 := (hb2.block _ (Array.getElem?_eq_some_iff.1 hz1).1).trans hz1; obtain ⟨y0, y1, y2, y3, y4, y5, y6, y7⟩ := blk8 hz2) | (go_at_call 12; refine (hlo _).mono ?_; rintro e w1 ⟨rfl, hb1⟩; have hB1 := hB0.trans (hb1.mono hB0.size); have hz1 := (hb1.block _ (Array.getElem?_eq_some_iff.1 hz0).1).trans hz0; obtain ⟨z0, z1, z2, z3, z4, z5, z6, z7⟩ := blk8 hz1))
    refine wp_loop_rounds 1 ?_
    rw [rounds_succ]
    go_wp2_with (go_at_call 13; refine (known_any _).mono ?_; rintro e w4 ⟨rfl, hb4⟩; have hB4 := hB3.trans (hb4.mono hB3.size))
    go_returns
    exact ⟨rfl, hB4⟩
set_option maxRecDepth 100000 in
set_option maxHeartbeats 8000000 in
theorem does_main (c : CfgV) (p : Option Addr) (cp : Nat) (l : List ActV) (w : World) (hA : ArgActs w p l) (hc : cfgE c = 0) (h1 : c.text.size ≤ 2000) (h2 : l.length ≤ 60) :
    Calls Tryz.prog 6 #[c.v, .slice p l.length cp] w fun e w' => e = .returned (.bool true) ∧ Below w.heap.size w w' := by
  have hB0 := (Below.refl w.heap.size w).alloc (Nat.le_refl _) (.cells #[.int .i64 c.slots, .int .u64 c.gens, .int .i64 c.clients, .int .i64 c.readers, .int .i64 c.queue, .int .i64 c.batch, .int .i64 c.feed, .string c.text] 24)
  have hz0 := heap_alloc_new w (.cells #[.int .i64 c.slots, .int .u64 c.gens, .int .i64 c.clients, .int .i64 c.readers, .int .i64 c.queue, .int .i64 c.batch, .int .i64 c.feed, .string c.text] 24)
  have hlo := fun W => long_any c l.length W
  rw [show (decide (2000 < c.text.size) || decide (60 < l.length)) = false by simp; omega] at hlo
  have hm2 := fun W => new_m hc W
  have hr2 := fun W => new_r hc W
  have hok0 := newS_ok hc
  have HOK0 := Lib.hid hok0
  clear hok0
  generalize newS c = st0 at *
  clear hc h1
  unfold CfgV.v at *
  go_enter Tryz.func6, Tryz.ntmps6
  go_wp2_with (first | (go_at_call 21; refine (hr2 _).mono ?_; rintro e w3 ⟨br, R1, rfl, hR1, hs2, hb3, ho2⟩; have HS2 := Lib.hid hs2; clear hs2; have hB3 := hB2.trans (hb3.mono hB2.size)) | (go_at_call 20; refine (hm2 _).mono ?_; rintro e w2 ⟨bm, M1, rfl, hM1, hs1, hb2, ho1⟩; have HS1 := Lib.hid hs1; clear hs1; have hB2 := hB1.trans (hb2.mono hB1.size); have hz2 := (hb2.block _ (Array.getElem?_eq_some_iff.1 hz1).1).trans hz1; obtain ⟨y0, y1, y2, y3, y4, y5, y6, y7⟩ := blk8 hz2) | (go_at_call 12; refine (hlo _).mono ?_; rintro e w1 ⟨rfl, hb1⟩; have hB1 := hB0.trans (hb1.mono hB0.size); have hz1 := (hb1.block _ (Array.getElem?_eq_some_iff.1 hz0).1).trans hz0; obtain ⟨z0, z1, z2, z3, z4, z5, z6, z7⟩ := blk8 hz1))
  have hP1 : Pair w w3 bm M1 br R1 := ⟨⟨hM1.below hb3, fun k hk => Nat.le_trans hB1.size (ho1 k hk), hB3⟩, ⟨hR1, fun k hk => Nat.le_trans hB2.size (ho2 k hk), hB3⟩⟩
  refine wp_loop (DoI w p l.length cp bm br) (fun a _ => l.length - (intOf (a.tmps.getD 9 undef)).toNat) ?_ ?_
  · exact DoI.intro 0 M1 R1 rfl (by omega) hP1 (HS1.out.trans HS2.out.symm) (by rw [HS1.out]; exact HOK0.out)
  · clear hP1 hM1 hR1 hB0 hB1 hB2 hB3 hz0 hz1 hz2 hlo hm2 hr2 hb1 hb2 hb3 ho1 ho2 z0 z1 z2 z3 z4 z5 z6 z7 y0 y1 y2 y3 y4 y5 y6 y7 HS1 HS2 HOK0
    rintro a0 wr ⟨j, M, R, u, rfl, hj, hP, hst, hok⟩
    by_cases hlt : j < l.length
    · have hx := List.getElem?_eq_getElem hlt
      generalize l[j] = a at hx
      obtain ⟨bl, off, rfl, hl63, hcl8⟩ := hA.get hx
      have hqi := hA.ok a (List.mem_of_getElem? hx)
      have hPd := hP.on ((Below.refl _ _).drew : Below wr.heap.size wr wr.drew)
      obtain ⟨r5, s5, hR5⟩ : ∃ r s, doS M.st a.client a.q = (r, s) := ⟨_, _, rfl⟩
      have hok4 := doS_ok (c := a.client) hok hqi
      have hDM : ∀ W, Pair w W bm M br R → Calls Tryz.prog 16 #[.pointer (some ⟨bm, 0, none⟩), .int .i64 a.client, .agg #[.int .u8 a.q.kind, .int .i64 a.q.slot, .int .i64 a.q.at_, .int .i64 a.q.n, .int .u32 a.q.id, .int .u8 a.q.grav, .string a.q.text]] W fun e W' => ∃ M', e = .returned (.agg (resL r5).toArray) ∧ Pair w W' bm M' br R ∧ M'.st = s5 := fun W hW => (hW.doM hok (by omega) hqi).mono fun e W' ⟨M', he, hP', hs', _⟩ => ⟨M', by rw [he, hR5], hP', by rw [hs', hR5]⟩
      have hDR : ∀ W M', Pair w W bm M' br R → Calls Tryz.prog 23 #[.pointer (some ⟨br, 0, none⟩), .int .i64 a.client, .agg #[.int .u8 a.q.kind, .int .i64 a.q.slot, .int .i64 a.q.at_, .int .i64 a.q.n, .int .u32 a.q.id, .int .u8 a.q.grav, .string a.q.text]] W fun e W' => ∃ R', e = .returned (.agg (resL r5).toArray) ∧ Pair w W' bm M' br R' ∧ R'.st = s5 := fun W M' hW => (hW.doR (K := j) (by rw [← hst]; exact hok) (by omega) hqi).mono fun e W' ⟨R', he, hP', hs', _⟩ => ⟨R', by rw [he, ← hst, hR5], hP', by rw [hs', ← hst, hR5]⟩
      rw [hR5] at hok4
      dsimp only at hok4
      have HDM := Lib.hid hDM
      have HDR := Lib.hid hDR
      have HOK := Lib.hid hok4
      have Kx := Lib.hid hcl8
      clear hcl8 hDM hDR hok4 hR5 hst hok hqi hP
      go_wp2
      refine wp_region_noPanic ?_
      refine wp_region_held_drew (S := fun W => W.cell? ⟨bl, off + j * 8, none⟩ = some (.int .i64 a.client) ∧ W.cell? ⟨bl, off + j * 8 + 1, none⟩ = some (.int .u8 a.q.kind) ∧ W.cell? ⟨bl, off + j * 8 + 2, none⟩ = some (.int .i64 a.q.slot) ∧ W.cell? ⟨bl, off + j * 8 + 3, none⟩ = some (.int .i64 a.q.at_) ∧ W.cell? ⟨bl, off + j * 8 + 4, none⟩ = some (.int .i64 a.q.n) ∧ W.cell? ⟨bl, off + j * 8 + 5, none⟩ = some (.int .u32 a.q.id) ∧ W.cell? ⟨bl, off + j * 8 + 6, none⟩ = some (.int .u8 a.q.grav) ∧ W.cell? ⟨bl, off + j * 8 + 7, none⟩ = some (.string a.q.text)) (by kernel_rfl) ?_ (fun hHeld => ?_)
      · first | exact Kx.out _ hP4.m.bl | exact Kx.out _ hP3.m.bl | exact Kx.out _ hP2.m.bl | exact Kx.out _ hP1.m.bl | exact Kx.out _ hPd.m.bl
      iterate 11 (first | (refine np_sn ?_; (try simp only [nSO])) | ((first | refine np_n ?_ ?_ ?_ | refine np_t 0 ?_ ?_ ?_); rotate_left 1; (· (intro w hSw; (try dsimp only at hSw); go_simp; all_goals with_reducible rfl)); (try simp only [nSO])))
      first | (refine np_s 12 ?_; (try simp only [nSO])) | (refine np_t 12 ?_ ?_ ?_; rotate_left 1; (· (intro w hSw; (try dsimp only at hSw); go_simp; all_goals with_reducible rfl)); (try simp only [nSO]))
      iterate 10 (first | (refine np_sn ?_; (try simp only [nSO])) | (refine np_n ?_ ?_ ?_; rotate_left 1; (· (intro w hSw; (try dsimp only at hSw); go_simp; all_goals with_reducible rfl)); (try simp only [nSO])))
      first | (refine np_s 11 ?_; (try simp only [nSO])) | (refine np_step (i := 11) rfl (by kernel_rfl) (fun K hK => ?_); rw [if_pos (by rfl)]; go_simp; ((go_at_call 16; refine (HDM.out _ hPd).mono ?_; rintro e v1 ⟨M4, rfl, hP1, hst4⟩; have HS4 := Lib.hid hst4; clear hst4)); (try go_wp2_with fail); refine hK.out _ _ ?_ (fun hHeld => ?_); (· (first | exact Kx.out _ hP4.m.bl | exact Kx.out _ hP3.m.bl | exact Kx.out _ hP2.m.bl | exact Kx.out _ hP1.m.bl | exact Kx.out _ hPd.m.bl)); clear hK K; (try simp only [nSO]))
      first | (refine np_s 23 ?_; (try simp only [nSO])) | (refine np_step (i := 23) rfl (by kernel_rfl) (fun K hK => ?_); rw [if_pos (by rfl)]; go_simp; ((go_at_call 23; refine (HDR.out _ _ hP1).mono ?_; rintro e v2 ⟨R4, rfl, hP2, hst5⟩; have HS5 := Lib.hid hst5; clear hst5)); (try go_wp2_with fail); refine hK.out _ _ ?_ (fun hHeld => ?_); (· (first | exact Kx.out _ hP4.m.bl | exact Kx.out _ hP3.m.bl | exact Kx.out _ hP2.m.bl | exact Kx.out _ hP1.m.bl | exact Kx.out _ hPd.m.bl)); clear hK K; (try simp only [nSO]))
      first | (refine np_s 24 ?_; (try simp only [nSO])) | (refine np_step (i := 24) rfl (by kernel_rfl) (fun K hK => ?_); rw [if_pos (by rfl)]; go_simp; ((go_at_call 19; refine (rsame_self r5 _).mono ?_; rintro e v3 ⟨rfl, hb3⟩; have hP3 := hP2.on hb3)); (try go_wp2_with fail); refine hK.out _ _ ?_ (fun hHeld => ?_); (· (first | exact Kx.out _ hP4.m.bl | exact Kx.out _ hP3.m.bl | exact Kx.out _ hP2.m.bl | exact Kx.out _ hP1.m.bl | exact Kx.out _ hPd.m.bl)); clear hK K; (try simp only [nSO]))
      iterate 4 (first | (refine np_sn ?_; (try simp only [nSO])) | (refine np_n ?_ ?_ ?_; rotate_left 1; (· (intro w hSw; (try dsimp only at hSw); go_simp; all_goals with_reducible rfl)); (try simp only [nSO])))
      first | (refine np_s 29 ?_; (try simp only [nSO])) | (refine np_step (i := 29) rfl (by kernel_rfl) (fun K hK => ?_); rw [if_pos (by rfl)]; go_simp; ((go_at_call 22; refine (rsame_models bm br M4 R4 _ hP3.both (HS4.out.trans HS5.out.symm) (by rw [HS4.out]; exact HOK.out)).mono ?_; rintro e v4 ⟨rfl, hb4⟩; have hP4 := hP3.on hb4)); (try go_wp2_with fail); refine hK.out _ _ ?_ (fun hHeld => ?_); (· (first | exact Kx.out _ hP4.m.bl | exact Kx.out _ hP3.m.bl | exact Kx.out _ hP2.m.bl | exact Kx.out _ hP1.m.bl | exact Kx.out _ hPd.m.bl)); clear hK K; (try simp only [nSO]))
      iterate 2 (first | (refine np_sn ?_; (try simp only [nSO])) | (refine np_n ?_ ?_ ?_; rotate_left 1; (· (intro w hSw; (try dsimp only at hSw); go_simp; all_goals with_reducible rfl)); (try simp only [nSO])))
      refine wpAnyH_done (by kernel_rfl) ?_ _
      refine NoPanic.normal ?_
      go_wp2
      exact ⟨DoI.intro (j + 1) M4 R4 rfl (by omega) hP4 (HS4.out.trans HS5.out.symm) (by rw [HS4.out]; exact HOK.out), by simp [intOf]; omega⟩
    · obtain rfl : j = l.length := by omega
      have hB := hP.m.bl
      clear hP hst hok
      go_wp2_with (go_at_call 13; refine (known_any _).mono ?_; rintro e w4 ⟨rfl, hb4⟩)
      go_returns
      exact ⟨rfl, hB.trans (hb4.mono hB.size)⟩
theorem walkModelDoes (c : CfgV) (p : Option Addr) (cp : Nat) (l : List ActV) (w : World) (hA : ArgActs w p l) :
    Calls Tryz.prog 6 #[c.v, .slice p l.length cp] w fun e w' => e = .returned (.bool true) ∧ Below w.heap.size w w' := by
  by_cases hl : 2000 < c.text.size ∨ 60 < l.length
  · exact does_long c p cp l w hl
  by_cases hc : cfgE c = 0
  · exact does_main c p cp l w hA hc (by omega) (by omega)
  · exact does_none c p cp l w (by omega) (by omega) hc
end Go.Proofs.YtlealeecmmpckaaGreat
namespace Go.Proofs.YtlealeecmmpckaaGreat.modelDoes
set_option linter.unusedVariables false
set_option linter.unusedSimpArgs false
open Go.ChangeShapes Go.WideShapes Go.ChangeAt Go.RowKit
open Go.ChangeMaps (open_string shut_string)
set_option linter.unusedVariables false

set_option maxRecDepth 100000 in
theorem lifted (os : Os) (started : os.Started) (H : Type) (enc : TypeId × Value → H) :
    ReturnsInHanded {} Tryz.checked os 6 .any (Rows.modelDoesSpec.pre6 enc Tryz.prog Tryz.f6 Rows.modelDoesRow.domain false) (Rows.modelDoesSpec.post enc Tryz.prog Tryz.f6 false true false false) := by
  refine returnsInHanded_of_change_sized (C := Tryz.checked) own started (by kernel_rfl) Tryz.func6
    (ChangeSpec.witness6 (enc := enc) (C := Tryz.checked) false ⟨#[], #[.agg #[.int .i64 0, .int .u64 0, .int .i64 0, .int .i64 0, .int .i64 0, .int .i64 0, .int .i64 0, .string ⟨#[]⟩], .slice none 0 0], []⟩ 8 (by kernel_rfl) (by kernel_rfl) (by kernel_rfl) (by kernel_rfl)) ?_
  intro W base args ds gs before hval0 hW hcnd hsz0 _
  have hval : ∀ (j : Nat) t v, Tryz.f6.params[j]? = some t → args[j]? = some v → Value.okWide Tryz.prog W .any base t v := hval0
  have hW' := hW
  obtain ⟨p, q, hA0, hV, rfl, hfz, hnd⟩ := hW
  have hA : DataW.TrodAll enc Tryz.prog W 0 (fun _ => true) true Tryz.f6.params.toList args.toList ds p := hA0
  rw [Tryz.params6] at hA hval
  obtain ⟨v0, vs0, d0, ds0, p0, q0, hargs, rfl, rfl, h0, r0⟩ := trodAll_cons hA
  obtain ⟨v1, vs1, d1, ds1, p1, q1, rfl, rfl, rfl, h1, r1⟩ := trodAll_cons r0
  obtain ⟨rfl, rfl, rfl⟩ := trodAll_nil r1
  obtain rfl : args = #[v0, v1] := by cases args; simp_all
  obtain ⟨rfl, rfl⟩ := trodVars_none hV
  obtain ⟨c0, rfl⟩ := open_cfg (hval 0 24 v0 rfl rfl) h0
  obtain ⟨q1, c1, l1, rfl, w1⟩ := open_acts (hval 1 25 v1 rfl rfl) h1
  clear hA0 hval0
  (try simp only [List.append_nil, List.nil_append] at hW')
  refine (walkModelDoes c0 q1 c1 l1 W w1).mono fun e W' ⟨he, hg⟩ => ?_
  subst he
  have hlt0 : ∀ x ∈ p0, x.block < W.heap.size := fun x hx => hW'.lt x (by simp [hx])
  have hlt1 : ∀ x ∈ p1, x.block < W.heap.size := fun x hx => hW'.lt x (by simp [hx])
  exact ⟨_, rfl, post_of_below (pa := (p0 ++ (p1 ++ []))) (pv := []) hW' (fun _ _ _ => (trodAll_cons_mk (shut_bool Tryz.underlying4 _) trodAll_mk0)) (fun sp hsp => (trodAll_cons_mk (WideElems.Trod_stays (by kernel_rfl) (by kernel_rfl) (of_decide_eq_true (by kernel_rfl)) h0 (fun x hx => hg.same (hlt0 x hx)) (fun x hx => hsp x (by simp [hx]))) (trodAll_cons_mk (WideElems.Trod_stays (by kernel_rfl) (by kernel_rfl) (of_decide_eq_true (by kernel_rfl)) h1 (fun x hx => hg.same (hlt1 x hx)) (fun x hx => hsp x (by simp [hx]))) trodAll_mk0))) (fun _ _ => rfl) (by simp)
    hg (ok_one (by kernel_rfl) rfl (okWide_bool_mk Tryz.underlying4 _))⟩

theorem proved : Rows.ModelDoesSaid :=
  OpenClaim.holds_of_wide 6 Tryz.f6 rfl rfl rfl rfl rfl rfl rfl ⟨rfl, rfl, rfl, rfl, rfl⟩ rfl rfl rfl rfl rfl (by kernel_rfl) Tryz.func6 (by kernel_rfl)
    (of_decide_eq_true (by kernel_rfl)) (by unfold Func.isWrapper; first | (rw [if_pos (by decide +kernel)]; kernel_rfl) | (rw [if_neg (by decide +kernel)]; exact ⟨rfl, rfl⟩))
    (fun os started H enc _ => lifted os started H enc)
#print axioms proved
end Go.Proofs.YtlealeecmmpckaaGreat.modelDoes
