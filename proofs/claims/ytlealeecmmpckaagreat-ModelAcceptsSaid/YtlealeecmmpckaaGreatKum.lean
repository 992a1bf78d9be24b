/- The texts MdK MdBi MdBj MdCh. -/
import Derived.Test.YtlealeecmmpckaaGreatKul
import Derived.Test.YtlealeecmmpckaaGreatKug
import Derived.Test.YtlealeecmmpckaaGreatKuh
import Derived.Laws.AppendOwn
namespace Go.Proofs.YtlealeecmmpckaaGreat
set_option linter.unusedVariables false
set_option linter.unusedSimpArgs false
set_option maxRecDepth 100000
set_option maxHeartbeats 8000000
def bA : ByteArray := ⟨#[97, 98]⟩
def bX : ByteArray := ⟨#[97, 120, 121, 98]⟩
def kC : CfgV := ⟨1, 1, 1, 1, 1, 1, 1, ⟨#[97, 98]⟩⟩
def kq1 : OpV := ⟨3, 0, 1, 0, 7, 1, ⟨#[]⟩⟩
def kq2 : OpV := ⟨5, 0, 0, 0, 0, 0, ⟨#[]⟩⟩
def kq4 : OpV := ⟨1, 0, 1, 0, 0, 0, ⟨#[120, 121]⟩⟩
def kq5 : OpV := ⟨7, 0, 0, 2, 0, 0, ⟨#[]⟩⟩
def kq6 : OpV := ⟨10, 0, 0, 0, 7, 0, ⟨#[]⟩⟩
def kq7 : OpV := ⟨12, 0, 0, 5, 0, 0, ⟨#[]⟩⟩
def kq8 : OpV := ⟨15, 0, 0, 0, 0, 0, ⟨#[]⟩⟩
def kqz : OpV := ⟨1, 0, 9, 0, 0, 0, ⟨#[122]⟩⟩
def kq9 : OpV := ⟨16, 0, 0, 0, 0, 0, ⟨#[]⟩⟩
def kq10 : OpV := ⟨2, 0, 0, 1, 0, 0, ⟨#[]⟩⟩
def kq11 : OpV := ⟨13, 0, 0, 0, 0, 0, ⟨#[]⟩⟩
def kS (t : ByteArray) (n : Int) (m : List MkV) (cl : Bool) (s : SnV) : MS := ⟨t, m, n, cl, 1, [⟨false, [s]⟩]⟩
def ks0 : MS := kS bA 0 [] false zeroSn
def ks1 : MS := kS bA 1 [⟨7, 1, 1⟩] false zeroSn
def ks2 : MS := kS bA 1 [⟨7, 1, 1⟩] false ⟨true, bA, [⟨7, 1, 1⟩], 0⟩
def ks4 : MS := kS bX 2 [⟨7, 3, 1⟩] false ⟨true, bA, [⟨7, 1, 1⟩], 0⟩
def ks7 : MS := kS bX 2 [⟨7, 3, 1⟩] false ⟨true, bA, [⟨7, 1, 1⟩], 2⟩
def ks9 : MS := kS bX 2 [⟨7, 3, 1⟩] true ⟨true, bA, [⟨7, 1, 1⟩], 2⟩
def ks11 : MS := kS bX 2 [⟨7, 3, 1⟩] true zeroSn
theorem ke0 : cfgE kC = 0 := by decide +kernel
theorem kn0 : newS kC = ks0 := rfl
theorem k1 : doS ks0 0 kq1 = ({ rev := 1 }, ks1) := rfl
theorem k2 : doS ks1 0 kq2 = ({ rev := 1 }, ks2) := rfl
theorem k3 : doS ks2 0 kq2 = (failR 15, ks2) := rfl
theorem k4 : doS ks2 0 kq4 = ({ rev := 2 }, ks4) := rfl
theorem k5 : doS ks4 0 kq5 = ({ text := ⟨#[97, 98]⟩ }, ks4) := rfl
theorem k6 : doS ks4 0 kq6 = ({ at_ := 1, grav := 1 }, ks4) := rfl
theorem k7 : doS ks4 0 kq7 = ({ text := ⟨#[97, 98]⟩, at_ := 2 }, ks7) := rfl
theorem k8 : doS ks7 0 kq8 = (failR 19, ks7) := rfl
theorem kz : doS ks7 0 kqz = (failR 3, ks7) := rfl
theorem k9 : doS ks7 0 kq9 = ({}, ks9) := rfl
theorem k10 : doS ks9 0 kq10 = (failR 13, ks9) := rfl
theorem k11 : doS ks9 0 kq11 = ({}, ks11) := rfl
theorem k12 : doS ks11 1 kq2 = (failR 3, ks11) := rfl
theorem ki1 : OpIn kq1 := ⟨by decide, by decide, by decide, by decide, by decide, by decide, by decide, by decide⟩
theorem ki2 : OpIn kq2 := ⟨by decide, by decide, by decide, by decide, by decide, by decide, by decide, by decide⟩
theorem ki4 : OpIn kq4 := ⟨by decide, by decide, by decide, by decide, by decide, by decide, by decide, by decide⟩
theorem ki5 : OpIn kq5 := ⟨by decide, by decide, by decide, by decide, by decide, by decide, by decide, by decide⟩
theorem ki6 : OpIn kq6 := ⟨by decide, by decide, by decide, by decide, by decide, by decide, by decide, by decide⟩
theorem ki7 : OpIn kq7 := ⟨by decide, by decide, by decide, by decide, by decide, by decide, by decide, by decide⟩
theorem ki8 : OpIn kq8 := ⟨by decide, by decide, by decide, by decide, by decide, by decide, by decide, by decide⟩
theorem kiz : OpIn kqz := ⟨by decide, by decide, by decide, by decide, by decide, by decide, by decide, by decide⟩
theorem ki9 : OpIn kq9 := ⟨by decide, by decide, by decide, by decide, by decide, by decide, by decide, by decide⟩
theorem ki10 : OpIn kq10 := ⟨by decide, by decide, by decide, by decide, by decide, by decide, by decide, by decide⟩
theorem ki11 : OpIn kq11 := ⟨by decide, by decide, by decide, by decide, by decide, by decide, by decide, by decide⟩
end Go.Proofs.YtlealeecmmpckaaGreat
namespace Go.Proofs.YtlealeecmmpckaaGreat
set_option linter.unusedVariables false
set_option linter.unusedSimpArgs false
set_option maxRecDepth 100000
set_option maxHeartbeats 8000000
open Go.RowKit Go.Lib Go.Shelf
attribute [local go_sem, local simp] resF resL_len resL_ne mdF mdC_len mdC_ne
theorem accept_edit (b : Nat) (c : Int) (M : MM) (q : OpV) (r : ResV) (i : ItV) (w : World) (h : MdAt w b M) (hok : MSok M.st 100000) (hi : OpIn q) (hin : i.dn ≤ maxLen) (hS : sameB r i (doS M.st c q).1 = false) (hz : statE M.st c q = 0) (hk : q.kind = 1 ∨ q.kind = 2) :
    Calls Tryz.prog 17 #[.pointer (some ⟨b, 0, none⟩), .int .i64 c, .agg #[.int .u8 q.kind, .int .i64 q.slot, .int .i64 q.at_, .int .i64 q.n, .int .u32 q.id, .int .u8 q.grav, .string q.text], .agg #[.int .i64 r.err, .int .i64 r.rev, .int .i64 r.slot, .int .i64 r.at_, .int .u8 r.grav, .string r.text, .int .i64 r.m1, .int .i64 r.m2, .int .i64 r.m3, .int .u8 i.k, .int .i64 i.f, .int .i64 i.t, .slice i.da i.dn i.dc]] w (AccPost b w (accS M.st c q r i) M) := by
  have hB0 := ((Below.refl w.heap.size w).alloc (Nat.le_refl _) (.cells #[.int .u8 q.kind, .int .i64 q.slot, .int .i64 q.at_, .int .i64 q.n, .int .u32 q.id, .int .u8 q.grav, .string q.text] 28)).alloc (by simp) (.cells #[.int .i64 r.err, .int .i64 r.rev, .int .i64 r.slot, .int .i64 r.at_, .int .u8 r.grav, .string r.text, .int .i64 r.m1, .int .i64 r.m2, .int .i64 r.m3, .int .u8 i.k, .int .i64 i.f, .int .i64 i.t, .slice i.da i.dn i.dc] 36)
  have hq0 := (heap_alloc_old (w.alloc (.cells #[.int .u8 q.kind, .int .i64 q.slot, .int .i64 q.at_, .int .i64 q.n, .int .u32 q.id, .int .u8 q.grav, .string q.text] 28)) (.cells #[.int .i64 r.err, .int .i64 r.rev, .int .i64 r.slot, .int .i64 r.at_, .int .u8 r.grav, .string r.text, .int .i64 r.m1, .int .i64 r.m2, .int .i64 r.m3, .int .u8 i.k, .int .i64 i.f, .int .i64 i.t, .slice i.da i.dn i.dc] 36) (show w.heap.size < _ by simp)).trans (heap_alloc_new w _)
  have hr0 := heap_alloc_new (w.alloc (.cells #[.int .u8 q.kind, .int .i64 q.slot, .int .i64 q.at_, .int .i64 q.n, .int .u32 q.id, .int .u8 q.grav, .string q.text] 28)) (.cells #[.int .i64 r.err, .int .i64 r.rev, .int .i64 r.slot, .int .i64 r.at_, .int .u8 r.grav, .string r.text, .int .i64 r.m1, .int .i64 r.m2, .int .i64 r.m3, .int .u8 i.k, .int .i64 i.f, .int .i64 i.t, .slice i.da i.dn i.dc] 36)
  rw [World.size_alloc] at hr0
  have HOK := Lib.hid hok
  clear hok
  have hM0 := h.below hB0
  obtain ⟨R, hR⟩ : ∃ R, doS M.st c q = R := ⟨_, rfl⟩
  have hcl : M.seats.length ≤ 8 := by have := HOK.out.clients; have h2 : M.st.seats.length = M.seats.length := List.length_map ..; omega
  rw [hR] at hS
  have hA : accS M.st c q r i = ((sameB r i (failR 6) && (R.1.err == 0)) || (sameB r i (failR 14) && !(R.1.err == 13)), M.st) := by unfold accS accB; rw [hR, if_neg (by simp [hS]), if_neg (by simpa using hz), if_neg (by omega), if_pos hk]
  rw [hA]
  have t15 : (q.kind == 15) = false := by simp; omega
  have t12 : ((q.kind == 1) = true) ∨ ((q.kind == 1) = false ∧ (q.kind == 2) = true) := by rcases hk with hk | hk <;> simp [hk]
  clear hA hk
  obtain ⟨s6, h6⟩ : ∃ x, sameB r i (failR 6) = x := ⟨_, rfl⟩
  obtain ⟨s14, h14⟩ : ∃ x, sameB r i (failR 14) = x := ⟨_, rfl⟩
  rw [h6, h14]
  obtain ⟨ez, hez⟩ : ∃ x, (R.1.err == 0) = x := ⟨_, rfl⟩
  obtain ⟨e13, he13⟩ : ∃ x, (R.1.err == 13) = x := ⟨_, rfl⟩
  rw [hez, he13]
  rcases t12 with t1 | ⟨t1, t2⟩
  all_goals
    go_enter Tryz.func17, Tryz.ntmps17
    go_wp2_with (first | (go_at_call 15; refine (copy_any b M _ 100000 hM0 HOK.out).mono ?_; rintro e w2 ⟨b2, M2, rfl, hM2, hst2, hb2, hf2⟩; have hq2 := (hb2.block _ (by simp; omega)).trans hq0; have hr2 := (hb2.block _ (by simp)).trans hr0; have hB2 := hB0.trans (hb2.mono (by simp; omega)); have hf2' : ∀ k, M2.fp b2 k → w.heap.size + 1 + 1 ≤ k := (fun k hk => by have := hf2 k hk; simpa using this); obtain ⟨y0, y1, y2, y3, y4, y5, y6⟩ := blk7 hq2; have hdo := do_any b2 c M2 q _ hM2 (by rw [hst2]; exact HOK.out) hi; rw [hst2, hR] at hdo; clear hf2 hb2) | (go_at_call 16; refine hdo.mono ?_; rintro e w3 ⟨rfl, M3, hM3, hst3, hk3, hf3⟩; have hq3 := (hk3.block _ (Array.getElem?_eq_some_iff.1 hq2).1 (fun hk => absurd (hf2' _ hk) (by omega))).trans hq2; have hr3 := (hk3.block _ (Array.getElem?_eq_some_iff.1 hr2).1 (fun hk => absurd (hf2' _ hk) (by omega))).trans hr2; have hB3 : Below w.heap.size w w3 := ⟨hk3.os.trans hB2.os, hk3.tape.trans hB2.tape, hk3.output.trans hB2.output, Nat.le_trans hB2.size hk3.size, fun k hk => (hk3.block k (by have := hB2.size; omega) (fun hf => absurd (hf2' _ hf) (by omega))).trans (hB2.block k hk)⟩; obtain ⟨W4, hs4, hw4, hb4⟩ := rnew_pkg w3 R.1; have hB4 := hB3.trans (hb4.mono hB3.size); have hq4 := (hb4.block _ (Array.getElem?_eq_some_iff.1 hq3).1).trans hq3; have hr4 := (hb4.block _ (Array.getElem?_eq_some_iff.1 hr3).1).trans hr3; obtain ⟨a0, a1, a2, a3, a4, a5, a6, a7, a8, a9, a10, a11, a12⟩ := blk13 hr4; obtain ⟨d0, d1, d2, d3, d4, d5, d6, d7, d8, d9, d10, d11, d12⟩ := blk13 hw4; have hf3' : ∀ k, M3.fp b2 k → w.heap.size ≤ k := (fun k hk => (hf3 k hk).elim (fun h => by have := hf2' k h; omega) (fun h => by have := hB2.size; omega)); clear y0 y1 y2 y3 y4 y5 y6 hdo) | (go_at_call 43; refine (same_i r R.1 i _ hin).mono ?_; rw [hS]; rintro e w5 ⟨rfl, hb5⟩; have hB5 := hB4.trans (hb5.mono hB4.size); clear a0 a1 a2 a3 a4 a5 a6 a7 a8 a9 a10 a11 a12 d0 d1 d2 d3 d4 d5 d6 d7 d8 d9 d10 d11 d12; have hq5 := (hb5.block _ (Array.getElem?_eq_some_iff.1 hq4).1).trans hq4; have hr5 := (hb5.block _ (Array.getElem?_eq_some_iff.1 hr4).1).trans hr4; have hw5 := (hb5.block _ (Array.getElem?_eq_some_iff.1 hw4).1).trans hw4; have hM5 := h.below hB5; obtain ⟨y0, y1, y2, y3, y4, y5, y6⟩ := blk7 hq5; have hsta := static_any b M c q w5 hM5 hi hcl; rw [hz] at hsta; clear hb4 hs4 hb5 hk3 hM3 hf3 hf3' hf2') | (go_at_call 41; refine hsta.mono ?_; rintro e w6 ⟨rfl, hb6⟩; have hB6 := hB5.trans (hb6.mono hB5.size); have hq6 := (hb6.block _ (Array.getElem?_eq_some_iff.1 hq5).1).trans hq5; have hr6 := (hb6.block _ (Array.getElem?_eq_some_iff.1 hr5).1).trans hr5; have hw6 := (hb6.block _ (Array.getElem?_eq_some_iff.1 hw5).1).trans hw5; have k6 := (blk7 hq6).1; clear y0 y1 y2 y3 y4 y5 y6 hsta))
    have kx : ∀ W, Below w6.heap.size w6 W → W.cell? ⟨w.heap.size + 1, 0, none⟩ = some (.int .i64 r.err) ∧ W.cell? ⟨w.heap.size + 1, 1, none⟩ = some (.int .i64 r.rev) ∧ W.cell? ⟨w.heap.size + 1, 2, none⟩ = some (.int .i64 r.slot) ∧ W.cell? ⟨w.heap.size + 1, 3, none⟩ = some (.int .i64 r.at_) ∧ W.cell? ⟨w.heap.size + 1, 4, none⟩ = some (.int .u8 r.grav) ∧ W.cell? ⟨w.heap.size + 1, 5, none⟩ = some (.string r.text) ∧ W.cell? ⟨w.heap.size + 1, 6, none⟩ = some (.int .i64 r.m1) ∧ W.cell? ⟨w.heap.size + 1, 7, none⟩ = some (.int .i64 r.m2) ∧ W.cell? ⟨w.heap.size + 1, 8, none⟩ = some (.int .i64 r.m3) ∧ W.cell? ⟨w.heap.size + 1, 9, none⟩ = some (.int .u8 i.k) ∧ W.cell? ⟨w.heap.size + 1, 10, none⟩ = some (.int .i64 i.f) ∧ W.cell? ⟨w.heap.size + 1, 11, none⟩ = some (.int .i64 i.t) ∧ W.cell? ⟨w.heap.size + 1, 12, none⟩ = some (.slice i.da i.dn i.dc) ∧ W.cell? ⟨w3.heap.size, 0, none⟩ = some (.int .i64 R.1.err) := fun W hW => by
      have h1 := (hW.block _ (Array.getElem?_eq_some_iff.1 hr6).1).trans hr6
      have h2 := (hW.block _ (Array.getElem?_eq_some_iff.1 hw6).1).trans hw6
      obtain ⟨a0, a1, a2, a3, a4, a5, a6, a7, a8, a9, a10, a11, a12⟩ := blk13 h1
      exact ⟨a0, a1, a2, a3, a4, a5, a6, a7, a8, a9, a10, a11, a12, (blk13 h2).1⟩
    have Kx := Lib.hid kx
    clear kx
    cases s6 with
    | true =>
      cases ez with
      | true =>
        have hx80 := (Below.refl w6.heap.size w6).drew
        refine wp_region_noPanic ?_
        refine wp_region_held_drew (S := fun W => W.cell? ⟨w.heap.size + 1, 0, none⟩ = some (.int .i64 r.err) ∧ W.cell? ⟨w.heap.size + 1, 1, none⟩ = some (.int .i64 r.rev) ∧ W.cell? ⟨w.heap.size + 1, 2, none⟩ = some (.int .i64 r.slot) ∧ W.cell? ⟨w.heap.size + 1, 3, none⟩ = some (.int .i64 r.at_) ∧ W.cell? ⟨w.heap.size + 1, 4, none⟩ = some (.int .u8 r.grav) ∧ W.cell? ⟨w.heap.size + 1, 5, none⟩ = some (.string r.text) ∧ W.cell? ⟨w.heap.size + 1, 6, none⟩ = some (.int .i64 r.m1) ∧ W.cell? ⟨w.heap.size + 1, 7, none⟩ = some (.int .i64 r.m2) ∧ W.cell? ⟨w.heap.size + 1, 8, none⟩ = some (.int .i64 r.m3) ∧ W.cell? ⟨w.heap.size + 1, 9, none⟩ = some (.int .u8 i.k) ∧ W.cell? ⟨w.heap.size + 1, 10, none⟩ = some (.int .i64 i.f) ∧ W.cell? ⟨w.heap.size + 1, 11, none⟩ = some (.int .i64 i.t) ∧ W.cell? ⟨w.heap.size + 1, 12, none⟩ = some (.slice i.da i.dn i.dc) ∧ W.cell? ⟨w3.heap.size, 0, none⟩ = some (.int .i64 R.1.err)) (by kernel_rfl) ?_ (fun hHeld => ?_)
        · first | exact Kx.out _ hx8 | exact Kx.out _ hx81 | exact Kx.out _ hx80
        first | (refine np_sn ?_; (try simp only [nSO])) | ((first | refine np_n ?_ ?_ ?_ | refine np_t 0 ?_ ?_ ?_); rotate_left 1; (· (intro w hSw; (try dsimp only at hSw); go_simp; all_goals with_reducible rfl)); (try simp only [nSO]))
        first | (refine np_s 1 ?_; (try simp only [nSO])) | (refine np_step (i := 1) rfl (by kernel_rfl) (fun K hK => ?_); rw [if_pos (by rfl)]; go_simp; ((go_at_call 40; refine (fail_any _ _).mono ?_; rintro e w8a ⟨rfl, hba⟩; have hx81 := hx80.trans (hba.mono hx80.size))); (try go_wp2_with fail); refine hK.out _ _ ?_ (fun hHeld => ?_); (· (first | exact Kx.out _ hx8 | exact Kx.out _ hx81 | exact Kx.out _ hx80)); clear hK K; (try simp only [nSO]))
        first | (refine np_s 2 ?_; (try simp only [nSO])) | (refine np_step (i := 2) rfl (by kernel_rfl) (fun K hK => ?_); rw [if_pos (by rfl)]; go_simp; ((go_at_call 43; refine (same_i r (failR 6) i _ hin).mono ?_; rw [h6]; rintro e w8 ⟨rfl, hbb⟩; have hx8 := hx81.trans (hbb.mono hx81.size))); (try go_wp2_with fail); refine hK.out _ _ ?_ (fun hHeld => ?_); (· (first | exact Kx.out _ hx8 | exact Kx.out _ hx81 | exact Kx.out _ hx80)); clear hK K; (try simp only [nSO]))
        iterate 5 (first | (refine np_sn ?_; (try simp only [nSO])) | (refine np_n ?_ ?_ ?_; rotate_left 1; (· (intro w hSw; (try dsimp only at hSw); go_simp; all_goals with_reducible rfl)); (try simp only [nSO])))
        refine wpAnyH_done (by kernel_rfl) ?_ _
        refine NoPanic.normal ?_
        go_wp2
        go_returns
        exact ⟨(by first | (simp; done) | (simpa using he13)), M, h.below (hB6.trans (hx8.mono hB6.size)), rfl, KeepF.of_below (hB6.trans (hx8.mono hB6.size)), fun k hk => .inl hk⟩
      | false =>
        have hx80 := (Below.refl w6.heap.size w6).drew
        refine wp_region_noPanic ?_
        refine wp_region_held_drew (S := fun W => W.cell? ⟨w.heap.size + 1, 0, none⟩ = some (.int .i64 r.err) ∧ W.cell? ⟨w.heap.size + 1, 1, none⟩ = some (.int .i64 r.rev) ∧ W.cell? ⟨w.heap.size + 1, 2, none⟩ = some (.int .i64 r.slot) ∧ W.cell? ⟨w.heap.size + 1, 3, none⟩ = some (.int .i64 r.at_) ∧ W.cell? ⟨w.heap.size + 1, 4, none⟩ = some (.int .u8 r.grav) ∧ W.cell? ⟨w.heap.size + 1, 5, none⟩ = some (.string r.text) ∧ W.cell? ⟨w.heap.size + 1, 6, none⟩ = some (.int .i64 r.m1) ∧ W.cell? ⟨w.heap.size + 1, 7, none⟩ = some (.int .i64 r.m2) ∧ W.cell? ⟨w.heap.size + 1, 8, none⟩ = some (.int .i64 r.m3) ∧ W.cell? ⟨w.heap.size + 1, 9, none⟩ = some (.int .u8 i.k) ∧ W.cell? ⟨w.heap.size + 1, 10, none⟩ = some (.int .i64 i.f) ∧ W.cell? ⟨w.heap.size + 1, 11, none⟩ = some (.int .i64 i.t) ∧ W.cell? ⟨w.heap.size + 1, 12, none⟩ = some (.slice i.da i.dn i.dc) ∧ W.cell? ⟨w3.heap.size, 0, none⟩ = some (.int .i64 R.1.err)) (by kernel_rfl) ?_ (fun hHeld => ?_)
        · first | exact Kx.out _ hx8 | exact Kx.out _ hx81 | exact Kx.out _ hx80
        first | (refine np_sn ?_; (try simp only [nSO])) | ((first | refine np_n ?_ ?_ ?_ | refine np_t 0 ?_ ?_ ?_); rotate_left 1; (· (intro w hSw; (try dsimp only at hSw); go_simp; all_goals with_reducible rfl)); (try simp only [nSO]))
        first | (refine np_s 1 ?_; (try simp only [nSO])) | (refine np_step (i := 1) rfl (by kernel_rfl) (fun K hK => ?_); rw [if_pos (by rfl)]; go_simp; ((go_at_call 40; refine (fail_any _ _).mono ?_; rintro e w8a ⟨rfl, hba⟩; have hx81 := hx80.trans (hba.mono hx80.size))); (try go_wp2_with fail); refine hK.out _ _ ?_ (fun hHeld => ?_); (· (first | exact Kx.out _ hx8 | exact Kx.out _ hx81 | exact Kx.out _ hx80)); clear hK K; (try simp only [nSO]))
        first | (refine np_s 2 ?_; (try simp only [nSO])) | (refine np_step (i := 2) rfl (by kernel_rfl) (fun K hK => ?_); rw [if_pos (by rfl)]; go_simp; ((go_at_call 43; refine (same_i r (failR 6) i _ hin).mono ?_; rw [h6]; rintro e w8 ⟨rfl, hbb⟩; have hx8 := hx81.trans (hbb.mono hx81.size))); (try go_wp2_with fail); refine hK.out _ _ ?_ (fun hHeld => ?_); (· (first | exact Kx.out _ hx8 | exact Kx.out _ hx81 | exact Kx.out _ hx80)); clear hK K; (try simp only [nSO]))
        iterate 5 (first | (refine np_sn ?_; (try simp only [nSO])) | (refine np_n ?_ ?_ ?_; rotate_left 1; (· (intro w hSw; (try dsimp only at hSw); go_simp; all_goals with_reducible rfl)); (try simp only [nSO])))
        refine wpAnyH_done (by kernel_rfl) ?_ _
        refine NoPanic.normal ?_
        go_wp2
        cases s14 with
        | true =>
          cases e13 with
          | true =>
            have hx90 := hx8.drew
            refine wp_region_noPanic ?_
            refine wp_region_held_drew (S := fun W => W.cell? ⟨w.heap.size + 1, 0, none⟩ = some (.int .i64 r.err) ∧ W.cell? ⟨w.heap.size + 1, 1, none⟩ = some (.int .i64 r.rev) ∧ W.cell? ⟨w.heap.size + 1, 2, none⟩ = some (.int .i64 r.slot) ∧ W.cell? ⟨w.heap.size + 1, 3, none⟩ = some (.int .i64 r.at_) ∧ W.cell? ⟨w.heap.size + 1, 4, none⟩ = some (.int .u8 r.grav) ∧ W.cell? ⟨w.heap.size + 1, 5, none⟩ = some (.string r.text) ∧ W.cell? ⟨w.heap.size + 1, 6, none⟩ = some (.int .i64 r.m1) ∧ W.cell? ⟨w.heap.size + 1, 7, none⟩ = some (.int .i64 r.m2) ∧ W.cell? ⟨w.heap.size + 1, 8, none⟩ = some (.int .i64 r.m3) ∧ W.cell? ⟨w.heap.size + 1, 9, none⟩ = some (.int .u8 i.k) ∧ W.cell? ⟨w.heap.size + 1, 10, none⟩ = some (.int .i64 i.f) ∧ W.cell? ⟨w.heap.size + 1, 11, none⟩ = some (.int .i64 i.t) ∧ W.cell? ⟨w.heap.size + 1, 12, none⟩ = some (.slice i.da i.dn i.dc) ∧ W.cell? ⟨w3.heap.size, 0, none⟩ = some (.int .i64 R.1.err)) (by kernel_rfl) ?_ (fun hHeld => ?_)
            · first | exact Kx.out _ hx9 | exact Kx.out _ hx91 | exact Kx.out _ hx90
            first | (refine np_sn ?_; (try simp only [nSO])) | ((first | refine np_n ?_ ?_ ?_ | refine np_t 0 ?_ ?_ ?_); rotate_left 1; (· (intro w hSw; (try dsimp only at hSw); go_simp; all_goals with_reducible rfl)); (try simp only [nSO]))
            first | (refine np_s 1 ?_; (try simp only [nSO])) | (refine np_step (i := 1) rfl (by kernel_rfl) (fun K hK => ?_); rw [if_pos (by rfl)]; go_simp; ((go_at_call 40; refine (fail_any _ _).mono ?_; rintro e w9a ⟨rfl, hba⟩; have hx91 := hx90.trans (hba.mono hx90.size))); (try go_wp2_with fail); refine hK.out _ _ ?_ (fun hHeld => ?_); (· (first | exact Kx.out _ hx9 | exact Kx.out _ hx91 | exact Kx.out _ hx90)); clear hK K; (try simp only [nSO]))
            first | (refine np_s 2 ?_; (try simp only [nSO])) | (refine np_step (i := 2) rfl (by kernel_rfl) (fun K hK => ?_); rw [if_pos (by rfl)]; go_simp; ((go_at_call 43; refine (same_i r (failR 14) i _ hin).mono ?_; rw [h14]; rintro e w9 ⟨rfl, hbb⟩; have hx9 := hx91.trans (hbb.mono hx91.size))); (try go_wp2_with fail); refine hK.out _ _ ?_ (fun hHeld => ?_); (· (first | exact Kx.out _ hx9 | exact Kx.out _ hx91 | exact Kx.out _ hx90)); clear hK K; (try simp only [nSO]))
            iterate 6 (first | (refine np_sn ?_; (try simp only [nSO])) | (refine np_n ?_ ?_ ?_; rotate_left 1; (· (intro w hSw; (try dsimp only at hSw); go_simp; all_goals with_reducible rfl)); (try simp only [nSO])))
            refine wpAnyH_done (by kernel_rfl) ?_ _
            refine NoPanic.normal ?_
            go_wp2
            go_returns
            exact ⟨(by first | (simp; done) | (simpa using he13)), M, h.below (hB6.trans (hx9.mono hB6.size)), rfl, KeepF.of_below (hB6.trans (hx9.mono hB6.size)), fun k hk => .inl hk⟩
          | false =>
            have hx90 := hx8.drew
            refine wp_region_noPanic ?_
            refine wp_region_held_drew (S := fun W => W.cell? ⟨w.heap.size + 1, 0, none⟩ = some (.int .i64 r.err) ∧ W.cell? ⟨w.heap.size + 1, 1, none⟩ = some (.int .i64 r.rev) ∧ W.cell? ⟨w.heap.size + 1, 2, none⟩ = some (.int .i64 r.slot) ∧ W.cell? ⟨w.heap.size + 1, 3, none⟩ = some (.int .i64 r.at_) ∧ W.cell? ⟨w.heap.size + 1, 4, none⟩ = some (.int .u8 r.grav) ∧ W.cell? ⟨w.heap.size + 1, 5, none⟩ = some (.string r.text) ∧ W.cell? ⟨w.heap.size + 1, 6, none⟩ = some (.int .i64 r.m1) ∧ W.cell? ⟨w.heap.size + 1, 7, none⟩ = some (.int .i64 r.m2) ∧ W.cell? ⟨w.heap.size + 1, 8, none⟩ = some (.int .i64 r.m3) ∧ W.cell? ⟨w.heap.size + 1, 9, none⟩ = some (.int .u8 i.k) ∧ W.cell? ⟨w.heap.size + 1, 10, none⟩ = some (.int .i64 i.f) ∧ W.cell? ⟨w.heap.size + 1, 11, none⟩ = some (.int .i64 i.t) ∧ W.cell? ⟨w.heap.size + 1, 12, none⟩ = some (.slice i.da i.dn i.dc) ∧ W.cell? ⟨w3.heap.size, 0, none⟩ = some (.int .i64 R.1.err)) (by kernel_rfl) ?_ (fun hHeld => ?_)
            · first | exact Kx.out _ hx9 | exact Kx.out _ hx91 | exact Kx.out _ hx90
            first | (refine np_sn ?_; (try simp only [nSO])) | ((first | refine np_n ?_ ?_ ?_ | refine np_t 0 ?_ ?_ ?_); rotate_left 1; (· (intro w hSw; (try dsimp only at hSw); go_simp; all_goals with_reducible rfl)); (try simp only [nSO]))
            first | (refine np_s 1 ?_; (try simp only [nSO])) | (refine np_step (i := 1) rfl (by kernel_rfl) (fun K hK => ?_); rw [if_pos (by rfl)]; go_simp; ((go_at_call 40; refine (fail_any _ _).mono ?_; rintro e w9a ⟨rfl, hba⟩; have hx91 := hx90.trans (hba.mono hx90.size))); (try go_wp2_with fail); refine hK.out _ _ ?_ (fun hHeld => ?_); (· (first | exact Kx.out _ hx9 | exact Kx.out _ hx91 | exact Kx.out _ hx90)); clear hK K; (try simp only [nSO]))
            first | (refine np_s 2 ?_; (try simp only [nSO])) | (refine np_step (i := 2) rfl (by kernel_rfl) (fun K hK => ?_); rw [if_pos (by rfl)]; go_simp; ((go_at_call 43; refine (same_i r (failR 14) i _ hin).mono ?_; rw [h14]; rintro e w9 ⟨rfl, hbb⟩; have hx9 := hx91.trans (hbb.mono hx91.size))); (try go_wp2_with fail); refine hK.out _ _ ?_ (fun hHeld => ?_); (· (first | exact Kx.out _ hx9 | exact Kx.out _ hx91 | exact Kx.out _ hx90)); clear hK K; (try simp only [nSO]))
            iterate 6 (first | (refine np_sn ?_; (try simp only [nSO])) | (refine np_n ?_ ?_ ?_; rotate_left 1; (· (intro w hSw; (try dsimp only at hSw); go_simp; all_goals with_reducible rfl)); (try simp only [nSO])))
            refine wpAnyH_done (by kernel_rfl) ?_ _
            refine NoPanic.normal ?_
            go_wp2
            go_returns
            exact ⟨(by first | (simp; done) | (simpa using he13)), M, h.below (hB6.trans (hx9.mono hB6.size)), rfl, KeepF.of_below (hB6.trans (hx9.mono hB6.size)), fun k hk => .inl hk⟩
        | false =>
          have hx90 := hx8.drew
          refine wp_region_noPanic ?_
          refine wp_region_held_drew (S := fun W => W.cell? ⟨w.heap.size + 1, 0, none⟩ = some (.int .i64 r.err) ∧ W.cell? ⟨w.heap.size + 1, 1, none⟩ = some (.int .i64 r.rev) ∧ W.cell? ⟨w.heap.size + 1, 2, none⟩ = some (.int .i64 r.slot) ∧ W.cell? ⟨w.heap.size + 1, 3, none⟩ = some (.int .i64 r.at_) ∧ W.cell? ⟨w.heap.size + 1, 4, none⟩ = some (.int .u8 r.grav) ∧ W.cell? ⟨w.heap.size + 1, 5, none⟩ = some (.string r.text) ∧ W.cell? ⟨w.heap.size + 1, 6, none⟩ = some (.int .i64 r.m1) ∧ W.cell? ⟨w.heap.size + 1, 7, none⟩ = some (.int .i64 r.m2) ∧ W.cell? ⟨w.heap.size + 1, 8, none⟩ = some (.int .i64 r.m3) ∧ W.cell? ⟨w.heap.size + 1, 9, none⟩ = some (.int .u8 i.k) ∧ W.cell? ⟨w.heap.size + 1, 10, none⟩ = some (.int .i64 i.f) ∧ W.cell? ⟨w.heap.size + 1, 11, none⟩ = some (.int .i64 i.t) ∧ W.cell? ⟨w.heap.size + 1, 12, none⟩ = some (.slice i.da i.dn i.dc) ∧ W.cell? ⟨w3.heap.size, 0, none⟩ = some (.int .i64 R.1.err)) (by kernel_rfl) ?_ (fun hHeld => ?_)
          · first | exact Kx.out _ hx9 | exact Kx.out _ hx91 | exact Kx.out _ hx90
          first | (refine np_sn ?_; (try simp only [nSO])) | ((first | refine np_n ?_ ?_ ?_ | refine np_t 0 ?_ ?_ ?_); rotate_left 1; (· (intro w hSw; (try dsimp only at hSw); go_simp; all_goals with_reducible rfl)); (try simp only [nSO]))
          first | (refine np_s 1 ?_; (try simp only [nSO])) | (refine np_step (i := 1) rfl (by kernel_rfl) (fun K hK => ?_); rw [if_pos (by rfl)]; go_simp; ((go_at_call 40; refine (fail_any _ _).mono ?_; rintro e w9a ⟨rfl, hba⟩; have hx91 := hx90.trans (hba.mono hx90.size))); (try go_wp2_with fail); refine hK.out _ _ ?_ (fun hHeld => ?_); (· (first | exact Kx.out _ hx9 | exact Kx.out _ hx91 | exact Kx.out _ hx90)); clear hK K; (try simp only [nSO]))
          first | (refine np_s 2 ?_; (try simp only [nSO])) | (refine np_step (i := 2) rfl (by kernel_rfl) (fun K hK => ?_); rw [if_pos (by rfl)]; go_simp; ((go_at_call 43; refine (same_i r (failR 14) i _ hin).mono ?_; rw [h14]; rintro e w9 ⟨rfl, hbb⟩; have hx9 := hx91.trans (hbb.mono hx91.size))); (try go_wp2_with fail); refine hK.out _ _ ?_ (fun hHeld => ?_); (· (first | exact Kx.out _ hx9 | exact Kx.out _ hx91 | exact Kx.out _ hx90)); clear hK K; (try simp only [nSO]))
          iterate 6 (first | (refine np_sn ?_; (try simp only [nSO])) | (refine np_n ?_ ?_ ?_; rotate_left 1; (· (intro w hSw; (try dsimp only at hSw); go_simp; all_goals with_reducible rfl)); (try simp only [nSO])))
          refine wpAnyH_done (by kernel_rfl) ?_ _
          refine NoPanic.normal ?_
          go_wp2
          go_returns
          exact ⟨(by first | (simp; done) | (simpa using he13)), M, h.below (hB6.trans (hx9.mono hB6.size)), rfl, KeepF.of_below (hB6.trans (hx9.mono hB6.size)), fun k hk => .inl hk⟩
    | false =>
      have hx80 := (Below.refl w6.heap.size w6).drew
      refine wp_region_noPanic ?_
      refine wp_region_held_drew (S := fun W => W.cell? ⟨w.heap.size + 1, 0, none⟩ = some (.int .i64 r.err) ∧ W.cell? ⟨w.heap.size + 1, 1, none⟩ = some (.int .i64 r.rev) ∧ W.cell? ⟨w.heap.size + 1, 2, none⟩ = some (.int .i64 r.slot) ∧ W.cell? ⟨w.heap.size + 1, 3, none⟩ = some (.int .i64 r.at_) ∧ W.cell? ⟨w.heap.size + 1, 4, none⟩ = some (.int .u8 r.grav) ∧ W.cell? ⟨w.heap.size + 1, 5, none⟩ = some (.string r.text) ∧ W.cell? ⟨w.heap.size + 1, 6, none⟩ = some (.int .i64 r.m1) ∧ W.cell? ⟨w.heap.size + 1, 7, none⟩ = some (.int .i64 r.m2) ∧ W.cell? ⟨w.heap.size + 1, 8, none⟩ = some (.int .i64 r.m3) ∧ W.cell? ⟨w.heap.size + 1, 9, none⟩ = some (.int .u8 i.k) ∧ W.cell? ⟨w.heap.size + 1, 10, none⟩ = some (.int .i64 i.f) ∧ W.cell? ⟨w.heap.size + 1, 11, none⟩ = some (.int .i64 i.t) ∧ W.cell? ⟨w.heap.size + 1, 12, none⟩ = some (.slice i.da i.dn i.dc) ∧ W.cell? ⟨w3.heap.size, 0, none⟩ = some (.int .i64 R.1.err)) (by kernel_rfl) ?_ (fun hHeld => ?_)
      · first | exact Kx.out _ hx8 | exact Kx.out _ hx81 | exact Kx.out _ hx80
      first | (refine np_sn ?_; (try simp only [nSO])) | ((first | refine np_n ?_ ?_ ?_ | refine np_t 0 ?_ ?_ ?_); rotate_left 1; (· (intro w hSw; (try dsimp only at hSw); go_simp; all_goals with_reducible rfl)); (try simp only [nSO]))
      first | (refine np_s 1 ?_; (try simp only [nSO])) | (refine np_step (i := 1) rfl (by kernel_rfl) (fun K hK => ?_); rw [if_pos (by rfl)]; go_simp; ((go_at_call 40; refine (fail_any _ _).mono ?_; rintro e w8a ⟨rfl, hba⟩; have hx81 := hx80.trans (hba.mono hx80.size))); (try go_wp2_with fail); refine hK.out _ _ ?_ (fun hHeld => ?_); (· (first | exact Kx.out _ hx8 | exact Kx.out _ hx81 | exact Kx.out _ hx80)); clear hK K; (try simp only [nSO]))
      first | (refine np_s 2 ?_; (try simp only [nSO])) | (refine np_step (i := 2) rfl (by kernel_rfl) (fun K hK => ?_); rw [if_pos (by rfl)]; go_simp; ((go_at_call 43; refine (same_i r (failR 6) i _ hin).mono ?_; rw [h6]; rintro e w8 ⟨rfl, hbb⟩; have hx8 := hx81.trans (hbb.mono hx81.size))); (try go_wp2_with fail); refine hK.out _ _ ?_ (fun hHeld => ?_); (· (first | exact Kx.out _ hx8 | exact Kx.out _ hx81 | exact Kx.out _ hx80)); clear hK K; (try simp only [nSO]))
      iterate 5 (first | (refine np_sn ?_; (try simp only [nSO])) | (refine np_n ?_ ?_ ?_; rotate_left 1; (· (intro w hSw; (try dsimp only at hSw); go_simp; all_goals with_reducible rfl)); (try simp only [nSO])))
      refine wpAnyH_done (by kernel_rfl) ?_ _
      refine NoPanic.normal ?_
      go_wp2
      cases s14 with
      | true =>
        cases e13 with
        | true =>
          have hx90 := hx8.drew
          refine wp_region_noPanic ?_
          refine wp_region_held_drew (S := fun W => W.cell? ⟨w.heap.size + 1, 0, none⟩ = some (.int .i64 r.err) ∧ W.cell? ⟨w.heap.size + 1, 1, none⟩ = some (.int .i64 r.rev) ∧ W.cell? ⟨w.heap.size + 1, 2, none⟩ = some (.int .i64 r.slot) ∧ W.cell? ⟨w.heap.size + 1, 3, none⟩ = some (.int .i64 r.at_) ∧ W.cell? ⟨w.heap.size + 1, 4, none⟩ = some (.int .u8 r.grav) ∧ W.cell? ⟨w.heap.size + 1, 5, none⟩ = some (.string r.text) ∧ W.cell? ⟨w.heap.size + 1, 6, none⟩ = some (.int .i64 r.m1) ∧ W.cell? ⟨w.heap.size + 1, 7, none⟩ = some (.int .i64 r.m2) ∧ W.cell? ⟨w.heap.size + 1, 8, none⟩ = some (.int .i64 r.m3) ∧ W.cell? ⟨w.heap.size + 1, 9, none⟩ = some (.int .u8 i.k) ∧ W.cell? ⟨w.heap.size + 1, 10, none⟩ = some (.int .i64 i.f) ∧ W.cell? ⟨w.heap.size + 1, 11, none⟩ = some (.int .i64 i.t) ∧ W.cell? ⟨w.heap.size + 1, 12, none⟩ = some (.slice i.da i.dn i.dc) ∧ W.cell? ⟨w3.heap.size, 0, none⟩ = some (.int .i64 R.1.err)) (by kernel_rfl) ?_ (fun hHeld => ?_)
          · first | exact Kx.out _ hx9 | exact Kx.out _ hx91 | exact Kx.out _ hx90
          first | (refine np_sn ?_; (try simp only [nSO])) | ((first | refine np_n ?_ ?_ ?_ | refine np_t 0 ?_ ?_ ?_); rotate_left 1; (· (intro w hSw; (try dsimp only at hSw); go_simp; all_goals with_reducible rfl)); (try simp only [nSO]))
          first | (refine np_s 1 ?_; (try simp only [nSO])) | (refine np_step (i := 1) rfl (by kernel_rfl) (fun K hK => ?_); rw [if_pos (by rfl)]; go_simp; ((go_at_call 40; refine (fail_any _ _).mono ?_; rintro e w9a ⟨rfl, hba⟩; have hx91 := hx90.trans (hba.mono hx90.size))); (try go_wp2_with fail); refine hK.out _ _ ?_ (fun hHeld => ?_); (· (first | exact Kx.out _ hx9 | exact Kx.out _ hx91 | exact Kx.out _ hx90)); clear hK K; (try simp only [nSO]))
          first | (refine np_s 2 ?_; (try simp only [nSO])) | (refine np_step (i := 2) rfl (by kernel_rfl) (fun K hK => ?_); rw [if_pos (by rfl)]; go_simp; ((go_at_call 43; refine (same_i r (failR 14) i _ hin).mono ?_; rw [h14]; rintro e w9 ⟨rfl, hbb⟩; have hx9 := hx91.trans (hbb.mono hx91.size))); (try go_wp2_with fail); refine hK.out _ _ ?_ (fun hHeld => ?_); (· (first | exact Kx.out _ hx9 | exact Kx.out _ hx91 | exact Kx.out _ hx90)); clear hK K; (try simp only [nSO]))
          iterate 6 (first | (refine np_sn ?_; (try simp only [nSO])) | (refine np_n ?_ ?_ ?_; rotate_left 1; (· (intro w hSw; (try dsimp only at hSw); go_simp; all_goals with_reducible rfl)); (try simp only [nSO])))
          refine wpAnyH_done (by kernel_rfl) ?_ _
          refine NoPanic.normal ?_
          go_wp2
          go_returns
          exact ⟨(by first | (simp; done) | (simpa using he13)), M, h.below (hB6.trans (hx9.mono hB6.size)), rfl, KeepF.of_below (hB6.trans (hx9.mono hB6.size)), fun k hk => .inl hk⟩
        | false =>
          have hx90 := hx8.drew
          refine wp_region_noPanic ?_
          refine wp_region_held_drew (S := fun W => W.cell? ⟨w.heap.size + 1, 0, none⟩ = some (.int .i64 r.err) ∧ W.cell? ⟨w.heap.size + 1, 1, none⟩ = some (.int .i64 r.rev) ∧ W.cell? ⟨w.heap.size + 1, 2, none⟩ = some (.int .i64 r.slot) ∧ W.cell? ⟨w.heap.size + 1, 3, none⟩ = some (.int .i64 r.at_) ∧ W.cell? ⟨w.heap.size + 1, 4, none⟩ = some (.int .u8 r.grav) ∧ W.cell? ⟨w.heap.size + 1, 5, none⟩ = some (.string r.text) ∧ W.cell? ⟨w.heap.size + 1, 6, none⟩ = some (.int .i64 r.m1) ∧ W.cell? ⟨w.heap.size + 1, 7, none⟩ = some (.int .i64 r.m2) ∧ W.cell? ⟨w.heap.size + 1, 8, none⟩ = some (.int .i64 r.m3) ∧ W.cell? ⟨w.heap.size + 1, 9, none⟩ = some (.int .u8 i.k) ∧ W.cell? ⟨w.heap.size + 1, 10, none⟩ = some (.int .i64 i.f) ∧ W.cell? ⟨w.heap.size + 1, 11, none⟩ = some (.int .i64 i.t) ∧ W.cell? ⟨w.heap.size + 1, 12, none⟩ = some (.slice i.da i.dn i.dc) ∧ W.cell? ⟨w3.heap.size, 0, none⟩ = some (.int .i64 R.1.err)) (by kernel_rfl) ?_ (fun hHeld => ?_)
          · first | exact Kx.out _ hx9 | exact Kx.out _ hx91 | exact Kx.out _ hx90
          first | (refine np_sn ?_; (try simp only [nSO])) | ((first | refine np_n ?_ ?_ ?_ | refine np_t 0 ?_ ?_ ?_); rotate_left 1; (· (intro w hSw; (try dsimp only at hSw); go_simp; all_goals with_reducible rfl)); (try simp only [nSO]))
          first | (refine np_s 1 ?_; (try simp only [nSO])) | (refine np_step (i := 1) rfl (by kernel_rfl) (fun K hK => ?_); rw [if_pos (by rfl)]; go_simp; ((go_at_call 40; refine (fail_any _ _).mono ?_; rintro e w9a ⟨rfl, hba⟩; have hx91 := hx90.trans (hba.mono hx90.size))); (try go_wp2_with fail); refine hK.out _ _ ?_ (fun hHeld => ?_); (· (first | exact Kx.out _ hx9 | exact Kx.out _ hx91 | exact Kx.out _ hx90)); clear hK K; (try simp only [nSO]))
          first | (refine np_s 2 ?_; (try simp only [nSO])) | (refine np_step (i := 2) rfl (by kernel_rfl) (fun K hK => ?_); rw [if_pos (by rfl)]; go_simp; ((go_at_call 43; refine (same_i r (failR 14) i _ hin).mono ?_; rw [h14]; rintro e w9 ⟨rfl, hbb⟩; have hx9 := hx91.trans (hbb.mono hx91.size))); (try go_wp2_with fail); refine hK.out _ _ ?_ (fun hHeld => ?_); (· (first | exact Kx.out _ hx9 | exact Kx.out _ hx91 | exact Kx.out _ hx90)); clear hK K; (try simp only [nSO]))
          iterate 6 (first | (refine np_sn ?_; (try simp only [nSO])) | (refine np_n ?_ ?_ ?_; rotate_left 1; (· (intro w hSw; (try dsimp only at hSw); go_simp; all_goals with_reducible rfl)); (try simp only [nSO])))
          refine wpAnyH_done (by kernel_rfl) ?_ _
          refine NoPanic.normal ?_
          go_wp2
          go_returns
          exact ⟨(by first | (simp; done) | (simpa using he13)), M, h.below (hB6.trans (hx9.mono hB6.size)), rfl, KeepF.of_below (hB6.trans (hx9.mono hB6.size)), fun k hk => .inl hk⟩
      | false =>
        have hx90 := hx8.drew
        refine wp_region_noPanic ?_
        refine wp_region_held_drew (S := fun W => W.cell? ⟨w.heap.size + 1, 0, none⟩ = some (.int .i64 r.err) ∧ W.cell? ⟨w.heap.size + 1, 1, none⟩ = some (.int .i64 r.rev) ∧ W.cell? ⟨w.heap.size + 1, 2, none⟩ = some (.int .i64 r.slot) ∧ W.cell? ⟨w.heap.size + 1, 3, none⟩ = some (.int .i64 r.at_) ∧ W.cell? ⟨w.heap.size + 1, 4, none⟩ = some (.int .u8 r.grav) ∧ W.cell? ⟨w.heap.size + 1, 5, none⟩ = some (.string r.text) ∧ W.cell? ⟨w.heap.size + 1, 6, none⟩ = some (.int .i64 r.m1) ∧ W.cell? ⟨w.heap.size + 1, 7, none⟩ = some (.int .i64 r.m2) ∧ W.cell? ⟨w.heap.size + 1, 8, none⟩ = some (.int .i64 r.m3) ∧ W.cell? ⟨w.heap.size + 1, 9, none⟩ = some (.int .u8 i.k) ∧ W.cell? ⟨w.heap.size + 1, 10, none⟩ = some (.int .i64 i.f) ∧ W.cell? ⟨w.heap.size + 1, 11, none⟩ = some (.int .i64 i.t) ∧ W.cell? ⟨w.heap.size + 1, 12, none⟩ = some (.slice i.da i.dn i.dc) ∧ W.cell? ⟨w3.heap.size, 0, none⟩ = some (.int .i64 R.1.err)) (by kernel_rfl) ?_ (fun hHeld => ?_)
        · first | exact Kx.out _ hx9 | exact Kx.out _ hx91 | exact Kx.out _ hx90
        first | (refine np_sn ?_; (try simp only [nSO])) | ((first | refine np_n ?_ ?_ ?_ | refine np_t 0 ?_ ?_ ?_); rotate_left 1; (· (intro w hSw; (try dsimp only at hSw); go_simp; all_goals with_reducible rfl)); (try simp only [nSO]))
        first | (refine np_s 1 ?_; (try simp only [nSO])) | (refine np_step (i := 1) rfl (by kernel_rfl) (fun K hK => ?_); rw [if_pos (by rfl)]; go_simp; ((go_at_call 40; refine (fail_any _ _).mono ?_; rintro e w9a ⟨rfl, hba⟩; have hx91 := hx90.trans (hba.mono hx90.size))); (try go_wp2_with fail); refine hK.out _ _ ?_ (fun hHeld => ?_); (· (first | exact Kx.out _ hx9 | exact Kx.out _ hx91 | exact Kx.out _ hx90)); clear hK K; (try simp only [nSO]))
        first | (refine np_s 2 ?_; (try simp only [nSO])) | (refine np_step (i := 2) rfl (by kernel_rfl) (fun K hK => ?_); rw [if_pos (by rfl)]; go_simp; ((go_at_call 43; refine (same_i r (failR 14) i _ hin).mono ?_; rw [h14]; rintro e w9 ⟨rfl, hbb⟩; have hx9 := hx91.trans (hbb.mono hx91.size))); (try go_wp2_with fail); refine hK.out _ _ ?_ (fun hHeld => ?_); (· (first | exact Kx.out _ hx9 | exact Kx.out _ hx91 | exact Kx.out _ hx90)); clear hK K; (try simp only [nSO]))
        iterate 6 (first | (refine np_sn ?_; (try simp only [nSO])) | (refine np_n ?_ ?_ ?_; rotate_left 1; (· (intro w hSw; (try dsimp only at hSw); go_simp; all_goals with_reducible rfl)); (try simp only [nSO])))
        refine wpAnyH_done (by kernel_rfl) ?_ _
        refine NoPanic.normal ?_
        go_wp2
        go_returns
        exact ⟨(by first | (simp; done) | (simpa using he13)), M, h.below (hB6.trans (hx9.mono hB6.size)), rfl, KeepF.of_below (hB6.trans (hx9.mono hB6.size)), fun k hk => .inl hk⟩
end Go.Proofs.YtlealeecmmpckaaGreat
namespace Go.Proofs.YtlealeecmmpckaaGreat
set_option linter.unusedVariables false
set_option linter.unusedSimpArgs false
set_option maxRecDepth 100000
set_option maxHeartbeats 8000000
open Go.RowKit Go.Lib Go.Shelf
attribute [local go_sem, local simp] resF resL_len resL_ne mdF mdC_len mdC_ne
theorem accept_nil (c : Int) (q : OpV) (r : ResV) (i : ItV) (w : World) : Calls Tryz.prog 17 #[.pointer none, .int .i64 c, .agg #[.int .u8 q.kind, .int .i64 q.slot, .int .i64 q.at_, .int .i64 q.n, .int .u32 q.id, .int .u8 q.grav, .string q.text], .agg #[.int .i64 r.err, .int .i64 r.rev, .int .i64 r.slot, .int .i64 r.at_, .int .u8 r.grav, .string r.text, .int .i64 r.m1, .int .i64 r.m2, .int .i64 r.m3, .int .u8 i.k, .int .i64 i.f, .int .i64 i.t, .slice i.da i.dn i.dc]] w fun e w' => e = .returned (.bool false) ∧ Below w.heap.size w w' := by
  have hB0 := ((Below.refl w.heap.size w).alloc (Nat.le_refl _) (.cells #[.int .u8 q.kind, .int .i64 q.slot, .int .i64 q.at_, .int .i64 q.n, .int .u32 q.id, .int .u8 q.grav, .string q.text] 28)).alloc (by simp) (.cells #[.int .i64 r.err, .int .i64 r.rev, .int .i64 r.slot, .int .i64 r.at_, .int .u8 r.grav, .string r.text, .int .i64 r.m1, .int .i64 r.m2, .int .i64 r.m3, .int .u8 i.k, .int .i64 i.f, .int .i64 i.t, .slice i.da i.dn i.dc] 36)
  go_enter Tryz.func17, Tryz.ntmps17
  go_wp2
  go_returns
  exact ⟨rfl, hB0⟩
end Go.Proofs.YtlealeecmmpckaaGreat
namespace Go.Proofs.YtlealeecmmpckaaGreat
set_option linter.unusedVariables false
set_option linter.unusedSimpArgs false
set_option maxRecDepth 100000
set_option maxHeartbeats 8000000
open Go.RowKit Go.Lib Go.Shelf
attribute [local go_sem, local simp] sset0 sset1 sset2 resF resL_len resL_ne rset0 rset1 rset2 rset3 rset4 rset5 snF snL_len snL_ne
def natV (n : Nat) : Value := .int .i64 (n : Int)
def hpL (l : List SnV) (k : Nat) : List Nat := (List.range k).filter fun i => (l.getD i default).held
theorem hpL_succ (l : List SnV) (k : Nat) : hpL l (k + 1) = hpL l k ++ if (l.getD k default).held then [k] else [] := by
  unfold hpL; rw [List.range_succ, List.filter_append, List.filter_cons, List.filter_nil]
theorem infoI64 : (Tryz.prog.info? 3).map (fun i => (i.zero, i.size, i.bytes)) = some (some (.int .i64 0), 1, 8) := by kernel_rfl
theorem hpL_all (l : List SnV) : hpL l l.length = heldL l := rfl
theorem hpL_le (l : List SnV) (k : Nat) : (hpL l k).length ≤ k := by unfold hpL; exact Nat.le_trans (List.length_filter_le _ _) (by rw [List.length_range]; exact Nat.le_refl _)
theorem held_out (b : Nat) (c : Int) (M : MM) (w : World) (h : MdAt w b M) (hc : c < 0 ∨ (M.seats.length : Int) ≤ c) :
    Calls Tryz.prog 33 #[.pointer (some ⟨b, 0, none⟩), .int .i64 c] w fun e w' => e = .returned (.slice none 0 0) ∧ w = w' := by
  obtain ⟨ag, cs, hsv⟩ := own_slice h.seats
  have c5 := h.c5 hsv
  rcases hc with hc | hc
  · have hd : decide (c < 0) = true := by simpa using hc
    go_enter Tryz.func33, Tryz.ntmps33
    go_wp2
    go_returns
    exact ⟨rfl, rfl⟩
  · have hd : decide (c < 0) = false := by simp; omega
    have hd2 : decide ((M.seats.length : Int) ≤ c) = true := by simpa using hc
    go_enter Tryz.func33, Tryz.ntmps33
    go_wp2
    go_returns
    exact ⟨rfl, rfl⟩
theorem held_in (b c : Nat) (M : MM) (w : World) (h : MdAt w b M) (S : SeM) (hS : M.seats[c]? = some S) (hl : S.sl.length ≤ 8) (hcl : M.seats.length ≤ 8) :
    Calls Tryz.prog 33 #[.pointer (some ⟨b, 0, none⟩), .int .i64 (c : Int)] w fun e w' => ∃ v, e = .returned v ∧ w'.ownsRow w.heap.size 3 1 v (heldL S.st.slots).length ((heldL S.st.slots).map natV) ∧ Below w.heap.size w w' := by
  obtain ⟨i0, hi, hz0, hz1, hz2⟩ := info_parts infoI64
  obtain ⟨hc, _⟩ := List.getElem?_eq_some_iff.1 hS
  obtain ⟨gs, cs, g, cp, cur, hA⟩ := h.seatAt hS
  have c5 := h.c5 hA.sv
  have a1 := hA.c1
  have hcp := hA.cap
  have hd : decide ((c : Int) < 0) = false := by simp
  have hd2 : decide (M.seats.length ≤ c) = false := by simp; omega
  have hlen : S.st.slots.length = S.sl.length := List.length_map ..
  go_enter Tryz.func33, Tryz.ntmps33
  go_wp2
  go_loopw [5, 6, 7, 33, 34, 35, 36, 37, 38, 39, 40, 41, 42, 43, 44] (fun x5 x6 x7 i x34 x35 x36 x37 x38 x39 x40 x41 x42 x43 x44 wr => ∃ k : Nat, i = .int .i64 k ∧ k ≤ S.sl.length ∧ wr.ownsRow w.heap.size 3 1 x5 (hpL S.st.slots k).length ((hpL S.st.slots k).map natV) ∧ Below w.heap.size w wr) (fun x5 x6 x7 i x34 x35 x36 x37 x38 x39 x40 x41 x42 x43 x44 wr => S.sl.length - (intOf i).toNat)
  case atStart => exact ⟨0, rfl, by omega, ⟨rfl, .inl ⟨rfl, rfl⟩⟩, Below.refl _ _⟩
  case round =>
    obtain ⟨k, rfl, hk, ho, hB⟩ := hrel
    by_cases hlt : k < S.sl.length
    · have hx := List.getElem?_eq_getElem hlt
      generalize S.sl[k] = x at hx
      have hA1 := hA.below hB
      have hSn := hA1.sn k x hx
      obtain ⟨⟨s0, s1, s2, s3⟩, _⟩ := hSn.cells
      obtain ⟨av, cv, hxv⟩ := own_slice hSn.marks
      rw [hxv] at s2
      have hxs : S.st.slots.getD k default = x.s := by
        rw [List.getD_eq_getElem?_getD]; show ((S.sl.map (·.s))[k]?).getD default = _
        rw [List.getElem?_map, hx]; rfl
      have hsu := hpL_succ S.st.slots k
      rw [hxs] at hsu
      have hle := hpL_le S.st.slots k
      have Hsu := Lib.hid hsu
      clear hsu hxs
      cases hh : x.s.held with
      | true =>
        obtain ⟨W6, hs6, hc6, hb6⟩ := snew_pkg wr ⟨⟨true, x.s.text, [], x.s.cursor⟩, .slice av x.s.marks.length cv⟩ rfl
        have hB6 := hB.trans (hb6.mono hB.size)
        have ho6 := own_below6 ho (hb6.mono (Nat.le_refl _))
        go_wp2_with (at_builtin; refine wpList_append_own _ rfl _ _ 73 rfl w.heap.size 3 i0 (.int .i64 0) 1 8 Tryz.underlying73 hi hz0 hz1 hz2 rfl (by decide) _ _ _ rfl (ho6.alloc _) ⟨_, 0, none⟩ 1 1 [.int .i64 (k : Int)] rfl rfl (cell_one_new _ _ _) (by simp [Value.oneCell']) (by unfold maxLen; omega) (by omega) (by have := hB6.size; simp; omega) ?_; intro v' w3 hown' hgrow _)
        have hB3 : Below w.heap.size w w3 := (hB6.alloc hB6.size _).grown hgrow (by have := hB6.size; simp; omega) fun k hk => (ho6.lt k hk).1
        go_roundw
        case rel => exact ⟨k + 1, by go_num, by omega, by rw [Hsu.out, hh, if_pos rfl, List.length_append, List.map_append]; exact hown', hB3⟩
        case measure => simp [intOf]; omega
      | false =>
        obtain ⟨W6, hs6, hc6, hb6⟩ := snew_pkg wr ⟨⟨false, x.s.text, [], x.s.cursor⟩, .slice av x.s.marks.length cv⟩ rfl
        have hB6 := hB.trans (hb6.mono hB.size)
        have ho6 := own_below6 ho (hb6.mono (Nat.le_refl _))
        go_wp2
        go_roundw
        case rel => exact ⟨k + 1, by go_num, by omega, by rw [Hsu.out, hh, if_neg (by simp), List.append_nil]; exact ho6, hB6⟩
        case measure => simp [intOf]; omega
    · have hke : k = S.st.slots.length := by omega
      go_wp2
      go_returns
      exact ⟨_, rfl, by rw [← hpL_all, ← hke]; exact ho, hB⟩
theorem held_any (b : Nat) (c : Int) (M : MM) (w : World) (h : MdAt w b M) (hcl : M.seats.length ≤ 8) (hsl : ∀ S ∈ M.seats, S.sl.length ≤ 8) :
    Calls Tryz.prog 33 #[.pointer (some ⟨b, 0, none⟩), .int .i64 c] w fun e w' => ∃ v, e = .returned v ∧ w'.ownsRow w.heap.size 3 1 v (heldS M.st c).length ((heldS M.st c).map natV) ∧ Below w.heap.size w w' := by
  have hlen : M.st.seats.length = M.seats.length := List.length_map ..
  by_cases hc : c < 0 ∨ (M.seats.length : Int) ≤ c
  · refine (held_out b c M w h hc).mono ?_
    rintro e w' ⟨rfl, rfl⟩
    have : heldS M.st c = [] := by unfold heldS; rw [hlen, if_pos hc]
    rw [this]
    exact ⟨_, rfl, ⟨rfl, .inl ⟨rfl, rfl⟩⟩, Below.refl _ _⟩
  · obtain ⟨n, rfl⟩ : ∃ n : Nat, c = n := ⟨c.toNat, by omega⟩
    have hS := List.getElem?_eq_getElem (l := M.seats) (i := n) (by omega)
    have e : heldS M.st n = heldL (M.seats[n]'(by omega)).st.slots := by
      unfold heldS; rw [hlen, if_neg hc, Int.toNat_natCast, MM.seat_st hS]
    rw [e]
    exact held_in b n M w h _ hS (hsl _ (List.mem_of_getElem? hS)) hcl
end Go.Proofs.YtlealeecmmpckaaGreat
