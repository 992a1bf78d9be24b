/- The texts RdB RdC. -/
import Derived.Test.YtlealeecmmpckaaGreatKAx
import Derived.Test.YtlealeecmmpckaaGreatKxm
import Derived.Test.YtlealeecmmpckaaGreatKya
import Derived.Test.YtlealeecmmpckaaGreatKAb
namespace Go.Proofs.YtlealeecmmpckaaGreat
set_option linter.unusedVariables false
set_option linter.unusedSimpArgs false
set_option maxRecDepth 100000
set_option maxHeartbeats 8000000
open Go.RowKit Go.Lib Go.Shelf
def RAccPost (b : Nat) (w : World) (R : Bool × MS) (M : RM) (e : Ending) (w' : World) : Prop := e = .returned (.bool R.1) ∧ ∃ M', RdAt w' b M' ∧ M'.st = R.2 ∧ KeepF (M.fp b) w w' ∧ (∀ k, M'.fp b k → M.fp b k ∨ w.heap.size ≤ k)
def rdB (n r : Int) (t : ByteArray) (v : Value) (m : Int) (c : Bool) (x y : Value) : List Value := [.int .i64 n, .int .i64 r, .string t, v, .int .i64 m, .bool c, x, y]
theorem rdF (n r : Int) (t : ByteArray) (v : Value) (m : Int) (c : Bool) (x y : Value) : Value.agg #[.int .i64 n, .int .i64 r, .string t, v, .int .i64 m, .bool c, x, y] = .agg (rdB n r t v m c x y).toArray := rfl
theorem rdB_len (n r : Int) (t : ByteArray) (v : Value) (m : Int) (c : Bool) (x y : Value) : (rdB n r t v m c x y).length = 8 := rfl
theorem rdB_ne (n r : Int) (t : ByteArray) (v : Value) (m : Int) (c : Bool) (x y : Value) : rdB n r t v m c x y ≠ [] := by simp [rdB]
theorem RdAt.take {W : World} {b b2 : Nat} {M N : RM} (h : RdAt W b M) (h2 : RdAt W b2 N) {am ab as' : Option Addr} {cm cb cs : Nat} (hm : N.mv = .slice am N.marks.length cm) (hb : N.bv = .slice ab N.seats.length cb) (hs : N.sv = .slice as' N.seats.length cs) :
    (storeCells ⟨b, 0, none⟩ (rdB N.seats.length N.readers N.text (.slice am N.marks.length cm) N.number N.closed (.slice ab N.seats.length cb) (.slice as' N.seats.length cs))).run Tryz.prog W = .ok () (W.setRow b (rdB N.seats.length N.readers N.text (.slice am N.marks.length cm) N.number N.closed (.slice ab N.seats.length cb) (.slice as' N.seats.length cs)).toArray) ∧
    RdAt (W.setRow b (rdB N.seats.length N.readers N.text (.slice am N.marks.length cm) N.number N.closed (.slice ab N.seats.length cb) (.slice as' N.seats.length cs)).toArray) b N := by
  have e : rdB N.seats.length N.readers N.text (.slice am N.marks.length cm) N.number N.closed (.slice ab N.seats.length cb) (.slice as' N.seats.length cs) = rdL N := by unfold rdB rdL; rw [hm, hb, hs]
  refine ⟨run_st h.blk rfl _ rfl (by simp [rdB, Value.oneCell']), ?_⟩
  rw [e]
  have hk : ∀ k, k < W.heap.size → k ≠ b → (W.setRow b (rdL N).toArray).heap[k]? = W.heap[k]? := fun k _ hk => setRow_other _ _ _ _ hk
  exact ⟨setRow_heap _ _ _ _ _ _ h.blk, own_keep h2.marks h.blk (by decide) hk, own_keep h2.subs h.blk (by decide) hk, own_keep h2.snaps h.blk (by decide) hk, fun S hS => own_keep (h2.slots S hS) h.blk (by decide) hk, fun S hS x hx => own_keep (h2.smarks S hS x hx) h.blk (by decide) hk, h2.some_, h2.nodup⟩
end Go.Proofs.YtlealeecmmpckaaGreat
namespace Go.Proofs.YtlealeecmmpckaaGreat
set_option linter.unusedVariables false
set_option linter.unusedSimpArgs false
set_option maxRecDepth 100000
set_option maxHeartbeats 8000000
open Go.RowKit Go.Lib Go.Shelf
attribute [local go_sem, local simp] resF resL_len resL_ne rdF rdB_len rdB_ne
theorem raccept_true (b : Nat) (c : Int) (M : RM) (q : OpV) (r : ResV) (i : ItV) (w : World) (h : RdAt w b M) (hok : MSok M.st 100000) (hi : OpIn q) (hS : sameB r i (doS M.st c q).1 = true) :
    Calls Tryz.prog 24 #[.pointer (some ⟨b, 0, none⟩), .int .i64 c, .agg #[.int .u8 q.kind, .int .i64 q.slot, .int .i64 q.at_, .int .i64 q.n, .int .u32 q.id, .int .u8 q.grav, .string q.text], .agg #[.int .i64 r.err, .int .i64 r.rev, .int .i64 r.slot, .int .i64 r.at_, .int .u8 r.grav, .string r.text, .int .i64 r.m1, .int .i64 r.m2, .int .i64 r.m3, .int .u8 i.k, .int .i64 i.f, .int .i64 i.t, .slice i.da i.dn i.dc]] w (RAccPost b w (accS M.st c q r i) M) := by
  have hB0 := ((Below.refl w.heap.size w).alloc (Nat.le_refl _) (.cells #[.int .u8 q.kind, .int .i64 q.slot, .int .i64 q.at_, .int .i64 q.n, .int .u32 q.id, .int .u8 q.grav, .string q.text] 28)).alloc (by simp) (.cells #[.int .i64 r.err, .int .i64 r.rev, .int .i64 r.slot, .int .i64 r.at_, .int .u8 r.grav, .string r.text, .int .i64 r.m1, .int .i64 r.m2, .int .i64 r.m3, .int .u8 i.k, .int .i64 i.f, .int .i64 i.t, .slice i.da i.dn i.dc] 36)
  have hq0 := (heap_alloc_old (w.alloc (.cells #[.int .u8 q.kind, .int .i64 q.slot, .int .i64 q.at_, .int .i64 q.n, .int .u32 q.id, .int .u8 q.grav, .string q.text] 28)) (.cells #[.int .i64 r.err, .int .i64 r.rev, .int .i64 r.slot, .int .i64 r.at_, .int .u8 r.grav, .string r.text, .int .i64 r.m1, .int .i64 r.m2, .int .i64 r.m3, .int .u8 i.k, .int .i64 i.f, .int .i64 i.t, .slice i.da i.dn i.dc] 36) (show w.heap.size < _ by simp)).trans (heap_alloc_new w _)
  have hr0 := heap_alloc_new (w.alloc (.cells #[.int .u8 q.kind, .int .i64 q.slot, .int .i64 q.at_, .int .i64 q.n, .int .u32 q.id, .int .u8 q.grav, .string q.text] 28)) (.cells #[.int .i64 r.err, .int .i64 r.rev, .int .i64 r.slot, .int .i64 r.at_, .int .u8 r.grav, .string r.text, .int .i64 r.m1, .int .i64 r.m2, .int .i64 r.m3, .int .u8 i.k, .int .i64 i.f, .int .i64 i.t, .slice i.da i.dn i.dc] 36)
  rw [World.size_alloc] at hr0
  have HOK := Lib.hid hok
  clear hok
  have hM0 := h.below hB0
  obtain ⟨R, hR⟩ : ∃ R, doS M.st c q = R := ⟨_, rfl⟩
  rw [hR] at hS
  have hA : accS M.st c q r i = (true, R.2) := by unfold accS; rw [hR, if_pos hS]
  rw [hA]
  clear hA
  have HS := Lib.hid hS
  clear hS
  go_enter Tryz.func24, Tryz.ntmps24
  go_wp2_with (first | (go_at_call 25; refine (rcopy_any b M _ hM0 HOK.out).mono ?_; rintro e w2 ⟨b2, M2, rfl, hM2, hst2, hb2, hf2⟩; have hq2 := (hb2.block _ (by simp; omega)).trans hq0; have hr2 := (hb2.block _ (by simp)).trans hr0; have hB2 := hB0.trans (hb2.mono (by simp; omega)); have hf2' : ∀ k, M2.fp b2 k → w.heap.size + 1 + 1 ≤ k := (fun k hk => by have := hf2 k hk; simpa using this); obtain ⟨y0, y1, y2, y3, y4, y5, y6⟩ := blk7 hq2; have hdo := rdo_any b2 c M2 q _ hM2 (by rw [hst2]; exact HOK.out) hi; rw [hst2, hR] at hdo; clear hf2 hb2) | (go_at_call 23; refine hdo.mono ?_; rintro e w3 ⟨rfl, M3, hM3, hst3, hk3, hf3⟩; have hq3 := (hk3.block _ (Array.getElem?_eq_some_iff.1 hq2).1 (fun hk => absurd (hf2' _ hk) (by omega))).trans hq2; have hr3 := (hk3.block _ (Array.getElem?_eq_some_iff.1 hr2).1 (fun hk => absurd (hf2' _ hk) (by omega))).trans hr2; have hB3 : Below w.heap.size w w3 := ⟨hk3.os.trans hB2.os, hk3.tape.trans hB2.tape, hk3.output.trans hB2.output, Nat.le_trans hB2.size hk3.size, fun k hk => (hk3.block k (by have := hB2.size; omega) (fun hf => absurd (hf2' _ hf) (by omega))).trans (hB2.block k hk)⟩; obtain ⟨W4, hs4, hw4, hb4⟩ := rnew_pkg w3 R.1; have hB4 := hB3.trans (hb4.mono hB3.size); have hq4 := (hb4.block _ (Array.getElem?_eq_some_iff.1 hq3).1).trans hq3; have hr4 := (hb4.block _ (Array.getElem?_eq_some_iff.1 hr3).1).trans hr3; have hM4 := hM3.below hb4; obtain ⟨a0, a1, a2, a3, a4, a5, a6, a7, a8, a9, a10, a11, a12⟩ := blk13 hr4; obtain ⟨d0, d1, d2, d3, d4, d5, d6, d7, d8, d9, d10, d11, d12⟩ := blk13 hw4; have hf3' : ∀ k, M3.fp b2 k → w.heap.size ≤ k := (fun k hk => (hf3 k hk).elim (fun h => by have := hf2' k h; omega) (fun h => by have := hB2.size; omega)); clear y0 y1 y2 y3 y4 y5 y6 hdo hf3 hM3) | (go_at_call 19; refine (rsame_any r R.1 i _).mono ?_; (try rw [HS.out]); rintro e w5 ⟨rfl, hb5⟩; have hB5 := hB4.trans (hb5.mono hB4.size); have hM5 := hM4.below hb5; obtain ⟨am, cm, hmv⟩ := own_slice hM5.marks; obtain ⟨as', cs, hsv⟩ := own_slice hM5.snaps; obtain ⟨ab, cb, hbv⟩ := own_slice hM5.subs; have hMb := (h.below hB5); obtain ⟨hrun, hM6⟩ := hMb.take hM5 hmv hbv hsv; obtain ⟨e0, e1, e2, e3, e4, e5, e6, e7⟩ := hM5.cs; rw [hmv] at e3; rw [hbv] at e6; rw [hsv] at e7))
  go_returns
  exact ⟨rfl, M3, hM6, hst3, (KeepF.of_below hB5).trans (KeepF.mono (F := fun k => k = b) ⟨rfl, rfl, rfl, by rw [setRow_size]; exact Nat.le_refl _, fun k _ hk => setRow_other _ _ _ _ hk⟩ (fun k hk => .inl hk)), fun k hk => hk.elim (fun e => .inl (.inl e)) (fun e => .inr (hf3' k (.inr e)))⟩
end Go.Proofs.YtlealeecmmpckaaGreat
