/- ModelAllows: the law returns true for every input, and leaves its arguments as they were. -/
import Derived.Test.YtlealeecmmpckaaGreatBul
import Derived.Test.YtlealeecmmpckaaGreatBun
import Derived.Test.YtlealeecmmpckaaGreatBva
import Derived.Test.YtlealeecmmpckaaGreatBwa
import Derived.Test.YtlealeecmmpckaaGreatBua
import Derived.Carry
namespace Go.Proofs.YtlealeecmmpckaaGreat
set_option linter.unusedVariables false
set_option linter.unusedSimpArgs false
open Go.Lib

theorem rea_fail {st : MS} {c : Nat} {q : OpV} (h : (reaS st c q).1.err ≠ 0) : (reaS st c q).2 = st := by
  unfold reaS at *
  split
  · rfl
  · rename_i he
    rw [if_neg he] at h
    have hs : (snpS ((st.seat c).slots.getD q.slot.toNat default) q).2 = (st.seat c).slots.getD q.slot.toNat default := by
      revert h
      generalize (st.seat c).slots.getD q.slot.toNat default = s
      intro h
      have h : (snpS s q).1.err ≠ 0 := h
      unfold snpS at *
      repeat' split
      all_goals first | rfl | (exfalso; simp_all)
    show st.putSlot c q.slot.toNat (snpS ((st.seat c).slots.getD q.slot.toNat default) q).2 = st
    rw [hs]
    exact putSlot_self st c _
theorem op_fail {st : MS} {c : Nat} {q : OpV} (h : (opS st c q).1.err ≠ 0) : (opS st c q).2 = st := by
  unfold opS at *
  split
  · rename_i k; rw [if_pos k] at h
    unfold insS at *; split
    · rfl
    · rename_i e; rw [if_neg e] at h; exact absurd rfl h
  rename_i k1; rw [if_neg k1] at h
  split
  · rename_i k; rw [if_pos k] at h
    unfold delS at *; split
    · rfl
    · rename_i e; rw [if_neg e] at h; exact absurd rfl h
  rename_i k2; rw [if_neg k2] at h
  split
  · rename_i k; rw [if_pos k] at h
    unfold setS at *; split
    · rfl
    · rename_i e; rw [if_neg e] at h; split
      · rename_i e2; rw [if_pos e2] at h; exact absurd rfl h
      · rfl
  rename_i k3; rw [if_neg k3] at h
  split
  · rename_i k; rw [if_pos k] at h
    unfold drpS at *; split
    · rfl
    · rename_i e; rw [if_neg e] at h; split
      · rename_i e2; rw [if_pos e2] at h; exact absurd rfl h
      · rfl
  rename_i k4; rw [if_neg k4] at h
  split
  · rename_i k; rw [if_pos k] at h
    unfold acqS at *; split
    · rfl
    · rename_i e; rw [if_neg e] at h; split
      · rfl
      · rename_i e2; rw [e2] at h; exact absurd rfl h
  rename_i k5; rw [if_neg k5] at h
  split
  · rename_i k; rw [if_pos k] at h
    unfold subS at *; split
    · rfl
    · rename_i e; rw [if_neg e] at h; split
      · rfl
      · rename_i e2; rw [if_neg e2] at h; exact absurd rfl h
  rename_i k6; rw [if_neg k6] at h
  split
  · unfold recS; split
    · rfl
    · split <;> rfl
  rename_i k7; rw [if_neg k7] at h
  split
  · rename_i k; rw [if_pos k] at h
    unfold cloS at *; split
    · rfl
    · rename_i e; rw [if_neg e] at h; exact absurd rfl h
  rename_i k8; rw [if_neg k8] at h
  exact rea_fail h
theorem do_fail {st : MS} {c : Int} {q : OpV} (h : (doS st c q).1.err ≠ 0) : (doS st c q).2 = st := by
  unfold doS at *
  split
  · rfl
  · rename_i e; rw [if_neg e] at h; exact op_fail h
theorem sameB_refl (r : ResV) : sameB r {} r = true := by simp [sameB]
theorem sameB_eq {r s : ResV} {i : ItV} (h : sameB r i s = true) : r = s ∧ i.dn = 0 ∧ i.k = 0 ∧ i.f = 0 ∧ i.t = 0 := by
  unfold sameB at h
  simp only [Bool.and_eq_true, decide_eq_true_eq, beq_iff_eq] at h
  obtain ⟨⟨⟨⟨⟨⟨⟨⟨⟨⟨h0, h1⟩, h2⟩, h3⟩, h4⟩, h5⟩, h6⟩, ⟨h7, h8⟩, h9⟩, h10⟩, h11⟩, h12⟩ := h
  refine ⟨?_, h0, h10, h11, h12⟩
  have ht : r.text = s.text := by
    rw [toList_data, toList_data] at h6
    exact ByteArray.ext (Array.toList_inj.1 h6)
  cases r; cases s
  simp_all
theorem acc_self (st : MS) (c : Int) (q : OpV) : accS st c q (doS st c q).1 {} = (true, (doS st c q).2) := by unfold accS; rw [if_pos (sameB_refl _)]
/-- What Accept says of a result: what it changes, and what a success is. -/
theorem acc_keep {st : MS} {c : Int} {q : OpV} {r : ResV} {i : ItV} (h : (accS st c q r i).1 = false ∨ r.err ≠ 0) : (accS st c q r i).2 = st := by
  unfold accS at *
  split
  · rename_i hs
    rw [if_pos hs] at h
    rcases h with h | h
    · cases h
    · exact do_fail (by rw [← (sameB_eq hs).1]; exact h)
  · rfl
theorem acc_is {st : MS} {c : Int} {q : OpV} {r : ResV} {i : ItV} (h : (accS st c q r i).1 = true) (he : r.err = 0) (hk : q.kind ≠ 15) : sameB r i (doS st c q).1 = true := by
  unfold accS at h
  split at h
  · rename_i hs; exact hs
  · exfalso
    have h : accB st c q r i = true := h
    have h6 : sameB r i (failR 6) = false := by
      cases hx : sameB r i (failR 6) with
      | false => rfl
      | true => have := (sameB_eq hx).1; rw [this] at he; simp [failR] at he
    have h14 : sameB r i (failR 14) = false := by
      cases hx : sameB r i (failR 14) with
      | false => rfl
      | true => have := (sameB_eq hx).1; rw [this] at he; simp [failR] at he
    unfold accB at h
    rw [h6, h14, if_neg hk] at h
    revert h
    repeat' split
    all_goals simp
end Go.Proofs.YtlealeecmmpckaaGreat
namespace Go.Proofs.YtlealeecmmpckaaGreat
set_option linter.unusedVariables false
set_option linter.unusedSimpArgs false
open Go.RowKit Go.Lib Go.Shelf
attribute [local go_sem, local simp] resF resL_len resL_ne
attribute [local go_sem] fldErr

theorem blk21 {W : World} {k : Nat} {T : TypeId} {u0 u1 u2 u3 u4 u5 u6 u7 u8 u9 u10 u11 u12 u13 u14 u15 u16 u17 u18 u19 u20 : Value} (h : W.heap[k]? = some (.cells #[u0, u1, u2, u3, u4, u5, u6, u7, u8, u9, u10, u11, u12, u13, u14, u15, u16, u17, u18, u19, u20] T (0, 0))) : W.cell? ⟨k, 0, none⟩ = some u0 ∧ W.cell? ⟨k, 1, none⟩ = some u1 ∧ W.cell? ⟨k, 2, none⟩ = some u2 ∧ W.cell? ⟨k, 3, none⟩ = some u3 ∧ W.cell? ⟨k, 4, none⟩ = some u4 ∧ W.cell? ⟨k, 5, none⟩ = some u5 ∧ W.cell? ⟨k, 6, none⟩ = some u6 ∧ W.cell? ⟨k, 7, none⟩ = some u7 ∧ W.cell? ⟨k, 8, none⟩ = some u8 ∧ W.cell? ⟨k, 9, none⟩ = some u9 ∧ W.cell? ⟨k, 10, none⟩ = some u10 ∧ W.cell? ⟨k, 11, none⟩ = some u11 ∧ W.cell? ⟨k, 12, none⟩ = some u12 ∧ W.cell? ⟨k, 13, none⟩ = some u13 ∧ W.cell? ⟨k, 14, none⟩ = some u14 ∧ W.cell? ⟨k, 15, none⟩ = some u15 ∧ W.cell? ⟨k, 16, none⟩ = some u16 ∧ W.cell? ⟨k, 17, none⟩ = some u17 ∧ W.cell? ⟨k, 18, none⟩ = some u18 ∧ W.cell? ⟨k, 19, none⟩ = some u19 ∧ W.cell? ⟨k, 20, none⟩ = some u20 := by
  refine ⟨?_, ?_, ?_, ?_, ?_, ?_, ?_, ?_, ?_, ?_, ?_, ?_, ?_, ?_, ?_, ?_, ?_, ?_, ?_, ?_, ?_⟩ <;> simp [World.cell?, h]
theorem dis_of {X Y : MM} {bx by_ n : Nat} (hx : ∀ k, X.fp bx k → k < n) (hy : ∀ k, Y.fp by_ k → n ≤ k) : ∀ k, Y.fp by_ k → ¬ X.fp bx k := fun k h1 h2 => by have := hx k h2; have := hy k h1; omega
theorem act_beside {w0 W W' : World} {b b2 : Nat} {M N M' : MM} (h : Run w0 W b M) (h2 : Run w0 W b2 N) (hd : ∀ k, N.fp b2 k → ¬ M.fp b k) (hk : KeepF (M.fp b) W W') (hf : ∀ k, M'.fp b k → M.fp b k ∨ W.heap.size ≤ k) : Run w0 W' b2 N ∧ ∀ k, N.fp b2 k → ¬ M'.fp b k :=
  ⟨⟨h.at_.beside h2.at_ hk hd, h2.own, h.keep hk⟩, fun k hk2 hn => by
    rcases hf k hn with h1 | h1
    · exact hd k hk2 h1
    · have := h2.at_.fp_lt hk2; omega⟩
theorem act_run {w0 W W' : World} {b : Nat} {M M' : MM} (h : Run w0 W b M) (hM : MdAt W' b M') (hk : KeepF (M.fp b) W W') (hf : ∀ k, M'.fp b k → M.fp b k ∨ W.heap.size ≤ k) : Run w0 W' b M' :=
  ⟨hM, fun k hk => (hf k hk).elim (h.own k) (fun h' => Nat.le_trans h.bl.size h'), h.keep hk⟩
set_option maxRecDepth 100000 in
set_option maxHeartbeats 4000000 in
theorem allows_long (c : CfgV) (p : Option Addr) (cp : Nat) (l : List ActV) (xc : Int) (q : OpV) (r : ResV) (i : ItV) (w : World) (hlong : 2000 < c.text.size ∨ 60 < l.length) :
    Calls Tryz.prog 3 #[c.v, .slice p l.length cp, .agg (tryL ⟨xc, q, r, i⟩).toArray] w fun e w' => e = .returned (.bool true) ∧ Below w.heap.size w w' := by
  have hB0 := ((Below.refl w.heap.size w).alloc (Nat.le_refl _) (.cells #[.int .i64 c.slots, .int .u64 c.gens, .int .i64 c.clients, .int .i64 c.readers, .int .i64 c.queue, .int .i64 c.batch, .int .i64 c.feed, .string c.text] 24)).alloc (by simp) (.cells #[.int .i64 xc, .int .u8 q.kind, .int .i64 q.slot, .int .i64 q.at_, .int .i64 q.n, .int .u32 q.id, .int .u8 q.grav, .string q.text, .int .i64 r.err, .int .i64 r.rev, .int .i64 r.slot, .int .i64 r.at_, .int .u8 r.grav, .string r.text, .int .i64 r.m1, .int .i64 r.m2, .int .i64 r.m3, .int .u8 i.k, .int .i64 i.f, .int .i64 i.t, .slice i.da i.dn i.dc] 38)
  have hz0 := (heap_alloc_old (w.alloc (.cells #[.int .i64 c.slots, .int .u64 c.gens, .int .i64 c.clients, .int .i64 c.readers, .int .i64 c.queue, .int .i64 c.batch, .int .i64 c.feed, .string c.text] 24)) (.cells #[.int .i64 xc, .int .u8 q.kind, .int .i64 q.slot, .int .i64 q.at_, .int .i64 q.n, .int .u32 q.id, .int .u8 q.grav, .string q.text, .int .i64 r.err, .int .i64 r.rev, .int .i64 r.slot, .int .i64 r.at_, .int .u8 r.grav, .string r.text, .int .i64 r.m1, .int .i64 r.m2, .int .i64 r.m3, .int .u8 i.k, .int .i64 i.f, .int .i64 i.t, .slice i.da i.dn i.dc] 38) (show w.heap.size < _ by rw [World.size_alloc]; omega)).trans (heap_alloc_new w (.cells #[.int .i64 c.slots, .int .u64 c.gens, .int .i64 c.clients, .int .i64 c.readers, .int .i64 c.queue, .int .i64 c.batch, .int .i64 c.feed, .string c.text] 24))
  have hx0 := heap_alloc_new (w.alloc (.cells #[.int .i64 c.slots, .int .u64 c.gens, .int .i64 c.clients, .int .i64 c.readers, .int .i64 c.queue, .int .i64 c.batch, .int .i64 c.feed, .string c.text] 24)) (.cells #[.int .i64 xc, .int .u8 q.kind, .int .i64 q.slot, .int .i64 q.at_, .int .i64 q.n, .int .u32 q.id, .int .u8 q.grav, .string q.text, .int .i64 r.err, .int .i64 r.rev, .int .i64 r.slot, .int .i64 r.at_, .int .u8 r.grav, .string r.text, .int .i64 r.m1, .int .i64 r.m2, .int .i64 r.m3, .int .u8 i.k, .int .i64 i.f, .int .i64 i.t, .slice i.da i.dn i.dc] 38)
  simp only [World.size_alloc] at hx0
  have hlo := fun W => long_any c l.length W
  have e1 : (decide (2000 < c.text.size) || decide (60 < l.length)) = true := by simpa using hlong
  rw [e1] at hlo
  unfold CfgV.v tryL at *
  go_enter Tryz.func3, Tryz.ntmps3
  go_wp2_with (first | (go_at_call 12; refine (hlo _).mono ?_; rintro e w1 ⟨rfl, hb1⟩; have hB1 := hB0.trans (hb1.mono hB0.size); have hz1 := (hb1.block _ (by simp only [World.size_alloc]; omega)).trans hz0; have hx1 := (hb1.block _ (by simp only [World.size_alloc]; omega)).trans hx0; obtain ⟨z0, z1, z2, z3, z4, z5, z6, z7⟩ := blk8 hz1) | (go_at_call 13; refine (known_any _).mono ?_; rintro e wk ⟨rfl, hbk⟩))
  go_returns
  exact ⟨rfl, hB1.trans (hbk.mono hB1.size)⟩
set_option maxRecDepth 100000 in
set_option maxHeartbeats 4000000 in
theorem allows_none (c : CfgV) (p : Option Addr) (cp : Nat) (l : List ActV) (xc : Int) (q : OpV) (r : ResV) (i : ItV) (w : World) (h1 : c.text.size ≤ 2000) (h2 : l.length ≤ 60) (hA : ArgActs w p l) (hc : cfgE c ≠ 0) :
    Calls Tryz.prog 3 #[c.v, .slice p l.length cp, .agg (tryL ⟨xc, q, r, i⟩).toArray] w fun e w' => e = .returned (.bool true) ∧ Below w.heap.size w w' := by
  have hB0 := ((Below.refl w.heap.size w).alloc (Nat.le_refl _) (.cells #[.int .i64 c.slots, .int .u64 c.gens, .int .i64 c.clients, .int .i64 c.readers, .int .i64 c.queue, .int .i64 c.batch, .int .i64 c.feed, .string c.text] 24)).alloc (by simp) (.cells #[.int .i64 xc, .int .u8 q.kind, .int .i64 q.slot, .int .i64 q.at_, .int .i64 q.n, .int .u32 q.id, .int .u8 q.grav, .string q.text, .int .i64 r.err, .int .i64 r.rev, .int .i64 r.slot, .int .i64 r.at_, .int .u8 r.grav, .string r.text, .int .i64 r.m1, .int .i64 r.m2, .int .i64 r.m3, .int .u8 i.k, .int .i64 i.f, .int .i64 i.t, .slice i.da i.dn i.dc] 38)
  have hz0 := (heap_alloc_old (w.alloc (.cells #[.int .i64 c.slots, .int .u64 c.gens, .int .i64 c.clients, .int .i64 c.readers, .int .i64 c.queue, .int .i64 c.batch, .int .i64 c.feed, .string c.text] 24)) (.cells #[.int .i64 xc, .int .u8 q.kind, .int .i64 q.slot, .int .i64 q.at_, .int .i64 q.n, .int .u32 q.id, .int .u8 q.grav, .string q.text, .int .i64 r.err, .int .i64 r.rev, .int .i64 r.slot, .int .i64 r.at_, .int .u8 r.grav, .string r.text, .int .i64 r.m1, .int .i64 r.m2, .int .i64 r.m3, .int .u8 i.k, .int .i64 i.f, .int .i64 i.t, .slice i.da i.dn i.dc] 38) (show w.heap.size < _ by rw [World.size_alloc]; omega)).trans (heap_alloc_new w (.cells #[.int .i64 c.slots, .int .u64 c.gens, .int .i64 c.clients, .int .i64 c.readers, .int .i64 c.queue, .int .i64 c.batch, .int .i64 c.feed, .string c.text] 24))
  have hx0 := heap_alloc_new (w.alloc (.cells #[.int .i64 c.slots, .int .u64 c.gens, .int .i64 c.clients, .int .i64 c.readers, .int .i64 c.queue, .int .i64 c.batch, .int .i64 c.feed, .string c.text] 24)) (.cells #[.int .i64 xc, .int .u8 q.kind, .int .i64 q.slot, .int .i64 q.at_, .int .i64 q.n, .int .u32 q.id, .int .u8 q.grav, .string q.text, .int .i64 r.err, .int .i64 r.rev, .int .i64 r.slot, .int .i64 r.at_, .int .u8 r.grav, .string r.text, .int .i64 r.m1, .int .i64 r.m2, .int .i64 r.m3, .int .u8 i.k, .int .i64 i.f, .int .i64 i.t, .slice i.da i.dn i.dc] 38)
  simp only [World.size_alloc] at hx0
  have hlo := fun W => long_any c l.length W
  have e1 : (decide (2000 < c.text.size) || decide (60 < l.length)) = false := by simp; omega
  rw [e1] at hlo
  have hpl := fun W => play_nil c p l.length cp W hc
  unfold CfgV.v tryL at *
  go_enter Tryz.func3, Tryz.ntmps3
  go_wp2_with (first | (go_at_call 12; refine (hlo _).mono ?_; rintro e w1 ⟨rfl, hb1⟩; have hB1 := hB0.trans (hb1.mono hB0.size); have hz1 := (hb1.block _ (by simp only [World.size_alloc]; omega)).trans hz0; have hx1 := (hb1.block _ (by simp only [World.size_alloc]; omega)).trans hx0; obtain ⟨z0, z1, z2, z3, z4, z5, z6, z7⟩ := blk8 hz1) | (go_at_call 14; refine (hpl _).mono ?_; rintro e w2 ⟨rfl, hb2⟩; have hB2 := hB1.trans (hb2.mono hB1.size)) | (go_at_call 13; refine (known_any _).mono ?_; rintro e wk ⟨rfl, hbk⟩))
  go_returns
  exact ⟨rfl, hB2.trans (hbk.mono hB2.size)⟩
set_option maxRecDepth 100000 in
set_option maxHeartbeats 4000000 in
theorem allows_1a (c : CfgV) (p : Option Addr) (cp : Nat) (l : List ActV) (xc : Int) (q : OpV) (r : ResV) (i : ItV) (w : World) (h1 : c.text.size ≤ 2000) (h2 : l.length ≤ 60) (hA : ArgActs w p l) (hc : cfgE c = 0) (hiq : OpIn q) (hin : i.dn ≤ maxLen) (r1 : ResV) (s1 s5 : MS) (isb : Bool) (f1 : doS (runS (newS c) l) xc q = (r1, s1)) (f6 : accS (runS (newS c) l) xc q r i = (isb, s5)) (hE : (r1.err != 0) = false) (h5s : s5 = runS (newS c) l) (hisb : isb = false) :
    Calls Tryz.prog 3 #[c.v, .slice p l.length cp, .agg (tryL ⟨xc, q, r, i⟩).toArray] w fun e w' => e = .returned (.bool true) ∧ Below w.heap.size w w' := by
  have hB0 := ((Below.refl w.heap.size w).alloc (Nat.le_refl _) (.cells #[.int .i64 c.slots, .int .u64 c.gens, .int .i64 c.clients, .int .i64 c.readers, .int .i64 c.queue, .int .i64 c.batch, .int .i64 c.feed, .string c.text] 24)).alloc (by simp) (.cells #[.int .i64 xc, .int .u8 q.kind, .int .i64 q.slot, .int .i64 q.at_, .int .i64 q.n, .int .u32 q.id, .int .u8 q.grav, .string q.text, .int .i64 r.err, .int .i64 r.rev, .int .i64 r.slot, .int .i64 r.at_, .int .u8 r.grav, .string r.text, .int .i64 r.m1, .int .i64 r.m2, .int .i64 r.m3, .int .u8 i.k, .int .i64 i.f, .int .i64 i.t, .slice i.da i.dn i.dc] 38)
  have hz0 := (heap_alloc_old (w.alloc (.cells #[.int .i64 c.slots, .int .u64 c.gens, .int .i64 c.clients, .int .i64 c.readers, .int .i64 c.queue, .int .i64 c.batch, .int .i64 c.feed, .string c.text] 24)) (.cells #[.int .i64 xc, .int .u8 q.kind, .int .i64 q.slot, .int .i64 q.at_, .int .i64 q.n, .int .u32 q.id, .int .u8 q.grav, .string q.text, .int .i64 r.err, .int .i64 r.rev, .int .i64 r.slot, .int .i64 r.at_, .int .u8 r.grav, .string r.text, .int .i64 r.m1, .int .i64 r.m2, .int .i64 r.m3, .int .u8 i.k, .int .i64 i.f, .int .i64 i.t, .slice i.da i.dn i.dc] 38) (show w.heap.size < _ by rw [World.size_alloc]; omega)).trans (heap_alloc_new w (.cells #[.int .i64 c.slots, .int .u64 c.gens, .int .i64 c.clients, .int .i64 c.readers, .int .i64 c.queue, .int .i64 c.batch, .int .i64 c.feed, .string c.text] 24))
  have hx0 := heap_alloc_new (w.alloc (.cells #[.int .i64 c.slots, .int .u64 c.gens, .int .i64 c.clients, .int .i64 c.readers, .int .i64 c.queue, .int .i64 c.batch, .int .i64 c.feed, .string c.text] 24)) (.cells #[.int .i64 xc, .int .u8 q.kind, .int .i64 q.slot, .int .i64 q.at_, .int .i64 q.n, .int .u32 q.id, .int .u8 q.grav, .string q.text, .int .i64 r.err, .int .i64 r.rev, .int .i64 r.slot, .int .i64 r.at_, .int .u8 r.grav, .string r.text, .int .i64 r.m1, .int .i64 r.m2, .int .i64 r.m3, .int .u8 i.k, .int .i64 i.f, .int .i64 i.t, .slice i.da i.dn i.dc] 38)
  simp only [World.size_alloc] at hx0
  have hlo := fun W => long_any c l.length W
  have e1 : (decide (2000 < c.text.size) || decide (60 < l.length)) = false := by simp; omega
  rw [e1] at hlo
  obtain ⟨S, hS⟩ : ∃ S, runS (newS c) l = S := ⟨_, rfl⟩
  rw [hS] at f1 f6
  have f5 : accS S xc q r1 {} = (true, s1) := by have := acc_self S xc q; rw [f1] at this; exact this
  have hpl := fun W (hW : Below w.heap.size w W) => play_some c p cp l W hc (hA.on hW) (by omega)
  have hokS : MSok S 100 := by rw [← hS]; exact (runS_ok (newS_ok hc) hA.ok).mono (by omega)
  have hok2 : MSok s1 200 := by have := doS_ok (c := xc) hokS hiq; rw [f1] at this; exact this.mono (by omega)
  have hok5 : MSok s5 200 := by
    have hs : s5 = s1 ∨ s5 = S := by
      have : (accS S xc q r i).2 = s5 := by rw [f6]
      rw [← this]; unfold accS; split
      · left; rw [f1]
      · right; rfl
    rcases hs with rfl | rfl
    · exact hok2
    · exact hokS.mono (by omega)
  rw [hS] at h5s
  have h5s' := h5s.symm
  subst h5s'
  obtain rfl : isb = false := hisb
  unfold CfgV.v tryL at *
  go_enter Tryz.func3, Tryz.ntmps3
  go_wp2_with (first | (go_at_call 12; refine (hlo _).mono ?_; rintro e w1 ⟨rfl, hb1⟩; have hB1 := hB0.trans (hb1.mono hB0.size); have hz1 := (hb1.block _ (by simp only [World.size_alloc]; omega)).trans hz0; have hx1 := (hb1.block _ (by simp only [World.size_alloc]; omega)).trans hx0; obtain ⟨z0, z1, z2, z3, z4, z5, z6, z7⟩ := blk8 hz1; have Kx := Lib.hid (fun W (hW : Below w1.heap.size w1 W) => blk21 ((hW.block _ (Array.getElem?_eq_some_iff.1 hx1).1).trans hx1))) | (go_at_call 14; refine (hpl _ hB1).mono ?_; rintro e w2 ⟨b, M, rfl, hP, hst1⟩; rw [hS] at hst1; have hok1 : MSok M.st 100 := (by rw [hst1]; exact hokS); have HC1 := Lib.hid (copy_any b M w2 100 hP.at_ hok1)) | (go_at_call 15; have hz' := HC3; refine HC3.out.mono ?_; rintro e c3 ⟨bD, D, rfl, hD3, hsD, hbD, hfD⟩; have rM := hP2.on hbD; have rA : Run w1 c3 bA A := ⟨(hA1.below hbB).below hbD, fun k hk => Nat.le_trans hP.bl.size (hfA k hk), rM.bl⟩; have rB : Run w1 c3 bB B := ⟨hB2.below hbD, fun k hk => Nat.le_trans hP1.bl.size (hfB k hk), rM.bl⟩; have rD : Run w1 c3 bD D := ⟨hD3, fun k hk => Nat.le_trans hP2.bl.size (hfD k hk), rM.bl⟩; have dAM := dis_of (fun k hk => hP.at_.fp_lt hk) hfA; have dBM := dis_of (fun k hk => hP1.at_.fp_lt hk) hfB; have dBA := dis_of (fun k hk => hA1.fp_lt hk) hfB; have dDM := dis_of (fun k hk => hP2.at_.fp_lt hk) hfD; have dDA := dis_of (fun k hk => (hA1.below hbB).fp_lt hk) hfD; have dDB := dis_of (fun k hk => hB2.fp_lt hk) hfD; have sA : A.st = S := hsA.trans hst1; have sB : B.st = S := hsB.trans hst1; have sD : D.st = S := hsD.trans hst1; have HD := Lib.hid (do_any bA xc A q c3 rA.at_ (by rw [sA]; exact hokS.mono (by omega)) hiq); obtain ⟨x0, x1, x2, x3, x4, x5, x6, x7, x8, x9, x10, x11, x12, x13, x14, x15, x16, x17, x18, x19, x20⟩ := Kx.out _ rM.bl; clear hz' HC3) | (go_at_call 15; have hz' := HC2; refine HC2.out.mono ?_; rintro e c2 ⟨bB, B, rfl, hB2, hsB, hbB, hfB⟩; have hP2 := hP1.on hbB; have HC3 := Lib.hid (copy_any b M c2 100 hP2.at_ hok1); clear hz' HC2) | (go_at_call 15; have hz' := HC1; refine HC1.out.mono ?_; rintro e c1 ⟨bA, A, rfl, hA1, hsA, hbA, hfA⟩; have hP1 := hP.on hbA; have HC2 := Lib.hid (copy_any b M c1 100 hP1.at_ hok1); clear hz' HC1))
  go_wp2_with (go_at_call 16; have hz' := HD; refine HD.out.mono ?_; rw [sA, f1]; rintro e v1 ⟨rfl, A2, hA2, hs2, hk2, hf2⟩; dsimp only at hs2; obtain ⟨rM2, _⟩ := act_beside (M' := A2) rA rM (fun k hk hn => dAM k hn hk) hk2 hf2; obtain ⟨rB2, dBA2⟩ := act_beside rA rB dBA hk2 hf2; obtain ⟨rD2, _⟩ := act_beside (M' := A2) rA rD dDA hk2 hf2; have rA2 := act_run rA hA2 hk2 hf2; obtain ⟨V1, hw1, hg1, hbv1⟩ := rnew_pkg v1 r1; obtain ⟨qa0, qa1, qa2, qa3, qa4, qa5, qa6, qa7, qa8, qa9, qa10, qa11, qa12⟩ := blk13 hg1; obtain ⟨x0, x1, x2, x3, x4, x5, x6, x7, x8, x9, x10, x11, x12, x13, x14, x15, x16, x17, x18, x19, x20⟩ := Kx.out _ (rM2.on hbv1).bl; have HB := Lib.hid (accept_any bB xc B q r1 {} V1 (rB2.on hbv1).at_ (by rw [sB]; exact hokS.mono (by omega)) hiq (Nat.zero_le _)); clear hz' HD)
  go_wp2_with (first | (go_at_call 17; have hz' := HE0; refine HE0.out.mono ?_; rw [sD, f6]; rintro e v5 ⟨rfl, D5, hD5, hs5, hk5, hf5⟩; dsimp only at hs5; have rM5 := (act_beside (M' := D5) rD4 rM4 (fun k hk hn => dDM k hn hk) hk5 hf5).1; have rD5 := act_run rD4 hD5 hk5 hf5; have hg5 := rD4.at_.keep hk5 hg3 (by decide) (by decide) (by decide); obtain ⟨qa0, qa1, qa2, qa3, qa4, qa5, qa6, qa7, qa8, qa9, qa10, qa11, qa12⟩ := blk13 hg5; obtain ⟨x0, x1, x2, x3, x4, x5, x6, x7, x8, x9, x10, x11, x12, x13, x14, x15, x16, x17, x18, x19, x20⟩ := Kx.out _ rM5.bl; have HK5 := Lib.hid (key_any bD D5 v5 200 rD5.at_ (by rw [hs5]; exact hok5)); rw [hs5] at HK5; clear hz' HE0) | (go_at_call 18; have hz' := HK6; refine HK6.out.mono ?_; rintro e y6 ⟨rfl, hy6⟩; have rM6 := (rM5.on hy5).on hy6; clear hz' HK6) | (go_at_call 18; have hz' := HK5; refine HK5.out.mono ?_; rintro e y5 ⟨rfl, hy5⟩; have HK6 := Lib.hid (key_any b M y5 200 (rM5.on hy5).at_ (hok1.mono (by omega))); rw [hst1] at HK6; clear hz' HK5) | (go_at_call 18; have hz' := HK4; refine HK4.out.mono ?_; rintro e y4 ⟨rfl, hy4⟩; have hyz := hy3.trans (hy4.mono hy3.size); replace hg3 := (hyz.block _ (Array.getElem?_eq_some_iff.1 hg3).1).trans hg3; obtain ⟨qa0, qa1, qa2, qa3, qa4, qa5, qa6, qa7, qa8, qa9, qa10, qa11, qa12⟩ := blk13 hg3; replace rD4 := rD4.on hyz; replace rM4 := rM4.on hyz; obtain ⟨x0, x1, x2, x3, x4, x5, x6, x7, x8, x9, x10, x11, x12, x13, x14, x15, x16, x17, x18, x19, x20⟩ := Kx.out _ rM4.bl; have HE0 := Lib.hid (accept_any bD xc D q r i y4 rD4.at_ (by rw [sD]; exact hokS.mono (by omega)) hiq hin); clear hz' HK4) | (go_at_call 18; have hz' := HK3; refine HK3.out.mono ?_; rintro e y3 ⟨rfl, hy3⟩; have HK4 := Lib.hid (key_any b M y3 200 (rM4.on hy3).at_ (hok1.mono (by omega))); rw [hst1] at HK4; clear HE0; clear hz' HK3) | (go_at_call 18; have hz' := HK2; refine HK2.out.mono ?_; rintro e y2 ⟨rfl, hy2⟩; have hyy := hy1.trans (hy2.mono hy1.size); have hg3 := (hyy.block _ (Array.getElem?_eq_some_iff.1 hg2).1).trans hg2; obtain ⟨qa0, qa1, qa2, qa3, qa4, qa5, qa6, qa7, qa8, qa9, qa10, qa11, qa12⟩ := blk13 hg3; have rD4 := rD3.on hyy; have rM4 := rM3.on hyy; obtain ⟨x0, x1, x2, x3, x4, x5, x6, x7, x8, x9, x10, x11, x12, x13, x14, x15, x16, x17, x18, x19, x20⟩ := Kx.out _ rM4.bl; have HK3 := Lib.hid (key_any bA A2 y2 200 (rA3.on hyy).at_ (by rw [hs2]; exact hok2)); rw [hs2] at HK3; have HE0 := Lib.hid (accept_any bD xc D q r i y2 rD4.at_ (by rw [sD]; exact hokS.mono (by omega)) hiq hin); clear hz' HK2) | (go_at_call 18; have hz' := HK1; refine HK1.out.mono ?_; rintro e y1 ⟨rfl, hy1⟩; have HK2 := Lib.hid (key_any bB B3 y1 200 (rB3.on hy1).at_ (by rw [hs3]; exact hok2)); rw [hs3] at HK2; clear hz' HK1) | (go_at_call 17; have hz' := HB; refine HB.out.mono ?_; rw [sB, f5]; rintro e v2 ⟨rfl, B3, hB3, hs3, hk3, hf3⟩; dsimp only at hs3; have rBv := rB2.on hbv1; have rM3 := (act_beside (M' := B3) rBv (rM2.on hbv1) (fun k hk hn => dBM k hn hk) hk3 hf3).1; have rA3 := (act_beside (M' := B3) rBv (rA2.on hbv1) (fun k hk hn => dBA2 k hn hk) hk3 hf3).1; have rD3 := (act_beside (M' := B3) rBv (rD2.on hbv1) dDB hk3 hf3).1; have rB3 := act_run rBv hB3 hk3 hf3; have hg2 := rBv.at_.keep hk3 hg1 (by decide) (by decide) (by decide); have HK1 := Lib.hid (key_any bA A2 v2 200 rA3.at_ (by rw [hs2]; exact hok2)); rw [hs2] at HK1; clear hz' HB) | (go_at_call 13; refine (known_any _).mono ?_; rintro e wk ⟨rfl, hbk⟩))
  go_returns
  exact ⟨rfl, hB1.trans ((rM6.bl.trans (hbk.mono rM6.bl.size)).mono hB1.size)⟩
set_option maxRecDepth 100000 in
set_option maxHeartbeats 4000000 in
theorem allows_1b (c : CfgV) (p : Option Addr) (cp : Nat) (l : List ActV) (xc : Int) (q : OpV) (r : ResV) (i : ItV) (w : World) (h1 : c.text.size ≤ 2000) (h2 : l.length ≤ 60) (hA : ArgActs w p l) (hc : cfgE c = 0) (hiq : OpIn q) (hin : i.dn ≤ maxLen) (r1 : ResV) (s1 s5 : MS) (isb : Bool) (f1 : doS (runS (newS c) l) xc q = (r1, s1)) (f6 : accS (runS (newS c) l) xc q r i = (isb, s5)) (hE : (r1.err != 0) = true) (hs1 : s1 = runS (newS c) l) (h5s : s5 = runS (newS c) l) (hisb : isb = false) :
    Calls Tryz.prog 3 #[c.v, .slice p l.length cp, .agg (tryL ⟨xc, q, r, i⟩).toArray] w fun e w' => e = .returned (.bool true) ∧ Below w.heap.size w w' := by
  have hB0 := ((Below.refl w.heap.size w).alloc (Nat.le_refl _) (.cells #[.int .i64 c.slots, .int .u64 c.gens, .int .i64 c.clients, .int .i64 c.readers, .int .i64 c.queue, .int .i64 c.batch, .int .i64 c.feed, .string c.text] 24)).alloc (by simp) (.cells #[.int .i64 xc, .int .u8 q.kind, .int .i64 q.slot, .int .i64 q.at_, .int .i64 q.n, .int .u32 q.id, .int .u8 q.grav, .string q.text, .int .i64 r.err, .int .i64 r.rev, .int .i64 r.slot, .int .i64 r.at_, .int .u8 r.grav, .string r.text, .int .i64 r.m1, .int .i64 r.m2, .int .i64 r.m3, .int .u8 i.k, .int .i64 i.f, .int .i64 i.t, .slice i.da i.dn i.dc] 38)
  have hz0 := (heap_alloc_old (w.alloc (.cells #[.int .i64 c.slots, .int .u64 c.gens, .int .i64 c.clients, .int .i64 c.readers, .int .i64 c.queue, .int .i64 c.batch, .int .i64 c.feed, .string c.text] 24)) (.cells #[.int .i64 xc, .int .u8 q.kind, .int .i64 q.slot, .int .i64 q.at_, .int .i64 q.n, .int .u32 q.id, .int .u8 q.grav, .string q.text, .int .i64 r.err, .int .i64 r.rev, .int .i64 r.slot, .int .i64 r.at_, .int .u8 r.grav, .string r.text, .int .i64 r.m1, .int .i64 r.m2, .int .i64 r.m3, .int .u8 i.k, .int .i64 i.f, .int .i64 i.t, .slice i.da i.dn i.dc] 38) (show w.heap.size < _ by rw [World.size_alloc]; omega)).trans (heap_alloc_new w (.cells #[.int .i64 c.slots, .int .u64 c.gens, .int .i64 c.clients, .int .i64 c.readers, .int .i64 c.queue, .int .i64 c.batch, .int .i64 c.feed, .string c.text] 24))
  have hx0 := heap_alloc_new (w.alloc (.cells #[.int .i64 c.slots, .int .u64 c.gens, .int .i64 c.clients, .int .i64 c.readers, .int .i64 c.queue, .int .i64 c.batch, .int .i64 c.feed, .string c.text] 24)) (.cells #[.int .i64 xc, .int .u8 q.kind, .int .i64 q.slot, .int .i64 q.at_, .int .i64 q.n, .int .u32 q.id, .int .u8 q.grav, .string q.text, .int .i64 r.err, .int .i64 r.rev, .int .i64 r.slot, .int .i64 r.at_, .int .u8 r.grav, .string r.text, .int .i64 r.m1, .int .i64 r.m2, .int .i64 r.m3, .int .u8 i.k, .int .i64 i.f, .int .i64 i.t, .slice i.da i.dn i.dc] 38)
  simp only [World.size_alloc] at hx0
  have hlo := fun W => long_any c l.length W
  have e1 : (decide (2000 < c.text.size) || decide (60 < l.length)) = false := by simp; omega
  rw [e1] at hlo
  obtain ⟨S, hS⟩ : ∃ S, runS (newS c) l = S := ⟨_, rfl⟩
  rw [hS] at f1 f6
  have f5 : accS S xc q r1 {} = (true, s1) := by have := acc_self S xc q; rw [f1] at this; exact this
  have hpl := fun W (hW : Below w.heap.size w W) => play_some c p cp l W hc (hA.on hW) (by omega)
  have hokS : MSok S 100 := by rw [← hS]; exact (runS_ok (newS_ok hc) hA.ok).mono (by omega)
  have hok2 : MSok s1 200 := by have := doS_ok (c := xc) hokS hiq; rw [f1] at this; exact this.mono (by omega)
  have hok5 : MSok s5 200 := by
    have hs : s5 = s1 ∨ s5 = S := by
      have : (accS S xc q r i).2 = s5 := by rw [f6]
      rw [← this]; unfold accS; split
      · left; rw [f1]
      · right; rfl
    rcases hs with rfl | rfl
    · exact hok2
    · exact hokS.mono (by omega)
  rw [hS] at hs1
  have hs1' := hs1.symm
  subst hs1'
  rw [hS] at h5s
  have h5s' := h5s.symm
  subst h5s'
  obtain rfl : isb = false := hisb
  unfold CfgV.v tryL at *
  go_enter Tryz.func3, Tryz.ntmps3
  go_wp2_with (first | (go_at_call 12; refine (hlo _).mono ?_; rintro e w1 ⟨rfl, hb1⟩; have hB1 := hB0.trans (hb1.mono hB0.size); have hz1 := (hb1.block _ (by simp only [World.size_alloc]; omega)).trans hz0; have hx1 := (hb1.block _ (by simp only [World.size_alloc]; omega)).trans hx0; obtain ⟨z0, z1, z2, z3, z4, z5, z6, z7⟩ := blk8 hz1; have Kx := Lib.hid (fun W (hW : Below w1.heap.size w1 W) => blk21 ((hW.block _ (Array.getElem?_eq_some_iff.1 hx1).1).trans hx1))) | (go_at_call 14; refine (hpl _ hB1).mono ?_; rintro e w2 ⟨b, M, rfl, hP, hst1⟩; rw [hS] at hst1; have hok1 : MSok M.st 100 := (by rw [hst1]; exact hokS); have HC1 := Lib.hid (copy_any b M w2 100 hP.at_ hok1)) | (go_at_call 15; have hz' := HC3; refine HC3.out.mono ?_; rintro e c3 ⟨bD, D, rfl, hD3, hsD, hbD, hfD⟩; have rM := hP2.on hbD; have rA : Run w1 c3 bA A := ⟨(hA1.below hbB).below hbD, fun k hk => Nat.le_trans hP.bl.size (hfA k hk), rM.bl⟩; have rB : Run w1 c3 bB B := ⟨hB2.below hbD, fun k hk => Nat.le_trans hP1.bl.size (hfB k hk), rM.bl⟩; have rD : Run w1 c3 bD D := ⟨hD3, fun k hk => Nat.le_trans hP2.bl.size (hfD k hk), rM.bl⟩; have dAM := dis_of (fun k hk => hP.at_.fp_lt hk) hfA; have dBM := dis_of (fun k hk => hP1.at_.fp_lt hk) hfB; have dBA := dis_of (fun k hk => hA1.fp_lt hk) hfB; have dDM := dis_of (fun k hk => hP2.at_.fp_lt hk) hfD; have dDA := dis_of (fun k hk => (hA1.below hbB).fp_lt hk) hfD; have dDB := dis_of (fun k hk => hB2.fp_lt hk) hfD; have sA : A.st = S := hsA.trans hst1; have sB : B.st = S := hsB.trans hst1; have sD : D.st = S := hsD.trans hst1; have HD := Lib.hid (do_any bA xc A q c3 rA.at_ (by rw [sA]; exact hokS.mono (by omega)) hiq); obtain ⟨x0, x1, x2, x3, x4, x5, x6, x7, x8, x9, x10, x11, x12, x13, x14, x15, x16, x17, x18, x19, x20⟩ := Kx.out _ rM.bl; clear hz' HC3) | (go_at_call 15; have hz' := HC2; refine HC2.out.mono ?_; rintro e c2 ⟨bB, B, rfl, hB2, hsB, hbB, hfB⟩; have hP2 := hP1.on hbB; have HC3 := Lib.hid (copy_any b M c2 100 hP2.at_ hok1); clear hz' HC2) | (go_at_call 15; have hz' := HC1; refine HC1.out.mono ?_; rintro e c1 ⟨bA, A, rfl, hA1, hsA, hbA, hfA⟩; have hP1 := hP.on hbA; have HC2 := Lib.hid (copy_any b M c1 100 hP1.at_ hok1); clear hz' HC1))
  go_wp2_with (go_at_call 16; have hz' := HD; refine HD.out.mono ?_; rw [sA, f1]; rintro e v1 ⟨rfl, A2, hA2, hs2, hk2, hf2⟩; dsimp only at hs2; obtain ⟨rM2, _⟩ := act_beside (M' := A2) rA rM (fun k hk hn => dAM k hn hk) hk2 hf2; obtain ⟨rB2, dBA2⟩ := act_beside rA rB dBA hk2 hf2; obtain ⟨rD2, _⟩ := act_beside (M' := A2) rA rD dDA hk2 hf2; have rA2 := act_run rA hA2 hk2 hf2; obtain ⟨V1, hw1, hg1, hbv1⟩ := rnew_pkg v1 r1; obtain ⟨qa0, qa1, qa2, qa3, qa4, qa5, qa6, qa7, qa8, qa9, qa10, qa11, qa12⟩ := blk13 hg1; obtain ⟨x0, x1, x2, x3, x4, x5, x6, x7, x8, x9, x10, x11, x12, x13, x14, x15, x16, x17, x18, x19, x20⟩ := Kx.out _ (rM2.on hbv1).bl; have HB := Lib.hid (accept_any bB xc B q r1 {} V1 (rB2.on hbv1).at_ (by rw [sB]; exact hokS.mono (by omega)) hiq (Nat.zero_le _)); clear hz' HD)
  go_wp2_with (first | (go_at_call 17; have hz' := HE0; refine HE0.out.mono ?_; rw [sD, f6]; rintro e v5 ⟨rfl, D5, hD5, hs5, hk5, hf5⟩; dsimp only at hs5; have rM5 := (act_beside (M' := D5) rD4 rM4 (fun k hk hn => dDM k hn hk) hk5 hf5).1; have rD5 := act_run rD4 hD5 hk5 hf5; have hg5 := rD4.at_.keep hk5 hg3 (by decide) (by decide) (by decide); obtain ⟨qa0, qa1, qa2, qa3, qa4, qa5, qa6, qa7, qa8, qa9, qa10, qa11, qa12⟩ := blk13 hg5; obtain ⟨x0, x1, x2, x3, x4, x5, x6, x7, x8, x9, x10, x11, x12, x13, x14, x15, x16, x17, x18, x19, x20⟩ := Kx.out _ rM5.bl; have HK5 := Lib.hid (key_any bD D5 v5 200 rD5.at_ (by rw [hs5]; exact hok5)); rw [hs5] at HK5; clear hz' HE0) | (go_at_call 18; have hz' := HK6; refine HK6.out.mono ?_; rintro e y6 ⟨rfl, hy6⟩; have rM6 := (rM5.on hy5).on hy6; clear hz' HK6) | (go_at_call 18; have hz' := HK5; refine HK5.out.mono ?_; rintro e y5 ⟨rfl, hy5⟩; have HK6 := Lib.hid (key_any b M y5 200 (rM5.on hy5).at_ (hok1.mono (by omega))); rw [hst1] at HK6; clear hz' HK5) | (go_at_call 18; have hz' := HK4; refine HK4.out.mono ?_; rintro e y4 ⟨rfl, hy4⟩; have hyz := hy3.trans (hy4.mono hy3.size); replace hg3 := (hyz.block _ (Array.getElem?_eq_some_iff.1 hg3).1).trans hg3; obtain ⟨qa0, qa1, qa2, qa3, qa4, qa5, qa6, qa7, qa8, qa9, qa10, qa11, qa12⟩ := blk13 hg3; replace rD4 := rD4.on hyz; replace rM4 := rM4.on hyz; obtain ⟨x0, x1, x2, x3, x4, x5, x6, x7, x8, x9, x10, x11, x12, x13, x14, x15, x16, x17, x18, x19, x20⟩ := Kx.out _ rM4.bl; have HE0 := Lib.hid (accept_any bD xc D q r i y4 rD4.at_ (by rw [sD]; exact hokS.mono (by omega)) hiq hin); clear hz' HK4) | (go_at_call 18; have hz' := HK3; refine HK3.out.mono ?_; rintro e y3 ⟨rfl, hy3⟩; have HK4 := Lib.hid (key_any b M y3 200 (rM4.on hy3).at_ (hok1.mono (by omega))); rw [hst1] at HK4; clear HE0; clear hz' HK3) | (go_at_call 18; have hz' := HK2; refine HK2.out.mono ?_; rintro e y2 ⟨rfl, hy2⟩; have hyy := hy1.trans (hy2.mono hy1.size); have hg3 := (hyy.block _ (Array.getElem?_eq_some_iff.1 hg2).1).trans hg2; obtain ⟨qa0, qa1, qa2, qa3, qa4, qa5, qa6, qa7, qa8, qa9, qa10, qa11, qa12⟩ := blk13 hg3; have rD4 := rD3.on hyy; have rM4 := rM3.on hyy; obtain ⟨x0, x1, x2, x3, x4, x5, x6, x7, x8, x9, x10, x11, x12, x13, x14, x15, x16, x17, x18, x19, x20⟩ := Kx.out _ rM4.bl; have HK3 := Lib.hid (key_any bA A2 y2 200 (rA3.on hyy).at_ (by rw [hs2]; exact hok2)); rw [hs2] at HK3; have HE0 := Lib.hid (accept_any bD xc D q r i y2 rD4.at_ (by rw [sD]; exact hokS.mono (by omega)) hiq hin); clear hz' HK2) | (go_at_call 18; have hz' := HK1; refine HK1.out.mono ?_; rintro e y1 ⟨rfl, hy1⟩; have HK2 := Lib.hid (key_any bB B3 y1 200 (rB3.on hy1).at_ (by rw [hs3]; exact hok2)); rw [hs3] at HK2; clear hz' HK1) | (go_at_call 17; have hz' := HB; refine HB.out.mono ?_; rw [sB, f5]; rintro e v2 ⟨rfl, B3, hB3, hs3, hk3, hf3⟩; dsimp only at hs3; have rBv := rB2.on hbv1; have rM3 := (act_beside (M' := B3) rBv (rM2.on hbv1) (fun k hk hn => dBM k hn hk) hk3 hf3).1; have rA3 := (act_beside (M' := B3) rBv (rA2.on hbv1) (fun k hk hn => dBA2 k hn hk) hk3 hf3).1; have rD3 := (act_beside (M' := B3) rBv (rD2.on hbv1) dDB hk3 hf3).1; have rB3 := act_run rBv hB3 hk3 hf3; have hg2 := rBv.at_.keep hk3 hg1 (by decide) (by decide) (by decide); have HK1 := Lib.hid (key_any bA A2 v2 200 rA3.at_ (by rw [hs2]; exact hok2)); rw [hs2] at HK1; clear hz' HB) | (go_at_call 13; refine (known_any _).mono ?_; rintro e wk ⟨rfl, hbk⟩))
  go_returns
  exact ⟨rfl, hB1.trans ((rM6.bl.trans (hbk.mono rM6.bl.size)).mono hB1.size)⟩
set_option maxRecDepth 100000 in
set_option maxHeartbeats 4000000 in
theorem allows_2a (c : CfgV) (p : Option Addr) (cp : Nat) (l : List ActV) (xc : Int) (q : OpV) (r : ResV) (i : ItV) (w : World) (h1 : c.text.size ≤ 2000) (h2 : l.length ≤ 60) (hA : ArgActs w p l) (hc : cfgE c = 0) (hiq : OpIn q) (hin : i.dn ≤ maxLen) (r1 : ResV) (s1 s5 : MS) (isb : Bool) (f1 : doS (runS (newS c) l) xc q = (r1, s1)) (f6 : accS (runS (newS c) l) xc q r i = (isb, s5)) (hE : (r1.err != 0) = false) (h5s : s5 = runS (newS c) l) (hisb : isb = true) (he0 : (r.err == 0) = false) :
    Calls Tryz.prog 3 #[c.v, .slice p l.length cp, .agg (tryL ⟨xc, q, r, i⟩).toArray] w fun e w' => e = .returned (.bool true) ∧ Below w.heap.size w w' := by
  have hB0 := ((Below.refl w.heap.size w).alloc (Nat.le_refl _) (.cells #[.int .i64 c.slots, .int .u64 c.gens, .int .i64 c.clients, .int .i64 c.readers, .int .i64 c.queue, .int .i64 c.batch, .int .i64 c.feed, .string c.text] 24)).alloc (by simp) (.cells #[.int .i64 xc, .int .u8 q.kind, .int .i64 q.slot, .int .i64 q.at_, .int .i64 q.n, .int .u32 q.id, .int .u8 q.grav, .string q.text, .int .i64 r.err, .int .i64 r.rev, .int .i64 r.slot, .int .i64 r.at_, .int .u8 r.grav, .string r.text, .int .i64 r.m1, .int .i64 r.m2, .int .i64 r.m3, .int .u8 i.k, .int .i64 i.f, .int .i64 i.t, .slice i.da i.dn i.dc] 38)
  have hz0 := (heap_alloc_old (w.alloc (.cells #[.int .i64 c.slots, .int .u64 c.gens, .int .i64 c.clients, .int .i64 c.readers, .int .i64 c.queue, .int .i64 c.batch, .int .i64 c.feed, .string c.text] 24)) (.cells #[.int .i64 xc, .int .u8 q.kind, .int .i64 q.slot, .int .i64 q.at_, .int .i64 q.n, .int .u32 q.id, .int .u8 q.grav, .string q.text, .int .i64 r.err, .int .i64 r.rev, .int .i64 r.slot, .int .i64 r.at_, .int .u8 r.grav, .string r.text, .int .i64 r.m1, .int .i64 r.m2, .int .i64 r.m3, .int .u8 i.k, .int .i64 i.f, .int .i64 i.t, .slice i.da i.dn i.dc] 38) (show w.heap.size < _ by rw [World.size_alloc]; omega)).trans (heap_alloc_new w (.cells #[.int .i64 c.slots, .int .u64 c.gens, .int .i64 c.clients, .int .i64 c.readers, .int .i64 c.queue, .int .i64 c.batch, .int .i64 c.feed, .string c.text] 24))
  have hx0 := heap_alloc_new (w.alloc (.cells #[.int .i64 c.slots, .int .u64 c.gens, .int .i64 c.clients, .int .i64 c.readers, .int .i64 c.queue, .int .i64 c.batch, .int .i64 c.feed, .string c.text] 24)) (.cells #[.int .i64 xc, .int .u8 q.kind, .int .i64 q.slot, .int .i64 q.at_, .int .i64 q.n, .int .u32 q.id, .int .u8 q.grav, .string q.text, .int .i64 r.err, .int .i64 r.rev, .int .i64 r.slot, .int .i64 r.at_, .int .u8 r.grav, .string r.text, .int .i64 r.m1, .int .i64 r.m2, .int .i64 r.m3, .int .u8 i.k, .int .i64 i.f, .int .i64 i.t, .slice i.da i.dn i.dc] 38)
  simp only [World.size_alloc] at hx0
  have hlo := fun W => long_any c l.length W
  have e1 : (decide (2000 < c.text.size) || decide (60 < l.length)) = false := by simp; omega
  rw [e1] at hlo
  obtain ⟨S, hS⟩ : ∃ S, runS (newS c) l = S := ⟨_, rfl⟩
  rw [hS] at f1 f6
  have f5 : accS S xc q r1 {} = (true, s1) := by have := acc_self S xc q; rw [f1] at this; exact this
  have hpl := fun W (hW : Below w.heap.size w W) => play_some c p cp l W hc (hA.on hW) (by omega)
  have hokS : MSok S 100 := by rw [← hS]; exact (runS_ok (newS_ok hc) hA.ok).mono (by omega)
  have hok2 : MSok s1 200 := by have := doS_ok (c := xc) hokS hiq; rw [f1] at this; exact this.mono (by omega)
  have hok5 : MSok s5 200 := by
    have hs : s5 = s1 ∨ s5 = S := by
      have : (accS S xc q r i).2 = s5 := by rw [f6]
      rw [← this]; unfold accS; split
      · left; rw [f1]
      · right; rfl
    rcases hs with rfl | rfl
    · exact hok2
    · exact hokS.mono (by omega)
  rw [hS] at h5s
  have h5s' := h5s.symm
  subst h5s'
  obtain rfl : isb = true := hisb
  unfold CfgV.v tryL at *
  go_enter Tryz.func3, Tryz.ntmps3
  go_wp2_with (first | (go_at_call 12; refine (hlo _).mono ?_; rintro e w1 ⟨rfl, hb1⟩; have hB1 := hB0.trans (hb1.mono hB0.size); have hz1 := (hb1.block _ (by simp only [World.size_alloc]; omega)).trans hz0; have hx1 := (hb1.block _ (by simp only [World.size_alloc]; omega)).trans hx0; obtain ⟨z0, z1, z2, z3, z4, z5, z6, z7⟩ := blk8 hz1; have Kx := Lib.hid (fun W (hW : Below w1.heap.size w1 W) => blk21 ((hW.block _ (Array.getElem?_eq_some_iff.1 hx1).1).trans hx1))) | (go_at_call 14; refine (hpl _ hB1).mono ?_; rintro e w2 ⟨b, M, rfl, hP, hst1⟩; rw [hS] at hst1; have hok1 : MSok M.st 100 := (by rw [hst1]; exact hokS); have HC1 := Lib.hid (copy_any b M w2 100 hP.at_ hok1)) | (go_at_call 15; have hz' := HC3; refine HC3.out.mono ?_; rintro e c3 ⟨bD, D, rfl, hD3, hsD, hbD, hfD⟩; have rM := hP2.on hbD; have rA : Run w1 c3 bA A := ⟨(hA1.below hbB).below hbD, fun k hk => Nat.le_trans hP.bl.size (hfA k hk), rM.bl⟩; have rB : Run w1 c3 bB B := ⟨hB2.below hbD, fun k hk => Nat.le_trans hP1.bl.size (hfB k hk), rM.bl⟩; have rD : Run w1 c3 bD D := ⟨hD3, fun k hk => Nat.le_trans hP2.bl.size (hfD k hk), rM.bl⟩; have dAM := dis_of (fun k hk => hP.at_.fp_lt hk) hfA; have dBM := dis_of (fun k hk => hP1.at_.fp_lt hk) hfB; have dBA := dis_of (fun k hk => hA1.fp_lt hk) hfB; have dDM := dis_of (fun k hk => hP2.at_.fp_lt hk) hfD; have dDA := dis_of (fun k hk => (hA1.below hbB).fp_lt hk) hfD; have dDB := dis_of (fun k hk => hB2.fp_lt hk) hfD; have sA : A.st = S := hsA.trans hst1; have sB : B.st = S := hsB.trans hst1; have sD : D.st = S := hsD.trans hst1; have HD := Lib.hid (do_any bA xc A q c3 rA.at_ (by rw [sA]; exact hokS.mono (by omega)) hiq); obtain ⟨x0, x1, x2, x3, x4, x5, x6, x7, x8, x9, x10, x11, x12, x13, x14, x15, x16, x17, x18, x19, x20⟩ := Kx.out _ rM.bl; clear hz' HC3) | (go_at_call 15; have hz' := HC2; refine HC2.out.mono ?_; rintro e c2 ⟨bB, B, rfl, hB2, hsB, hbB, hfB⟩; have hP2 := hP1.on hbB; have HC3 := Lib.hid (copy_any b M c2 100 hP2.at_ hok1); clear hz' HC2) | (go_at_call 15; have hz' := HC1; refine HC1.out.mono ?_; rintro e c1 ⟨bA, A, rfl, hA1, hsA, hbA, hfA⟩; have hP1 := hP.on hbA; have HC2 := Lib.hid (copy_any b M c1 100 hP1.at_ hok1); clear hz' HC1))
  go_wp2_with (go_at_call 16; have hz' := HD; refine HD.out.mono ?_; rw [sA, f1]; rintro e v1 ⟨rfl, A2, hA2, hs2, hk2, hf2⟩; dsimp only at hs2; obtain ⟨rM2, _⟩ := act_beside (M' := A2) rA rM (fun k hk hn => dAM k hn hk) hk2 hf2; obtain ⟨rB2, dBA2⟩ := act_beside rA rB dBA hk2 hf2; obtain ⟨rD2, _⟩ := act_beside (M' := A2) rA rD dDA hk2 hf2; have rA2 := act_run rA hA2 hk2 hf2; obtain ⟨V1, hw1, hg1, hbv1⟩ := rnew_pkg v1 r1; obtain ⟨qa0, qa1, qa2, qa3, qa4, qa5, qa6, qa7, qa8, qa9, qa10, qa11, qa12⟩ := blk13 hg1; obtain ⟨x0, x1, x2, x3, x4, x5, x6, x7, x8, x9, x10, x11, x12, x13, x14, x15, x16, x17, x18, x19, x20⟩ := Kx.out _ (rM2.on hbv1).bl; have HB := Lib.hid (accept_any bB xc B q r1 {} V1 (rB2.on hbv1).at_ (by rw [sB]; exact hokS.mono (by omega)) hiq (Nat.zero_le _)); clear hz' HD)
  go_wp2_with (first | (go_at_call 17; have hz' := HE0; refine HE0.out.mono ?_; rw [sD, f6]; rintro e v5 ⟨rfl, D5, hD5, hs5, hk5, hf5⟩; dsimp only at hs5; have rM5 := (act_beside (M' := D5) rD4 rM4 (fun k hk hn => dDM k hn hk) hk5 hf5).1; have rD5 := act_run rD4 hD5 hk5 hf5; have hg5 := rD4.at_.keep hk5 hg3 (by decide) (by decide) (by decide); obtain ⟨qa0, qa1, qa2, qa3, qa4, qa5, qa6, qa7, qa8, qa9, qa10, qa11, qa12⟩ := blk13 hg5; obtain ⟨x0, x1, x2, x3, x4, x5, x6, x7, x8, x9, x10, x11, x12, x13, x14, x15, x16, x17, x18, x19, x20⟩ := Kx.out _ rM5.bl; have HK5 := Lib.hid (key_any bD D5 v5 200 rD5.at_ (by rw [hs5]; exact hok5)); rw [hs5] at HK5; clear hz' HE0) | (go_at_call 18; have hz' := HK6; refine HK6.out.mono ?_; rintro e y6 ⟨rfl, hy6⟩; have rM6 := (rM5.on hy5).on hy6; clear hz' HK6) | (go_at_call 18; have hz' := HK5; refine HK5.out.mono ?_; rintro e y5 ⟨rfl, hy5⟩; have HK6 := Lib.hid (key_any b M y5 200 (rM5.on hy5).at_ (hok1.mono (by omega))); rw [hst1] at HK6; clear hz' HK5) | (go_at_call 18; have hz' := HK4; refine HK4.out.mono ?_; rintro e y4 ⟨rfl, hy4⟩; have hyz := hy3.trans (hy4.mono hy3.size); replace hg3 := (hyz.block _ (Array.getElem?_eq_some_iff.1 hg3).1).trans hg3; obtain ⟨qa0, qa1, qa2, qa3, qa4, qa5, qa6, qa7, qa8, qa9, qa10, qa11, qa12⟩ := blk13 hg3; replace rD4 := rD4.on hyz; replace rM4 := rM4.on hyz; obtain ⟨x0, x1, x2, x3, x4, x5, x6, x7, x8, x9, x10, x11, x12, x13, x14, x15, x16, x17, x18, x19, x20⟩ := Kx.out _ rM4.bl; have HE0 := Lib.hid (accept_any bD xc D q r i y4 rD4.at_ (by rw [sD]; exact hokS.mono (by omega)) hiq hin); clear hz' HK4) | (go_at_call 18; have hz' := HK3; refine HK3.out.mono ?_; rintro e y3 ⟨rfl, hy3⟩; have HK4 := Lib.hid (key_any b M y3 200 (rM4.on hy3).at_ (hok1.mono (by omega))); rw [hst1] at HK4; clear HE0; clear hz' HK3) | (go_at_call 18; have hz' := HK2; refine HK2.out.mono ?_; rintro e y2 ⟨rfl, hy2⟩; have hyy := hy1.trans (hy2.mono hy1.size); have hg3 := (hyy.block _ (Array.getElem?_eq_some_iff.1 hg2).1).trans hg2; obtain ⟨qa0, qa1, qa2, qa3, qa4, qa5, qa6, qa7, qa8, qa9, qa10, qa11, qa12⟩ := blk13 hg3; have rD4 := rD3.on hyy; have rM4 := rM3.on hyy; obtain ⟨x0, x1, x2, x3, x4, x5, x6, x7, x8, x9, x10, x11, x12, x13, x14, x15, x16, x17, x18, x19, x20⟩ := Kx.out _ rM4.bl; have HK3 := Lib.hid (key_any bA A2 y2 200 (rA3.on hyy).at_ (by rw [hs2]; exact hok2)); rw [hs2] at HK3; have HE0 := Lib.hid (accept_any bD xc D q r i y2 rD4.at_ (by rw [sD]; exact hokS.mono (by omega)) hiq hin); clear hz' HK2) | (go_at_call 18; have hz' := HK1; refine HK1.out.mono ?_; rintro e y1 ⟨rfl, hy1⟩; have HK2 := Lib.hid (key_any bB B3 y1 200 (rB3.on hy1).at_ (by rw [hs3]; exact hok2)); rw [hs3] at HK2; clear hz' HK1) | (go_at_call 17; have hz' := HB; refine HB.out.mono ?_; rw [sB, f5]; rintro e v2 ⟨rfl, B3, hB3, hs3, hk3, hf3⟩; dsimp only at hs3; have rBv := rB2.on hbv1; have rM3 := (act_beside (M' := B3) rBv (rM2.on hbv1) (fun k hk hn => dBM k hn hk) hk3 hf3).1; have rA3 := (act_beside (M' := B3) rBv (rA2.on hbv1) (fun k hk hn => dBA2 k hn hk) hk3 hf3).1; have rD3 := (act_beside (M' := B3) rBv (rD2.on hbv1) dDB hk3 hf3).1; have rB3 := act_run rBv hB3 hk3 hf3; have hg2 := rBv.at_.keep hk3 hg1 (by decide) (by decide) (by decide); have HK1 := Lib.hid (key_any bA A2 v2 200 rA3.at_ (by rw [hs2]; exact hok2)); rw [hs2] at HK1; clear hz' HB) | (go_at_call 13; refine (known_any _).mono ?_; rintro e wk ⟨rfl, hbk⟩))
  go_returns
  exact ⟨rfl, hB1.trans ((rM6.bl.trans (hbk.mono rM6.bl.size)).mono hB1.size)⟩
set_option maxRecDepth 100000 in
set_option maxHeartbeats 4000000 in
theorem allows_2b (c : CfgV) (p : Option Addr) (cp : Nat) (l : List ActV) (xc : Int) (q : OpV) (r : ResV) (i : ItV) (w : World) (h1 : c.text.size ≤ 2000) (h2 : l.length ≤ 60) (hA : ArgActs w p l) (hc : cfgE c = 0) (hiq : OpIn q) (hin : i.dn ≤ maxLen) (r1 : ResV) (s1 s5 : MS) (isb : Bool) (f1 : doS (runS (newS c) l) xc q = (r1, s1)) (f6 : accS (runS (newS c) l) xc q r i = (isb, s5)) (hE : (r1.err != 0) = true) (hs1 : s1 = runS (newS c) l) (h5s : s5 = runS (newS c) l) (hisb : isb = true) (he0 : (r.err == 0) = false) :
    Calls Tryz.prog 3 #[c.v, .slice p l.length cp, .agg (tryL ⟨xc, q, r, i⟩).toArray] w fun e w' => e = .returned (.bool true) ∧ Below w.heap.size w w' := by
  have hB0 := ((Below.refl w.heap.size w).alloc (Nat.le_refl _) (.cells #[.int .i64 c.slots, .int .u64 c.gens, .int .i64 c.clients, .int .i64 c.readers, .int .i64 c.queue, .int .i64 c.batch, .int .i64 c.feed, .string c.text] 24)).alloc (by simp) (.cells #[.int .i64 xc, .int .u8 q.kind, .int .i64 q.slot, .int .i64 q.at_, .int .i64 q.n, .int .u32 q.id, .int .u8 q.grav, .string q.text, .int .i64 r.err, .int .i64 r.rev, .int .i64 r.slot, .int .i64 r.at_, .int .u8 r.grav, .string r.text, .int .i64 r.m1, .int .i64 r.m2, .int .i64 r.m3, .int .u8 i.k, .int .i64 i.f, .int .i64 i.t, .slice i.da i.dn i.dc] 38)
  have hz0 := (heap_alloc_old (w.alloc (.cells #[.int .i64 c.slots, .int .u64 c.gens, .int .i64 c.clients, .int .i64 c.readers, .int .i64 c.queue, .int .i64 c.batch, .int .i64 c.feed, .string c.text] 24)) (.cells #[.int .i64 xc, .int .u8 q.kind, .int .i64 q.slot, .int .i64 q.at_, .int .i64 q.n, .int .u32 q.id, .int .u8 q.grav, .string q.text, .int .i64 r.err, .int .i64 r.rev, .int .i64 r.slot, .int .i64 r.at_, .int .u8 r.grav, .string r.text, .int .i64 r.m1, .int .i64 r.m2, .int .i64 r.m3, .int .u8 i.k, .int .i64 i.f, .int .i64 i.t, .slice i.da i.dn i.dc] 38) (show w.heap.size < _ by rw [World.size_alloc]; omega)).trans (heap_alloc_new w (.cells #[.int .i64 c.slots, .int .u64 c.gens, .int .i64 c.clients, .int .i64 c.readers, .int .i64 c.queue, .int .i64 c.batch, .int .i64 c.feed, .string c.text] 24))
  have hx0 := heap_alloc_new (w.alloc (.cells #[.int .i64 c.slots, .int .u64 c.gens, .int .i64 c.clients, .int .i64 c.readers, .int .i64 c.queue, .int .i64 c.batch, .int .i64 c.feed, .string c.text] 24)) (.cells #[.int .i64 xc, .int .u8 q.kind, .int .i64 q.slot, .int .i64 q.at_, .int .i64 q.n, .int .u32 q.id, .int .u8 q.grav, .string q.text, .int .i64 r.err, .int .i64 r.rev, .int .i64 r.slot, .int .i64 r.at_, .int .u8 r.grav, .string r.text, .int .i64 r.m1, .int .i64 r.m2, .int .i64 r.m3, .int .u8 i.k, .int .i64 i.f, .int .i64 i.t, .slice i.da i.dn i.dc] 38)
  simp only [World.size_alloc] at hx0
  have hlo := fun W => long_any c l.length W
  have e1 : (decide (2000 < c.text.size) || decide (60 < l.length)) = false := by simp; omega
  rw [e1] at hlo
  obtain ⟨S, hS⟩ : ∃ S, runS (newS c) l = S := ⟨_, rfl⟩
  rw [hS] at f1 f6
  have f5 : accS S xc q r1 {} = (true, s1) := by have := acc_self S xc q; rw [f1] at this; exact this
  have hpl := fun W (hW : Below w.heap.size w W) => play_some c p cp l W hc (hA.on hW) (by omega)
  have hokS : MSok S 100 := by rw [← hS]; exact (runS_ok (newS_ok hc) hA.ok).mono (by omega)
  have hok2 : MSok s1 200 := by have := doS_ok (c := xc) hokS hiq; rw [f1] at this; exact this.mono (by omega)
  have hok5 : MSok s5 200 := by
    have hs : s5 = s1 ∨ s5 = S := by
      have : (accS S xc q r i).2 = s5 := by rw [f6]
      rw [← this]; unfold accS; split
      · left; rw [f1]
      · right; rfl
    rcases hs with rfl | rfl
    · exact hok2
    · exact hokS.mono (by omega)
  rw [hS] at hs1
  have hs1' := hs1.symm
  subst hs1'
  rw [hS] at h5s
  have h5s' := h5s.symm
  subst h5s'
  obtain rfl : isb = true := hisb
  unfold CfgV.v tryL at *
  go_enter Tryz.func3, Tryz.ntmps3
  go_wp2_with (first | (go_at_call 12; refine (hlo _).mono ?_; rintro e w1 ⟨rfl, hb1⟩; have hB1 := hB0.trans (hb1.mono hB0.size); have hz1 := (hb1.block _ (by simp only [World.size_alloc]; omega)).trans hz0; have hx1 := (hb1.block _ (by simp only [World.size_alloc]; omega)).trans hx0; obtain ⟨z0, z1, z2, z3, z4, z5, z6, z7⟩ := blk8 hz1; have Kx := Lib.hid (fun W (hW : Below w1.heap.size w1 W) => blk21 ((hW.block _ (Array.getElem?_eq_some_iff.1 hx1).1).trans hx1))) | (go_at_call 14; refine (hpl _ hB1).mono ?_; rintro e w2 ⟨b, M, rfl, hP, hst1⟩; rw [hS] at hst1; have hok1 : MSok M.st 100 := (by rw [hst1]; exact hokS); have HC1 := Lib.hid (copy_any b M w2 100 hP.at_ hok1)) | (go_at_call 15; have hz' := HC3; refine HC3.out.mono ?_; rintro e c3 ⟨bD, D, rfl, hD3, hsD, hbD, hfD⟩; have rM := hP2.on hbD; have rA : Run w1 c3 bA A := ⟨(hA1.below hbB).below hbD, fun k hk => Nat.le_trans hP.bl.size (hfA k hk), rM.bl⟩; have rB : Run w1 c3 bB B := ⟨hB2.below hbD, fun k hk => Nat.le_trans hP1.bl.size (hfB k hk), rM.bl⟩; have rD : Run w1 c3 bD D := ⟨hD3, fun k hk => Nat.le_trans hP2.bl.size (hfD k hk), rM.bl⟩; have dAM := dis_of (fun k hk => hP.at_.fp_lt hk) hfA; have dBM := dis_of (fun k hk => hP1.at_.fp_lt hk) hfB; have dBA := dis_of (fun k hk => hA1.fp_lt hk) hfB; have dDM := dis_of (fun k hk => hP2.at_.fp_lt hk) hfD; have dDA := dis_of (fun k hk => (hA1.below hbB).fp_lt hk) hfD; have dDB := dis_of (fun k hk => hB2.fp_lt hk) hfD; have sA : A.st = S := hsA.trans hst1; have sB : B.st = S := hsB.trans hst1; have sD : D.st = S := hsD.trans hst1; have HD := Lib.hid (do_any bA xc A q c3 rA.at_ (by rw [sA]; exact hokS.mono (by omega)) hiq); obtain ⟨x0, x1, x2, x3, x4, x5, x6, x7, x8, x9, x10, x11, x12, x13, x14, x15, x16, x17, x18, x19, x20⟩ := Kx.out _ rM.bl; clear hz' HC3) | (go_at_call 15; have hz' := HC2; refine HC2.out.mono ?_; rintro e c2 ⟨bB, B, rfl, hB2, hsB, hbB, hfB⟩; have hP2 := hP1.on hbB; have HC3 := Lib.hid (copy_any b M c2 100 hP2.at_ hok1); clear hz' HC2) | (go_at_call 15; have hz' := HC1; refine HC1.out.mono ?_; rintro e c1 ⟨bA, A, rfl, hA1, hsA, hbA, hfA⟩; have hP1 := hP.on hbA; have HC2 := Lib.hid (copy_any b M c1 100 hP1.at_ hok1); clear hz' HC1))
  go_wp2_with (go_at_call 16; have hz' := HD; refine HD.out.mono ?_; rw [sA, f1]; rintro e v1 ⟨rfl, A2, hA2, hs2, hk2, hf2⟩; dsimp only at hs2; obtain ⟨rM2, _⟩ := act_beside (M' := A2) rA rM (fun k hk hn => dAM k hn hk) hk2 hf2; obtain ⟨rB2, dBA2⟩ := act_beside rA rB dBA hk2 hf2; obtain ⟨rD2, _⟩ := act_beside (M' := A2) rA rD dDA hk2 hf2; have rA2 := act_run rA hA2 hk2 hf2; obtain ⟨V1, hw1, hg1, hbv1⟩ := rnew_pkg v1 r1; obtain ⟨qa0, qa1, qa2, qa3, qa4, qa5, qa6, qa7, qa8, qa9, qa10, qa11, qa12⟩ := blk13 hg1; obtain ⟨x0, x1, x2, x3, x4, x5, x6, x7, x8, x9, x10, x11, x12, x13, x14, x15, x16, x17, x18, x19, x20⟩ := Kx.out _ (rM2.on hbv1).bl; have HB := Lib.hid (accept_any bB xc B q r1 {} V1 (rB2.on hbv1).at_ (by rw [sB]; exact hokS.mono (by omega)) hiq (Nat.zero_le _)); clear hz' HD)
  go_wp2_with (first | (go_at_call 17; have hz' := HE0; refine HE0.out.mono ?_; rw [sD, f6]; rintro e v5 ⟨rfl, D5, hD5, hs5, hk5, hf5⟩; dsimp only at hs5; have rM5 := (act_beside (M' := D5) rD4 rM4 (fun k hk hn => dDM k hn hk) hk5 hf5).1; have rD5 := act_run rD4 hD5 hk5 hf5; have hg5 := rD4.at_.keep hk5 hg3 (by decide) (by decide) (by decide); obtain ⟨qa0, qa1, qa2, qa3, qa4, qa5, qa6, qa7, qa8, qa9, qa10, qa11, qa12⟩ := blk13 hg5; obtain ⟨x0, x1, x2, x3, x4, x5, x6, x7, x8, x9, x10, x11, x12, x13, x14, x15, x16, x17, x18, x19, x20⟩ := Kx.out _ rM5.bl; have HK5 := Lib.hid (key_any bD D5 v5 200 rD5.at_ (by rw [hs5]; exact hok5)); rw [hs5] at HK5; clear hz' HE0) | (go_at_call 18; have hz' := HK6; refine HK6.out.mono ?_; rintro e y6 ⟨rfl, hy6⟩; have rM6 := (rM5.on hy5).on hy6; clear hz' HK6) | (go_at_call 18; have hz' := HK5; refine HK5.out.mono ?_; rintro e y5 ⟨rfl, hy5⟩; have HK6 := Lib.hid (key_any b M y5 200 (rM5.on hy5).at_ (hok1.mono (by omega))); rw [hst1] at HK6; clear hz' HK5) | (go_at_call 18; have hz' := HK4; refine HK4.out.mono ?_; rintro e y4 ⟨rfl, hy4⟩; have hyz := hy3.trans (hy4.mono hy3.size); replace hg3 := (hyz.block _ (Array.getElem?_eq_some_iff.1 hg3).1).trans hg3; obtain ⟨qa0, qa1, qa2, qa3, qa4, qa5, qa6, qa7, qa8, qa9, qa10, qa11, qa12⟩ := blk13 hg3; replace rD4 := rD4.on hyz; replace rM4 := rM4.on hyz; obtain ⟨x0, x1, x2, x3, x4, x5, x6, x7, x8, x9, x10, x11, x12, x13, x14, x15, x16, x17, x18, x19, x20⟩ := Kx.out _ rM4.bl; have HE0 := Lib.hid (accept_any bD xc D q r i y4 rD4.at_ (by rw [sD]; exact hokS.mono (by omega)) hiq hin); clear hz' HK4) | (go_at_call 18; have hz' := HK3; refine HK3.out.mono ?_; rintro e y3 ⟨rfl, hy3⟩; have HK4 := Lib.hid (key_any b M y3 200 (rM4.on hy3).at_ (hok1.mono (by omega))); rw [hst1] at HK4; clear HE0; clear hz' HK3) | (go_at_call 18; have hz' := HK2; refine HK2.out.mono ?_; rintro e y2 ⟨rfl, hy2⟩; have hyy := hy1.trans (hy2.mono hy1.size); have hg3 := (hyy.block _ (Array.getElem?_eq_some_iff.1 hg2).1).trans hg2; obtain ⟨qa0, qa1, qa2, qa3, qa4, qa5, qa6, qa7, qa8, qa9, qa10, qa11, qa12⟩ := blk13 hg3; have rD4 := rD3.on hyy; have rM4 := rM3.on hyy; obtain ⟨x0, x1, x2, x3, x4, x5, x6, x7, x8, x9, x10, x11, x12, x13, x14, x15, x16, x17, x18, x19, x20⟩ := Kx.out _ rM4.bl; have HK3 := Lib.hid (key_any bA A2 y2 200 (rA3.on hyy).at_ (by rw [hs2]; exact hok2)); rw [hs2] at HK3; have HE0 := Lib.hid (accept_any bD xc D q r i y2 rD4.at_ (by rw [sD]; exact hokS.mono (by omega)) hiq hin); clear hz' HK2) | (go_at_call 18; have hz' := HK1; refine HK1.out.mono ?_; rintro e y1 ⟨rfl, hy1⟩; have HK2 := Lib.hid (key_any bB B3 y1 200 (rB3.on hy1).at_ (by rw [hs3]; exact hok2)); rw [hs3] at HK2; clear hz' HK1) | (go_at_call 17; have hz' := HB; refine HB.out.mono ?_; rw [sB, f5]; rintro e v2 ⟨rfl, B3, hB3, hs3, hk3, hf3⟩; dsimp only at hs3; have rBv := rB2.on hbv1; have rM3 := (act_beside (M' := B3) rBv (rM2.on hbv1) (fun k hk hn => dBM k hn hk) hk3 hf3).1; have rA3 := (act_beside (M' := B3) rBv (rA2.on hbv1) (fun k hk hn => dBA2 k hn hk) hk3 hf3).1; have rD3 := (act_beside (M' := B3) rBv (rD2.on hbv1) dDB hk3 hf3).1; have rB3 := act_run rBv hB3 hk3 hf3; have hg2 := rBv.at_.keep hk3 hg1 (by decide) (by decide) (by decide); have HK1 := Lib.hid (key_any bA A2 v2 200 rA3.at_ (by rw [hs2]; exact hok2)); rw [hs2] at HK1; clear hz' HB) | (go_at_call 13; refine (known_any _).mono ?_; rintro e wk ⟨rfl, hbk⟩))
  go_returns
  exact ⟨rfl, hB1.trans ((rM6.bl.trans (hbk.mono rM6.bl.size)).mono hB1.size)⟩
set_option maxRecDepth 100000 in
set_option maxHeartbeats 4000000 in
theorem allows_3a (c : CfgV) (p : Option Addr) (cp : Nat) (l : List ActV) (xc : Int) (q : OpV) (r : ResV) (i : ItV) (w : World) (h1 : c.text.size ≤ 2000) (h2 : l.length ≤ 60) (hA : ArgActs w p l) (hc : cfgE c = 0) (hiq : OpIn q) (hin : i.dn ≤ maxLen) (r1 : ResV) (s1 s5 : MS) (isb : Bool) (f1 : doS (runS (newS c) l) xc q = (r1, s1)) (f6 : accS (runS (newS c) l) xc q r i = (isb, s5)) (hE : (r1.err != 0) = false) (hisb : isb = true) (he0 : (r.err == 0) = true) (hk15 : (q.kind != 15) = false) :
    Calls Tryz.prog 3 #[c.v, .slice p l.length cp, .agg (tryL ⟨xc, q, r, i⟩).toArray] w fun e w' => e = .returned (.bool true) ∧ Below w.heap.size w w' := by
  have hB0 := ((Below.refl w.heap.size w).alloc (Nat.le_refl _) (.cells #[.int .i64 c.slots, .int .u64 c.gens, .int .i64 c.clients, .int .i64 c.readers, .int .i64 c.queue, .int .i64 c.batch, .int .i64 c.feed, .string c.text] 24)).alloc (by simp) (.cells #[.int .i64 xc, .int .u8 q.kind, .int .i64 q.slot, .int .i64 q.at_, .int .i64 q.n, .int .u32 q.id, .int .u8 q.grav, .string q.text, .int .i64 r.err, .int .i64 r.rev, .int .i64 r.slot, .int .i64 r.at_, .int .u8 r.grav, .string r.text, .int .i64 r.m1, .int .i64 r.m2, .int .i64 r.m3, .int .u8 i.k, .int .i64 i.f, .int .i64 i.t, .slice i.da i.dn i.dc] 38)
  have hz0 := (heap_alloc_old (w.alloc (.cells #[.int .i64 c.slots, .int .u64 c.gens, .int .i64 c.clients, .int .i64 c.readers, .int .i64 c.queue, .int .i64 c.batch, .int .i64 c.feed, .string c.text] 24)) (.cells #[.int .i64 xc, .int .u8 q.kind, .int .i64 q.slot, .int .i64 q.at_, .int .i64 q.n, .int .u32 q.id, .int .u8 q.grav, .string q.text, .int .i64 r.err, .int .i64 r.rev, .int .i64 r.slot, .int .i64 r.at_, .int .u8 r.grav, .string r.text, .int .i64 r.m1, .int .i64 r.m2, .int .i64 r.m3, .int .u8 i.k, .int .i64 i.f, .int .i64 i.t, .slice i.da i.dn i.dc] 38) (show w.heap.size < _ by rw [World.size_alloc]; omega)).trans (heap_alloc_new w (.cells #[.int .i64 c.slots, .int .u64 c.gens, .int .i64 c.clients, .int .i64 c.readers, .int .i64 c.queue, .int .i64 c.batch, .int .i64 c.feed, .string c.text] 24))
  have hx0 := heap_alloc_new (w.alloc (.cells #[.int .i64 c.slots, .int .u64 c.gens, .int .i64 c.clients, .int .i64 c.readers, .int .i64 c.queue, .int .i64 c.batch, .int .i64 c.feed, .string c.text] 24)) (.cells #[.int .i64 xc, .int .u8 q.kind, .int .i64 q.slot, .int .i64 q.at_, .int .i64 q.n, .int .u32 q.id, .int .u8 q.grav, .string q.text, .int .i64 r.err, .int .i64 r.rev, .int .i64 r.slot, .int .i64 r.at_, .int .u8 r.grav, .string r.text, .int .i64 r.m1, .int .i64 r.m2, .int .i64 r.m3, .int .u8 i.k, .int .i64 i.f, .int .i64 i.t, .slice i.da i.dn i.dc] 38)
  simp only [World.size_alloc] at hx0
  have hlo := fun W => long_any c l.length W
  have e1 : (decide (2000 < c.text.size) || decide (60 < l.length)) = false := by simp; omega
  rw [e1] at hlo
  obtain ⟨S, hS⟩ : ∃ S, runS (newS c) l = S := ⟨_, rfl⟩
  rw [hS] at f1 f6
  have f5 : accS S xc q r1 {} = (true, s1) := by have := acc_self S xc q; rw [f1] at this; exact this
  have hpl := fun W (hW : Below w.heap.size w W) => play_some c p cp l W hc (hA.on hW) (by omega)
  have hokS : MSok S 100 := by rw [← hS]; exact (runS_ok (newS_ok hc) hA.ok).mono (by omega)
  have hok2 : MSok s1 200 := by have := doS_ok (c := xc) hokS hiq; rw [f1] at this; exact this.mono (by omega)
  have hok5 : MSok s5 200 := by
    have hs : s5 = s1 ∨ s5 = S := by
      have : (accS S xc q r i).2 = s5 := by rw [f6]
      rw [← this]; unfold accS; split
      · left; rw [f1]
      · right; rfl
    rcases hs with rfl | rfl
    · exact hok2
    · exact hokS.mono (by omega)
  obtain rfl : isb = true := hisb
  unfold CfgV.v tryL at *
  go_enter Tryz.func3, Tryz.ntmps3
  go_wp2_with (first | (go_at_call 12; refine (hlo _).mono ?_; rintro e w1 ⟨rfl, hb1⟩; have hB1 := hB0.trans (hb1.mono hB0.size); have hz1 := (hb1.block _ (by simp only [World.size_alloc]; omega)).trans hz0; have hx1 := (hb1.block _ (by simp only [World.size_alloc]; omega)).trans hx0; obtain ⟨z0, z1, z2, z3, z4, z5, z6, z7⟩ := blk8 hz1; have Kx := Lib.hid (fun W (hW : Below w1.heap.size w1 W) => blk21 ((hW.block _ (Array.getElem?_eq_some_iff.1 hx1).1).trans hx1))) | (go_at_call 14; refine (hpl _ hB1).mono ?_; rintro e w2 ⟨b, M, rfl, hP, hst1⟩; rw [hS] at hst1; have hok1 : MSok M.st 100 := (by rw [hst1]; exact hokS); have HC1 := Lib.hid (copy_any b M w2 100 hP.at_ hok1)) | (go_at_call 15; have hz' := HC3; refine HC3.out.mono ?_; rintro e c3 ⟨bD, D, rfl, hD3, hsD, hbD, hfD⟩; have rM := hP2.on hbD; have rA : Run w1 c3 bA A := ⟨(hA1.below hbB).below hbD, fun k hk => Nat.le_trans hP.bl.size (hfA k hk), rM.bl⟩; have rB : Run w1 c3 bB B := ⟨hB2.below hbD, fun k hk => Nat.le_trans hP1.bl.size (hfB k hk), rM.bl⟩; have rD : Run w1 c3 bD D := ⟨hD3, fun k hk => Nat.le_trans hP2.bl.size (hfD k hk), rM.bl⟩; have dAM := dis_of (fun k hk => hP.at_.fp_lt hk) hfA; have dBM := dis_of (fun k hk => hP1.at_.fp_lt hk) hfB; have dBA := dis_of (fun k hk => hA1.fp_lt hk) hfB; have dDM := dis_of (fun k hk => hP2.at_.fp_lt hk) hfD; have dDA := dis_of (fun k hk => (hA1.below hbB).fp_lt hk) hfD; have dDB := dis_of (fun k hk => hB2.fp_lt hk) hfD; have sA : A.st = S := hsA.trans hst1; have sB : B.st = S := hsB.trans hst1; have sD : D.st = S := hsD.trans hst1; have HD := Lib.hid (do_any bA xc A q c3 rA.at_ (by rw [sA]; exact hokS.mono (by omega)) hiq); obtain ⟨x0, x1, x2, x3, x4, x5, x6, x7, x8, x9, x10, x11, x12, x13, x14, x15, x16, x17, x18, x19, x20⟩ := Kx.out _ rM.bl; clear hz' HC3) | (go_at_call 15; have hz' := HC2; refine HC2.out.mono ?_; rintro e c2 ⟨bB, B, rfl, hB2, hsB, hbB, hfB⟩; have hP2 := hP1.on hbB; have HC3 := Lib.hid (copy_any b M c2 100 hP2.at_ hok1); clear hz' HC2) | (go_at_call 15; have hz' := HC1; refine HC1.out.mono ?_; rintro e c1 ⟨bA, A, rfl, hA1, hsA, hbA, hfA⟩; have hP1 := hP.on hbA; have HC2 := Lib.hid (copy_any b M c1 100 hP1.at_ hok1); clear hz' HC1))
  go_wp2_with (go_at_call 16; have hz' := HD; refine HD.out.mono ?_; rw [sA, f1]; rintro e v1 ⟨rfl, A2, hA2, hs2, hk2, hf2⟩; dsimp only at hs2; obtain ⟨rM2, _⟩ := act_beside (M' := A2) rA rM (fun k hk hn => dAM k hn hk) hk2 hf2; obtain ⟨rB2, dBA2⟩ := act_beside rA rB dBA hk2 hf2; obtain ⟨rD2, _⟩ := act_beside (M' := A2) rA rD dDA hk2 hf2; have rA2 := act_run rA hA2 hk2 hf2; obtain ⟨V1, hw1, hg1, hbv1⟩ := rnew_pkg v1 r1; obtain ⟨qa0, qa1, qa2, qa3, qa4, qa5, qa6, qa7, qa8, qa9, qa10, qa11, qa12⟩ := blk13 hg1; obtain ⟨x0, x1, x2, x3, x4, x5, x6, x7, x8, x9, x10, x11, x12, x13, x14, x15, x16, x17, x18, x19, x20⟩ := Kx.out _ (rM2.on hbv1).bl; have HB := Lib.hid (accept_any bB xc B q r1 {} V1 (rB2.on hbv1).at_ (by rw [sB]; exact hokS.mono (by omega)) hiq (Nat.zero_le _)); clear hz' HD)
  go_wp2_with (first | (go_at_call 17; have hz' := HE0; refine HE0.out.mono ?_; rw [sD, f6]; rintro e v5 ⟨rfl, D5, hD5, hs5, hk5, hf5⟩; dsimp only at hs5; have rM5 := (act_beside (M' := D5) rD4 rM4 (fun k hk hn => dDM k hn hk) hk5 hf5).1; have rD5 := act_run rD4 hD5 hk5 hf5; have hg5 := rD4.at_.keep hk5 hg3 (by decide) (by decide) (by decide); obtain ⟨qa0, qa1, qa2, qa3, qa4, qa5, qa6, qa7, qa8, qa9, qa10, qa11, qa12⟩ := blk13 hg5; obtain ⟨x0, x1, x2, x3, x4, x5, x6, x7, x8, x9, x10, x11, x12, x13, x14, x15, x16, x17, x18, x19, x20⟩ := Kx.out _ rM5.bl; have HK5 := Lib.hid (key_any bD D5 v5 200 rD5.at_ (by rw [hs5]; exact hok5)); rw [hs5] at HK5; clear hz' HE0) | (go_at_call 18; have hz' := HK6; refine HK6.out.mono ?_; rintro e y6 ⟨rfl, hy6⟩; have rM6 := (rM5.on hy5).on hy6; clear hz' HK6) | (go_at_call 18; have hz' := HK5; refine HK5.out.mono ?_; rintro e y5 ⟨rfl, hy5⟩; have HK6 := Lib.hid (key_any b M y5 200 (rM5.on hy5).at_ (hok1.mono (by omega))); rw [hst1] at HK6; clear hz' HK5) | (go_at_call 18; have hz' := HK4; refine HK4.out.mono ?_; rintro e y4 ⟨rfl, hy4⟩; have hyz := hy3.trans (hy4.mono hy3.size); replace hg3 := (hyz.block _ (Array.getElem?_eq_some_iff.1 hg3).1).trans hg3; obtain ⟨qa0, qa1, qa2, qa3, qa4, qa5, qa6, qa7, qa8, qa9, qa10, qa11, qa12⟩ := blk13 hg3; replace rD4 := rD4.on hyz; replace rM4 := rM4.on hyz; obtain ⟨x0, x1, x2, x3, x4, x5, x6, x7, x8, x9, x10, x11, x12, x13, x14, x15, x16, x17, x18, x19, x20⟩ := Kx.out _ rM4.bl; have HE0 := Lib.hid (accept_any bD xc D q r i y4 rD4.at_ (by rw [sD]; exact hokS.mono (by omega)) hiq hin); clear hz' HK4) | (go_at_call 18; have hz' := HK3; refine HK3.out.mono ?_; rintro e y3 ⟨rfl, hy3⟩; have HK4 := Lib.hid (key_any b M y3 200 (rM4.on hy3).at_ (hok1.mono (by omega))); rw [hst1] at HK4; clear HE0; clear hz' HK3) | (go_at_call 18; have hz' := HK2; refine HK2.out.mono ?_; rintro e y2 ⟨rfl, hy2⟩; have hyy := hy1.trans (hy2.mono hy1.size); have hg3 := (hyy.block _ (Array.getElem?_eq_some_iff.1 hg2).1).trans hg2; obtain ⟨qa0, qa1, qa2, qa3, qa4, qa5, qa6, qa7, qa8, qa9, qa10, qa11, qa12⟩ := blk13 hg3; have rD4 := rD3.on hyy; have rM4 := rM3.on hyy; obtain ⟨x0, x1, x2, x3, x4, x5, x6, x7, x8, x9, x10, x11, x12, x13, x14, x15, x16, x17, x18, x19, x20⟩ := Kx.out _ rM4.bl; have HK3 := Lib.hid (key_any bA A2 y2 200 (rA3.on hyy).at_ (by rw [hs2]; exact hok2)); rw [hs2] at HK3; have HE0 := Lib.hid (accept_any bD xc D q r i y2 rD4.at_ (by rw [sD]; exact hokS.mono (by omega)) hiq hin); clear hz' HK2) | (go_at_call 18; have hz' := HK1; refine HK1.out.mono ?_; rintro e y1 ⟨rfl, hy1⟩; have HK2 := Lib.hid (key_any bB B3 y1 200 (rB3.on hy1).at_ (by rw [hs3]; exact hok2)); rw [hs3] at HK2; clear hz' HK1) | (go_at_call 17; have hz' := HB; refine HB.out.mono ?_; rw [sB, f5]; rintro e v2 ⟨rfl, B3, hB3, hs3, hk3, hf3⟩; dsimp only at hs3; have rBv := rB2.on hbv1; have rM3 := (act_beside (M' := B3) rBv (rM2.on hbv1) (fun k hk hn => dBM k hn hk) hk3 hf3).1; have rA3 := (act_beside (M' := B3) rBv (rA2.on hbv1) (fun k hk hn => dBA2 k hn hk) hk3 hf3).1; have rD3 := (act_beside (M' := B3) rBv (rD2.on hbv1) dDB hk3 hf3).1; have rB3 := act_run rBv hB3 hk3 hf3; have hg2 := rBv.at_.keep hk3 hg1 (by decide) (by decide) (by decide); have HK1 := Lib.hid (key_any bA A2 v2 200 rA3.at_ (by rw [hs2]; exact hok2)); rw [hs2] at HK1; clear hz' HB) | (go_at_call 13; refine (known_any _).mono ?_; rintro e wk ⟨rfl, hbk⟩))
  go_returns
  exact ⟨rfl, hB1.trans ((rM5.bl.trans (hbk.mono rM5.bl.size)).mono hB1.size)⟩
set_option maxRecDepth 100000 in
set_option maxHeartbeats 4000000 in
theorem allows_3b (c : CfgV) (p : Option Addr) (cp : Nat) (l : List ActV) (xc : Int) (q : OpV) (r : ResV) (i : ItV) (w : World) (h1 : c.text.size ≤ 2000) (h2 : l.length ≤ 60) (hA : ArgActs w p l) (hc : cfgE c = 0) (hiq : OpIn q) (hin : i.dn ≤ maxLen) (r1 : ResV) (s1 s5 : MS) (isb : Bool) (f1 : doS (runS (newS c) l) xc q = (r1, s1)) (f6 : accS (runS (newS c) l) xc q r i = (isb, s5)) (hE : (r1.err != 0) = true) (hs1 : s1 = runS (newS c) l) (hisb : isb = true) (he0 : (r.err == 0) = true) (hk15 : (q.kind != 15) = false) :
    Calls Tryz.prog 3 #[c.v, .slice p l.length cp, .agg (tryL ⟨xc, q, r, i⟩).toArray] w fun e w' => e = .returned (.bool true) ∧ Below w.heap.size w w' := by
  have hB0 := ((Below.refl w.heap.size w).alloc (Nat.le_refl _) (.cells #[.int .i64 c.slots, .int .u64 c.gens, .int .i64 c.clients, .int .i64 c.readers, .int .i64 c.queue, .int .i64 c.batch, .int .i64 c.feed, .string c.text] 24)).alloc (by simp) (.cells #[.int .i64 xc, .int .u8 q.kind, .int .i64 q.slot, .int .i64 q.at_, .int .i64 q.n, .int .u32 q.id, .int .u8 q.grav, .string q.text, .int .i64 r.err, .int .i64 r.rev, .int .i64 r.slot, .int .i64 r.at_, .int .u8 r.grav, .string r.text, .int .i64 r.m1, .int .i64 r.m2, .int .i64 r.m3, .int .u8 i.k, .int .i64 i.f, .int .i64 i.t, .slice i.da i.dn i.dc] 38)
  have hz0 := (heap_alloc_old (w.alloc (.cells #[.int .i64 c.slots, .int .u64 c.gens, .int .i64 c.clients, .int .i64 c.readers, .int .i64 c.queue, .int .i64 c.batch, .int .i64 c.feed, .string c.text] 24)) (.cells #[.int .i64 xc, .int .u8 q.kind, .int .i64 q.slot, .int .i64 q.at_, .int .i64 q.n, .int .u32 q.id, .int .u8 q.grav, .string q.text, .int .i64 r.err, .int .i64 r.rev, .int .i64 r.slot, .int .i64 r.at_, .int .u8 r.grav, .string r.text, .int .i64 r.m1, .int .i64 r.m2, .int .i64 r.m3, .int .u8 i.k, .int .i64 i.f, .int .i64 i.t, .slice i.da i.dn i.dc] 38) (show w.heap.size < _ by rw [World.size_alloc]; omega)).trans (heap_alloc_new w (.cells #[.int .i64 c.slots, .int .u64 c.gens, .int .i64 c.clients, .int .i64 c.readers, .int .i64 c.queue, .int .i64 c.batch, .int .i64 c.feed, .string c.text] 24))
  have hx0 := heap_alloc_new (w.alloc (.cells #[.int .i64 c.slots, .int .u64 c.gens, .int .i64 c.clients, .int .i64 c.readers, .int .i64 c.queue, .int .i64 c.batch, .int .i64 c.feed, .string c.text] 24)) (.cells #[.int .i64 xc, .int .u8 q.kind, .int .i64 q.slot, .int .i64 q.at_, .int .i64 q.n, .int .u32 q.id, .int .u8 q.grav, .string q.text, .int .i64 r.err, .int .i64 r.rev, .int .i64 r.slot, .int .i64 r.at_, .int .u8 r.grav, .string r.text, .int .i64 r.m1, .int .i64 r.m2, .int .i64 r.m3, .int .u8 i.k, .int .i64 i.f, .int .i64 i.t, .slice i.da i.dn i.dc] 38)
  simp only [World.size_alloc] at hx0
  have hlo := fun W => long_any c l.length W
  have e1 : (decide (2000 < c.text.size) || decide (60 < l.length)) = false := by simp; omega
  rw [e1] at hlo
  obtain ⟨S, hS⟩ : ∃ S, runS (newS c) l = S := ⟨_, rfl⟩
  rw [hS] at f1 f6
  have f5 : accS S xc q r1 {} = (true, s1) := by have := acc_self S xc q; rw [f1] at this; exact this
  have hpl := fun W (hW : Below w.heap.size w W) => play_some c p cp l W hc (hA.on hW) (by omega)
  have hokS : MSok S 100 := by rw [← hS]; exact (runS_ok (newS_ok hc) hA.ok).mono (by omega)
  have hok2 : MSok s1 200 := by have := doS_ok (c := xc) hokS hiq; rw [f1] at this; exact this.mono (by omega)
  have hok5 : MSok s5 200 := by
    have hs : s5 = s1 ∨ s5 = S := by
      have : (accS S xc q r i).2 = s5 := by rw [f6]
      rw [← this]; unfold accS; split
      · left; rw [f1]
      · right; rfl
    rcases hs with rfl | rfl
    · exact hok2
    · exact hokS.mono (by omega)
  rw [hS] at hs1
  have hs1' := hs1.symm
  subst hs1'
  obtain rfl : isb = true := hisb
  unfold CfgV.v tryL at *
  go_enter Tryz.func3, Tryz.ntmps3
  go_wp2_with (first | (go_at_call 12; refine (hlo _).mono ?_; rintro e w1 ⟨rfl, hb1⟩; have hB1 := hB0.trans (hb1.mono hB0.size); have hz1 := (hb1.block _ (by simp only [World.size_alloc]; omega)).trans hz0; have hx1 := (hb1.block _ (by simp only [World.size_alloc]; omega)).trans hx0; obtain ⟨z0, z1, z2, z3, z4, z5, z6, z7⟩ := blk8 hz1; have Kx := Lib.hid (fun W (hW : Below w1.heap.size w1 W) => blk21 ((hW.block _ (Array.getElem?_eq_some_iff.1 hx1).1).trans hx1))) | (go_at_call 14; refine (hpl _ hB1).mono ?_; rintro e w2 ⟨b, M, rfl, hP, hst1⟩; rw [hS] at hst1; have hok1 : MSok M.st 100 := (by rw [hst1]; exact hokS); have HC1 := Lib.hid (copy_any b M w2 100 hP.at_ hok1)) | (go_at_call 15; have hz' := HC3; refine HC3.out.mono ?_; rintro e c3 ⟨bD, D, rfl, hD3, hsD, hbD, hfD⟩; have rM := hP2.on hbD; have rA : Run w1 c3 bA A := ⟨(hA1.below hbB).below hbD, fun k hk => Nat.le_trans hP.bl.size (hfA k hk), rM.bl⟩; have rB : Run w1 c3 bB B := ⟨hB2.below hbD, fun k hk => Nat.le_trans hP1.bl.size (hfB k hk), rM.bl⟩; have rD : Run w1 c3 bD D := ⟨hD3, fun k hk => Nat.le_trans hP2.bl.size (hfD k hk), rM.bl⟩; have dAM := dis_of (fun k hk => hP.at_.fp_lt hk) hfA; have dBM := dis_of (fun k hk => hP1.at_.fp_lt hk) hfB; have dBA := dis_of (fun k hk => hA1.fp_lt hk) hfB; have dDM := dis_of (fun k hk => hP2.at_.fp_lt hk) hfD; have dDA := dis_of (fun k hk => (hA1.below hbB).fp_lt hk) hfD; have dDB := dis_of (fun k hk => hB2.fp_lt hk) hfD; have sA : A.st = S := hsA.trans hst1; have sB : B.st = S := hsB.trans hst1; have sD : D.st = S := hsD.trans hst1; have HD := Lib.hid (do_any bA xc A q c3 rA.at_ (by rw [sA]; exact hokS.mono (by omega)) hiq); obtain ⟨x0, x1, x2, x3, x4, x5, x6, x7, x8, x9, x10, x11, x12, x13, x14, x15, x16, x17, x18, x19, x20⟩ := Kx.out _ rM.bl; clear hz' HC3) | (go_at_call 15; have hz' := HC2; refine HC2.out.mono ?_; rintro e c2 ⟨bB, B, rfl, hB2, hsB, hbB, hfB⟩; have hP2 := hP1.on hbB; have HC3 := Lib.hid (copy_any b M c2 100 hP2.at_ hok1); clear hz' HC2) | (go_at_call 15; have hz' := HC1; refine HC1.out.mono ?_; rintro e c1 ⟨bA, A, rfl, hA1, hsA, hbA, hfA⟩; have hP1 := hP.on hbA; have HC2 := Lib.hid (copy_any b M c1 100 hP1.at_ hok1); clear hz' HC1))
  go_wp2_with (go_at_call 16; have hz' := HD; refine HD.out.mono ?_; rw [sA, f1]; rintro e v1 ⟨rfl, A2, hA2, hs2, hk2, hf2⟩; dsimp only at hs2; obtain ⟨rM2, _⟩ := act_beside (M' := A2) rA rM (fun k hk hn => dAM k hn hk) hk2 hf2; obtain ⟨rB2, dBA2⟩ := act_beside rA rB dBA hk2 hf2; obtain ⟨rD2, _⟩ := act_beside (M' := A2) rA rD dDA hk2 hf2; have rA2 := act_run rA hA2 hk2 hf2; obtain ⟨V1, hw1, hg1, hbv1⟩ := rnew_pkg v1 r1; obtain ⟨qa0, qa1, qa2, qa3, qa4, qa5, qa6, qa7, qa8, qa9, qa10, qa11, qa12⟩ := blk13 hg1; obtain ⟨x0, x1, x2, x3, x4, x5, x6, x7, x8, x9, x10, x11, x12, x13, x14, x15, x16, x17, x18, x19, x20⟩ := Kx.out _ (rM2.on hbv1).bl; have HB := Lib.hid (accept_any bB xc B q r1 {} V1 (rB2.on hbv1).at_ (by rw [sB]; exact hokS.mono (by omega)) hiq (Nat.zero_le _)); clear hz' HD)
  go_wp2_with (first | (go_at_call 17; have hz' := HE0; refine HE0.out.mono ?_; rw [sD, f6]; rintro e v5 ⟨rfl, D5, hD5, hs5, hk5, hf5⟩; dsimp only at hs5; have rM5 := (act_beside (M' := D5) rD4 rM4 (fun k hk hn => dDM k hn hk) hk5 hf5).1; have rD5 := act_run rD4 hD5 hk5 hf5; have hg5 := rD4.at_.keep hk5 hg3 (by decide) (by decide) (by decide); obtain ⟨qa0, qa1, qa2, qa3, qa4, qa5, qa6, qa7, qa8, qa9, qa10, qa11, qa12⟩ := blk13 hg5; obtain ⟨x0, x1, x2, x3, x4, x5, x6, x7, x8, x9, x10, x11, x12, x13, x14, x15, x16, x17, x18, x19, x20⟩ := Kx.out _ rM5.bl; have HK5 := Lib.hid (key_any bD D5 v5 200 rD5.at_ (by rw [hs5]; exact hok5)); rw [hs5] at HK5; clear hz' HE0) | (go_at_call 18; have hz' := HK6; refine HK6.out.mono ?_; rintro e y6 ⟨rfl, hy6⟩; have rM6 := (rM5.on hy5).on hy6; clear hz' HK6) | (go_at_call 18; have hz' := HK5; refine HK5.out.mono ?_; rintro e y5 ⟨rfl, hy5⟩; have HK6 := Lib.hid (key_any b M y5 200 (rM5.on hy5).at_ (hok1.mono (by omega))); rw [hst1] at HK6; clear hz' HK5) | (go_at_call 18; have hz' := HK4; refine HK4.out.mono ?_; rintro e y4 ⟨rfl, hy4⟩; have hyz := hy3.trans (hy4.mono hy3.size); replace hg3 := (hyz.block _ (Array.getElem?_eq_some_iff.1 hg3).1).trans hg3; obtain ⟨qa0, qa1, qa2, qa3, qa4, qa5, qa6, qa7, qa8, qa9, qa10, qa11, qa12⟩ := blk13 hg3; replace rD4 := rD4.on hyz; replace rM4 := rM4.on hyz; obtain ⟨x0, x1, x2, x3, x4, x5, x6, x7, x8, x9, x10, x11, x12, x13, x14, x15, x16, x17, x18, x19, x20⟩ := Kx.out _ rM4.bl; have HE0 := Lib.hid (accept_any bD xc D q r i y4 rD4.at_ (by rw [sD]; exact hokS.mono (by omega)) hiq hin); clear hz' HK4) | (go_at_call 18; have hz' := HK3; refine HK3.out.mono ?_; rintro e y3 ⟨rfl, hy3⟩; have HK4 := Lib.hid (key_any b M y3 200 (rM4.on hy3).at_ (hok1.mono (by omega))); rw [hst1] at HK4; clear HE0; clear hz' HK3) | (go_at_call 18; have hz' := HK2; refine HK2.out.mono ?_; rintro e y2 ⟨rfl, hy2⟩; have hyy := hy1.trans (hy2.mono hy1.size); have hg3 := (hyy.block _ (Array.getElem?_eq_some_iff.1 hg2).1).trans hg2; obtain ⟨qa0, qa1, qa2, qa3, qa4, qa5, qa6, qa7, qa8, qa9, qa10, qa11, qa12⟩ := blk13 hg3; have rD4 := rD3.on hyy; have rM4 := rM3.on hyy; obtain ⟨x0, x1, x2, x3, x4, x5, x6, x7, x8, x9, x10, x11, x12, x13, x14, x15, x16, x17, x18, x19, x20⟩ := Kx.out _ rM4.bl; have HK3 := Lib.hid (key_any bA A2 y2 200 (rA3.on hyy).at_ (by rw [hs2]; exact hok2)); rw [hs2] at HK3; have HE0 := Lib.hid (accept_any bD xc D q r i y2 rD4.at_ (by rw [sD]; exact hokS.mono (by omega)) hiq hin); clear hz' HK2) | (go_at_call 18; have hz' := HK1; refine HK1.out.mono ?_; rintro e y1 ⟨rfl, hy1⟩; have HK2 := Lib.hid (key_any bB B3 y1 200 (rB3.on hy1).at_ (by rw [hs3]; exact hok2)); rw [hs3] at HK2; clear hz' HK1) | (go_at_call 17; have hz' := HB; refine HB.out.mono ?_; rw [sB, f5]; rintro e v2 ⟨rfl, B3, hB3, hs3, hk3, hf3⟩; dsimp only at hs3; have rBv := rB2.on hbv1; have rM3 := (act_beside (M' := B3) rBv (rM2.on hbv1) (fun k hk hn => dBM k hn hk) hk3 hf3).1; have rA3 := (act_beside (M' := B3) rBv (rA2.on hbv1) (fun k hk hn => dBA2 k hn hk) hk3 hf3).1; have rD3 := (act_beside (M' := B3) rBv (rD2.on hbv1) dDB hk3 hf3).1; have rB3 := act_run rBv hB3 hk3 hf3; have hg2 := rBv.at_.keep hk3 hg1 (by decide) (by decide) (by decide); have HK1 := Lib.hid (key_any bA A2 v2 200 rA3.at_ (by rw [hs2]; exact hok2)); rw [hs2] at HK1; clear hz' HB) | (go_at_call 13; refine (known_any _).mono ?_; rintro e wk ⟨rfl, hbk⟩))
  go_returns
  exact ⟨rfl, hB1.trans ((rM5.bl.trans (hbk.mono rM5.bl.size)).mono hB1.size)⟩
set_option maxRecDepth 100000 in
set_option maxHeartbeats 4000000 in
theorem allows_4 (c : CfgV) (p : Option Addr) (cp : Nat) (l : List ActV) (xc : Int) (q : OpV) (r1 : ResV) (da : Option Addr) (dc : Nat) (w : World) (h1 : c.text.size ≤ 2000) (h2 : l.length ≤ 60) (hA : ArgActs w p l) (hc : cfgE c = 0) (hiq : OpIn q) (s1 s5 : MS) (isb : Bool) (f1 : doS (runS (newS c) l) xc q = (r1, s1)) (f6 : accS (runS (newS c) l) xc q r1 ⟨0, 0, 0, da, 0, dc⟩ = (isb, s5)) (hE : (r1.err != 0) = false) (hisb : isb = true) (he0 : (r1.err == 0) = true) (hk15 : (q.kind != 15) = true) :
    Calls Tryz.prog 3 #[c.v, .slice p l.length cp, .agg (tryL ⟨xc, q, r1, ⟨0, 0, 0, da, 0, dc⟩⟩).toArray] w fun e w' => e = .returned (.bool true) ∧ Below w.heap.size w w' := by
  have hB0 := ((Below.refl w.heap.size w).alloc (Nat.le_refl _) (.cells #[.int .i64 c.slots, .int .u64 c.gens, .int .i64 c.clients, .int .i64 c.readers, .int .i64 c.queue, .int .i64 c.batch, .int .i64 c.feed, .string c.text] 24)).alloc (by simp) (.cells #[.int .i64 xc, .int .u8 q.kind, .int .i64 q.slot, .int .i64 q.at_, .int .i64 q.n, .int .u32 q.id, .int .u8 q.grav, .string q.text, .int .i64 r1.err, .int .i64 r1.rev, .int .i64 r1.slot, .int .i64 r1.at_, .int .u8 r1.grav, .string r1.text, .int .i64 r1.m1, .int .i64 r1.m2, .int .i64 r1.m3, .int .u8 0, .int .i64 0, .int .i64 0, .slice da 0 dc] 38)
  have hz0 := (heap_alloc_old (w.alloc (.cells #[.int .i64 c.slots, .int .u64 c.gens, .int .i64 c.clients, .int .i64 c.readers, .int .i64 c.queue, .int .i64 c.batch, .int .i64 c.feed, .string c.text] 24)) (.cells #[.int .i64 xc, .int .u8 q.kind, .int .i64 q.slot, .int .i64 q.at_, .int .i64 q.n, .int .u32 q.id, .int .u8 q.grav, .string q.text, .int .i64 r1.err, .int .i64 r1.rev, .int .i64 r1.slot, .int .i64 r1.at_, .int .u8 r1.grav, .string r1.text, .int .i64 r1.m1, .int .i64 r1.m2, .int .i64 r1.m3, .int .u8 0, .int .i64 0, .int .i64 0, .slice da 0 dc] 38) (show w.heap.size < _ by rw [World.size_alloc]; omega)).trans (heap_alloc_new w (.cells #[.int .i64 c.slots, .int .u64 c.gens, .int .i64 c.clients, .int .i64 c.readers, .int .i64 c.queue, .int .i64 c.batch, .int .i64 c.feed, .string c.text] 24))
  have hx0 := heap_alloc_new (w.alloc (.cells #[.int .i64 c.slots, .int .u64 c.gens, .int .i64 c.clients, .int .i64 c.readers, .int .i64 c.queue, .int .i64 c.batch, .int .i64 c.feed, .string c.text] 24)) (.cells #[.int .i64 xc, .int .u8 q.kind, .int .i64 q.slot, .int .i64 q.at_, .int .i64 q.n, .int .u32 q.id, .int .u8 q.grav, .string q.text, .int .i64 r1.err, .int .i64 r1.rev, .int .i64 r1.slot, .int .i64 r1.at_, .int .u8 r1.grav, .string r1.text, .int .i64 r1.m1, .int .i64 r1.m2, .int .i64 r1.m3, .int .u8 0, .int .i64 0, .int .i64 0, .slice da 0 dc] 38)
  simp only [World.size_alloc] at hx0
  have hlo := fun W => long_any c l.length W
  have e1 : (decide (2000 < c.text.size) || decide (60 < l.length)) = false := by simp; omega
  rw [e1] at hlo
  obtain ⟨S, hS⟩ : ∃ S, runS (newS c) l = S := ⟨_, rfl⟩
  rw [hS] at f1 f6
  have f5 : accS S xc q r1 {} = (true, s1) := by have := acc_self S xc q; rw [f1] at this; exact this
  have hpl := fun W (hW : Below w.heap.size w W) => play_some c p cp l W hc (hA.on hW) (by omega)
  have hokS : MSok S 100 := by rw [← hS]; exact (runS_ok (newS_ok hc) hA.ok).mono (by omega)
  have hok2 : MSok s1 200 := by have := doS_ok (c := xc) hokS hiq; rw [f1] at this; exact this.mono (by omega)
  have hok5 : MSok s5 200 := by
    have hs : s5 = s1 ∨ s5 = S := by
      have : (accS S xc q r1 ⟨0, 0, 0, da, 0, dc⟩).2 = s5 := by rw [f6]
      rw [← this]; unfold accS; split
      · left; rw [f1]
      · right; rfl
    rcases hs with rfl | rfl
    · exact hok2
    · exact hokS.mono (by omega)
  obtain rfl : isb = true := hisb
  unfold CfgV.v tryL at *
  go_enter Tryz.func3, Tryz.ntmps3
  go_wp2_with (first | (go_at_call 12; refine (hlo _).mono ?_; rintro e w1 ⟨rfl, hb1⟩; have hB1 := hB0.trans (hb1.mono hB0.size); have hz1 := (hb1.block _ (by simp only [World.size_alloc]; omega)).trans hz0; have hx1 := (hb1.block _ (by simp only [World.size_alloc]; omega)).trans hx0; obtain ⟨z0, z1, z2, z3, z4, z5, z6, z7⟩ := blk8 hz1; have Kx := Lib.hid (fun W (hW : Below w1.heap.size w1 W) => blk21 ((hW.block _ (Array.getElem?_eq_some_iff.1 hx1).1).trans hx1))) | (go_at_call 14; refine (hpl _ hB1).mono ?_; rintro e w2 ⟨b, M, rfl, hP, hst1⟩; rw [hS] at hst1; have hok1 : MSok M.st 100 := (by rw [hst1]; exact hokS); have HC1 := Lib.hid (copy_any b M w2 100 hP.at_ hok1)) | (go_at_call 15; have hz' := HC3; refine HC3.out.mono ?_; rintro e c3 ⟨bD, D, rfl, hD3, hsD, hbD, hfD⟩; have rM := hP2.on hbD; have rA : Run w1 c3 bA A := ⟨(hA1.below hbB).below hbD, fun k hk => Nat.le_trans hP.bl.size (hfA k hk), rM.bl⟩; have rB : Run w1 c3 bB B := ⟨hB2.below hbD, fun k hk => Nat.le_trans hP1.bl.size (hfB k hk), rM.bl⟩; have rD : Run w1 c3 bD D := ⟨hD3, fun k hk => Nat.le_trans hP2.bl.size (hfD k hk), rM.bl⟩; have dAM := dis_of (fun k hk => hP.at_.fp_lt hk) hfA; have dBM := dis_of (fun k hk => hP1.at_.fp_lt hk) hfB; have dBA := dis_of (fun k hk => hA1.fp_lt hk) hfB; have dDM := dis_of (fun k hk => hP2.at_.fp_lt hk) hfD; have dDA := dis_of (fun k hk => (hA1.below hbB).fp_lt hk) hfD; have dDB := dis_of (fun k hk => hB2.fp_lt hk) hfD; have sA : A.st = S := hsA.trans hst1; have sB : B.st = S := hsB.trans hst1; have sD : D.st = S := hsD.trans hst1; have HD := Lib.hid (do_any bA xc A q c3 rA.at_ (by rw [sA]; exact hokS.mono (by omega)) hiq); obtain ⟨x0, x1, x2, x3, x4, x5, x6, x7, x8, x9, x10, x11, x12, x13, x14, x15, x16, x17, x18, x19, x20⟩ := Kx.out _ rM.bl; clear hz' HC3) | (go_at_call 15; have hz' := HC2; refine HC2.out.mono ?_; rintro e c2 ⟨bB, B, rfl, hB2, hsB, hbB, hfB⟩; have hP2 := hP1.on hbB; have HC3 := Lib.hid (copy_any b M c2 100 hP2.at_ hok1); clear hz' HC2) | (go_at_call 15; have hz' := HC1; refine HC1.out.mono ?_; rintro e c1 ⟨bA, A, rfl, hA1, hsA, hbA, hfA⟩; have hP1 := hP.on hbA; have HC2 := Lib.hid (copy_any b M c1 100 hP1.at_ hok1); clear hz' HC1))
  go_wp2_with (go_at_call 16; have hz' := HD; refine HD.out.mono ?_; rw [sA, f1]; rintro e v1 ⟨rfl, A2, hA2, hs2, hk2, hf2⟩; dsimp only at hs2; obtain ⟨rM2, _⟩ := act_beside (M' := A2) rA rM (fun k hk hn => dAM k hn hk) hk2 hf2; obtain ⟨rB2, dBA2⟩ := act_beside rA rB dBA hk2 hf2; obtain ⟨rD2, _⟩ := act_beside (M' := A2) rA rD dDA hk2 hf2; have rA2 := act_run rA hA2 hk2 hf2; obtain ⟨V1, hw1, hg1, hbv1⟩ := rnew_pkg v1 r1; obtain ⟨qa0, qa1, qa2, qa3, qa4, qa5, qa6, qa7, qa8, qa9, qa10, qa11, qa12⟩ := blk13 hg1; obtain ⟨x0, x1, x2, x3, x4, x5, x6, x7, x8, x9, x10, x11, x12, x13, x14, x15, x16, x17, x18, x19, x20⟩ := Kx.out _ (rM2.on hbv1).bl; have HB := Lib.hid (accept_any bB xc B q r1 {} V1 (rB2.on hbv1).at_ (by rw [sB]; exact hokS.mono (by omega)) hiq (Nat.zero_le _)); clear hz' HD)
  go_wp2_with (first | (go_at_call 19; refine (rsame_eq r1 da none dc 0 _).mono ?_; rintro e y7 ⟨rfl, hy7⟩; have rM6 := rM5.on hy7; obtain ⟨x0, x1, x2, x3, x4, x5, x6, x7, x8, x9, x10, x11, x12, x13, x14, x15, x16, x17, x18, x19, x20⟩ := Kx.out _ rM6.bl) | (go_at_call 17; have hz' := HE0; refine HE0.out.mono ?_; rw [sD, f6]; rintro e v5 ⟨rfl, D5, hD5, hs5, hk5, hf5⟩; dsimp only at hs5; have rM5 := (act_beside (M' := D5) rD4 rM4 (fun k hk hn => dDM k hn hk) hk5 hf5).1; have rD5 := act_run rD4 hD5 hk5 hf5; have hg5 := rD4.at_.keep hk5 hg3 (by decide) (by decide) (by decide); obtain ⟨qa0, qa1, qa2, qa3, qa4, qa5, qa6, qa7, qa8, qa9, qa10, qa11, qa12⟩ := blk13 hg5; obtain ⟨x0, x1, x2, x3, x4, x5, x6, x7, x8, x9, x10, x11, x12, x13, x14, x15, x16, x17, x18, x19, x20⟩ := Kx.out _ rM5.bl; have HK5 := Lib.hid (key_any bD D5 v5 200 rD5.at_ (by rw [hs5]; exact hok5)); rw [hs5] at HK5; clear hz' HE0) | (go_at_call 18; have hz' := HK6; refine HK6.out.mono ?_; rintro e y6 ⟨rfl, hy6⟩; have rM6 := (rM5.on hy5).on hy6; clear hz' HK6) | (go_at_call 18; have hz' := HK5; refine HK5.out.mono ?_; rintro e y5 ⟨rfl, hy5⟩; have HK6 := Lib.hid (key_any b M y5 200 (rM5.on hy5).at_ (hok1.mono (by omega))); rw [hst1] at HK6; clear hz' HK5) | (go_at_call 18; have hz' := HK4; refine HK4.out.mono ?_; rintro e y4 ⟨rfl, hy4⟩; have hyz := hy3.trans (hy4.mono hy3.size); replace hg3 := (hyz.block _ (Array.getElem?_eq_some_iff.1 hg3).1).trans hg3; obtain ⟨qa0, qa1, qa2, qa3, qa4, qa5, qa6, qa7, qa8, qa9, qa10, qa11, qa12⟩ := blk13 hg3; replace rD4 := rD4.on hyz; replace rM4 := rM4.on hyz; obtain ⟨x0, x1, x2, x3, x4, x5, x6, x7, x8, x9, x10, x11, x12, x13, x14, x15, x16, x17, x18, x19, x20⟩ := Kx.out _ rM4.bl; have HE0 := Lib.hid (accept_any bD xc D q r1 ⟨0, 0, 0, da, 0, dc⟩ y4 rD4.at_ (by rw [sD]; exact hokS.mono (by omega)) hiq (Nat.zero_le _)); clear hz' HK4) | (go_at_call 18; have hz' := HK3; refine HK3.out.mono ?_; rintro e y3 ⟨rfl, hy3⟩; have HK4 := Lib.hid (key_any b M y3 200 (rM4.on hy3).at_ (hok1.mono (by omega))); rw [hst1] at HK4; clear HE0; clear hz' HK3) | (go_at_call 18; have hz' := HK2; refine HK2.out.mono ?_; rintro e y2 ⟨rfl, hy2⟩; have hyy := hy1.trans (hy2.mono hy1.size); have hg3 := (hyy.block _ (Array.getElem?_eq_some_iff.1 hg2).1).trans hg2; obtain ⟨qa0, qa1, qa2, qa3, qa4, qa5, qa6, qa7, qa8, qa9, qa10, qa11, qa12⟩ := blk13 hg3; have rD4 := rD3.on hyy; have rM4 := rM3.on hyy; obtain ⟨x0, x1, x2, x3, x4, x5, x6, x7, x8, x9, x10, x11, x12, x13, x14, x15, x16, x17, x18, x19, x20⟩ := Kx.out _ rM4.bl; have HK3 := Lib.hid (key_any bA A2 y2 200 (rA3.on hyy).at_ (by rw [hs2]; exact hok2)); rw [hs2] at HK3; have HE0 := Lib.hid (accept_any bD xc D q r1 ⟨0, 0, 0, da, 0, dc⟩ y2 rD4.at_ (by rw [sD]; exact hokS.mono (by omega)) hiq (Nat.zero_le _)); clear hz' HK2) | (go_at_call 18; have hz' := HK1; refine HK1.out.mono ?_; rintro e y1 ⟨rfl, hy1⟩; have HK2 := Lib.hid (key_any bB B3 y1 200 (rB3.on hy1).at_ (by rw [hs3]; exact hok2)); rw [hs3] at HK2; clear hz' HK1) | (go_at_call 17; have hz' := HB; refine HB.out.mono ?_; rw [sB, f5]; rintro e v2 ⟨rfl, B3, hB3, hs3, hk3, hf3⟩; dsimp only at hs3; have rBv := rB2.on hbv1; have rM3 := (act_beside (M' := B3) rBv (rM2.on hbv1) (fun k hk hn => dBM k hn hk) hk3 hf3).1; have rA3 := (act_beside (M' := B3) rBv (rA2.on hbv1) (fun k hk hn => dBA2 k hn hk) hk3 hf3).1; have rD3 := (act_beside (M' := B3) rBv (rD2.on hbv1) dDB hk3 hf3).1; have rB3 := act_run rBv hB3 hk3 hf3; have hg2 := rBv.at_.keep hk3 hg1 (by decide) (by decide) (by decide); have HK1 := Lib.hid (key_any bA A2 v2 200 rA3.at_ (by rw [hs2]; exact hok2)); rw [hs2] at HK1; clear hz' HB) | (go_at_call 13; refine (known_any _).mono ?_; rintro e wk ⟨rfl, hbk⟩))
  go_returns
  exact ⟨rfl, hB1.trans ((rM6.bl.trans (hbk.mono rM6.bl.size)).mono hB1.size)⟩
end Go.Proofs.YtlealeecmmpckaaGreat
namespace Go.Proofs.YtlealeecmmpckaaGreat
set_option linter.unusedVariables false
set_option linter.unusedSimpArgs false
open Go.RowKit Go.Lib Go.Shelf

theorem walkModelAllows (c : CfgV) (p : Option Addr) (cp : Nat) (l : List ActV) (x : TryV) (w : World) (hA : ArgActs w p l) (hx : OpIn x.q ∧ x.i.dn ≤ maxLen) :
    Calls Tryz.prog 3 #[c.v, .slice p l.length cp, .agg (tryL x).toArray] w fun e w' => e = .returned (.bool true) ∧ Below w.heap.size w w' := by
  obtain ⟨xc, q, r, i⟩ := x
  obtain ⟨hiq, hin⟩ := hx
  by_cases hlong : 2000 < c.text.size ∨ 60 < l.length
  · exact allows_long c p cp l xc q r i w hlong
  by_cases hc : cfgE c = 0
  · obtain ⟨r1, s1, f1⟩ : ∃ r s, doS (runS (newS c) l) xc q = (r, s) := ⟨_, _, rfl⟩
    obtain ⟨isb, s5, f6⟩ : ∃ b s, accS (runS (newS c) l) xc q r i = (b, s) := ⟨_, _, rfl⟩
    have g1 : r1.err ≠ 0 → s1 = runS (newS c) l := fun h => by have := do_fail (st := runS (newS c) l) (c := xc) (q := q) (by rw [f1]; exact h); rw [f1] at this; exact this
    have g5 : isb = false ∨ r.err ≠ 0 → s5 = runS (newS c) l := fun h => by have := acc_keep (st := runS (newS c) l) (c := xc) (q := q) (r := r) (i := i) (by rw [f6]; exact h); rw [f6] at this; exact this
    cases hE : (r1.err != 0) with
    | false =>
      cases isb with
      | false => exact allows_1a c p cp l xc q r i w (by omega) (by omega) hA hc hiq hin r1 s1 s5 _ f1 f6 hE (g5 (.inl rfl)) rfl
      | true =>
        cases he0 : (r.err == 0) with
        | false => exact allows_2a c p cp l xc q r i w (by omega) (by omega) hA hc hiq hin r1 s1 s5 _ f1 f6 hE (g5 (.inr (by simpa using he0))) rfl he0
        | true =>
          cases hk : (q.kind != 15) with
          | false => exact allows_3a c p cp l xc q r i w (by omega) (by omega) hA hc hiq hin r1 s1 s5 _ f1 f6 hE rfl he0 hk
          | true =>
            have hs := acc_is (st := runS (newS c) l) (c := xc) (q := q) (r := r) (i := i) (by rw [f6]) (by simpa using he0) (by simpa using hk)
            rw [f1] at hs
            obtain ⟨e1, e2, e3, e4, e5⟩ := sameB_eq hs
            obtain ⟨ik, iff, it, da, dn, dc⟩ := i
            have e1 : r = r1 := e1
            have e2 : dn = 0 := e2
            have e3 : ik = 0 := e3
            have e4 : iff = 0 := e4
            have e5 : it = 0 := e5
            subst e1; subst e2; subst e3; subst e4; subst e5
            exact allows_4 c p cp l xc q r da dc w (by omega) (by omega) hA hc hiq s1 s5 _ f1 f6 hE rfl he0 hk
    | true =>
      have hn : r1.err ≠ 0 := by simpa using hE
      cases isb with
      | false => exact allows_1b c p cp l xc q r i w (by omega) (by omega) hA hc hiq hin r1 s1 s5 _ f1 f6 hE (g1 hn) (g5 (.inl rfl)) rfl
      | true =>
        cases he0 : (r.err == 0) with
        | false => exact allows_2b c p cp l xc q r i w (by omega) (by omega) hA hc hiq hin r1 s1 s5 _ f1 f6 hE (g1 hn) (g5 (.inr (by simpa using he0))) rfl he0
        | true =>
          cases hk : (q.kind != 15) with
          | false => exact allows_3b c p cp l xc q r i w (by omega) (by omega) hA hc hiq hin r1 s1 s5 _ f1 f6 hE (g1 hn) rfl he0 hk
          | true =>
            have hs := acc_is (st := runS (newS c) l) (c := xc) (q := q) (r := r) (i := i) (by rw [f6]) (by simpa using he0) (by simpa using hk)
            rw [f1] at hs
            have e : r = r1 := (sameB_eq hs).1
            rw [← e] at hn
            exact absurd (by simpa using he0) hn
  · exact allows_none c p cp l xc q r i w (by omega) (by omega) hA hc
end Go.Proofs.YtlealeecmmpckaaGreat
namespace Go.Proofs.YtlealeecmmpckaaGreat.modelAllows
set_option linter.unusedVariables false
set_option linter.unusedSimpArgs false
open Go.ChangeShapes Go.WideShapes Go.ChangeAt Go.RowKit
open Go.ChangeMaps (open_string shut_string)
set_option linter.unusedVariables false

set_option maxRecDepth 100000 in
theorem lifted (os : Os) (started : os.Started) (H : Type) (enc : TypeId × Value → H) :
    ReturnsInHanded {} Tryz.checked os 3 .any (Rows.modelAllowsSpec.pre6 enc Tryz.prog Tryz.f3 Rows.modelAllowsRow.domain false) (Rows.modelAllowsSpec.post enc Tryz.prog Tryz.f3 false true false false) := by
  refine returnsInHanded_of_change_sized (C := Tryz.checked) own started (by kernel_rfl) Tryz.func3
    (ChangeSpec.witness6 (enc := enc) (C := Tryz.checked) false ⟨#[], #[.agg #[.int .i64 0, .int .u64 0, .int .i64 0, .int .i64 0, .int .i64 0, .int .i64 0, .int .i64 0, .string ⟨#[]⟩], .slice none 0 0, .agg #[.int .i64 0, .int .u8 0, .int .i64 0, .int .i64 0, .int .i64 0, .int .u32 0, .int .u8 0, .string ⟨#[]⟩, .int .i64 0, .int .i64 0, .int .i64 0, .int .i64 0, .int .u8 0, .string ⟨#[]⟩, .int .i64 0, .int .i64 0, .int .i64 0, .int .u8 0, .int .i64 0, .int .i64 0, .slice none 0 0]], []⟩ 8 (by kernel_rfl) (by kernel_rfl) (by kernel_rfl) (by kernel_rfl)) ?_
  intro W base args ds gs before hval0 hW hcnd hsz0 _
  have hval : ∀ (j : Nat) t v, Tryz.f3.params[j]? = some t → args[j]? = some v → Value.okWide Tryz.prog W .any base t v := hval0
  have hW' := hW
  obtain ⟨p, q, hA0, hV, rfl, hfz, hnd⟩ := hW
  have hA : DataW.TrodAll enc Tryz.prog W 0 (fun _ => true) true Tryz.f3.params.toList args.toList ds p := hA0
  rw [Tryz.params3] at hA hval
  obtain ⟨v0, vs0, d0, ds0, p0, q0, hargs, rfl, rfl, h0, r0⟩ := trodAll_cons hA
  obtain ⟨v1, vs1, d1, ds1, p1, q1, rfl, rfl, rfl, h1, r1⟩ := trodAll_cons r0
  obtain ⟨v2, vs2, d2, ds2, p2, q2, rfl, rfl, rfl, h2, r2⟩ := trodAll_cons r1
  obtain ⟨rfl, rfl, rfl⟩ := trodAll_nil r2
  obtain rfl : args = #[v0, v1, v2] := by cases args; simp_all
  obtain ⟨rfl, rfl⟩ := trodVars_none hV
  obtain ⟨c0, rfl⟩ := open_cfg (hval 0 24 v0 rfl rfl) h0
  obtain ⟨q1, c1, l1, rfl, w1⟩ := open_acts (hval 1 25 v1 rfl rfl) h1
  obtain ⟨a2, rfl, w2⟩ := open_try (hval 2 38 v2 rfl rfl) h2
  clear hA0 hval0
  (try simp only [List.append_nil, List.nil_append] at hW')
  refine (walkModelAllows c0 q1 c1 l1 a2 W w1 w2).mono fun e W' ⟨he, hg⟩ => ?_
  subst he
  have hlt0 : ∀ x ∈ p0, x.block < W.heap.size := fun x hx => hW'.lt x (by simp [hx])
  have hlt1 : ∀ x ∈ p1, x.block < W.heap.size := fun x hx => hW'.lt x (by simp [hx])
  have hlt2 : ∀ x ∈ p2, x.block < W.heap.size := fun x hx => hW'.lt x (by simp [hx])
  exact ⟨_, rfl, post_of_below (pa := (p0 ++ (p1 ++ (p2 ++ [])))) (pv := []) hW' (fun _ _ _ => (trodAll_cons_mk (shut_bool Tryz.underlying4 _) trodAll_mk0)) (fun sp hsp => (trodAll_cons_mk (WideElems.Trod_stays (by kernel_rfl) (by kernel_rfl) (of_decide_eq_true (by kernel_rfl)) h0 (fun x hx => hg.same (hlt0 x hx)) (fun x hx => hsp x (by simp [hx]))) (trodAll_cons_mk (WideElems.Trod_stays (by kernel_rfl) (by kernel_rfl) (of_decide_eq_true (by kernel_rfl)) h1 (fun x hx => hg.same (hlt1 x hx)) (fun x hx => hsp x (by simp [hx]))) (trodAll_cons_mk (WideElems.Trod_stays (by kernel_rfl) (by kernel_rfl) (of_decide_eq_true (by kernel_rfl)) h2 (fun x hx => hg.same (hlt2 x hx)) (fun x hx => hsp x (by simp [hx]))) trodAll_mk0)))) (fun _ _ => rfl) (by simp)
    hg (ok_one (by kernel_rfl) rfl (okWide_bool_mk Tryz.underlying4 _))⟩

theorem proved : Rows.ModelAllowsSaid :=
  OpenClaim.holds_of_wide 3 Tryz.f3 rfl rfl rfl rfl rfl rfl rfl ⟨rfl, rfl, rfl, rfl, rfl⟩ rfl rfl rfl rfl rfl (by kernel_rfl) Tryz.func3 (by kernel_rfl)
    (of_decide_eq_true (by kernel_rfl)) (by unfold Func.isWrapper; first | (rw [if_pos (by decide +kernel)]; kernel_rfl) | (rw [if_neg (by decide +kernel)]; exact ⟨rfl, rfl⟩))
    (fun os started H enc _ => lifted os started H enc)
#print axioms proved
end Go.Proofs.YtlealeecmmpckaaGreat.modelAllows
