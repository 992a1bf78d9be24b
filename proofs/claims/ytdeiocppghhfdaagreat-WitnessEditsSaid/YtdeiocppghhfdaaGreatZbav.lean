/- Texts, one behind another. -/
import Derived.Test.YtdeiocppghhfdaaGreatZbat
import Derived.Test.YtdeiocppghhfdaaGreatZbau
set_option linter.unusedVariables false
set_option linter.unusedSimpArgs false
set_option maxRecDepth 100000
set_option maxHeartbeats 8000000
namespace Go.Proofs.YtdeiocppghhfdaaGreat
open Go.RowKit Go.Lib Go.Shelf
attribute [local go_sem, local simp] resF resL_len resL_ne rset0 rset1 rset2 rset3 rset4 rset5
theorem MdAt.c5 {W : World} {b : Nat} {M : MM} (h : MdAt W b M) {v : Value} (hv : M.sv = v) : W.cell? ⟨b, 5, none⟩ = some v := by simp [World.cell?, h.blk, mdL, hv]
theorem MdAt.c2 {W : World} {b : Nat} {M : MM} (h : MdAt W b M) : W.cell? ⟨b, 2, none⟩ = some (.int .i64 M.number) := by simp [World.cell?, h.blk, mdL]
theorem MdAt.c3 {W : World} {b : Nat} {M : MM} (h : MdAt W b M) : W.cell? ⟨b, 3, none⟩ = some (.bool M.closed) := by simp [World.cell?, h.blk, mdL]
theorem MdAt.c0 {W : World} {b : Nat} {M : MM} (h : MdAt W b M) : W.cell? ⟨b, 0, none⟩ = some (.string M.text) := by simp [World.cell?, h.blk, mdL]
theorem MdAt.setClosed {W : World} {b : Nat} {M : MM} (h : MdAt W b M) : MdAt (W.setCell ⟨b, 3, none⟩ (.bool true)) b { M with closed := true } :=
 h.upd (by have := blk_set h.blk 3 (.bool true); exact this) (fun k _ hk => setCell_ne _ _ _ _ hk) (own_keep h.marks h.blk (by decide) (fun k _ hk => setCell_ne _ _ _ _ hk)) rfl rfl
theorem close_any (b : Nat) (M : MM) (c : Int) (o : OpV) (w : World) (h : MdAt w b M) :
  Calls Tryz.prog 144 #[.pointer (some ⟨b, 0, none⟩), .int .i64 c, .agg #[.int .u8 o.kind, .int .i64 o.slot, .int .i64 o.at_, .int .i64 o.n, .int .u32 o.id, .int .u8 o.grav, .string o.text]] w (Post b w (cloS M.st) M) := by
 have ho := fun W hW => open_any b M W hW
 have hE := ed2_start w o
 have hM0 := h.below hE.bl
 have f3 := hM0.f 3
 have c3 := hM0.c3
 have hrB : w.heap.size ≤ w.heap.size + 1 := by omega
 cases hc : M.closed with
 | true =>
  have hS : cloS M.st = (failR 13, M.st) := if_pos hc
  simp only [hc, if_true] at ho
  rw [hS]
  go_enter Tryz.func144, Tryz.ntmps144
  go_wp2_with (first | (go_at_call 189; refine (ho _ hM0).mono ?_; rintro e w1 ⟨rfl, rfl⟩) | (go_at_call 99; refine (fail_any _ _).mono ?_; rintro e v7 ⟨rfl, hb7⟩; have hE7 := hE.on hb7; have hst := res_st hE7.res rfl))
  exact ⟨rfl, _, results_cell_row rfl _ _ _ _ _ _ _ rfl (setRow_heap _ _ _ _ _ _ hE7.res) Tryz.underlying51 rfl (by kernel_rfl), rfl, M, (hM0.below hb7).row hE7.res _, rfl, (KeepF.of_below hE7.bl).row hrB _, fun k hk => .inl hk⟩
 | false =>
  have hS : cloS M.st = ({}, { M.st with closed := true }) := by unfold cloS; rw [if_neg (by show ¬ (M.closed = true); simp [hc])]
  simp only [hc, Bool.false_eq_true, if_false] at ho
  rw [hS]
  have hM1 := hM0.setClosed
  have hz1 := (setCell_ne _ ⟨b, 3, none⟩ (.bool true) (w.heap.size + 1) (by show w.heap.size + 1 ≠ b; have := (Array.getElem?_eq_some_iff.1 h.blk).1; omega)).trans hE.res
  have hst := res_st hz1 rfl
  go_enter Tryz.func144, Tryz.ntmps144
  go_wp2_with (go_at_call 189; refine (ho _ hM0).mono ?_; rintro e w1 ⟨rfl, rfl⟩)
  exact ⟨rfl, _, results_cell_row rfl _ _ _ _ _ _ _ rfl (setRow_heap _ _ _ _ _ _ hz1) Tryz.underlying51 rfl (by kernel_rfl), rfl, _, hM1.row hz1 _, rfl, ((KeepF.of_below hE.bl).trans (KeepF.set (F := M.fp b) (a := ⟨b, 3, none⟩) (.inl rfl) _)).row hrB _, fun k hk => .inl hk⟩
theorem sub_ne {W : World} {b c r gs cs g cp : Nat} {M : MM} {S : SeM} {cur rc : Array Value} (h : MdAt W b M) (hA : SeatAt W M c S gs cs g cp cur) (hr : W.heap[r]? = some (.cells rc 51 (0, 0))) : b ≠ gs ∧ r ≠ gs := by
 have h1 := h.seats
 rw [hA.sv] at h1
 obtain ⟨curS, hgs⟩ : ∃ curS, W.heap[gs]? = some (.cells curS 139 (0, 0)) := by
  rcases h1.2 with ⟨e1, _⟩ | ⟨g', _, cu, e1, _, hg, _⟩
  ·injection e1 with e1; cases e1
  ·injection e1 with e1; injection e1 with e1; injection e1 with e1; subst e1; exact ⟨cu, hg⟩
 refine ⟨fun e => ?_, fun e => ?_⟩
 ·subst e; have := h.blk; rw [hgs] at this; injection this with this; injection this with _ h2 _; exact absurd h2 (by decide)
 ·subst e; rw [hgs] at hr; injection hr with this; injection this with _ h2 _; exact absurd h2 (by decide)
theorem fp_sub {b c : Nat} {M : MM} {S : SeM} (hS : M.seats[c]? = some S) (k : Nat) : (M.putSub c S).fp b k ↔ M.fp b k := by
 have hmem := List.mem_of_getElem? hS
 obtain ⟨hc, hSe⟩ := List.getElem?_eq_some_iff.1 hS
 constructor
 ·rintro (h | h | ⟨S', hS', h⟩)
  ·exact .inl h
  ·exact .inr (.inl h)
  ·rcases mem_set_or hS' with rfl | ⟨d, hd, hS'⟩
   ·exact .inr (.inr ⟨S, hmem, h⟩)
   ·exact .inr (.inr ⟨S', List.mem_of_getElem? hS', h⟩)
 ·rintro (h | h | ⟨S', hS', h⟩)
  ·exact .inl h
  ·exact .inr (.inl h)
  ·obtain ⟨d, hd, e⟩ := List.getElem_of_mem hS'
   by_cases hdc : c = d
   ·subst hdc
    rw [hSe] at e; subst e
    exact .inr (.inr ⟨{ S with sub := true }, List.mem_iff_getElem.2 ⟨c, by show c < (M.seats.set c _).length; rw [List.length_set]; exact hc, by show (M.seats.set c _)[c]'_ = _; rw [List.getElem_set_self]⟩, h⟩)
   ·exact .inr (.inr ⟨S', List.mem_iff_getElem.2 ⟨d, by show d < (M.seats.set c _).length; rw [List.length_set]; exact hd, by show (M.seats.set c _)[d]'_ = _; rw [List.getElem_set_ne hdc]; exact e⟩, h⟩)
theorem subscribe_any (b c : Nat) (M : MM) (o : OpV) (w : World) (h : MdAt w b M) (S : SeM) (hS : M.seats[c]? = some S) (hcl : M.seats.length ≤ 8) :
  Calls Tryz.prog 142 #[.pointer (some ⟨b, 0, none⟩), .int .i64 (c : Int), .agg #[.int .u8 o.kind, .int .i64 o.slot, .int .i64 o.at_, .int .i64 o.n, .int .u32 o.id, .int .u8 o.grav, .string o.text]] w (Post b w (subS M.st c) M) := by
 obtain ⟨hc, _⟩ := List.getElem?_eq_some_iff.1 hS
 have ho := fun W hW => open_any b M W hW
 have hE := ed2_start w o
 have hM0 := h.below hE.bl
 have hrB : w.heap.size ≤ w.heap.size + 1 := by omega
 obtain ⟨gs, cs, g, cp, cur, hA⟩ := hM0.seatAt hS
 have c5 := hM0.c5 hA.sv
 have a0 := hA.c0
 have f0 := hA.f0
 have c2 := hM0.c2
 have e0 : M.st.seat c = S.st := MM.seat_st hS
 cases hs : S.sub with
 | true =>
  have hR : subS M.st c = (failR 18, M.st) := by unfold subS; rw [if_pos (by rw [e0]; exact hs)]
  rw [hR]
  go_enter Tryz.func142, Tryz.ntmps142
  go_wp2_with (go_at_call 99; refine (fail_any _ _).mono ?_; rintro e v7 ⟨rfl, hb7⟩; have hE7 := hE.on hb7; have hst := res_st hE7.res rfl)
  exact ⟨rfl, _, results_cell_row rfl _ _ _ _ _ _ _ rfl (setRow_heap _ _ _ _ _ _ hE7.res) Tryz.underlying51 rfl (by kernel_rfl), rfl, M, (hM0.below hb7).row hE7.res _, rfl, (KeepF.of_below hE7.bl).row hrB _, fun k hk => .inl hk⟩
 | false =>
  cases hl : M.closed with
  | true =>
   have hR : subS M.st c = (failR 13, M.st) := by unfold subS; rw [if_neg (by rw [e0]; show ¬ (S.sub = true); simp [hs]), if_pos (by exact hl)]
   simp only [hl, if_true] at ho
   rw [hR]
   go_enter Tryz.func142, Tryz.ntmps142
   go_wp2_with (first | (go_at_call 189; refine (ho _ hM0).mono ?_; rintro e w1 ⟨rfl, rfl⟩) | (go_at_call 99; refine (fail_any _ _).mono ?_; rintro e v7 ⟨rfl, hb7⟩; have hE7 := hE.on hb7; have hst := res_st hE7.res rfl))
   exact ⟨rfl, _, results_cell_row rfl _ _ _ _ _ _ _ rfl (setRow_heap _ _ _ _ _ _ hE7.res) Tryz.underlying51 rfl (by kernel_rfl), rfl, M, (hM0.below hb7).row hE7.res _, rfl, (KeepF.of_below hE7.bl).row hrB _, fun k hk => .inl hk⟩
  | false =>
   have hR : subS M.st c = ({ rev := M.number }, M.st.put c { M.st.seat c with sub := true }) := by unfold subS; rw [if_neg (by rw [e0]; show ¬ (S.sub = true); simp [hs]), if_neg (by show ¬ (M.closed = true); simp [hl])]; rfl
   simp only [hl, Bool.false_eq_true, if_false] at ho
   rw [hR]
   have hM1 := hM0.putSub hS hA
   have hgne : b ≠ gs ∧ w.heap.size + 1 ≠ gs := sub_ne hM0 hA hE.res
   have hz1 := (setCell_ne _ ⟨gs, c * 2, none⟩ (.bool true) (w.heap.size + 1) hgne.2).trans hE.res
   have d2 := (show (World.setCell _ ⟨gs, c * 2, none⟩ (.bool true)).cell? ⟨b, 2, none⟩ = some (.int .i64 M.number) from hM1.c2)
   have hst := res_st hz1 rfl
   have hfp : M.fp b gs := .inr (.inl (by rw [hA.sv]; rfl))
   go_enter Tryz.func142, Tryz.ntmps142
   go_wp2_with (go_at_call 189; refine (ho _ hM0).mono ?_; rintro e w1 ⟨rfl, rfl⟩)
   exact ⟨rfl, _, results_cell_row rfl _ _ _ _ _ _ _ rfl (setRow_heap _ _ _ _ _ _ hz1) Tryz.underlying51 rfl (by kernel_rfl), rfl, _, hM1.row hz1 _, MM.putSub_st hS, ((KeepF.of_below hE.bl).trans (KeepF.set (F := M.fp b) (a := ⟨gs, c * 2, none⟩) hfp _)).row hrB _, fun k hk => .inl ((fp_sub hS k).1 hk)⟩
theorem receive_any (b c : Nat) (M : MM) (o : OpV) (w : World) (h : MdAt w b M) (S : SeM) (hS : M.seats[c]? = some S) (hcl : M.seats.length ≤ 8) :
  Calls Tryz.prog 143 #[.pointer (some ⟨b, 0, none⟩), .int .i64 (c : Int), .agg #[.int .u8 o.kind, .int .i64 o.slot, .int .i64 o.at_, .int .i64 o.n, .int .u32 o.id, .int .u8 o.grav, .string o.text]] w (Post b w (recS M.st c) M) := by
 obtain ⟨hc, _⟩ := List.getElem?_eq_some_iff.1 hS
 have ho := fun W hW => open_any b M W hW
 have hE := ed2_start w o
 have hM0 := h.below hE.bl
 have hrB : w.heap.size ≤ w.heap.size + 1 := by omega
 obtain ⟨gs, cs, g, cp, cur, hA⟩ := hM0.seatAt hS
 have c5 := hM0.c5 hA.sv
 have a0 := hA.c0
 have e0 : M.st.seat c = S.st := MM.seat_st hS
 cases hs : S.sub with
 | false =>
  have hR : recS M.st c = (failR 19, M.st) := by unfold recS; rw [if_pos (by rw [e0]; show (!S.sub) = true; simp [hs])]
  rw [hR]
  go_enter Tryz.func143, Tryz.ntmps143
  go_wp2_with (go_at_call 99; refine (fail_any _ _).mono ?_; rintro e v7 ⟨rfl, hb7⟩; have hE7 := hE.on hb7; have hst := res_st hE7.res rfl)
  exact ⟨rfl, _, results_cell_row rfl _ _ _ _ _ _ _ rfl (setRow_heap _ _ _ _ _ _ hE7.res) Tryz.underlying51 rfl (by kernel_rfl), rfl, M, (hM0.below hb7).row hE7.res _, rfl, (KeepF.of_below hE7.bl).row hrB _, fun k hk => .inl hk⟩
 | true =>
  cases hl : M.closed with
  | true =>
   have hR : recS M.st c = (failR 13, M.st) := by unfold recS; rw [if_neg (by rw [e0]; show ¬ ((!S.sub) = true); simp [hs]), if_pos (by exact hl)]
   simp only [hl, if_true] at ho
   rw [hR]
   go_enter Tryz.func143, Tryz.ntmps143
   go_wp2_with (first | (go_at_call 189; refine (ho _ hM0).mono ?_; rintro e w1 ⟨rfl, rfl⟩) | (go_at_call 99; refine (fail_any _ _).mono ?_; rintro e v7 ⟨rfl, hb7⟩; have hE7 := hE.on hb7; have hst := res_st hE7.res rfl))
   exact ⟨rfl, _, results_cell_row rfl _ _ _ _ _ _ _ rfl (setRow_heap _ _ _ _ _ _ hE7.res) Tryz.underlying51 rfl (by kernel_rfl), rfl, M, (hM0.below hb7).row hE7.res _, rfl, (KeepF.of_below hE7.bl).row hrB _, fun k hk => .inl hk⟩
  | false =>
   have hR : recS M.st c = (failR 17, M.st) := by unfold recS; rw [if_neg (by rw [e0]; show ¬ ((!S.sub) = true); simp [hs]), if_neg (by show ¬ (M.closed = true); simp [hl])]
   simp only [hl, Bool.false_eq_true, if_false] at ho
   rw [hR]
   go_enter Tryz.func143, Tryz.ntmps143
   go_wp2_with (first | (go_at_call 189; refine (ho _ hM0).mono ?_; rintro e w1 ⟨rfl, rfl⟩) | (go_at_call 99; refine (fail_any _ _).mono ?_; rintro e v7 ⟨rfl, hb7⟩; have hE7 := hE.on hb7; have hst := res_st hE7.res rfl))
   exact ⟨rfl, _, results_cell_row rfl _ _ _ _ _ _ _ rfl (setRow_heap _ _ _ _ _ _ hE7.res) Tryz.underlying51 rfl (by kernel_rfl), rfl, M, (hM0.below hb7).row hE7.res _, rfl, (KeepF.of_below hE7.bl).row hrB _, fun k hk => .inl hk⟩
end Go.Proofs.YtdeiocppghhfdaaGreat
namespace Go.Proofs.YtdeiocppghhfdaaGreat
open Go.RowKit Go.Lib Go.Shelf
theorem static_any (b : Nat) (M : MM) (c : Int) (o : OpV) (w : World) (h : MdAt w b M) (hi : OpIn o) (hcl : M.seats.length ≤ 8) :
  Calls Tryz.prog 100 #[.pointer (some ⟨b, 0, none⟩), .int .i64 c, .agg #[.int .u8 o.kind, .int .i64 o.slot, .int .i64 o.at_, .int .i64 o.n, .int .u32 o.id, .int .u8 o.grav, .string o.text]] w fun r w' => r = .returned (.int .i64 (statE M.st c o)) ∧ Below w.heap.size w w' := by
 obtain ⟨ag, cs, hsv⟩ := own_slice h.seats
 have c5 := fun u => Lib.cell?_alloc_some u (h.c5 hsv)
 have hB := fun u => (Below.refl w.heap.size w).alloc (Nat.le_refl _) u
 have hlen : M.st.seats.length = M.seats.length := List.length_map ..
 by_cases h0 : c < 0
 ·have hR : statE M.st c o = 3 := by unfold statE; rw [if_pos (.inl h0)]
  rw [hR]
  go_enter Tryz.func100, Tryz.ntmps100
  go_wp2
  go_returns
  exact ⟨rfl, hB _⟩
 ·by_cases h1 : (M.seats.length : Int) ≤ c
  ·have hR : statE M.st c o = 3 := by unfold statE; rw [if_pos (.inr (by rw [hlen]; exact h1))]
   rw [hR]
   go_enter Tryz.func100, Tryz.ntmps100
   go_wp2
   go_returns
   exact ⟨rfl, hB _⟩
  ·have hR : statE M.st c o = opE o := by unfold statE; rw [if_neg (by rw [hlen]; omega)]
   rw [hR]
   go_enter Tryz.func100, Tryz.ntmps100
   go_wp2_with (go_at_call 136; refine (clientCheck_any o _).mono ?_; rintro e w1 ⟨rfl, hb1⟩; have hb2 := (hB _).trans (hb1.mono (by simp)))
   go_returns
   exact ⟨rfl, hb2⟩
end Go.Proofs.YtdeiocppghhfdaaGreat
namespace Go.Proofs.YtdeiocppghhfdaaGreat
open Go.RowKit Go.Lib Go.Shelf
attribute [local go_sem, local simp] resF resL_len resL_ne rset0 rset1 rset2 rset3 rset4 rset5
theorem slot_any (b c : Nat) (M : MM) (o : OpV) (w : World) (h : MdAt w b M) (S : SeM) (hS : M.seats[c]? = some S) (hl : S.sl.length ≤ 8) (hcl : M.seats.length ≤ 8) (gs cs g cp : Nat) (cur : Array Value) (hA : SeatAt w M c S gs cs g cp cur) :
  Calls Tryz.prog 198 #[.pointer (some ⟨b, 0, none⟩), .int .i64 (c : Int), .agg #[.int .u8 o.kind, .int .i64 o.slot, .int .i64 o.at_, .int .i64 o.n, .int .u32 o.id, .int .u8 o.grav, .string o.text]] w fun r w' => Below w.heap.size w w' ∧ 
   r = .returned (.tuple #[.pointer (if slotE S.st o = 0 then some ⟨g, o.slot.toNat * 4, none⟩ else none), .int .i64 (slotE S.st o)]) := by
 obtain ⟨hc, _⟩ := List.getElem?_eq_some_iff.1 hS
 have c5 := fun u => Lib.cell?_alloc_some u (h.c5 hA.sv)
 have a1 := fun u => Lib.cell?_alloc_some u hA.c1
 have hB := fun u => (Below.refl w.heap.size w).alloc (Nat.le_refl _) u
 have hcp := hA.cap
 by_cases h0 : o.slot < 0
 ·have hR : slotE S.st o = 2 := by unfold slotE; rw [if_pos (.inl h0)]
  rw [hR]
  go_enter Tryz.func198, Tryz.ntmps198
  go_wp2
  go_returns
  exact ⟨hB _, rfl⟩
 ·by_cases h1 : (S.sl.length : Int) ≤ o.slot
  ·have hR : slotE S.st o = 2 := by unfold slotE; rw [if_pos (.inr (by show ((S.sl.map (fun y : SnM => y.s)).length : Int) ≤ _; rw [List.length_map]; exact h1))]
   rw [hR]
   go_enter Tryz.func198, Tryz.ntmps198
   go_wp2
   go_returns
   exact ⟨hB _, rfl⟩
  ·obtain ⟨k, hk⟩ : ∃ k : Nat, o.slot = k := ⟨o.slot.toNat, by omega⟩
   have hk1 : k < S.sl.length := by omega
   have hx := List.getElem?_eq_getElem hk1
   generalize S.sl[k] = x at hx
   have hR : slotE S.st o = if x.s.held then 0 else 16 := by
    unfold slotE
    rw [if_neg (by show ¬ (o.slot < 0 ∨ ((S.sl.map (fun y : SnM => y.s)).length : Int) ≤ o.slot); rw [List.length_map]; omega)]
    show (if ((S.sl.map (fun y : SnM => y.s)).getD o.slot.toNat default).held then (0 : Int) else 16) = _
    rw [List.getD_eq_getElem?_getD, List.getElem?_map, hk, Int.toNat_natCast, hx]
    rfl
   have s0 := fun u => Lib.cell?_alloc_some u (hA.sn k x hx).cells.1.1
   have i1 : ((k : Int) < S.sl.length) = True := by simp; omega
   rw [hR, hk]
   cases hh : x.s.held with
   | true =>
    go_enter Tryz.func198, Tryz.ntmps198
    go_wp2
    go_returns
    exact ⟨hB _, rfl⟩
   | false =>
    go_enter Tryz.func198, Tryz.ntmps198
    go_wp2
    go_returns
    exact ⟨hB _, rfl⟩
end Go.Proofs.YtdeiocppghhfdaaGreat
namespace Go.Proofs.YtdeiocppghhfdaaGreat
open Go.RowKit Go.Lib Go.Shelf
attribute [local go_sem, local simp] resF resL_len resL_ne rset0 rset1 rset2 rset3 rset4 rset5
theorem cell_below {W W' : World} {a : Addr} {v : Value} (h : W.cell? a = some v) (hb : Below W.heap.size W W') : W'.cell? a = some v := by
 by_cases hl : a.block < W.heap.size
 ·exact (hb.cell hl).trans h
 ·have : W.heap[a.block]? = none := Array.getElem?_eq_none (by omega)
  simp [World.cell?, this] at h
theorem frz_below {W W' : World} {a : Addr} {v : Value} (hc : W.cell? a = some v) (h : W.frozen? a = false) (hb : Below W.heap.size W W') : W'.frozen? a = false := by
 have hl : a.block < W.heap.size := by
  by_cases hl : a.block < W.heap.size
  ·exact hl
  ·have : W.heap[a.block]? = none := Array.getElem?_eq_none (by omega)
   simp [World.cell?, this] at hc
 have e : W'.frozen? a = W.frozen? a := by simp [World.frozen?, hb.block _ hl]
 rw [e]; exact h
theorem SeatAt.below {W W' : World} {M : MM} {c : Nat} {S : SeM} {gs cs g cp : Nat} {cur : Array Value} (h : SeatAt W M c S gs cs g cp cur) (hb : Below W.heap.size W W') : SeatAt W' M c S gs cs g cp cur :=
 ⟨h.sv, h.v, cell_below h.c0 hb, frz_below h.c0 h.f0 hb, cell_below h.c1 hb, h.cap, (hb.block g (Array.getElem?_eq_some_iff.1 h.blk).1).trans h.blk, fun k x hx => (h.sn k x hx).below hb⟩
theorem fp_slot {b c k0 : Nat} {M : MM} {S : SeM} {x : SnM} (hS : M.seats[c]? = some S) (k : Nat) : (M.putSlot c k0 S x).fp b k → M.fp b k := by
 have hmem := List.mem_of_getElem? hS
 rintro (h | h | ⟨S', hS', h⟩)
 ·exact .inl h
 ·exact .inr (.inl h)
 ·rcases mem_set_or hS' with rfl | ⟨d, hd, hS'⟩
  ·exact .inr (.inr ⟨S, hmem, h⟩)
  ·exact .inr (.inr ⟨S', List.mem_of_getElem? hS', h⟩)
theorem Ed2.o7 {w W : World} {r : Nat} {o : OpV} (h : Ed2 w o r W) : W.cell? ⟨w.heap.size, 0, none⟩ = some (.int .u8 o.kind) ∧ W.cell? ⟨w.heap.size, 1, none⟩ = some (.int .i64 o.slot) ∧ W.cell? ⟨w.heap.size, 2, none⟩ = some (.int .i64 o.at_) ∧ W.cell? ⟨w.heap.size, 3, none⟩ = some (.int .i64 o.n) ∧ W.cell? ⟨w.heap.size, 4, none⟩ = some (.int .u32 o.id) ∧ W.cell? ⟨w.heap.size, 5, none⟩ = some (.int .u8 o.grav) ∧ W.cell? ⟨w.heap.size, 6, none⟩ = some (.string o.text) := by
 refine ⟨?_, ?_, ?_, ?_, ?_, ?_, ?_⟩ <;> simp [World.cell?, h.op, opL]
theorem reading1_any (f : Nat) (q : OpV) (hent : ∀ args W, (callFunc f args).run Tryz.prog W = .ok (.enter f args) W)
  (hf : ∀ (g o : Nat) (cur : Array Value) (x : SnM) (w : World), SnAt w g o cur x → SnOK x.s → Calls Tryz.prog f #[.pointer (some ⟨g, o, none⟩), .agg #[.int .u8 q.kind, .int .i64 q.slot, .int .i64 q.at_, .int .i64 q.n, .int .u32 q.id, .int .u8 q.grav, .string q.text]] w (SnPost g o cur w x (snpS x.s q)))
  (b c gb : Nat) (M : MM) (w : World) (h : MdAt w b M) (hok : MSok M.st 100000) (hc : c < M.seats.length) (hg : w.cell? ⟨gb, 0, none⟩ = some (.func (.func f) #[] #[])) :
  Calls Tryz.prog 197 #[.pointer (some ⟨b, 0, none⟩), .int .i64 (c : Int), .agg #[.int .u8 q.kind, .int .i64 q.slot, .int .i64 q.at_, .int .i64 q.n, .int .u32 q.id, .int .u8 q.grav, .string q.text], .pointer (some ⟨gb, 0, none⟩)] w (Post b w (reaS M.st c q) M) := by
 have hS := List.getElem?_eq_getElem hc
 generalize M.seats[c] = S at hS
 have hmem := List.mem_of_getElem? hS
 have hst8 : S.sl.length ≤ 8 ∧ ∀ x ∈ S.sl, SnOK x.s := by
  have := hok.slots S.st (List.mem_map.2 ⟨S, hmem, rfl⟩)
  refine ⟨?_, fun x hx => this.2 x.s (List.mem_map.2 ⟨x, hx, rfl⟩)⟩
  have h1 := this.1
  have h2 : S.st.slots.length = S.sl.length := List.length_map ..
  have := hok.readers
  omega
 have hcl : M.seats.length ≤ 8 := by have := hok.clients; have h2 : M.st.seats.length = M.seats.length := List.length_map ..; omega
 have hE := ed2_start w q
 have hM0 := h.below hE.bl
 have hg0 := cell_below hg hE.bl
 have hrB : w.heap.size ≤ w.heap.size + 1 := by omega
 obtain ⟨gs, cs, g, cp, cur, hA⟩ := hM0.seatAt hS
 have hsl := slot_any b c M q _ hM0 S hS hst8.1 hcl gs cs g cp cur hA
 have e0 : M.st.seat c = S.st := MM.seat_st hS
 have HOK := Lib.hid hok
 clear hok
 by_cases hz : slotE S.st q = 0
 ·rw [if_pos hz, hz] at hsl
  obtain ⟨k, hk, x, hx, hxe⟩ : ∃ k : Nat, q.slot.toNat = k ∧ ∃ x, S.sl[k]? = some x ∧ S.st.slots.getD k default = x.s := by
   unfold slotE at hz
   split at hz
   ·cases hz
   ·rename_i hn
    have h2 : S.st.slots.length = S.sl.length := List.length_map ..
    rw [h2] at hn
    have hlt : q.slot.toNat < S.sl.length := by omega
    refine ⟨_, rfl, S.sl[q.slot.toNat], List.getElem?_eq_getElem hlt, ?_⟩
    show (S.sl.map (fun y : SnM => y.s)).getD _ default = _
    rw [List.getD_eq_getElem?_getD, List.getElem?_map, List.getElem?_eq_getElem hlt]
    rfl
  have hR : reaS M.st c q = ((snpS x.s q).1, M.st.putSlot c k (snpS x.s q).2) := by
   unfold reaS
   rw [e0, if_neg (by simpa using hz), hk, hxe]
  rw [hk] at hsl
  rw [hR]
  have hxo := hst8.2 x (List.mem_of_getElem? hx)
  clear hz hR hst8
  go_enter Tryz.func197, Tryz.ntmps197
  go_wp2_with (first | (go_at_call 198; refine hsl.mono ?_; rintro e w1 ⟨hb1, rfl⟩; have hE1 := hE.on hb1; have hA1 := hA.below hb1; have hM1 := hM0.below hb1; have hg1 := cell_below hg0 hb1; obtain ⟨y0, y1, y2, y3, y4, y5, y6⟩ := hE1.o7; clear hsl) | (go_at_fn f; refine (hf g (k * 4) cur x _ (hA1.sn k x hx) hxo).mono ?_; rintro e w2 ⟨rfl, x', hx', hN', hK'⟩; have hM2 := hM1.putSlot hS hA1 hx hN' hK'; have hz2 := (hK'.block _ (Array.getElem?_eq_some_iff.1 hE1.res).1 (blk_ne hA1.blk hE1.res).symm).trans hE1.res; have hst := res_st hz2 rfl))
  trace_state
  exact ⟨rfl, _, results_cell_row rfl _ _ _ _ _ _ _ rfl (setRow_heap _ _ _ _ _ _ hz2) Tryz.underlying51 rfl (by kernel_rfl), rfl, _, hM2.row hz2 _, (by rw [← hx']; exact MM.putSlot_st hS), ((KeepF.of_below hE1.bl).trans (hK'.fp (F := M.fp b) (.inr (.inr ⟨S, hmem, by rw [hA1.v]; rfl⟩)))).row hrB _, fun k hk => .inl (fp_slot hS k hk)⟩
 ·rw [if_neg hz] at hsl
  have hR : reaS M.st c q = (failR (slotE S.st q), M.st) := by
   unfold reaS
   rw [e0, if_pos hz]
  rw [hR]
  have hd : (slotE S.st q == 0) = false := by simpa using hz
  clear hR
  generalize slotE S.st q = E at *
  go_enter Tryz.func197, Tryz.ntmps197
  go_wp2_with (first | (go_at_call 198; refine hsl.mono ?_; rintro e w1 ⟨hb1, rfl⟩; have hE1 := hE.on hb1; have hM1 := hM0.below hb1; clear hsl) | (go_at_call 99; refine (fail_any _ _).mono ?_; rintro e v7 ⟨rfl, hb7⟩; have hE7 := hE1.on hb7; have hst := res_st hE7.res rfl))
  exact ⟨rfl, _, results_cell_row rfl _ _ _ _ _ _ _ rfl (setRow_heap _ _ _ _ _ _ hE7.res) Tryz.underlying51 rfl (by kernel_rfl), rfl, M, (hM1.below hb7).row hE7.res _, rfl, (KeepF.of_below hE7.bl).row hrB _, fun k hk => .inl hk⟩
end Go.Proofs.YtdeiocppghhfdaaGreat
