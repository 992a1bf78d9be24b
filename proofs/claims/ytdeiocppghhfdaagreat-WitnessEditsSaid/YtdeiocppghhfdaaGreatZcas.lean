/- Texts, one behind another. -/
import Derived.Test.YtdeiocppghhfdaaGreatZcar
import Derived.Test.YtdeiocppghhfdaaGreatZcan
import Derived.Test.YtdeiocppghhfdaaGreatZcaa
import Derived.Test.YtdeiocppghhfdaaGreatZcaf
import Derived.WideMake
import Derived.Laws.OwnMore
set_option linter.unusedVariables false
set_option linter.unusedSimpArgs false
set_option maxRecDepth 100000
set_option maxHeartbeats 8000000
namespace Go.Proofs.YtdeiocppghhfdaaGreat
open Go.RowKit Go.Lib Go.Shelf
theorem static_any (b : Nat) (M : MM) (c : Int) (o : OpV) (w : World) (h : MdAt w b M) (hi : OpIn o) (hcl : M.seats.length ≤ 8) :
  Calls Tryz.prog 100 #[.pointer (some ⟨b, 0, none⟩), .int .i64 c, .agg #[.int .u8 o.kind, .int .i64 o.slot, .int .i64 o.at_, .int .i64 o.n, .int .u32 o.id, .int .u8 o.grav, .string o.text]] w fun r w' => r = .returned (.int .i64 (statE M.st c o)) ∧ Below w.heap.size w w' := by
 obtain ⟨ag, cs, hsv⟩ := own_slice h.seats
 have c5 := fun u => Lib.cell?_alloc_some u (h.c5 hsv)
 have hB := fun u => (Below.refl w.heap.size w).alloc (Nat.le_refl _) u
 have hlen : M.st.seats.length = M.seats.length := List.length_map ..
 by_cases h0 : c < 0
 ·have hR : statE M.st c o = 3 := by unfold statE; rw [if_pos (.inl h0)]
  rw [hR]
  go_enter Tryz.func100, Tryz.ntmps100
  go_wp2
  go_returns
  exact ⟨rfl, hB _⟩
 ·by_cases h1 : (M.seats.length : Int) ≤ c
  ·have hR : statE M.st c o = 3 := by unfold statE; rw [if_pos (.inr (by rw [hlen]; exact h1))]
   rw [hR]
   go_enter Tryz.func100, Tryz.ntmps100
   go_wp2
   go_returns
   exact ⟨rfl, hB _⟩
  ·have hR : statE M.st c o = opE o := by unfold statE; rw [if_neg (by rw [hlen]; omega)]
   rw [hR]
   go_enter Tryz.func100, Tryz.ntmps100
   go_wp2_with (go_at_call 136; refine (clientCheck_any o _).mono ?_; rintro e w1 ⟨rfl, hb1⟩; have hb2 := (hB _).trans (hb1.mono (by simp)))
   go_returns
   exact ⟨rfl, hb2⟩
end Go.Proofs.YtdeiocppghhfdaaGreat
namespace Go.Proofs.YtdeiocppghhfdaaGreat
open Go.RowKit Go.Lib Go.Shelf
attribute [local go_sem, local simp] resF resL_len resL_ne rset0 rset1 rset2 rset3 rset4 rset5
theorem slot_any (b c : Nat) (M : MM) (o : OpV) (w : World) (h : MdAt w b M) (S : SeM) (hS : M.seats[c]? = some S) (hl : S.sl.length ≤ 8) (hcl : M.seats.length ≤ 8) (gs cs g cp : Nat) (cur : Array Value) (hA : SeatAt w M c S gs cs g cp cur) :
  Calls Tryz.prog 198 #[.pointer (some ⟨b, 0, none⟩), .int .i64 (c : Int), .agg #[.int .u8 o.kind, .int .i64 o.slot, .int .i64 o.at_, .int .i64 o.n, .int .u32 o.id, .int .u8 o.grav, .string o.text]] w fun r w' => Below w.heap.size w w' ∧ 
   r = .returned (.tuple #[.pointer (if slotE S.st o = 0 then some ⟨g, o.slot.toNat * 4, none⟩ else none), .int .i64 (slotE S.st o)]) := by
 obtain ⟨hc, _⟩ := List.getElem?_eq_some_iff.1 hS
 have c5 := fun u => Lib.cell?_alloc_some u (h.c5 hA.sv)
 have a1 := fun u => Lib.cell?_alloc_some u hA.c1
 have hB := fun u => (Below.refl w.heap.size w).alloc (Nat.le_refl _) u
 have hcp := hA.cap
 by_cases h0 : o.slot < 0
 ·have hR : slotE S.st o = 2 := by unfold slotE; rw [if_pos (.inl h0)]
  rw [hR]
  go_enter Tryz.func198, Tryz.ntmps198
  go_wp2
  go_returns
  exact ⟨hB _, rfl⟩
 ·by_cases h1 : (S.sl.length : Int) ≤ o.slot
  ·have hR : slotE S.st o = 2 := by unfold slotE; rw [if_pos (.inr (by show ((S.sl.map (fun y : SnM => y.s)).length : Int) ≤ _; rw [List.length_map]; exact h1))]
   rw [hR]
   go_enter Tryz.func198, Tryz.ntmps198
   go_wp2
   go_returns
   exact ⟨hB _, rfl⟩
  ·obtain ⟨k, hk⟩ : ∃ k : Nat, o.slot = k := ⟨o.slot.toNat, by omega⟩
   have hk1 : k < S.sl.length := by omega
   have hx := List.getElem?_eq_getElem hk1
   generalize S.sl[k] = x at hx
   have hR : slotE S.st o = if x.s.held then 0 else 16 := by
    unfold slotE
    rw [if_neg (by show ¬ (o.slot < 0 ∨ ((S.sl.map (fun y : SnM => y.s)).length : Int) ≤ o.slot); rw [List.length_map]; omega)]
    show (if ((S.sl.map (fun y : SnM => y.s)).getD o.slot.toNat default).held then (0 : Int) else 16) = _
    rw [List.getD_eq_getElem?_getD, List.getElem?_map, hk, Int.toNat_natCast, hx]
    rfl
   have s0 := fun u => Lib.cell?_alloc_some u (hA.sn k x hx).cells.1.1
   have i1 : ((k : Int) < S.sl.length) = True := by simp; omega
   rw [hR, hk]
   cases hh : x.s.held with
   | true =>
    go_enter Tryz.func198, Tryz.ntmps198
    go_wp2
    go_returns
    exact ⟨hB _, rfl⟩
   | false =>
    go_enter Tryz.func198, Tryz.ntmps198
    go_wp2
    go_returns
    exact ⟨hB _, rfl⟩
end Go.Proofs.YtdeiocppghhfdaaGreat
namespace Go.Proofs.YtdeiocppghhfdaaGreat
open Go.RowKit Go.Lib Go.Shelf
attribute [local go_sem, local simp] resF resL_len resL_ne rset0 rset1 rset2 rset3 rset4 rset5
theorem cell_below {W W' : World} {a : Addr} {v : Value} (h : W.cell? a = some v) (hb : Below W.heap.size W W') : W'.cell? a = some v := by
 by_cases hl : a.block < W.heap.size
 ·exact (hb.cell hl).trans h
 ·have : W.heap[a.block]? = none := Array.getElem?_eq_none (by omega)
  simp [World.cell?, this] at h
theorem frz_below {W W' : World} {a : Addr} {v : Value} (hc : W.cell? a = some v) (h : W.frozen? a = false) (hb : Below W.heap.size W W') : W'.frozen? a = false := by
 have hl : a.block < W.heap.size := by
  by_cases hl : a.block < W.heap.size
  ·exact hl
  ·have : W.heap[a.block]? = none := Array.getElem?_eq_none (by omega)
   simp [World.cell?, this] at hc
 have e : W'.frozen? a = W.frozen? a := by simp [World.frozen?, hb.block _ hl]
 rw [e]; exact h
theorem SeatAt.below {W W' : World} {M : MM} {c : Nat} {S : SeM} {gs cs g cp : Nat} {cur : Array Value} (h : SeatAt W M c S gs cs g cp cur) (hb : Below W.heap.size W W') : SeatAt W' M c S gs cs g cp cur :=
 ⟨h.sv, h.v, cell_below h.c0 hb, frz_below h.c0 h.f0 hb, cell_below h.c1 hb, h.cap, (hb.block g (Array.getElem?_eq_some_iff.1 h.blk).1).trans h.blk, fun k x hx => (h.sn k x hx).below hb⟩
theorem fp_slot {b c k0 : Nat} {M : MM} {S : SeM} {x : SnM} (hS : M.seats[c]? = some S) (k : Nat) : (M.putSlot c k0 S x).fp b k → M.fp b k := by
 have hmem := List.mem_of_getElem? hS
 rintro (h | h | ⟨S', hS', h⟩)
 ·exact .inl h
 ·exact .inr (.inl h)
 ·rcases mem_set_or hS' with rfl | ⟨d, hd, hS'⟩
  ·exact .inr (.inr ⟨S, hmem, h⟩)
  ·exact .inr (.inr ⟨S', List.mem_of_getElem? hS', h⟩)
theorem Ed2.o7 {w W : World} {r : Nat} {o : OpV} (h : Ed2 w o r W) : W.cell? ⟨w.heap.size, 0, none⟩ = some (.int .u8 o.kind) ∧ W.cell? ⟨w.heap.size, 1, none⟩ = some (.int .i64 o.slot) ∧ W.cell? ⟨w.heap.size, 2, none⟩ = some (.int .i64 o.at_) ∧ W.cell? ⟨w.heap.size, 3, none⟩ = some (.int .i64 o.n) ∧ W.cell? ⟨w.heap.size, 4, none⟩ = some (.int .u32 o.id) ∧ W.cell? ⟨w.heap.size, 5, none⟩ = some (.int .u8 o.grav) ∧ W.cell? ⟨w.heap.size, 6, none⟩ = some (.string o.text) := by
 refine ⟨?_, ?_, ?_, ?_, ?_, ?_, ?_⟩ <;> simp [World.cell?, h.op, opL]
theorem reading1_any (f : Nat) (q : OpV) (hent : ∀ args W, (callFunc f args).run Tryz.prog W = .ok (.enter f args) W)
  (hf : ∀ (g o : Nat) (cur : Array Value) (x : SnM) (w : World), SnAt w g o cur x → SnOK x.s → Calls Tryz.prog f #[.pointer (some ⟨g, o, none⟩), .agg #[.int .u8 q.kind, .int .i64 q.slot, .int .i64 q.at_, .int .i64 q.n, .int .u32 q.id, .int .u8 q.grav, .string q.text]] w (SnPost g o cur w x (snpS x.s q)))
  (b c gb : Nat) (M : MM) (w : World) (h : MdAt w b M) (hok : MSok M.st 100000) (hc : c < M.seats.length) (hg : w.cell? ⟨gb, 0, none⟩ = some (.func (.func f) #[] #[])) :
  Calls Tryz.prog 197 #[.pointer (some ⟨b, 0, none⟩), .int .i64 (c : Int), .agg #[.int .u8 q.kind, .int .i64 q.slot, .int .i64 q.at_, .int .i64 q.n, .int .u32 q.id, .int .u8 q.grav, .string q.text], .pointer (some ⟨gb, 0, none⟩)] w (Post b w (reaS M.st c q) M) := by
 have hS := List.getElem?_eq_getElem hc
 generalize M.seats[c] = S at hS
 have hmem := List.mem_of_getElem? hS
 have hst8 : S.sl.length ≤ 8 ∧ ∀ x ∈ S.sl, SnOK x.s := by
  have := hok.slots S.st (List.mem_map.2 ⟨S, hmem, rfl⟩)
  refine ⟨?_, fun x hx => this.2 x.s (List.mem_map.2 ⟨x, hx, rfl⟩)⟩
  have h1 := this.1
  have h2 : S.st.slots.length = S.sl.length := List.length_map ..
  have := hok.readers
  omega
 have hcl : M.seats.length ≤ 8 := by have := hok.clients; have h2 : M.st.seats.length = M.seats.length := List.length_map ..; omega
 have hE := ed2_start w q
 have hM0 := h.below hE.bl
 have hg0 := cell_below hg hE.bl
 have hrB : w.heap.size ≤ w.heap.size + 1 := by omega
 obtain ⟨gs, cs, g, cp, cur, hA⟩ := hM0.seatAt hS
 have hsl := slot_any b c M q _ hM0 S hS hst8.1 hcl gs cs g cp cur hA
 have e0 : M.st.seat c = S.st := MM.seat_st hS
 have HOK := Lib.hid hok
 clear hok
 by_cases hz : slotE S.st q = 0
 ·rw [if_pos hz, hz] at hsl
  obtain ⟨k, hk, x, hx, hxe⟩ : ∃ k : Nat, q.slot.toNat = k ∧ ∃ x, S.sl[k]? = some x ∧ S.st.slots.getD k default = x.s := by
   unfold slotE at hz
   split at hz
   ·cases hz
   ·rename_i hn
    have h2 : S.st.slots.length = S.sl.length := List.length_map ..
    rw [h2] at hn
    have hlt : q.slot.toNat < S.sl.length := by omega
    refine ⟨_, rfl, S.sl[q.slot.toNat], List.getElem?_eq_getElem hlt, ?_⟩
    show (S.sl.map (fun y : SnM => y.s)).getD _ default = _
    rw [List.getD_eq_getElem?_getD, List.getElem?_map, List.getElem?_eq_getElem hlt]
    rfl
  have hR : reaS M.st c q = ((snpS x.s q).1, M.st.putSlot c k (snpS x.s q).2) := by
   unfold reaS
   rw [e0, if_neg (by simpa using hz), hk, hxe]
  rw [hk] at hsl
  rw [hR]
  have hxo := hst8.2 x (List.mem_of_getElem? hx)
  clear hz hR hst8
  go_enter Tryz.func197, Tryz.ntmps197
  go_wp2_with (first | (go_at_call 198; refine hsl.mono ?_; rintro e w1 ⟨hb1, rfl⟩; have hE1 := hE.on hb1; have hA1 := hA.below hb1; have hM1 := hM0.below hb1; have hg1 := cell_below hg0 hb1; obtain ⟨y0, y1, y2, y3, y4, y5, y6⟩ := hE1.o7; clear hsl) | (go_at_fn f; refine (hf g (k * 4) cur x _ (hA1.sn k x hx) hxo).mono ?_; rintro e w2 ⟨rfl, x', hx', hN', hK'⟩; have hM2 := hM1.putSlot hS hA1 hx hN' hK'; have hz2 := (hK'.block _ (Array.getElem?_eq_some_iff.1 hE1.res).1 (blk_ne hA1.blk hE1.res).symm).trans hE1.res; have hst := res_st hz2 rfl))
  trace_state
  exact ⟨rfl, _, results_cell_row rfl _ _ _ _ _ _ _ rfl (setRow_heap _ _ _ _ _ _ hz2) Tryz.underlying51 rfl (by kernel_rfl), rfl, _, hM2.row hz2 _, (by rw [← hx']; exact MM.putSlot_st hS), ((KeepF.of_below hE1.bl).trans (hK'.fp (F := M.fp b) (.inr (.inr ⟨S, hmem, by rw [hA1.v]; rfl⟩)))).row hrB _, fun k hk => .inl (fp_slot hS k hk)⟩
 ·rw [if_neg hz] at hsl
  have hR : reaS M.st c q = (failR (slotE S.st q), M.st) := by
   unfold reaS
   rw [e0, if_pos hz]
  rw [hR]
  have hd : (slotE S.st q == 0) = false := by simpa using hz
  clear hR
  generalize slotE S.st q = E at *
  go_enter Tryz.func197, Tryz.ntmps197
  go_wp2_with (first | (go_at_call 198; refine hsl.mono ?_; rintro e w1 ⟨hb1, rfl⟩; have hE1 := hE.on hb1; have hM1 := hM0.below hb1; clear hsl) | (go_at_call 99; refine (fail_any _ _).mono ?_; rintro e v7 ⟨rfl, hb7⟩; have hE7 := hE1.on hb7; have hst := res_st hE7.res rfl))
  exact ⟨rfl, _, results_cell_row rfl _ _ _ _ _ _ _ rfl (setRow_heap _ _ _ _ _ _ hE7.res) Tryz.underlying51 rfl (by kernel_rfl), rfl, M, (hM1.below hb7).row hE7.res _, rfl, (KeepF.of_below hE7.bl).row hrB _, fun k hk => .inl hk⟩
end Go.Proofs.YtdeiocppghhfdaaGreat
namespace Go.Proofs.YtdeiocppghhfdaaGreat
open Go.RowKit Go.Lib Go.Shelf
structure MapW (w : World) (b : Nat) (es : Array MapEntry) (clock : Nat) (w' : World) : Prop where
  blk : w'.heap[b]? = some (.map es clock)
  oth : ∀ k, k ≠ b → w'.heap[k]? = w.heap[k]?
  sz : w'.heap.size = w.heap.size
  os : w'.os = w.os
  tape : w'.tape = w.tape
  output : w'.output = w.output
theorem wpList_insert_lit {P : Program} (w : World) {ops : Array Oper} {rest : List Oper} {o : Oper} {a : Act} {Q : Exit → Act → World → Prop}
    (hg : o.guard = none) (m x v : Operand) (t : TypeId) (hop : o.op = Op.insert t m x v) (k e : TypeId) (ht : P.underlying t = some (.map k e)) (q : IntKind) (hk : P.underlying k = some (.int q))
    (b clock : Nat) (es : Array MapEntry) (i : Int) (hb : w.heap[b]? = some (.map es clock)) (hm : a.eval m = .map (some b)) (hx : a.eval x = .int q i) (val : Value) (hv : a.eval v = val) (hf : Instr.findNow (.int q) (.int q i) es.toList 0 = some none)
    (hK : ∀ w', MapW w b (es.push { key := .int q i, val := val, born := clock }) (clock + 1) w' → wpList P ops Q rest (a.put o.dst undef) w') :
    wpList P ops Q (o :: rest) a w := by
  refine wpList_plain hg fun K' hK' => ?_
  have hc : (Instr.checkKey false 10000 k (.int q i)).run P w = .ok () w := MapKept.run_checkKey (k := .int q i) hk (by simp [MapKept.IsKey]) false 9999
  have hrun : (Instr.mapUpdate t (.map (some b)) (.int q i) val).run P w = .ok () { w with heap := w.heap.setIfInBounds b (.map (es.push { key := .int q i, val := val, born := clock }) (clock + 1)) } := by
    simp [Instr.mapUpdate, run_underlying ht, MapKept.run_getObj_map hb, hc, MapKept.run_findKey hk hf, MapKept.run_setObj_map _ hb, Result.andThen]
  unfold Oper.wp
  simp [execOp, hop, hm, hx, hv, hrun, Result.andThen]
  have hlt := (Array.getElem?_eq_some_iff.1 hb).1
  exact hK' _ _ (hK _ ⟨by simp [hlt], fun k hk => by simp [Array.getElem?_setIfInBounds, Ne.symm hk], by simp, rfl, rfl, rfl⟩)
theorem wpList_makeMap_lit {P : Program} (w : World) {ops : Array Oper} {rest : List Oper} {o : Oper} {a : Act} {Q : Exit → Act → World → Prop}
    (hg : o.guard = none) (t : TypeId) (hop : o.op = Op.makeMap t none) (hK : wpList P ops Q rest (a.put o.dst (.map (some w.heap.size))) (w.alloc (.map #[] 0))) : wpList P ops Q (o :: rest) a w := by
  refine wpList_plain hg fun K' hK' => ?_
  unfold Oper.wp
  simp [execOp, hop, run_makeMap_plain, Result.andThen]
  exact hK' _ _ hK
def BoxL (w : World) (b : Nat) (l : List (Nat × Nat)) : Prop := ∀ p ∈ l, p.1 < w.heap.size ∧ p.1 ≠ b ∧ w.cell? ⟨p.1, 0, none⟩ = some (.func (.func p.2) #[] #[])
theorem cell_heap {w w' : World} {a : Addr} (h : w'.heap[a.block]? = w.heap[a.block]?) : w'.cell? a = w.cell? a := by simp [World.cell?, h]
theorem BoxL.map {w w' : World} {b clock : Nat} {es : Array MapEntry} {l : List (Nat × Nat)} (h : BoxL w b l) (hm : MapW w b es clock w') : BoxL w' b l := by
  intro p hp
  obtain ⟨h1, h2, h3⟩ := h p hp
  exact ⟨by rw [hm.sz]; exact h1, h2, (cell_heap (hm.oth p.1 h2)).trans h3⟩
theorem BoxL.box {w : World} {b f : Nat} {T : TypeId} {l : List (Nat × Nat)} (h : BoxL w b l) (hb : b < w.heap.size) : BoxL (w.alloc (.cells #[.func (.func f) #[] #[]] T)) b ((w.heap.size, f) :: l) := by
  intro p hp
  rcases List.mem_cons.1 hp with rfl | hp
  · exact ⟨by simp, by show w.heap.size ≠ b; omega, (box1 (heap_alloc_new w _)).1⟩
  · obtain ⟨h1, h2, h3⟩ := h p hp
    exact ⟨by rw [World.size_alloc]; omega, h2, (cell_heap (heap_alloc_old _ _ h1)).trans h3⟩
theorem below_mapW {s b clock : Nat} {w0 w w' : World} {es : Array MapEntry} (h : Below s w0 w) (hb : s ≤ b) (hm : MapW w b es clock w') : Below s w0 w' :=
  ⟨hm.os.trans h.os, hm.tape.trans h.tape, hm.output.trans h.output, by rw [hm.sz]; exact h.size, fun k hk => (hm.oth k (by omega)).trans (h.block k hk)⟩
theorem MapW.box {w w' : World} {b clock : Nat} {es : Array MapEntry} (h : MapW w b es clock w') (o : Obj) : (w'.alloc o).heap[b]? = some (.map es clock) := (heap_alloc_old _ _ (Array.getElem?_eq_some_iff.1 h.blk).1).trans h.blk
theorem reading_m (f : Nat) (w : World) : Calls Tryz.prog 145 #[.func (.func f) #[] #[]] w fun r w' => ∃ g, r = .returned (.func (.func 197) #[] #[.pointer (some ⟨g, 0, none⟩)]) ∧ w.heap.size = g ∧ w.alloc (.cells #[.func (.func f) #[] #[]] 185) = w' := by
  go_enter Tryz.func145, Tryz.ntmps145
  go_wp2
  go_returns
  exact ⟨_, rfl, rfl, rfl⟩
theorem box_step {w0 v v' : World} {b f g clock : Nat} {T : TypeId} {es : Array MapEntry} {l : List (Nat × Nat)} (hX : BoxL v b l) (hmb : v.heap[b]? = some (.map es clock)) (hB : Below w0.heap.size w0 v) (hg : v.heap.size = g) (hv : v.alloc (.cells #[.func (.func f) #[] #[]] T) = v') : BoxL v' b ((g, f) :: l) ∧ v'.heap[b]? = some (.map es clock) ∧ Below w0.heap.size w0 v' := by
  subst hv; subst hg
  have hlt := (Array.getElem?_eq_some_iff.1 hmb).1
  exact ⟨hX.box hlt, (heap_alloc_old _ _ hlt).trans hmb, hB.alloc hB.size _⟩
def opsE (g6 g7 g8 g9 g10 g11 g12 g13 : Nat) : List MapEntry := 
  let c := fun (g : Nat) => Value.func (.func 197) #[] #[.pointer (some ⟨g, 0, none⟩)]
  [⟨.int .u8 1, .func (.func 137) #[] #[], 0⟩, ⟨.int .u8 2, .func (.func 138) #[] #[], 1⟩, ⟨.int .u8 3, .func (.func 139) #[] #[], 2⟩, ⟨.int .u8 4, .func (.func 140) #[] #[], 3⟩,
   ⟨.int .u8 5, .func (.func 141) #[] #[], 4⟩, ⟨.int .u8 14, .func (.func 142) #[] #[], 5⟩, ⟨.int .u8 15, .func (.func 143) #[] #[], 6⟩, ⟨.int .u8 16, .func (.func 144) #[] #[], 7⟩,
   ⟨.int .u8 6, c g6, 8⟩, ⟨.int .u8 7, c g7, 9⟩, ⟨.int .u8 8, c g8, 10⟩, ⟨.int .u8 9, c g9, 11⟩, ⟨.int .u8 10, c g10, 12⟩, ⟨.int .u8 11, c g11, 13⟩, ⟨.int .u8 12, c g12, 14⟩, ⟨.int .u8 13, c g13, 15⟩]
theorem operations_any (w : World) : Calls Tryz.prog 101 #[] w fun r w' => ∃ g6 g7 g8 g9 g10 g11 g12 g13, r = .returned (.map (some w.heap.size)) ∧ w'.heap[w.heap.size]? = some (.map (opsE g6 g7 g8 g9 g10 g11 g12 g13).toArray 16) ∧ 
    BoxL w' w.heap.size [(g13, 153), (g12, 152), (g11, 151), (g10, 150), (g9, 149), (g8, 148), (g7, 147), (g6, 146)] ∧ Below w.heap.size w w' := by
  have hmb := heap_alloc_new w (.map #[] 0)
  have hB := (Below.refl w.heap.size w).alloc (Nat.le_refl _) (.map #[] 0)
  have hX : BoxL (w.alloc (.map #[] 0)) w.heap.size [] := fun p hp => by cases hp
  go_enter Tryz.func101, Tryz.ntmps101
  go_wp2_with (first | (refine wpList_makeMap_lit _ rfl _ rfl ?_) | (refine wpList_insert_lit _ rfl _ _ _ _ rfl _ _ Tryz.underlying144 _ Tryz.underlying5 w.heap.size _ _ _ hmb rfl rfl _ rfl (by rfl) ?_; intro v hm; replace hX := hX.map hm; replace hB := below_mapW hB (Nat.le_refl _) hm; replace hmb := hm.blk; clear hm) | (go_at_call 145; refine (reading_m _ _).mono ?_; rintro e v' ⟨g, rfl, hg, hv⟩; replace hX := box_step hX hmb hB hg hv; clear hB; have hB := hX.2.2; clear hmb; have hmb := hX.2.1; replace hX := hX.1; clear hg hv))
  go_returns
  exact ⟨_, _, _, _, _, _, _, _, rfl, hmb, hX, hB⟩
end Go.Proofs.YtdeiocppghhfdaaGreat
namespace Go.Proofs.YtdeiocppghhfdaaGreat
open Go.RowKit Go.Lib Go.Shelf
attribute [local go_sem, local simp] resF resL_len resL_ne rset0 rset1 rset2 rset3 rset4 rset5
theorem oper_lookup_lit {P : Program} (w : World) {o : Oper} {a : Act} {K : Act → World → Prop} {Q : Exit → Act → World → Prop}
  (m x : Operand) (t : TypeId) (hop : o.op = Op.lookup t m x true) (k e : TypeId) (ht : P.underlying t = some (.map k e)) (q : IntKind) (hk : P.underlying k = some (.int q))
  (b clock : Nat) (es : Array MapEntry) (i : Int) (hb : w.heap[b]? = some (.map es clock)) (hm : a.eval m = .map (some b)) (hx : a.eval x = .int q i) (j : Nat) (val : Value) (hf : Instr.findNow (.int q) (.int q i) es.toList 0 = some (some (j, val)))
  (hK : K (a.put o.dst (.tuple #[val, .bool true])) w) : o.wp P a w K Q := by
 have hc : (Instr.checkKey es.isEmpty 10000 k (.int q i)).run P w = .ok () w := MapKept.run_checkKey (k := .int q i) hk (by simp [MapKept.IsKey]) _ 9999
 have hrun : (Instr.lookup t (.map (some b)) (.int q i) true).run P w = .ok (.tuple #[val, .bool true]) w := by
  simp [Instr.lookup, run_underlying ht, MapKept.run_getObj_map hb, hc, MapKept.run_findKey hk hf, Result.andThen]
 unfold Oper.wp
 simp [execOp, hop, hm, hx, hrun, Result.andThen]
 exact hK
theorem own_blk {w : World} {B s n k : Nat} {e : TypeId} {v : Value} {xs : List Value} (h : w.ownsRow B e s v n xs) (hk : v.ownBlock = some k) : k < w.heap.size := by
 rcases h.2 with ⟨e1, _⟩ | ⟨g, cap, cur, e1, hB, hg, _⟩
 ·rw [e1] at hk; cases hk
 ·rw [e1] at hk; injection hk with hk; subst hk; exact (Array.getElem?_eq_some_iff.1 hg).1
theorem MdAt.fp_lt {W : World} {b k : Nat} {M : MM} (h : MdAt W b M) (hk : M.fp b k) : k < W.heap.size := by
 rcases hk with rfl | hk | ⟨S, hS, hk⟩
 ·exact (Array.getElem?_eq_some_iff.1 h.blk).1
 ·exact own_blk h.seats hk
 ·exact own_blk (h.slots S hS) hk
abbrev boxes (g6 g7 g8 g9 g10 g11 g12 g13 : Nat) : List (Nat × Nat) := [(g13, 153), (g12, 152), (g11, 151), (g10, 150), (g9, 149), (g8, 148), (g7, 147), (g6, 146)]
theorem do_core (b c : Nat) (M : MM) (q : OpV) (w : World) (h : MdAt w b M) (hi : OpIn q) (hcl : M.seats.length ≤ 8) (hst0 : statE M.st c q = 0) (F j : Nat) (fsel : Nat → Nat → Nat → Nat → Nat → Nat → Nat → Nat → Array Value)
  (hent : ∀ args W, (callFunc F args).run Tryz.prog W = .ok (.enter F args) W)
  (hfind : ∀ g6 g7 g8 g9 g10 g11 g12 g13, Instr.findNow (.int .u8) (.int .u8 q.kind) (opsE g6 g7 g8 g9 g10 g11 g12 g13).toArray.toList 0 = some (some (j, .func (.func F) #[] (fsel g6 g7 g8 g9 g10 g11 g12 g13))))
  (hcall : ∀ W bm g6 g7 g8 g9 g10 g11 g12 g13, MdAt W b M → BoxL W bm (boxes g6 g7 g8 g9 g10 g11 g12 g13) → Calls Tryz.prog F (#[.pointer (some ⟨b, 0, none⟩), .int .i64 (c : Int), .agg #[.int .u8 q.kind, .int .i64 q.slot, .int .i64 q.at_, .int .i64 q.n, .int .u32 q.id, .int .u8 q.grav, .string q.text]] ++ fsel g6 g7 g8 g9 g10 g11 g12 g13) W (Post b W (opS M.st c q) M)) :
  Calls Tryz.prog 50 #[.pointer (some ⟨b, 0, none⟩), .int .i64 (c : Int), .agg #[.int .u8 q.kind, .int .i64 q.slot, .int .i64 q.at_, .int .i64 q.n, .int .u32 q.id, .int .u8 q.grav, .string q.text]] w (Post b w (opS M.st c q) M) := by
 have hE := ed2_start w q
 have hM0 := h.below hE.bl
 have hrB : w.heap.size ≤ w.heap.size + 1 := by omega
 have hsta := static_any b M c q _ hM0 hi hcl
 rw [hst0] at hsta
 have hfp := fun k (hk : M.fp b k) => h.fp_lt hk
 clear hst0
 go_enter Tryz.func50, Tryz.ntmps50
 go_wp2_with (go_at_call 100; refine hsta.mono ?_; rintro e w1 ⟨rfl, hb1⟩; have hE1 := hE.on hb1; have hM1 := hM0.below hb1; clear hsta)
 have hx0 : w1.drew.cell? ⟨w.heap.size, 0, none⟩ = some (.int .u8 q.kind) := hE1.drew.o7.1
 refine wp_region_noPanic ?_
 refine wp_region_held_drew (S := fun W => W.cell? ⟨w.heap.size, 0, none⟩ = some (.int .u8 q.kind)) (by kernel_rfl) ?_ (fun hHeld => ?_)
 ·first | exact hx3 | exact hx0
 (refine np_t 1 ?_ ?_ ?_; rotate_left 1; (· (intro w hSw; (try dsimp only at hSw); go_simp; all_goals with_reducible rfl)); (try simp only [nSO]))
 (refine np_n ?_ ?_ ?_; rotate_left 1; (· (intro w hSw; (try dsimp only at hSw); go_simp; all_goals with_reducible rfl)); (try simp only [nSO]))
 (refine np_step (i := 0) rfl (by kernel_rfl) (fun K hK => ?_); rw [if_pos (by rfl)]; go_simp; ((go_at_call 101; refine (operations_any _).mono ?_; rintro e w2 ⟨g6, g7, g8, g9, g10, g11, g12, g13, rfl, hmap, hX, hb2⟩; have hE2 := hE1.drew.on hb2; have hx3 := hE2.o7.1; have hM2 := (hM1.below (Below.refl _ _).drew).below hb2)); (try go_wp2_with fail); refine hK.out _ _ ?_ (fun hHeld => ?_); (· (first | exact hx3 | exact hx0)); clear hK K; (try simp only [nSO]))
 (refine np_step (i := 3) rfl (by kernel_rfl) (fun K hK => ?_); rw [if_pos (by rfl)]; (refine oper_lookup_lit _ _ _ _ rfl _ _ Tryz.underlying144 _ Tryz.underlying5 _ _ _ _ hmap rfl rfl _ _ (hfind g6 g7 g8 g9 g10 g11 g12 g13) ?_); refine hK.out _ _ ?_ (fun hHeld => ?_); (· (first | exact hx3 | exact hx0)); clear hK K; (try simp only [nSO]))
 iterate 5 ((refine np_n ?_ ?_ ?_; rotate_left 1; (· (intro w hSw; (try dsimp only at hSw); go_simp; all_goals with_reducible rfl)); (try simp only [nSO])))
 refine wpAnyH_done (by kernel_rfl) ?_ _
 refine NoPanic.normal ?_
 obtain ⟨y0, y1, y2, y3, y4, y5, y6⟩ := hE2.o7
 have hcf := hcall _ _ _ _ _ _ _ _ _ _ hM2 hX
 have hs2 := hE2.bl.size
 have hr2 := hE2.res
 clear hHeld hx0 hx3 hmap
 go_wp2_with (go_at_fn F; refine hcf.mono ?_; rintro e w9 ⟨rfl, M', hM', hst', hK', hfp'⟩; have hz9 := (hK'.block _ (Array.getElem?_eq_some_iff.1 hr2).1 (fun hk => absurd (hfp _ hk) (by omega))).trans hr2; have hst := res_st hz9 rfl)
 exact ⟨rfl, _, results_cell_row rfl _ _ _ _ _ _ _ rfl (setRow_heap _ _ _ _ _ _ hz9) Tryz.underlying51 rfl (by kernel_rfl), rfl, M', hM'.row hz9 _, hst', ((KeepF.of_below hE2.bl).trans hK').row hrB _, fun k hk => (hfp' k hk).imp id (fun hk => by omega)⟩
end Go.Proofs.YtdeiocppghhfdaaGreat
namespace Go.Proofs.YtdeiocppghhfdaaGreat
open Go.RowKit Go.Lib Go.Shelf
theorem flat_get (z : List Value) (hz : 0 < z.length) : ∀ (n i : Nat), (List.replicate n z).flatten[i]? = if i < n * z.length then z[i % z.length]? else none
 | 0, i => by simp
 | n + 1, i => by
  rw [List.replicate_succ, List.flatten_cons, List.getElem?_append]
  have hm : (n + 1) * z.length = n * z.length + z.length := Nat.succ_mul ..
  by_cases hi : i < z.length
  ·rw [if_pos hi, if_pos (by omega), Nat.mod_eq_of_lt hi]
  ·rw [if_neg hi, flat_get z hz n (i - z.length)]
   have : i % z.length = (i - z.length) % z.length := Nat.mod_eq_sub_mod (by omega)
   rw [this]
   by_cases h2 : i < (n + 1) * z.length
   ·rw [if_pos h2, if_pos (by omega)]
   ·rw [if_neg h2, if_neg (by omega)]
theorem made_list (z : List Value) (hz : 0 < z.length) (n : Nat) : (madeCells z.toArray (n * z.length)).toList = (List.replicate n z).flatten := by
 refine List.ext_getElem? fun i => ?_
 rw [flat_get z hz]
 unfold madeCells
 rw [Array.toList_map, List.getElem?_map, Array.toList_range]
 by_cases hi : i < n * z.length
 ·rw [if_pos hi, List.getElem?_range hi]
  have hm : i % z.length < z.length := Nat.mod_lt _ hz
  rw [List.getElem?_eq_getElem hm]
  simp [hm]
 ·rw [if_neg hi, List.getElem?_eq_none (by rw [List.length_range]; omega)]
  rfl
def zSe : SeM := ⟨false, .slice none 0 0, []⟩
def zSn : SnM := ⟨zeroSn, .slice none 0 0⟩
theorem made_seats (n : Nat) : (madeCells #[.bool false, .slice none 0 0] (n * 2)).toList = sesL (List.replicate n zSe) := by
 have h := made_list (seL zSe) (by decide) n
 unfold sesL
 rw [List.flatMap_def, List.map_replicate]
 exact h
theorem made_slots (n : Nat) : (madeCells #[.bool false, .string ⟨#[]⟩, .slice none 0 0, .int .i64 0] (n * 4)).toList = slL (List.replicate n zSn) := by
 have h := made_list (snL zSn) (by decide) n
 unfold slL
 rw [List.flatMap_def, List.map_replicate]
 exact h
theorem rep_split (n k : Nat) (h : k < n) : List.replicate (n - k) zSe = zSe :: List.replicate (n - k - 1) zSe := by
 rw [← List.replicate_succ]; congr 1; omega
theorem ses_split (A : List SeM) (S : SeM) (R : List SeM) : sesL (A ++ S :: R) = sesL A ++ (seL S ++ sesL R) := by rw [sesL_app]; rfl
theorem ses_set1 (A : List SeM) (S : SeM) (R : List SeM) (v : Value) (l : List SnM) : (sesL (A ++ S :: R)).set (A.length * 2 + 1) v = sesL (A ++ ⟨S.sub, v, l⟩ :: R) := by
 have e : (sesL A).length = A.length * 2 := sesL_len A
 rw [ses_split, ses_split, List.set_append_right _ _ (by omega), e, Nat.add_sub_cancel_left]
 rfl
theorem ses_set0 (A : List SeM) (S : SeM) (R : List SeM) (u : Bool) : (sesL (A ++ S :: R)).set (A.length * 2) (.bool u) = sesL (A ++ ⟨u, S.v, S.sl⟩ :: R) := by
 have e : (sesL A).length = A.length * 2 := sesL_len A
 rw [ses_split, ses_split, List.set_append_right _ _ (by omega), e, Nat.sub_self]
 rfl
structure Bld (s : Nat) (W : World) (b gs n : Nat) (M : MM) (D : List SeM) : Prop where
 blk : W.heap[b]? = some (.cells (mdL M).toArray 136 (0, 0))
 sv : M.sv = .slice (some ⟨gs, 0, none⟩) n n
 marks : MOwn W 0 M.mv M.marks
 seats : W.heap[gs]? = some (.cells (sesL (D ++ List.replicate (n - D.length) zSe)).toArray 139 (0, 0))
 len : D.length ≤ n
 slots : ∀ S ∈ D, W.ownsRow s 168 4 S.v S.sl.length (slL S.sl)
 smarks : ∀ S ∈ D, ∀ x ∈ S.sl, MOwn W 0 x.mv x.s.marks
 some_ : ∀ S ∈ D, S.v.ownBlock ≠ none
 nodup : (D.map (·.v.ownBlock)).Nodup
theorem Bld.below {s : Nat} {W W' : World} {b gs n : Nat} {M : MM} {D : List SeM} (h : Bld s W b gs n M D) (hb : Below W.heap.size W W') : Bld s W' b gs n M D :=
 ⟨(hb.block b (Array.getElem?_eq_some_iff.1 h.blk).1).trans h.blk, h.sv, own_below6 h.marks hb, (hb.block gs (Array.getElem?_eq_some_iff.1 h.seats).1).trans h.seats, h.len, fun S hS => own_below6 (h.slots S hS) hb, fun S hS x hx => own_below6 (h.smarks S hS x hx) hb, h.some_, h.nodup⟩
theorem Bld.mdAt {s : Nat} {W : World} {b gs n : Nat} {M : MM} {D : List SeM} (h : Bld s W b gs n M D) (hn : D.length = n) (hm : n ≤ maxLen) : MdAt W b { M with seats := D } := by
 have hse := h.seats
 rw [hn, Nat.sub_self, List.replicate_zero, List.append_nil] at hse
 refine ⟨h.blk, h.marks, ⟨sesL_len D, .inr ⟨gs, n, _, by show M.sv = _; rw [h.sv, hn], Nat.zero_le _, hse, (by show D.length ≤ n; omega), hm, by show (sesL D).length = _; rw [sesL_len, hn], ?_⟩⟩, fun S hS => own_mono (Nat.zero_le _) (h.slots S hS), h.smarks, ⟨by show M.sv.ownBlock ≠ none; rw [h.sv]; simp [Value.ownBlock], h.some_⟩, h.nodup⟩
 show (sesL D).take _ = _
 rw [List.take_of_length_le (by rw [sesL_len]; exact Nat.le_refl _)]
theorem Bld.cell {s : Nat} {W : World} {b gs n : Nat} {M : MM} {D : List SeM} (h : Bld s W b gs n M D) {j : Nat} {S : SeM} (hS : (D ++ List.replicate (n - D.length) zSe)[j]? = some S) : W.cell? ⟨gs, j * 2, none⟩ = some (.bool S.sub) ∧ W.cell? ⟨gs, j * 2 + 1, none⟩ = some S.v ∧ ∀ i, W.frozen? ⟨gs, i, none⟩ = false := by
 obtain ⟨a1, a2⟩ := sesL_at _ j S hS
 refine ⟨?_, ?_, fun i => by simp [World.frozen?, h.seats]⟩
 ·simp only [World.cell?, h.seats]; simpa using a1
 ·simp only [World.cell?, h.seats]; simpa using a2
theorem Bld.push {s : Nat} {W W' : World} {b gs n : Nat} {M : MM} {D : List SeM} (h : Bld s W b gs n M D) (S : SeM) (hk : D.length < n)
  (hgs : W'.heap[gs]? = some (.cells (sesL (D ++ S :: List.replicate (n - D.length - 1) zSe)).toArray 139 (0, 0)))
  (hkeep : ∀ k, k < W.heap.size → k ≠ gs → W'.heap[k]? = W.heap[k]?) (hsz : s ≤ W.heap.size)
  (hslot : W'.ownsRow W.heap.size 168 4 S.v S.sl.length (slL S.sl)) (hsome : S.v.ownBlock ≠ none) (hsm : ∀ x ∈ S.sl, MOwn W' 0 x.mv x.s.marks) : Bld s W' b gs n M (D ++ [S]) := by
 have hbg : b ≠ gs := fun e => by subst e; have := h.blk; rw [h.seats] at this; injection this with this; injection this with _ h2 _; exact absurd h2 (by decide)
 refine ⟨(hkeep b (Array.getElem?_eq_some_iff.1 h.blk).1 hbg).trans h.blk, h.sv, own_keep h.marks h.seats (by decide) hkeep, ?_, by rw [List.length_append]; show _ + 1 ≤ n; omega, ?_, ?_, ?_, ?_⟩
 ·rw [List.length_append, List.append_assoc]
  show W'.heap[gs]? = some (.cells (sesL (D ++ S :: List.replicate (n - (D.length + 1)) zSe)).toArray _ _)
  rw [Nat.sub_add_eq]
  exact hgs
 ·intro S' hS'
  rcases List.mem_append.1 hS' with h1 | h1
  ·exact own_keep (h.slots S' h1) h.seats (by decide) hkeep
  ·rw [List.mem_singleton.1 h1]; exact own_mono hsz hslot
 ·intro S' hS' x hx
  rcases List.mem_append.1 hS' with h1 | h1
  ·exact own_keep (h.smarks S' h1 x hx) h.seats (by decide) hkeep
  ·rw [List.mem_singleton.1 h1] at hx; exact hsm x hx
 ·intro S' hS'
  rcases List.mem_append.1 hS' with h1 | h1
  ·exact h.some_ S' h1
  ·rw [List.mem_singleton.1 h1]; exact hsome
 ·rw [List.map_append, List.nodup_append]
  refine ⟨h.nodup, by simp, fun a ha c hc e => ?_⟩
  obtain ⟨S', hS', rfl⟩ := List.mem_map.1 ha
  have hc2 : c = S.v.ownBlock := by simpa using hc
  rw [hc2] at e
  cases ho : S.v.ownBlock with
  | none => exact hsome ho
  | some g =>
   rw [ho] at e
   have h1 := own_blk (h.slots S' hS') e
   have h2 := (World.ownsRow.lt hslot g ho).1
   omega
end Go.Proofs.YtdeiocppghhfdaaGreat
namespace Go.Proofs.YtdeiocppghhfdaaGreat
open Go.RowKit Go.Lib Go.Shelf
theorem infoSe : (Tryz.prog.info? 139).map (fun i => (i.zero, i.size, i.bytes)) = some (some (.agg #[.bool false, .slice none 0 0]), 2, 32) := by kernel_rfl
theorem infoSn : (Tryz.prog.info? 168).map (fun i => (i.zero, i.size, i.bytes)) = some (some (.agg #[.bool false, .string ⟨#[]⟩, .slice none 0 0, .int .i64 0]), 4, 56) := by kernel_rfl
@[irreducible] def mkSes (w : World) (n : Nat) : World := w.alloc (.cells (sesL (List.replicate n zSe)).toArray 139)
@[irreducible] def mkSls (w : World) (n : Nat) : World := w.alloc (.cells (slL (List.replicate n zSn)).toArray 168)
theorem mkSes_eq (w : World) (n : Nat) : mkSes w n = w.alloc (.cells (sesL (List.replicate n zSe)).toArray 139) := by unfold mkSes; rfl
theorem mkSls_eq (w : World) (n : Nat) : mkSls w n = w.alloc (.cells (slL (List.replicate n zSn)).toArray 168) := by unfold mkSls; rfl
theorem run_seats (w : World) (n : Nat) (hn : n ≤ 1000) : (Instr.makeSlice 134 (.int .i64 n) (.int .i64 n)).run Tryz.prog w = .ok (.slice (some ⟨w.heap.size, 0, none⟩) n n) (mkSes w n) := by
 obtain ⟨i0, hi0, hz0, hz1, hz2⟩ := info_parts infoSe
 have := run_make (P := Tryz.prog) w 134 139 i0 _ Tryz.underlying134 hi0 hz0 .i64 .i64 n n (by omega) (Int.le_refl _) (by rw [hz2]; omega) (by omega)
 have e : madeCells (Value.cells (.agg #[.bool false, .slice none 0 0])) ((n : Int).toNat * i0.size) = (sesL (List.replicate n zSe)).toArray := by rw [hz1, Int.toNat_natCast]; exact Array.toList_inj.1 (made_seats n)
 rw [this, e, mkSes_eq, Int.toNat_natCast]
theorem run_slots (w : World) (n : Nat) (hn : n ≤ 1000) : (Instr.makeSlice 137 (.int .i64 n) (.int .i64 n)).run Tryz.prog w = .ok (.slice (some ⟨w.heap.size, 0, none⟩) n n) (mkSls w n) := by
 obtain ⟨i0, hi0, hz0, hz1, hz2⟩ := info_parts infoSn
 have := run_make (P := Tryz.prog) w 137 168 i0 _ Tryz.underlying137 hi0 hz0 .i64 .i64 n n (by omega) (Int.le_refl _) (by rw [hz2]; omega) (by omega)
 have e : madeCells (Value.cells (.agg #[.bool false, .string ⟨#[]⟩, .slice none 0 0, .int .i64 0])) ((n : Int).toNat * i0.size) = (slL (List.replicate n zSn)).toArray := by rw [hz1, Int.toNat_natCast]; exact Array.toList_inj.1 (made_slots n)
 rw [this, e, mkSls_eq, Int.toNat_natCast]
theorem make_seats (w : World) (n : Nat) (hn : n ≤ 1000) : ∃ V, (Instr.makeSlice 134 (.int .i64 n) (.int .i64 n)).run Tryz.prog w = .ok (.slice (some ⟨w.heap.size, 0, none⟩) n n) V ∧ V.heap.size = w.heap.size + 1 ∧ V.heap[w.heap.size]? = some (.cells (sesL (List.replicate n zSe)).toArray 139 (0, 0)) ∧ Below w.heap.size w V :=
 ⟨_, run_seats w n hn, by rw [mkSes_eq, World.size_alloc], by rw [mkSes_eq]; exact heap_alloc_new _ _, by rw [mkSes_eq]; exact (Below.refl _ w).alloc (Nat.le_refl _) _⟩
theorem make_slots (w : World) (n : Nat) (hn : n ≤ 1000) : ∃ V, (Instr.makeSlice 137 (.int .i64 n) (.int .i64 n)).run Tryz.prog w = .ok (.slice (some ⟨w.heap.size, 0, none⟩) n n) V ∧ V.heap.size = w.heap.size + 1 ∧ V.heap[w.heap.size]? = some (.cells (slL (List.replicate n zSn)).toArray 168 (0, 0)) ∧ Below w.heap.size w V :=
 ⟨_, run_slots w n hn, by rw [mkSls_eq, World.size_alloc], by rw [mkSls_eq]; exact heap_alloc_new _ _, by rw [mkSls_eq]; exact (Below.refl _ w).alloc (Nat.le_refl _) _⟩
theorem slots_own {W : World} {g n : Nat} (h : W.heap[g]? = some (.cells (slL (List.replicate n zSn)).toArray 168 (0, 0))) (hn : n ≤ 1000) : W.ownsRow g 168 4 (.slice (some ⟨g, 0, none⟩) n n) (List.replicate n zSn).length (slL (List.replicate n zSn)) := by
 have e : (List.replicate n zSn).length = n := List.length_replicate ..
 refine ⟨slL_len _, .inr ⟨g, n, _, by rw [e], Nat.le_refl _, h, by omega, by unfold maxLen; omega, by show (slL _).length = _; rw [slL_len, e], ?_⟩⟩
 show (slL _).take _ = _
 rw [List.take_of_length_le (by rw [slL_len]; exact Nat.le_refl _)]
end Go.Proofs.YtdeiocppghhfdaaGreat
