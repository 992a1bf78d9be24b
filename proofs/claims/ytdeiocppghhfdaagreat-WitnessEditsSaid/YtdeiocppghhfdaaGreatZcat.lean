/- Texts, one behind another. -/
import Derived.Test.YtdeiocppghhfdaaGreatZcaa
import Derived.Test.YtdeiocppghhfdaaGreatZcas
set_option linter.unusedVariables false
set_option linter.unusedSimpArgs false
set_option maxRecDepth 100000
set_option maxHeartbeats 8000000
namespace Go.Proofs.YtdeiocppghhfdaaGreat
open Go.RowKit Go.Lib Go.Shelf
theorem sset0 (x : SnM) (a : Bool) : (snL x).set 0 (.bool a) = snL ⟨⟨a, x.s.text, x.s.marks, x.s.cursor⟩, x.mv⟩ := rfl
theorem sset1 (x : SnM) (a : ByteArray) : (snL x).set 1 (.string a) = snL ⟨⟨x.s.held, a, x.s.marks, x.s.cursor⟩, x.mv⟩ := rfl
theorem sset2 (x : SnM) (v : Value) : (snL x).set 2 v = snL ⟨x.s, v⟩ := rfl
attribute [local go_sem, local simp] sset0 sset1 sset2 resF resL_len resL_ne rset0 rset1 rset2 rset3 rset4 rset5 snF snL_len snL_ne
theorem snew_pkg (W : World) (y : SnM) (hy : y.mv.oneCell' = true) : ∃ W6, (storeCells ⟨W.heap.size, 0, none⟩ (snL y)).run Tryz.prog (W.alloc (.cells (snL ⟨⟨false, ⟨#[]⟩, [], 0⟩, .slice none 0 0⟩).toArray 168)) = .ok () W6 ∧ W6.cell? ⟨W.heap.size, 0, none⟩ = some (.bool y.s.held) ∧ Below W.heap.size W W6 := by
 have hz := heap_alloc_new W (.cells (snL ⟨⟨false, ⟨#[]⟩, [], 0⟩, .slice none 0 0⟩).toArray 168)
 refine ⟨_, run_st hz rfl (snL y) rfl (by
  rw [Array.all_eq_true']
  intro v hv
  simp only [snL, List.mem_toArray, List.mem_cons, List.not_mem_nil, or_false] at hv
  rcases hv with rfl | rfl | rfl | rfl
  ·rfl
  ·rfl
  ·exact hy
  ·rfl), ?_, below_row ((Below.refl _ W).alloc (Nat.le_refl _) _) (Nat.le_refl _) _⟩
 have : ((W.alloc (.cells (snL ⟨⟨false, ⟨#[]⟩, [], 0⟩, .slice none 0 0⟩).toArray 168)).setRow W.heap.size (snL y).toArray).heap[W.heap.size]? = some (.cells (snL y).toArray 168 (0, 0)) := setRow_heap _ _ _ _ _ _ hz
 simp only [World.cell?, this]
 rfl
theorem KeepF.cell {F : Nat → Prop} {W W' : World} {a : Addr} {v : Value} (hk : KeepF F W W') (ha : ¬ F a.block) (h : W.cell? a = some v) : W'.cell? a = some v := by
 have hl : a.block < W.heap.size := by
  by_cases hl : a.block < W.heap.size
  ·exact hl
  ·have : W.heap[a.block]? = none := Array.getElem?_eq_none (by omega)
   simp [World.cell?, this] at h
 have e : W'.cell? a = W.cell? a := by simp [World.cell?, hk.block _ hl ha]
 rw [e]; exact h
theorem g_ne {W : World} {b c gs cs g cp : Nat} {M : MM} {S : SeM} {cur : Array Value} (h : MdAt W b M) (hA : SeatAt W M c S gs cs g cp cur) : b ≠ g ∧ gs ≠ g := by
 have h1 := h.seats
 rw [hA.sv] at h1
 obtain ⟨curS, hgs⟩ : ∃ curS, W.heap[gs]? = some (.cells curS 139 (0, 0)) := by
  rcases h1.2 with ⟨e1, _⟩ | ⟨g', _, cu, e1, _, hg, _⟩
  ·injection e1 with e1; cases e1
  ·injection e1 with e1; injection e1 with e1; injection e1 with e1; subst e1; exact ⟨cu, hg⟩
 refine ⟨fun e => ?_, fun e => ?_⟩
 ·subst e; have := h.blk; rw [hA.blk] at this; injection this with this; injection this with _ h2 _; exact absurd h2 (by decide)
 ·subst e; have := hA.blk; rw [hgs] at this; injection this with this; injection this with _ h2 _; exact absurd h2 (by decide)
theorem putSn_marks (W : World) (g o : Nat) (a : Bool) (t : ByteArray) (l l' : List MkV) (p : Int) (v : Value) : putSn W g o ⟨⟨a, t, l, p⟩, v⟩ = putSn W g o ⟨⟨a, t, l', p⟩, v⟩ := by rw [putSn_eq, putSn_eq]; rfl
theorem acquire_any (b c : Nat) (M : MM) (o : OpV) (w : World) (h : MdAt w b M) (S : SeM) (hS : M.seats[c]? = some S) (hl : S.sl.length ≤ 8) (hcl : M.seats.length ≤ 8) (hmk : M.marks.length ≤ 64) :
  Calls Tryz.prog 141 #[.pointer (some ⟨b, 0, none⟩), .int .i64 (c : Int), .agg #[.int .u8 o.kind, .int .i64 o.slot, .int .i64 o.at_, .int .i64 o.n, .int .u32 o.id, .int .u8 o.grav, .string o.text]] w (Post b w (acqS M.st c) M) := by
 obtain ⟨hc, _⟩ := List.getElem?_eq_some_iff.1 hS
 have ho := fun W hW => open_any b M W hW
 have hE := ed2_start w o
 have hM0 := h.below hE.bl
 have hrB : w.heap.size ≤ w.heap.size + 1 := by omega
 obtain ⟨gs, cs, g, cp, cur, hA⟩ := hM0.seatAt hS
 have c5 := hM0.c5 hA.sv
 have a1 := hA.c1
 have hcp := hA.cap
 have e0 : M.st.seat c = S.st := MM.seat_st hS
 cases hs : M.closed with
 | true =>
  have hR : acqS M.st c = (failR 13, M.st) := by unfold acqS; rw [if_pos (by exact hs)]
  simp only [hs, if_true] at ho
  rw [hR]
  go_enter Tryz.func141, Tryz.ntmps141
  go_wp2_with (first | (go_at_call 189; refine (ho _ hM0).mono ?_; rintro e w1 ⟨rfl, rfl⟩) | (go_at_call 99; refine (fail_any _ _).mono ?_; rintro e v7 ⟨rfl, hb7⟩; have hE7 := hE.on hb7; have hst := res_st hE7.res rfl))
  exact ⟨rfl, _, results_cell_row rfl _ _ _ _ _ _ _ rfl (setRow_heap _ _ _ _ _ _ hE7.res) Tryz.underlying51 rfl (by kernel_rfl), rfl, M, (hM0.below hb7).row hE7.res _, rfl, (KeepF.of_below hE7.bl).row hrB _, fun k hk => .inl hk⟩
 | false =>
  simp only [hs, Bool.false_eq_true, if_false] at ho
  go_enter Tryz.func141, Tryz.ntmps141
  go_wp2_with (go_at_call 189; refine (ho _ hM0).mono ?_; rintro e w1 ⟨rfl, rfl⟩)
  generalize hW0 : (w.alloc (.cells #[.int .u8 o.kind, .int .i64 o.slot, .int .i64 o.at_, .int .i64 o.n, .int .u32 o.id, .int .u8 o.grav, .string o.text] 54)).alloc (.cells (resL {}).toArray 51) = W0 at *
  go_loopw [8, 9, 25, 26, 27, 28, 29, 30, 31, 32, 33, 34, 35, 36, 37, 38, 39, 40, 41, 42, 43, 44, 45, 46, 47, 48, 49, 50, 51, 52, 53, 54, 55, 56, 57, 58, 59] (fun x8 x9 i x26 x27 x28 x29 x30 x31 x32 x33 x34 x35 x36 x37 x38 x39 x40 x41 x42 x43 x44 x45 x46 x47 x48 x49 x50 x51 x52 x53 x54 x55 x56 x57 x58 x59 wr => ∃ k : Nat, i = .int .i64 k ∧ k ≤ S.sl.length ∧ (∀ j, j < k → ∀ x, S.sl[j]? = some x → x.s.held = true) ∧ Below W0.heap.size W0 wr) (fun x8 x9 i x26 x27 x28 x29 x30 x31 x32 x33 x34 x35 x36 x37 x38 x39 x40 x41 x42 x43 x44 x45 x46 x47 x48 x49 x50 x51 x52 x53 x54 x55 x56 x57 x58 x59 wr => S.sl.length - (intOf i).toNat)
  case atStart => exact ⟨0, rfl, by omega, fun j hj => absurd hj (by omega), Below.refl _ _⟩
  case round =>
   obtain ⟨k, rfl, hk, hf, hB⟩ := hrel
   have HF := Lib.hid hf; clear hf
   by_cases hlt : k < S.sl.length
   ·have hx := List.getElem?_eq_getElem hlt
    generalize S.sl[k] = x at hx
    have hA1 := hA.below hB
    have hSn := hA1.sn k x hx
    obtain ⟨⟨s0, s1, s2, s3⟩, _⟩ := hSn.cells
    obtain ⟨av, cv, hxv⟩ := own_slice hSn.marks
    rw [hxv] at s2
    cases hh : x.s.held with
    | true =>
     obtain ⟨W6, hs6, hc6, hb6⟩ := snew_pkg wr ⟨⟨true, x.s.text, [], x.s.cursor⟩, .slice av x.s.marks.length cv⟩ rfl
     have hB6 := hB.trans (hb6.mono hB.size)
     go_wp2
     go_roundw
     case rel => exact ⟨k + 1, by go_num, by omega, fun j hj y hy => (by
      by_cases hjk : j = k
      ·subst hjk; rw [hx] at hy; injection hy with hy; subst hy; exact hh
      ·exact HF.out j (by omega) y hy), hB6⟩
     case measure => simp [intOf]; omega
    | false =>
     obtain ⟨W6, hs6, hc6, hb6⟩ := snew_pkg wr ⟨⟨false, x.s.text, [], x.s.cursor⟩, .slice av x.s.marks.length cv⟩ rfl
     have hB6 := hB.trans (hb6.mono hB.size)
     have hR : acqS M.st c = ({ slot := k, rev := M.number }, M.st.putSlot c k ⟨true, M.text, M.marks, 0⟩) := by
      unfold acqS
      rw [if_neg (by show ¬ (M.closed = true); simp [hs]), e0]
      have hn : S.st.slots.findIdx? (fun s => !s.held) = some k := by
       rw [List.findIdx?_eq_some_iff_getElem]
       have h2 : S.st.slots.length = S.sl.length := List.length_map ..
       have h3 : ∀ j (hj : j < S.st.slots.length), S.st.slots[j] = (S.sl[j]'(by omega)).s := fun j hj => List.getElem_map ..
       refine ⟨by omega, ?_, fun j hj => ?_⟩
       ·rw [h3]
        have := (List.getElem?_eq_some_iff.1 hx).2
        rw [this, hh]; rfl
       ·rw [h3 j (by omega)]
        have := HF.out j hj _ (List.getElem?_eq_getElem (by omega))
        simp [this]
      rw [hn]
      rfl
     rw [hR]
     have hM6 := hM0.below hB6
     have hA6 := hA.below hB6
     have hE6 := hE.on hB6
     obtain ⟨hbg, hgsg⟩ := g_ne hM6 hA6
     obtain ⟨am, cm, hmv⟩ := own_slice hM6.marks
     have hm6 := hM6.marks
     rw [hmv] at hm6
     obtain ⟨hrow, hcpm⟩ := mrow_own rfl hm6
     have kx : ∀ W, KeepF (fun k => k = g) W6 W → W.cell? ⟨b, 5, none⟩ = some (.slice (some ⟨gs, 0, none⟩) M.seats.length cs) ∧ W.cell? ⟨gs, c * 2 + 1, none⟩ = some (.slice (some ⟨g, 0, none⟩) S.sl.length cp) ∧ W.cell? ⟨b, 0, none⟩ = some (.string M.text) ∧ W.cell? ⟨b, 1, none⟩ = some (.slice am M.marks.length cm) := fun W hW =>
      ⟨hW.cell hbg (hM6.c5 hA.sv), hW.cell hgsg hA6.c1, hW.cell hbg hM6.c0, hW.cell hbg (hM6.c1 hmv)⟩
     have Kx := Lib.hid kx
     clear kx
     have hx0 : KeepF (fun k => k = g) W6 W6.drew := (KeepF.refl _ _).drew
     clear hbg hgsg
     go_wp2
     refine wp_region_noPanic ?_
     refine wp_region_held_drew (S := fun W => W.cell? ⟨b, 5, none⟩ = some (.slice (some ⟨gs, 0, none⟩) M.seats.length cs) ∧ W.cell? ⟨gs, c * 2 + 1, none⟩ = some (.slice (some ⟨g, 0, none⟩) S.sl.length cp) ∧ W.cell? ⟨b, 0, none⟩ = some (.string M.text) ∧ W.cell? ⟨b, 1, none⟩ = some (.slice am M.marks.length cm)) (by kernel_rfl) ?_ (fun hHeld => ?_)
     ·first | exact Kx.out _ hx3 | exact Kx.out _ hx7 | exact Kx.out _ hx0
     iterate 17 (((first | refine np_n ?_ ?_ ?_ | refine np_t 0 ?_ ?_ ?_); rotate_left 1; (· (intro w hSw; (try dsimp only at hSw); go_simp; all_goals with_reducible rfl)); (try simp only [nSO])))
     (refine np_step (i := 17) rfl (by kernel_rfl) (fun K hK => ?_); rw [if_pos (by rfl)]; go_simp; ((go_at_call 132; refine (clone_any am cm M.marks _ (hrow.on (Below.refl _ _).drew) (by omega)).mono ?_; rintro e w7 ⟨v, rfl, hov, hb7⟩; obtain ⟨an, cn, rfl⟩ := own_slice hov; have hb7' : Below W6.heap.size W6 w7 := (Below.refl _ _).drew.trans hb7; have hx7 : KeepF (fun k => k = g) W6 w7 := KeepF.of_below hb7'; have hsn := ((hA6.below hb7').sn k x hx).stP ⟨⟨true, M.text, [], 0⟩, .slice an M.marks.length cn⟩ rfl)); (try go_wp2_with fail); refine hK.out _ _ ?_ (fun hHeld => ?_); (· (first | exact Kx.out _ hx3 | exact Kx.out _ hx7 | exact Kx.out _ hx0)); clear hK K; (try simp only [nSO]))
     iterate 2 ((refine np_n ?_ ?_ ?_; rotate_left 1; (· (intro w hSw; (try dsimp only at hSw); go_simp; all_goals with_reducible rfl)); (try simp only [nSO])))
     (refine np_step (i := 20) rfl (by kernel_rfl) (fun K hK => ?_); rw [if_pos (by rfl)]; go_simp; ((have hx3 := hx7.trans (KeepF.putSn w7 g (k * 4) ⟨⟨true, M.text, [], 0⟩, .slice an M.marks.length cn⟩))); (try go_wp2_with fail); refine hK.out _ _ ?_ (fun hHeld => ?_); (· (first | exact Kx.out _ hx3 | exact Kx.out _ hx7 | exact Kx.out _ hx0)); clear hK K; (try simp only [nSO]))
     refine wpAnyH_done (by kernel_rfl) ?_ _
     refine NoPanic.normal ?_
     have hM7 := hM6.below hb7'
     have hA7 := hA6.below hb7'
     have hE7 := hE6.on hb7'
     have hN8 := (hA7.sn k x hx).put (y := ⟨⟨true, M.text, M.marks, 0⟩, .slice an M.marks.length cn⟩) (own_mono (Nat.zero_le _) hov)
     rw [putSn_marks w7 g (k * 4) true M.text M.marks [] 0 (.slice an M.marks.length cn)] at hN8
     have hK8 := KeepF.putSn w7 g (k * 4) ⟨⟨true, M.text, [], 0⟩, .slice an M.marks.length cn⟩
     have hM8 := hM7.putSlot hS hA7 hx hN8 hK8
     have hz8 := (putSn_ne w7 g (k * 4) ⟨⟨true, M.text, [], 0⟩, .slice an M.marks.length cn⟩ _ (blk_ne hA7.blk hE7.res).symm).trans hE7.res
     have hst := res_st hz8 rfl
     have d2 : (putSn w7 g (k * 4) ⟨⟨true, M.text, [], 0⟩, .slice an M.marks.length cn⟩).cell? ⟨b, 2, none⟩ = some (.int .i64 M.number) := hM8.c2
     have hfp : M.fp b g := .inr (.inr ⟨S, List.mem_of_getElem? hS, by rw [hA7.v]; rfl⟩)
     clear hHeld hsn Kx
     go_wp2
     exact ⟨rfl, _, results_cell_row rfl _ _ _ _ _ _ _ rfl (setRow_heap _ _ _ _ _ _ hz8) Tryz.underlying51 rfl (by kernel_rfl), (by first | rfl | rw [hR]), _, hM8.row hz8 _, (by first | exact MM.putSlot_st hS | (rw [hR]; exact MM.putSlot_st hS)), ((KeepF.of_below hE7.bl).trans (hK8.fp (F := M.fp b) hfp)).row hrB _, fun k hk => .inl (fp_slot hS k hk)⟩
   ·have hR : acqS M.st c = (failR 15, M.st) := by
     unfold acqS
     rw [if_neg (by show ¬ (M.closed = true); simp [hs]), e0]
     have hn : S.st.slots.findIdx? (fun s => !s.held) = none := by
      rw [List.findIdx?_eq_none_iff]
      intro s hsm
      obtain ⟨x, hxm, rfl⟩ := List.mem_map.1 hsm
      obtain ⟨j, hj, hxe⟩ := List.getElem_of_mem hxm
      have := HF.out j (by omega) x (by rw [List.getElem?_eq_getElem hj, hxe])
      simp [this]
     rw [hn]
    rw [hR]
    have hE1 := hE.on hB
    go_wp2_with (go_at_call 99; refine (fail_any _ _).mono ?_; rintro e v7 ⟨rfl, hb7⟩; have hE7 := hE1.on hb7; have hst := res_st hE7.res rfl)
    exact ⟨rfl, _, results_cell_row rfl _ _ _ _ _ _ _ rfl (setRow_heap _ _ _ _ _ _ hE7.res) Tryz.underlying51 rfl (by kernel_rfl), (by first | rfl | rw [hR]), M, ((hM0.below hB).below hb7).row hE7.res _, (by first | rfl | rw [hR]), (KeepF.of_below hE7.bl).row hrB _, fun k hk => .inl hk⟩
end Go.Proofs.YtdeiocppghhfdaaGreat
namespace Go.Proofs.YtdeiocppghhfdaaGreat
open Go.RowKit Go.Lib Go.Shelf
theorem slL_set2 (L : List SnM) (j : Nat) (y : SnM) (mv : Value) (h : L[j]? = some y) : (slL L).set (j * 4 + 2) mv = slL (L.set j ⟨y.s, mv⟩) := by
 obtain ⟨hj, hy⟩ := List.getElem?_eq_some_iff.1 h
 have e : slL L = slL (L.take j) ++ (snL y ++ slL (L.drop (j + 1))) := by
  conv => lhs; rw [← List.take_append_drop j L, slL_app, List.drop_eq_getElem_cons hj, hy]
  rfl
 have e2 : (slL (L.take j)).length = j * 4 := by rw [slL_len, List.length_take, Nat.min_eq_left (by omega)]
 rw [e, List.set_append_right _ _ (by omega), e2, Nat.add_sub_cancel_left]
 show slL (L.take j) ++ (snL ⟨y.s, mv⟩ ++ slL (L.drop (j + 1))) = _
 rw [List.set_eq_take_append_cons_drop, if_pos hj, slL_app]
 rfl
theorem Bld.setMv {s : Nat} {W : World} {b gs n g cp : Nat} {M : MM} {D : List SeM} {u : Bool} {v mv : Value} {L : List SnM} (h : Bld s W b gs n M (D ++ [⟨u, v, L⟩])) (hv : v = .slice (some ⟨g, 0, none⟩) L.length cp) {j : Nat} {y : SnM} (hy : L[j]? = some y) (hm : MOwn W 0 mv y.s.marks) :
  Bld s (W.setCell ⟨g, j * 4 + 2, none⟩ mv) b gs n M (D ++ [⟨u, v, L.set j ⟨y.s, mv⟩⟩]) ∧ KeepF (fun k => k = g) W (W.setCell ⟨g, j * 4 + 2, none⟩ mv) ∧ s ≤ g := by
 have hk : KeepF (fun k => k = g) W (W.setCell ⟨g, j * 4 + 2, none⟩ mv) := KeepF.set (F := fun k => k = g) (a := ⟨g, j * 4 + 2, none⟩) rfl _
 have hlast := h.slots ⟨u, v, L⟩ (by simp)
 rw [hv] at hlast
 obtain ⟨hj, _⟩ := List.getElem?_eq_some_iff.1 hy
 have hsg := (World.ownsRow.lt hlast g rfl).1
 obtain ⟨cur, hg⟩ : ∃ cur, W.heap[g]? = some (.cells cur 168 (0, 0)) := by
  rcases hlast.2 with ⟨e1, _⟩ | ⟨g', _, cu, e1, _, hg, _⟩
  ·injection e1 with e1; cases e1
  ·injection e1 with e1; injection e1 with e1; injection e1 with e1; subst e1; exact ⟨cu, hg⟩
 have hkb : ∀ k, k < W.heap.size → k ≠ g → (W.setCell ⟨g, j * 4 + 2, none⟩ mv).heap[k]? = W.heap[k]? := fun k _ hn => setCell_ne _ _ _ _ hn
 have hbg : b ≠ g := fun e => by subst e; have := h.blk; rw [hg] at this; injection this with this; injection this with _ h2 _; exact absurd h2 (by decide)
 have hgg : gs ≠ g := fun e => by subst e; have := h.seats; rw [hg] at this; injection this with this; injection this with _ h2 _; exact absurd h2 (by decide)
 have hlen : (D ++ [(⟨u, v, L.set j ⟨y.s, mv⟩⟩ : SeM)]).length = (D ++ [(⟨u, v, L⟩ : SeM)]).length := by simp
 have hmap : (D ++ [(⟨u, v, L.set j ⟨y.s, mv⟩⟩ : SeM)]).map (·.v.ownBlock) = (D ++ [(⟨u, v, L⟩ : SeM)]).map (·.v.ownBlock) := by simp
 refine ⟨⟨(setCell_ne _ _ _ _ hbg).trans h.blk, h.sv, own_keep h.marks hg (by decide) hkb, ?_, by rw [hlen]; exact h.len, ?_, ?_, ?_, by rw [hmap]; exact h.nodup⟩, hk, hsg⟩
 ·rw [hlen]
  have e : sesL (D ++ [(⟨u, v, L.set j ⟨y.s, mv⟩⟩ : SeM)] ++ List.replicate (n - (D ++ [(⟨u, v, L⟩ : SeM)]).length) zSe) = sesL (D ++ [(⟨u, v, L⟩ : SeM)] ++ List.replicate (n - (D ++ [(⟨u, v, L⟩ : SeM)]).length) zSe) := by
   rw [sesL_app, sesL_app, sesL_app, sesL_app]; rfl
  rw [e]
  exact (setCell_ne _ _ _ _ hgg).trans h.seats
 ·intro S hS
  rcases List.mem_append.1 hS with h1 | h1
  ·refine own_other (h.slots S (List.mem_append_left _ h1)) hk (fun e => ?_)
   have hnd := h.nodup
   rw [List.map_append, List.nodup_append] at hnd
   exact hnd.2.2 S.v.ownBlock (List.mem_map.2 ⟨S, h1, rfl⟩) v.ownBlock (by simp) (by rw [e, hv]; rfl)
  ·rw [List.mem_singleton.1 h1]
   show (W.setCell ⟨g, j * 4 + 2, none⟩ mv).ownsRow s _ 4 v (L.set j ⟨y.s, mv⟩).length (slL (L.set j ⟨y.s, mv⟩))
   rw [List.length_set, ← slL_set2 L j y mv hy, hv]
   exact (own_set1 hlast (j * 4 + 2) (by omega) mv).1
 ·intro S hS x hx
  rcases List.mem_append.1 hS with h1 | h1
  ·exact own_keep (h.smarks S (List.mem_append_left _ h1) x hx) hg (by decide) hkb
  ·rw [List.mem_singleton.1 h1] at hx
   rcases mem_set_or hx with rfl | ⟨d, _, hx⟩
   ·exact own_keep hm hg (by decide) hkb
   ·exact own_keep (h.smarks ⟨u, v, L⟩ (by simp) x (List.mem_of_getElem? hx)) hg (by decide) hkb
 ·intro S hS
  rcases List.mem_append.1 hS with h1 | h1
  ·exact h.some_ S (List.mem_append_left _ h1)
  ·rw [List.mem_singleton.1 h1]; exact h.some_ ⟨u, v, L⟩ (by simp)
theorem slL_ones (L : List SnM) (h : ∀ x ∈ L, x.mv.oneCell' = true) : ∀ v ∈ slL L, v.oneCell' = true := by
 intro v hv2
 obtain ⟨x, hx, hv3⟩ := List.mem_flatMap.1 hv2
 simp only [snL, List.mem_cons, List.not_mem_nil, or_false] at hv3
 rcases hv3 with rfl | rfl | rfl | rfl
 ·rfl
 ·rfl
 ·exact h x hx
 ·rfl
theorem clones_any (g cp : Nat) (L : List SnM) (w : World) (hs : L.length ≤ 1000) (hc : L.length ≤ cp) (hcells : ∀ j u, (slL L)[j]? = some u → w.cell? ⟨g, j, none⟩ = some u) (h1 : ∀ x ∈ L, x.mv.oneCell' = true) :
  Calls Tryz.prog 154 #[.slice (some ⟨g, 0, none⟩) L.length cp] w fun e w' => ∃ v, e = .returned v ∧ w'.ownsRow w.heap.size 168 4 v L.length (slL L) ∧ v.ownBlock ≠ none ∧ Below w.heap.size w w' := by
 obtain ⟨i0, hi0, hz0, hz1, hz2⟩ := info_parts infoSn
 refine (AnyE.slices_Clone (P := Tryz.prog) Tryz.cloneS i0 _ 4 56 hi0 hz0 hz1 hz2 rfl (by decide) (fun w => Tryz.sizeOf168 w) g 0 L.length cp (slL L) w (slL_len L) (by unfold maxLen; omega) (by omega) (fun j u hj => by rw [Nat.zero_add]; exact hcells j u hj) (slL_ones L h1)).mono ?_
 rintro e w' ⟨v, rfl, ho, hne, hB⟩
 refine ⟨v, rfl, ho, ?_, hB⟩
 rcases ho.2 with ⟨e1, _⟩ | ⟨g', _, _, e1, _⟩
 ·exact absurd e1 hne
 ·rw [e1]; simp [Value.ownBlock]
end Go.Proofs.YtdeiocppghhfdaaGreat
