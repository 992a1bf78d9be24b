/- Texts, one behind another. -/
import Derived.Test.YtdeiocppghhfdaaGreatZcaa
import Derived.Test.YtdeiocppghhfdaaGreatZcaq
set_option linter.unusedVariables false
set_option linter.unusedSimpArgs false
set_option maxRecDepth 100000
set_option maxHeartbeats 8000000
namespace Go.Proofs.YtdeiocppghhfdaaGreat
open Go.RowKit Go.Lib Go.Shelf
attribute [local go_sem, local simp] resF resL_len resL_ne rset0 rset1 rset2 rset3 rset4 rset5
def opL (o : OpV) : List Value := [.int .u8 o.kind, .int .i64 o.slot, .int .i64 o.at_, .int .i64 o.n, .int .u32 o.id, .int .u8 o.grav, .string o.text]
def Post (b : Nat) (w : World) (R : ResV × MS) (M : MM) (e : Ending) (w' : World) : Prop := e = .returned (.agg (resL R.1).toArray) ∧ ∃ M', MdAt w' b M' ∧ M'.st = R.2 ∧ KeepF (M.fp b) w w' ∧ (∀ k, M'.fp b k → M.fp b k ∨ w.heap.size ≤ k)
structure EdB (w : World) (b : Nat) (o : OpV) (r : Nat) (W : World) : Prop where
 c0 : W.cell? ⟨w.heap.size, 0, none⟩ = some (.pointer (some ⟨b, 0, none⟩))
 op : W.heap[w.heap.size + 1]? = some (.cells (opL o).toArray 54 (0, 0))
 res : W.heap[r]? = some (.cells (resL {}).toArray 51 (0, 0))
 bl : Below w.heap.size w W
theorem EdB.on {w W W' : World} {b r : Nat} {o : OpV} (h : EdB w b o r W) (hb : Below W.heap.size W W') : EdB w b o r W' := by
 have h1 := (Array.getElem?_eq_some_iff.1 h.op).1
 exact ⟨(hb.cell (p := ⟨w.heap.size, 0, none⟩) (show w.heap.size < W.heap.size by omega)).trans h.c0, (hb.block _ h1).trans h.op, (hb.block _ (Array.getElem?_eq_some_iff.1 h.res).1).trans h.res, h.bl.trans (hb.mono h.bl.size)⟩
theorem EdB.o2 {w W : World} {b r : Nat} {o : OpV} (h : EdB w b o r W) : W.cell? ⟨w.heap.size + 1, 2, none⟩ = some (.int .i64 o.at_) ∧ W.cell? ⟨w.heap.size + 1, 3, none⟩ = some (.int .i64 o.n) ∧ W.cell? ⟨w.heap.size + 1, 6, none⟩ = some (.string o.text) ∧ W.cell? ⟨w.heap.size + 1, 4, none⟩ = some (.int .u32 o.id) ∧ W.cell? ⟨w.heap.size + 1, 5, none⟩ = some (.int .u8 o.grav) := by
 refine ⟨?_, ?_, ?_, ?_, ?_⟩ <;> simp [World.cell?, h.op, opL]
theorem openChk (b : Nat) (M : MM) (w : World) (h : MdAt w b M) : ChkOK w ⟨189, #[.pointer (some ⟨b, 0, none⟩)], #[], if M.closed then 13 else 0⟩ :=
 ⟨enters_of Tryz.func189 (by kernel_rfl) rfl, fun W hW => (open_any b M W (h.below hW)).mono (by rintro e w' ⟨rfl, rfl⟩; exact ⟨rfl, Below.refl _ _⟩)⟩
theorem bndChk (b ba bm : Nat) (M : MM) (a : Int) (w : World) (h : MdAt w b M) (hba : ba < w.heap.size) (hbm : bm < w.heap.size) (h1 : w.cell? ⟨ba, 0, none⟩ = some (.int .i64 a)) (h2 : w.cell? ⟨bm, 0, none⟩ = some (.pointer (some ⟨b, 0, none⟩))) : ChkOK w ⟨237, #[], #[.pointer (some ⟨ba, 0, none⟩), .pointer (some ⟨bm, 0, none⟩)], bndE M.text a⟩ :=
 ⟨enters_of Tryz.func237 (by kernel_rfl) rfl, fun W hW => boundary1_any b ba bm M a W (h.below hW) ((hW.cell (p := ⟨ba, 0, none⟩) hba).trans h1) ((hW.cell (p := ⟨bm, 0, none⟩) hbm).trans h2)⟩
theorem insChk (b bo bm : Nat) (M : MM) (o : OpV) (w : World) (h : MdAt w b M) (hbo : bo < w.heap.size) (hbm : bm < w.heap.size) (h1 : w.cell? ⟨bo, 6, none⟩ = some (.string o.text)) (h2 : w.cell? ⟨bm, 0, none⟩ = some (.pointer (some ⟨b, 0, none⟩))) (hs : M.text.size ≤ 100000) (ho : o.text.size ≤ 100000) : ChkOK w ⟨191, #[], #[.pointer (some ⟨bm, 0, none⟩), .pointer (some ⟨bo, 0, none⟩)], if 65536 < (M.text.size : Int) + o.text.size then 5 else 0⟩ :=
 ⟨enters_of Tryz.func191 (by kernel_rfl) rfl, fun W hW => insert1_any b bo bm M o W (h.below hW) ((hW.cell (p := ⟨bo, 6, none⟩) hbo).trans h1) ((hW.cell (p := ⟨bm, 0, none⟩) hbm).trans h2) hs ho⟩
theorem edB_start (w : World) (b : Nat) (o : OpV) : EdB w b o (w.heap.size + 1 + 1) (((w.alloc (.cells #[.pointer (some ⟨b, 0, none⟩)] 81)).alloc (.cells #[.int .u8 o.kind, .int .i64 o.slot, .int .i64 o.at_, .int .i64 o.n, .int .u32 o.id, .int .u8 o.grav, .string o.text] 54)).alloc (.cells (resL {}).toArray 51)) := by
 have h1 := heap_alloc_new (w.alloc (.cells #[.pointer (some ⟨b, 0, none⟩)] 81)) (.cells #[.int .u8 o.kind, .int .i64 o.slot, .int .i64 o.at_, .int .i64 o.n, .int .u32 o.id, .int .u8 o.grav, .string o.text] 54)
 have h2 := heap_alloc_new ((w.alloc (.cells #[.pointer (some ⟨b, 0, none⟩)] 81)).alloc (.cells #[.int .u8 o.kind, .int .i64 o.slot, .int .i64 o.at_, .int .i64 o.n, .int .u32 o.id, .int .u8 o.grav, .string o.text] 54)) (.cells (resL {}).toArray 51)
 simp only [World.size_alloc] at h1 h2
 exact ⟨Lib.cell?_alloc_some _ (Lib.cell?_alloc_some _ (box1 (heap_alloc_new w _)).1), (heap_alloc_old _ _ (by simp)).trans h1, h2, (((Below.refl _ w).alloc (Nat.le_refl _) _).alloc (by simp) _).alloc (by simp; omega) _⟩
theorem KeepF.mono {F G : Nat → Prop} {w w' : World} (h : KeepF F w w') (hg : ∀ k, F k → G k) : KeepF G w w' := ⟨h.os, h.tape, h.output, h.size, fun k hk hn => h.block k hk (fun hf => hn (hg k hf))⟩
theorem ChkOK.on {w W : World} {k : Chk} (h : ChkOK w k) (hb : Below w.heap.size w W) : ChkOK W k := ⟨h.1, fun X hX => h.2 X (hb.trans (hX.mono hb.size))⟩
theorem firstN (W : World) (g : Nat) (hg : W.heap.size = g) (L : List Chk) (hk : ∀ k ∈ L, ChkOK W k) (hl : L.length ≤ 10) (n : Nat) (hn : n = L.length) :
  Calls Tryz.prog 188 #[.slice (some ⟨g, 0, none⟩) n n] (W.alloc (.cells (L.map fun k => Value.func (.func k.f) k.bs k.fs).toArray 221)) fun r w' => r = .returned (.int .i64 (firstE (L.map (·.e)))) ∧ Below W.heap.size W w' := by
 subst hg; subst hn
 have hb := (Below.refl W.heap.size W).alloc (Nat.le_refl _) (.cells (L.map fun k => Value.func (.func k.f) k.bs k.fs).toArray 221)
 refine (first_any W.heap.size L.length L _ (by simp) (fun i k hi => ?_) (fun k hk' => (hk k hk').on hb) hl).mono ?_
 ·have h2 := heap_alloc_new W (.cells (L.map fun k => Value.func (.func k.f) k.bs k.fs).toArray 221)
  have h3 := blk_cells h2 i (.func (.func k.f) k.bs k.fs) (by rw [List.getElem?_map, hi]; rfl)
  rwa [Addr.add_lit, Nat.zero_add] at h3
 ·rintro e w' ⟨rfl, hB⟩
  exact ⟨rfl, hb.trans (hB.mono (by simp))⟩
theorem bnd_blk (W : World) (b : Nat) (a : Int) (n : Nat) (hn : W.heap.size = n) : Below W.heap.size W ((W.alloc (.cells #[.pointer (some ⟨b, 0, none⟩)] 81)).alloc (.cells #[.int .i64 a] 3)) ∧ ((W.alloc (.cells #[.pointer (some ⟨b, 0, none⟩)] 81)).alloc (.cells #[.int .i64 a] 3)).cell? ⟨n, 0, none⟩ = some (.pointer (some ⟨b, 0, none⟩)) ∧ ((W.alloc (.cells #[.pointer (some ⟨b, 0, none⟩)] 81)).alloc (.cells #[.int .i64 a] 3)).cell? ⟨n + 1, 0, none⟩ = some (.int .i64 a) := by
 subst hn
 refine ⟨((Below.refl _ W).alloc (Nat.le_refl _) _).alloc (by simp) _, Lib.cell?_alloc_some _ (box1 (heap_alloc_new W _)).1, ?_⟩
 have h2 := heap_alloc_new (W.alloc (.cells #[.pointer (some ⟨b, 0, none⟩)] 81)) (.cells #[.int .i64 a] 3)
 rw [World.size_alloc] at h2
 exact (box1 h2).1
theorem minsert_any (b : Nat) (M : MM) (c : Int) (o : OpV) (w : World) (h : MdAt w b M) (hok : MSok M.st 100000) (hot : o.text.size ≤ 256) (hot2 : o.text.size ≠ 0) (hat : 0 ≤ o.at_) :
  Calls Tryz.prog 137 #[.pointer (some ⟨b, 0, none⟩), .int .i64 c, .agg #[.int .u8 o.kind, .int .i64 o.slot, .int .i64 o.at_, .int .i64 o.n, .int .u32 o.id, .int .u8 o.grav, .string o.text]] w (Post b w (insS M.st o) M) := by
 have hsz := hok.size
 have hE := edB_start w b o
 have hM0 := h.below hE.bl
 have fc := fun g c (L : List Chk) W h1 h2 h3 h4 => first_any g c L W h1 h2 h3 h4
 have hok := Lib.hid hok
 go_enter Tryz.func137, Tryz.ntmps137
 go_wp2_with fail
 generalize hW0 : ((w.alloc (.cells #[.pointer (some ⟨b, 0, none⟩)] 81)).alloc (.cells #[.int .u8 o.kind, .int .i64 o.slot, .int .i64 o.at_, .int .i64 o.n, .int .u32 o.id, .int .u8 o.grav, .string o.text] 54)).alloc (.cells (resL {}).toArray 51) = W0 at *
 have hs0 : W0.heap.size = w.heap.size + 3 := by rw [← hW0]; simp
 clear hW0
 have kx : ∀ W, Below W0.heap.size W0 W → (W.cell? ⟨w.heap.size, 0, none⟩ = some (.pointer (some ⟨b, 0, none⟩)) ∧ W.cell? ⟨w.heap.size + 1, 2, none⟩ = some (.int .i64 o.at_)) ∧ Below W0.heap.size W0 W := fun W hW => ⟨⟨(hE.on hW).c0, (hE.on hW).o2.1⟩, hW⟩
 have Kx := Lib.hid kx
 clear kx
 have hx0 := (Below.refl W0.heap.size W0).drew
 obtain ⟨hb1, hp1, hp2⟩ := bnd_blk W0.drew b o.at_ (w.heap.size + 3) hs0
 have hxb : Below W0.heap.size W0 ((W0.drew.alloc (.cells #[.pointer (some ⟨b, 0, none⟩)] 81)).alloc (.cells #[.int .i64 o.at_] 3)) := hx0.trans hb1
 have hEb := hE.on hxb
 have hsb : ((W0.drew.alloc (.cells #[.pointer (some ⟨b, 0, none⟩)] 81)).alloc (.cells #[.int .i64 o.at_] 3)).heap.size = w.heap.size + 3 + 1 + 1 := by simp [hs0]
 have hfst := firstN _ _ hsb [⟨189, #[.pointer (some ⟨b, 0, none⟩)], #[], if M.closed then 13 else 0⟩, ⟨237, #[], #[.pointer (some ⟨w.heap.size + 3 + 1, 0, none⟩), .pointer (some ⟨w.heap.size + 3, 0, none⟩)], bndE M.text o.at_⟩, ⟨191, #[], #[.pointer (some ⟨w.heap.size, 0, none⟩), .pointer (some ⟨w.heap.size + 1, 0, none⟩)], if 65536 < (M.text.size : Int) + o.text.size then 5 else 0⟩] (by
  intro k hk
  simp only [List.mem_cons, List.not_mem_nil, or_false] at hk
  rcases hk with rfl | rfl | rfl
  ·exact openChk b M _ (hM0.below hxb)
  ·exact bndChk b _ _ M _ _ (hM0.below hxb) (by rw [hsb]; omega) (by rw [hsb]; omega) hp2 hp1
  ·exact insChk b _ _ M o _ (hM0.below hxb) (by rw [hsb]; omega) (by rw [hsb]; omega) hEb.o2.2.2.1 hEb.c0 (Nat.le_trans hsz (by decide)) (by omega)) (by simp) 3 rfl
 have hEQ : firstE ([⟨189, #[.pointer (some ⟨b, 0, none⟩)], #[], if M.closed then 13 else 0⟩, ⟨237, #[], #[.pointer (some ⟨w.heap.size + 3 + 1, 0, none⟩), .pointer (some ⟨w.heap.size + 3, 0, none⟩)], bndE M.text o.at_⟩, ⟨191, #[], #[.pointer (some ⟨w.heap.size, 0, none⟩), .pointer (some ⟨w.heap.size + 1, 0, none⟩)], if 65536 < (M.text.size : Int) + o.text.size then 5 else 0⟩].map (fun k : Chk => k.e)) = insE M.st o := by
  simp only [List.map_cons, List.map_nil, firstE, insE, MM.st]
  by_cases h1 : M.closed = true <;> by_cases h2 : bndE M.text o.at_ = 0 <;> by_cases h3 : 65536 < (M.text.size : Int) + o.text.size <;> simp [h1, h2, h3]
 rw [hEQ] at hfst
 clear hEQ
 have hx2 := hxb.alloc (by rw [hsb, hs0]; omega) (.cells #[.func (.func 189) #[.pointer (some ⟨b, 0, none⟩)] #[], .func (.func 237) #[] #[.pointer (some ⟨w.heap.size + 3 + 1, 0, none⟩), .pointer (some ⟨w.heap.size + 3, 0, none⟩)], .func (.func 191) #[] #[.pointer (some ⟨w.heap.size, 0, none⟩), .pointer (some ⟨w.heap.size + 1, 0, none⟩)]] 221)
 refine wp_region_noPanic ?_
 refine wp_region_held_drew (S := fun W => (W.cell? ⟨w.heap.size, 0, none⟩ = some (.pointer (some ⟨b, 0, none⟩)) ∧ W.cell? ⟨w.heap.size + 1, 2, none⟩ = some (.int .i64 o.at_)) ∧ Below W0.heap.size W0 W) (by kernel_rfl) ?_ (fun hHeld => ?_)
 ·first | exact Kx.out _ hx3 | exact Kx.out _ hx1 | exact Kx.out _ hx0
 iterate 5 (((first | refine np_n ?_ ?_ ?_ | refine np_t 0 ?_ ?_ ?_); rotate_left 1; (· (intro w hSw; (try dsimp only at hSw); go_simp; all_goals with_reducible rfl)); (try simp only [nSO])))
 (refine np_t 6 ?_ ?_ ?_; rotate_left 1; (· (intro w hSw; (try dsimp only at hSw); go_simp; all_goals with_reducible rfl)); (try simp only [nSO]))
 (refine np_step (i := 5) rfl (by kernel_rfl) (fun K hK => ?_); rw [if_pos (by rfl)]; go_simp; ((go_at_call 190; refine (boundary_m b o.at_ _).mono ?_; rintro e v9 ⟨rfl, rfl⟩; have hx1 := hxb)); (try go_wp2_with fail); refine hK.out _ _ ?_ (fun hHeld => ?_); (· (first | exact Kx.out _ hx3 | exact Kx.out _ hx1 | exact Kx.out _ hx0)); clear hK K; (try simp only [nSO]))
 (refine np_step (i := 7) rfl (by kernel_rfl) (fun K hK => ?_); rw [if_pos (by rfl)]; go_simp; ((have hx1 := hx2)); (try go_wp2_with fail); refine hK.out _ _ ?_ (fun hHeld => ?_); (· (first | exact Kx.out _ hx3 | exact Kx.out _ hx1 | exact Kx.out _ hx0)); clear hK K; (try simp only [nSO]))
 (refine np_step (i := 8) rfl (by kernel_rfl) (fun K hK => ?_); rw [if_pos (by rfl)]; go_simp; ((go_at_call 188; refine hfst.mono ?_; rintro e v8 ⟨rfl, hb8⟩; have hx3 := hxb.trans (hb8.mono (by rw [hsb, hs0]; omega)))); (try go_wp2_with fail); refine hK.out _ _ ?_ (fun hHeld => ?_); (· (first | exact Kx.out _ hx3 | exact Kx.out _ hx1 | exact Kx.out _ hx0)); clear hK K; (try simp only [nSO]))
 (refine np_n ?_ ?_ ?_; rotate_left 1; (· (intro w hSw; (try dsimp only at hSw); go_simp; all_goals with_reducible rfl)); (try simp only [nSO]))
 refine wpAnyH_done (by kernel_rfl) ?_ _
 refine NoPanic.normal ?_
 have hxv := hHeld.2
 have hEv := hE.on hxv
 obtain ⟨e2, e3, e6, _, _⟩ := hEv.o2
 have e0 := hEv.c0
 have hMv := hM0.below hxv
 clear hHeld hfst hx2 hEb hxb hsb hp1 hp2 hb1 Kx hx0
 have hrB : w.heap.size ≤ w.heap.size + 1 + 1 := by omega
 by_cases hI : insE M.st o = 0
 ·have hS : insS M.st o = repS M.st o.at_ 0 o.text := by unfold insS; rw [if_neg (by simpa using hI)]
  have hcond : M.text.size + o.text.size ≤ 65536 ∧ bndE M.text o.at_ = 0 := by
   have h9 := hI
   unfold insE at h9
   by_cases h1 : M.closed = true <;> by_cases h2 : bndE M.text o.at_ = 0 <;> by_cases h3 : 65536 < (M.text.size : Int) + o.text.size <;> simp [MM.st, h1, h2, h3] at h9
   exact ⟨by omega, h2⟩
  have hle : o.at_ ≤ (M.text.size : Int) := by
   have h9 := hcond.2
   unfold bndE at h9
   split at h9
   ·cases h9
   ·omega
  have hRep : RepOK M.text.size o.at_ 0 o.text := ⟨hat, by omega, by omega, by omega, by omega, .inl ⟨rfl, hot2⟩⟩
  rw [hI]
  rw [hS]
  go_wp2_with (go_at_call 192; refine (mreplace_any b M o.at_ 0 o.text _ hMv hRep hok.out.marks hok.out.num0 hok.out.num1).mono ?_; rintro e v7 ⟨rfl, ⟨mv, hM7⟩, hK7⟩; have hz7 := (hK7.block _ (Array.getElem?_eq_some_iff.1 hEv.res).1 (by have := (Array.getElem?_eq_some_iff.1 h.blk).1; omega)).trans hEv.res; have hst := res_st hz7 rfl)
  refine ⟨rfl, _, results_cell_row rfl _ _ _ _ _ _ _ rfl (setRow_heap _ _ _ _ _ _ hz7) Tryz.underlying51 rfl (by kernel_rfl), (by first | (rw [hS]; done) | (rw [hS]; rfl)), _, hM7.row hz7 _, (by rw [hS]; rfl), ?_, ?_⟩
  ·exact (((KeepF.of_below (hE.bl.trans (hxv.mono hE.bl.size))).trans (hK7.mono (fun k hk => .inl hk))).row hrB _)
  ·intro k hk; exact .inl hk
 ·have hS : insS M.st o = (failR (insE M.st o), M.st) := by unfold insS; rw [if_pos hI]
  have hd : (insE M.st o == 0) = false := by simpa using hI
  rw [hS]
  generalize insE M.st o = e at *
  go_wp2_with (go_at_call 99; refine (fail_any _ _).mono ?_; rintro e v7 ⟨rfl, hb7⟩; have hE7 := hEv.on hb7; have hst := res_st hE7.res rfl)
  refine ⟨rfl, _, results_cell_row rfl _ _ _ _ _ _ _ rfl (setRow_heap _ _ _ _ _ _ hE7.res) Tryz.underlying51 rfl (by kernel_rfl), (by first | (rw [hS]; done) | (rw [hS]; rfl)), M, (hMv.below hb7).row hE7.res _, (by rw [hS]), (KeepF.of_below hE7.bl).row hrB _, fun k hk => .inl hk⟩
end Go.Proofs.YtdeiocppghhfdaaGreat
namespace Go.Proofs.YtdeiocppghhfdaaGreat
open Go.RowKit Go.Lib Go.Shelf
attribute [local go_sem, local simp] resF resL_len resL_ne rset0 rset1 rset2 rset3 rset4 rset5
structure Ed2 (w : World) (o : OpV) (r : Nat) (W : World) : Prop where
 op : W.heap[w.heap.size]? = some (.cells (opL o).toArray 54 (0, 0))
 res : W.heap[r]? = some (.cells (resL {}).toArray 51 (0, 0))
 bl : Below w.heap.size w W
theorem Ed2.on {w W W' : World} {r : Nat} {o : OpV} (h : Ed2 w o r W) (hb : Below W.heap.size W W') : Ed2 w o r W' :=
 ⟨(hb.block _ (Array.getElem?_eq_some_iff.1 h.op).1).trans h.op, (hb.block _ (Array.getElem?_eq_some_iff.1 h.res).1).trans h.res, h.bl.trans (hb.mono h.bl.size)⟩
theorem Ed2.drew {w W : World} {r : Nat} {o : OpV} (h : Ed2 w o r W) : Ed2 w o r W.drew := ⟨h.op, h.res, h.bl.drew⟩
theorem Ed2.alc {w W : World} {r : Nat} {o : OpV} (h : Ed2 w o r W) (x : Obj) : Ed2 w o r (W.alloc x) :=
 ⟨(heap_alloc_old _ _ (Array.getElem?_eq_some_iff.1 h.op).1).trans h.op, (heap_alloc_old _ _ (Array.getElem?_eq_some_iff.1 h.res).1).trans h.res, h.bl.alloc h.bl.size _⟩
theorem Ed2.set {w W : World} {r : Nat} {o : OpV} (h : Ed2 w o r W) (k i : Nat) (v : Value) (hk : w.heap.size ≤ k) (h1 : k ≠ w.heap.size) (h2 : k ≠ r) : Ed2 w o r (W.setCell ⟨k, i, none⟩ v) :=
 ⟨(setCell_ne _ _ _ _ (Ne.symm h1)).trans h.op, (setCell_ne _ _ _ _ (Ne.symm h2)).trans h.res, ⟨h.bl.os, h.bl.tape, h.bl.output, by rw [setCell_size]; exact h.bl.size, fun j hj => (setCell_ne _ _ _ _ (by show j ≠ k; omega)).trans (h.bl.block j hj)⟩⟩
theorem Ed2.o2 {w W : World} {r : Nat} {o : OpV} (h : Ed2 w o r W) : W.cell? ⟨w.heap.size, 2, none⟩ = some (.int .i64 o.at_) ∧ W.cell? ⟨w.heap.size, 3, none⟩ = some (.int .i64 o.n) ∧ W.cell? ⟨w.heap.size, 6, none⟩ = some (.string o.text) ∧ W.cell? ⟨w.heap.size, 4, none⟩ = some (.int .u32 o.id) ∧ W.cell? ⟨w.heap.size, 5, none⟩ = some (.int .u8 o.grav) := by
 refine ⟨?_, ?_, ?_, ?_, ?_⟩ <;> simp [World.cell?, h.op, opL]
theorem ed2_start (w : World) (o : OpV) : Ed2 w o (w.heap.size + 1) ((w.alloc (.cells #[.int .u8 o.kind, .int .i64 o.slot, .int .i64 o.at_, .int .i64 o.n, .int .u32 o.id, .int .u8 o.grav, .string o.text] 54)).alloc (.cells (resL {}).toArray 51)) := by
 have h1 := heap_alloc_new w (.cells #[.int .u8 o.kind, .int .i64 o.slot, .int .i64 o.at_, .int .i64 o.n, .int .u32 o.id, .int .u8 o.grav, .string o.text] 54)
 have h2 := heap_alloc_new (w.alloc (.cells #[.int .u8 o.kind, .int .i64 o.slot, .int .i64 o.at_, .int .i64 o.n, .int .u32 o.id, .int .u8 o.grav, .string o.text] 54)) (.cells (resL {}).toArray 51)
 simp only [World.size_alloc] at h1 h2
 exact ⟨(heap_alloc_old _ _ (by simp)).trans h1, h2, ((Below.refl _ w).alloc (Nat.le_refl _) _).alloc (by simp) _⟩
theorem MdAt.setMarks {W : World} {b : Nat} {M : MM} (h : MdAt W b M) {v : Value} {l : List MkV} (hl : MOwn W 0 v l) : MdAt (W.setCell ⟨b, 1, none⟩ v) b { M with mv := v, marks := l } :=
 h.upd (by have := blk_set h.blk 1 v; exact this) (fun k _ hk => setCell_ne _ _ _ _ hk) (own_keep hl h.blk (by decide) (fun k _ hk => setCell_ne _ _ _ _ hk)) rfl rfl
theorem MdAt.c1 {W : World} {b : Nat} {M : MM} (h : MdAt W b M) {v : Value} (hv : M.mv = v) : W.cell? ⟨b, 1, none⟩ = some v := by simp [World.cell?, h.blk, mdL, hv]
theorem MdAt.f {W : World} {b : Nat} {M : MM} (h : MdAt W b M) (i : Nat) : W.frozen? ⟨b, i, none⟩ = false := by simp [World.frozen?, h.blk]
theorem set_first (b : Nat) (M : MM) (a : Int) (W : World) (g : Nat) (hg : W.heap.size = g) (h : MdAt W b M) :
  Calls Tryz.prog 188 #[.slice (some ⟨g + 1 + 1, 0, none⟩) 2 2] (((W.alloc (.cells #[.pointer (some ⟨b, 0, none⟩)] 81)).alloc (.cells #[.int .i64 a] 3)).alloc (.cells #[.func (.func 189) #[.pointer (some ⟨b, 0, none⟩)] #[], .func (.func 237) #[] #[.pointer (some ⟨g + 1, 0, none⟩), .pointer (some ⟨g, 0, none⟩)]] 221)) fun r w' => r = .returned (.int .i64 (if M.closed then 13 else bndE M.text a)) ∧ Below W.heap.size W w' := by
 obtain ⟨hb1, hp1, hp2⟩ := bnd_blk W b a g hg
 have hs : ((W.alloc (.cells #[.pointer (some ⟨b, 0, none⟩)] 81)).alloc (.cells #[.int .i64 a] 3)).heap.size = g + 1 + 1 := by simp [hg]
 refine (firstN _ _ hs [⟨189, #[.pointer (some ⟨b, 0, none⟩)], #[], if M.closed then 13 else 0⟩, ⟨237, #[], #[.pointer (some ⟨g + 1, 0, none⟩), .pointer (some ⟨g, 0, none⟩)], bndE M.text a⟩] (by
  intro k hk
  simp only [List.mem_cons, List.not_mem_nil, or_false] at hk
  rcases hk with rfl | rfl
  ·exact openChk b M _ (h.below hb1)
  ·exact bndChk b _ _ M _ _ (h.below hb1) (by rw [hs]; omega) (by rw [hs]; omega) hp2 hp1) (by simp) 2 rfl).mono ?_
 rintro e w' ⟨rfl, hB⟩
 refine ⟨?_, hb1.trans (hB.mono (by rw [hs]; omega))⟩
 simp only [List.map_cons, List.map_nil, firstE]
 by_cases h1 : M.closed = true <;> by_cases h2 : bndE M.text a = 0 <;> simp [h1, h2]
def remE1 (M : MM) (o : OpV) : Int := if M.closed then 13 else if (M.text.size : Int) < o.at_ ∨ (M.text.size : Int) - o.at_ < o.n then 3 else 0
def remE2 (M : MM) (o : OpV) : Int := if bndE M.text o.at_ ≠ 0 then bndE M.text o.at_ else bndE M.text (o.at_ + o.n)
theorem rem_E (M : MM) (o : OpV) : delE M.st o = if remE1 M o = 0 then remE2 M o else remE1 M o := by
 unfold delE remE1 remE2
 simp only [MM.st]
 by_cases h1 : M.closed = true <;> by_cases h2 : (M.text.size : Int) < o.at_ ∨ (M.text.size : Int) - o.at_ < o.n <;> by_cases h3 : bndE M.text o.at_ = 0 <;> simp [h1, h2, h3]
theorem remChk (b bo bm : Nat) (M : MM) (o : OpV) (w : World) (h : MdAt w b M) (hbo : bo < w.heap.size) (hbm : bm < w.heap.size) (h1 : w.cell? ⟨bo, 2, none⟩ = some (.int .i64 o.at_)) (h3 : w.cell? ⟨bo, 3, none⟩ = some (.int .i64 o.n)) (h2 : w.cell? ⟨bm, 0, none⟩ = some (.pointer (some ⟨b, 0, none⟩))) (hs : M.text.size ≤ 100000) (ho : 0 ≤ o.at_) : ChkOK w ⟨193, #[], #[.pointer (some ⟨bo, 0, none⟩), .pointer (some ⟨bm, 0, none⟩)], if (M.text.size : Int) < o.at_ ∨ (M.text.size : Int) - o.at_ < o.n then 3 else 0⟩ :=
 ⟨enters_of Tryz.func193 (by kernel_rfl) rfl, fun W hW => remove1_any b bo bm M o W (h.below hW) ((hW.cell (p := ⟨bo, 2, none⟩) hbo).trans h1) ((hW.cell (p := ⟨bo, 3, none⟩) hbo).trans h3) ((hW.cell (p := ⟨bm, 0, none⟩) hbm).trans h2) hs ho⟩
theorem rem_first1 (b bo bm : Nat) (M : MM) (o : OpV) (W : World) (g : Nat) (hg : W.heap.size = g) (h : MdAt W b M) (hbo : bo < W.heap.size) (hbm : bm < W.heap.size) (h1 : W.cell? ⟨bo, 2, none⟩ = some (.int .i64 o.at_)) (h3 : W.cell? ⟨bo, 3, none⟩ = some (.int .i64 o.n)) (h2 : W.cell? ⟨bm, 0, none⟩ = some (.pointer (some ⟨b, 0, none⟩))) (hs : M.text.size ≤ 100000) (ho : 0 ≤ o.at_) :
  Calls Tryz.prog 188 #[.slice (some ⟨g, 0, none⟩) 2 2] (W.alloc (.cells #[.func (.func 189) #[.pointer (some ⟨b, 0, none⟩)] #[], .func (.func 193) #[] #[.pointer (some ⟨bo, 0, none⟩), .pointer (some ⟨bm, 0, none⟩)]] 221)) fun r w' => r = .returned (.int .i64 (remE1 M o)) ∧ Below W.heap.size W w' := by
 refine (firstN _ _ hg [⟨189, #[.pointer (some ⟨b, 0, none⟩)], #[], if M.closed then 13 else 0⟩, ⟨193, #[], #[.pointer (some ⟨bo, 0, none⟩), .pointer (some ⟨bm, 0, none⟩)], if (M.text.size : Int) < o.at_ ∨ (M.text.size : Int) - o.at_ < o.n then 3 else 0⟩] (by
  intro k hk
  simp only [List.mem_cons, List.not_mem_nil, or_false] at hk
  rcases hk with rfl | rfl
  ·exact openChk b M _ h
  ·exact remChk b _ _ M o _ h hbo hbm h1 h3 h2 hs ho) (by simp) 2 rfl).mono ?_
 rintro e w' ⟨rfl, hB⟩
 refine ⟨?_, hB⟩
 unfold remE1
 simp only [List.map_cons, List.map_nil, firstE]
 by_cases h1 : M.closed = true <;> by_cases h2 : (M.text.size : Int) < o.at_ ∨ (M.text.size : Int) - o.at_ < o.n <;> simp [h1, h2]
theorem rem_first2 (b : Nat) (M : MM) (o : OpV) (W : World) (g : Nat) (hg : W.heap.size = g) (h : MdAt W b M) :
  Calls Tryz.prog 188 #[.slice (some ⟨g + 1 + 1 + 1 + 1, 0, none⟩) 2 2] (((((W.alloc (.cells #[.pointer (some ⟨b, 0, none⟩)] 81)).alloc (.cells #[.int .i64 o.at_] 3)).alloc (.cells #[.pointer (some ⟨b, 0, none⟩)] 81)).alloc (.cells #[.int .i64 (o.at_ + o.n)] 3)).alloc (.cells #[.func (.func 237) #[] #[.pointer (some ⟨g + 1, 0, none⟩), .pointer (some ⟨g, 0, none⟩)], .func (.func 237) #[] #[.pointer (some ⟨g + 1 + 1 + 1, 0, none⟩), .pointer (some ⟨g + 1 + 1, 0, none⟩)]] 221)) fun r w' => r = .returned (.int .i64 (remE2 M o)) ∧ Below W.heap.size W w' := by
 obtain ⟨hb1, hp1, hp2⟩ := bnd_blk W b o.at_ g hg
 have hs1 : ((W.alloc (.cells #[.pointer (some ⟨b, 0, none⟩)] 81)).alloc (.cells #[.int .i64 o.at_] 3)).heap.size = g + 1 + 1 := by simp [hg]
 generalize ((W.alloc (.cells #[.pointer (some ⟨b, 0, none⟩)] 81)).alloc (.cells #[.int .i64 o.at_] 3)) = V at *
 obtain ⟨hb2, hq1, hq2⟩ := bnd_blk V b (o.at_ + o.n) (g + 1 + 1) hs1
 have hs2 : ((V.alloc (.cells #[.pointer (some ⟨b, 0, none⟩)] 81)).alloc (.cells #[.int .i64 (o.at_ + o.n)] 3)).heap.size = g + 1 + 1 + 1 + 1 := by simp [hs1]
 have hr1 := (hb2.cell (p := ⟨g, 0, none⟩) (by show g < V.heap.size; omega)).trans hp1
 have hr2 := (hb2.cell (p := ⟨g + 1, 0, none⟩) (by show g + 1 < V.heap.size; omega)).trans hp2
 have hb3 := hb1.trans (hb2.mono (by omega))
 generalize ((V.alloc (.cells #[.pointer (some ⟨b, 0, none⟩)] 81)).alloc (.cells #[.int .i64 (o.at_ + o.n)] 3)) = U at *
 refine (firstN _ _ hs2 [⟨237, #[], #[.pointer (some ⟨g + 1, 0, none⟩), .pointer (some ⟨g, 0, none⟩)], bndE M.text o.at_⟩, ⟨237, #[], #[.pointer (some ⟨g + 1 + 1 + 1, 0, none⟩), .pointer (some ⟨g + 1 + 1, 0, none⟩)], bndE M.text (o.at_ + o.n)⟩] (by
  intro k hk
  simp only [List.mem_cons, List.not_mem_nil, or_false] at hk
  rcases hk with rfl | rfl
  ·exact bndChk b _ _ M _ _ (h.below hb3) (by omega) (by omega) hr2 hr1
  ·exact bndChk b _ _ M _ _ (h.below hb3) (by omega) (by omega) hq2 hq1) (by simp) 2 rfl).mono ?_
 rintro e w' ⟨rfl, hB⟩
 refine ⟨?_, hb3.trans (hB.mono (by omega))⟩
 unfold remE2
 simp only [List.map_cons, List.map_nil, firstE]
 by_cases h1 : bndE M.text o.at_ = 0 <;> by_cases h2 : bndE M.text (o.at_ + o.n) = 0 <;> simp [h1, h2]
end Go.Proofs.YtdeiocppghhfdaaGreat
namespace Go.Proofs.YtdeiocppghhfdaaGreat
open Go.RowKit Go.Lib Go.Shelf
attribute [local go_sem, local simp] resF resL_len resL_ne rset0 rset1 rset2 rset3 rset4 rset5
theorem MdAt.c5 {W : World} {b : Nat} {M : MM} (h : MdAt W b M) {v : Value} (hv : M.sv = v) : W.cell? ⟨b, 5, none⟩ = some v := by simp [World.cell?, h.blk, mdL, hv]
theorem MdAt.c2 {W : World} {b : Nat} {M : MM} (h : MdAt W b M) : W.cell? ⟨b, 2, none⟩ = some (.int .i64 M.number) := by simp [World.cell?, h.blk, mdL]
theorem MdAt.c3 {W : World} {b : Nat} {M : MM} (h : MdAt W b M) : W.cell? ⟨b, 3, none⟩ = some (.bool M.closed) := by simp [World.cell?, h.blk, mdL]
theorem MdAt.c0 {W : World} {b : Nat} {M : MM} (h : MdAt W b M) : W.cell? ⟨b, 0, none⟩ = some (.string M.text) := by simp [World.cell?, h.blk, mdL]
theorem MdAt.setClosed {W : World} {b : Nat} {M : MM} (h : MdAt W b M) : MdAt (W.setCell ⟨b, 3, none⟩ (.bool true)) b { M with closed := true } :=
 h.upd (by have := blk_set h.blk 3 (.bool true); exact this) (fun k _ hk => setCell_ne _ _ _ _ hk) (own_keep h.marks h.blk (by decide) (fun k _ hk => setCell_ne _ _ _ _ hk)) rfl rfl
theorem close_any (b : Nat) (M : MM) (c : Int) (o : OpV) (w : World) (h : MdAt w b M) :
  Calls Tryz.prog 144 #[.pointer (some ⟨b, 0, none⟩), .int .i64 c, .agg #[.int .u8 o.kind, .int .i64 o.slot, .int .i64 o.at_, .int .i64 o.n, .int .u32 o.id, .int .u8 o.grav, .string o.text]] w (Post b w (cloS M.st) M) := by
 have ho := fun W hW => open_any b M W hW
 have hE := ed2_start w o
 have hM0 := h.below hE.bl
 have f3 := hM0.f 3
 have c3 := hM0.c3
 have hrB : w.heap.size ≤ w.heap.size + 1 := by omega
 cases hc : M.closed with
 | true =>
  have hS : cloS M.st = (failR 13, M.st) := if_pos hc
  simp only [hc, if_true] at ho
  rw [hS]
  go_enter Tryz.func144, Tryz.ntmps144
  go_wp2_with (first | (go_at_call 189; refine (ho _ hM0).mono ?_; rintro e w1 ⟨rfl, rfl⟩) | (go_at_call 99; refine (fail_any _ _).mono ?_; rintro e v7 ⟨rfl, hb7⟩; have hE7 := hE.on hb7; have hst := res_st hE7.res rfl))
  exact ⟨rfl, _, results_cell_row rfl _ _ _ _ _ _ _ rfl (setRow_heap _ _ _ _ _ _ hE7.res) Tryz.underlying51 rfl (by kernel_rfl), rfl, M, (hM0.below hb7).row hE7.res _, rfl, (KeepF.of_below hE7.bl).row hrB _, fun k hk => .inl hk⟩
 | false =>
  have hS : cloS M.st = ({}, { M.st with closed := true }) := by unfold cloS; rw [if_neg (by show ¬ (M.closed = true); simp [hc])]
  simp only [hc, Bool.false_eq_true, if_false] at ho
  rw [hS]
  have hM1 := hM0.setClosed
  have hz1 := (setCell_ne _ ⟨b, 3, none⟩ (.bool true) (w.heap.size + 1) (by show w.heap.size + 1 ≠ b; have := (Array.getElem?_eq_some_iff.1 h.blk).1; omega)).trans hE.res
  have hst := res_st hz1 rfl
  go_enter Tryz.func144, Tryz.ntmps144
  go_wp2_with (go_at_call 189; refine (ho _ hM0).mono ?_; rintro e w1 ⟨rfl, rfl⟩)
  exact ⟨rfl, _, results_cell_row rfl _ _ _ _ _ _ _ rfl (setRow_heap _ _ _ _ _ _ hz1) Tryz.underlying51 rfl (by kernel_rfl), rfl, _, hM1.row hz1 _, rfl, ((KeepF.of_below hE.bl).trans (KeepF.set (F := M.fp b) (a := ⟨b, 3, none⟩) (.inl rfl) _)).row hrB _, fun k hk => .inl hk⟩
theorem sub_ne {W : World} {b c r gs cs g cp : Nat} {M : MM} {S : SeM} {cur rc : Array Value} (h : MdAt W b M) (hA : SeatAt W M c S gs cs g cp cur) (hr : W.heap[r]? = some (.cells rc 51 (0, 0))) : b ≠ gs ∧ r ≠ gs := by
 have h1 := h.seats
 rw [hA.sv] at h1
 obtain ⟨curS, hgs⟩ : ∃ curS, W.heap[gs]? = some (.cells curS 139 (0, 0)) := by
  rcases h1.2 with ⟨e1, _⟩ | ⟨g', _, cu, e1, _, hg, _⟩
  ·injection e1 with e1; cases e1
  ·injection e1 with e1; injection e1 with e1; injection e1 with e1; subst e1; exact ⟨cu, hg⟩
 refine ⟨fun e => ?_, fun e => ?_⟩
 ·subst e; have := h.blk; rw [hgs] at this; injection this with this; injection this with _ h2 _; exact absurd h2 (by decide)
 ·subst e; rw [hgs] at hr; injection hr with this; injection this with _ h2 _; exact absurd h2 (by decide)
theorem fp_sub {b c : Nat} {M : MM} {S : SeM} (hS : M.seats[c]? = some S) (k : Nat) : (M.putSub c S).fp b k ↔ M.fp b k := by
 have hmem := List.mem_of_getElem? hS
 obtain ⟨hc, hSe⟩ := List.getElem?_eq_some_iff.1 hS
 constructor
 ·rintro (h | h | ⟨S', hS', h⟩)
  ·exact .inl h
  ·exact .inr (.inl h)
  ·rcases mem_set_or hS' with rfl | ⟨d, hd, hS'⟩
   ·exact .inr (.inr ⟨S, hmem, h⟩)
   ·exact .inr (.inr ⟨S', List.mem_of_getElem? hS', h⟩)
 ·rintro (h | h | ⟨S', hS', h⟩)
  ·exact .inl h
  ·exact .inr (.inl h)
  ·obtain ⟨d, hd, e⟩ := List.getElem_of_mem hS'
   by_cases hdc : c = d
   ·subst hdc
    rw [hSe] at e; subst e
    exact .inr (.inr ⟨{ S with sub := true }, List.mem_iff_getElem.2 ⟨c, by show c < (M.seats.set c _).length; rw [List.length_set]; exact hc, by show (M.seats.set c _)[c]'_ = _; rw [List.getElem_set_self]⟩, h⟩)
   ·exact .inr (.inr ⟨S', List.mem_iff_getElem.2 ⟨d, by show d < (M.seats.set c _).length; rw [List.length_set]; exact hd, by show (M.seats.set c _)[d]'_ = _; rw [List.getElem_set_ne hdc]; exact e⟩, h⟩)
theorem subscribe_any (b c : Nat) (M : MM) (o : OpV) (w : World) (h : MdAt w b M) (S : SeM) (hS : M.seats[c]? = some S) (hcl : M.seats.length ≤ 8) :
  Calls Tryz.prog 142 #[.pointer (some ⟨b, 0, none⟩), .int .i64 (c : Int), .agg #[.int .u8 o.kind, .int .i64 o.slot, .int .i64 o.at_, .int .i64 o.n, .int .u32 o.id, .int .u8 o.grav, .string o.text]] w (Post b w (subS M.st c) M) := by
 obtain ⟨hc, _⟩ := List.getElem?_eq_some_iff.1 hS
 have ho := fun W hW => open_any b M W hW
 have hE := ed2_start w o
 have hM0 := h.below hE.bl
 have hrB : w.heap.size ≤ w.heap.size + 1 := by omega
 obtain ⟨gs, cs, g, cp, cur, hA⟩ := hM0.seatAt hS
 have c5 := hM0.c5 hA.sv
 have a0 := hA.c0
 have f0 := hA.f0
 have c2 := hM0.c2
 have e0 : M.st.seat c = S.st := MM.seat_st hS
 cases hs : S.sub with
 | true =>
  have hR : subS M.st c = (failR 18, M.st) := by unfold subS; rw [if_pos (by rw [e0]; exact hs)]
  rw [hR]
  go_enter Tryz.func142, Tryz.ntmps142
  go_wp2_with (go_at_call 99; refine (fail_any _ _).mono ?_; rintro e v7 ⟨rfl, hb7⟩; have hE7 := hE.on hb7; have hst := res_st hE7.res rfl)
  exact ⟨rfl, _, results_cell_row rfl _ _ _ _ _ _ _ rfl (setRow_heap _ _ _ _ _ _ hE7.res) Tryz.underlying51 rfl (by kernel_rfl), rfl, M, (hM0.below hb7).row hE7.res _, rfl, (KeepF.of_below hE7.bl).row hrB _, fun k hk => .inl hk⟩
 | false =>
  cases hl : M.closed with
  | true =>
   have hR : subS M.st c = (failR 13, M.st) := by unfold subS; rw [if_neg (by rw [e0]; show ¬ (S.sub = true); simp [hs]), if_pos (by exact hl)]
   simp only [hl, if_true] at ho
   rw [hR]
   go_enter Tryz.func142, Tryz.ntmps142
   go_wp2_with (first | (go_at_call 189; refine (ho _ hM0).mono ?_; rintro e w1 ⟨rfl, rfl⟩) | (go_at_call 99; refine (fail_any _ _).mono ?_; rintro e v7 ⟨rfl, hb7⟩; have hE7 := hE.on hb7; have hst := res_st hE7.res rfl))
   exact ⟨rfl, _, results_cell_row rfl _ _ _ _ _ _ _ rfl (setRow_heap _ _ _ _ _ _ hE7.res) Tryz.underlying51 rfl (by kernel_rfl), rfl, M, (hM0.below hb7).row hE7.res _, rfl, (KeepF.of_below hE7.bl).row hrB _, fun k hk => .inl hk⟩
  | false =>
   have hR : subS M.st c = ({ rev := M.number }, M.st.put c { M.st.seat c with sub := true }) := by unfold subS; rw [if_neg (by rw [e0]; show ¬ (S.sub = true); simp [hs]), if_neg (by show ¬ (M.closed = true); simp [hl])]; rfl
   simp only [hl, Bool.false_eq_true, if_false] at ho
   rw [hR]
   have hM1 := hM0.putSub hS hA
   have hgne : b ≠ gs ∧ w.heap.size + 1 ≠ gs := sub_ne hM0 hA hE.res
   have hz1 := (setCell_ne _ ⟨gs, c * 2, none⟩ (.bool true) (w.heap.size + 1) hgne.2).trans hE.res
   have d2 := (show (World.setCell _ ⟨gs, c * 2, none⟩ (.bool true)).cell? ⟨b, 2, none⟩ = some (.int .i64 M.number) from hM1.c2)
   have hst := res_st hz1 rfl
   have hfp : M.fp b gs := .inr (.inl (by rw [hA.sv]; rfl))
   go_enter Tryz.func142, Tryz.ntmps142
   go_wp2_with (go_at_call 189; refine (ho _ hM0).mono ?_; rintro e w1 ⟨rfl, rfl⟩)
   exact ⟨rfl, _, results_cell_row rfl _ _ _ _ _ _ _ rfl (setRow_heap _ _ _ _ _ _ hz1) Tryz.underlying51 rfl (by kernel_rfl), rfl, _, hM1.row hz1 _, MM.putSub_st hS, ((KeepF.of_below hE.bl).trans (KeepF.set (F := M.fp b) (a := ⟨gs, c * 2, none⟩) hfp _)).row hrB _, fun k hk => .inl ((fp_sub hS k).1 hk)⟩
theorem receive_any (b c : Nat) (M : MM) (o : OpV) (w : World) (h : MdAt w b M) (S : SeM) (hS : M.seats[c]? = some S) (hcl : M.seats.length ≤ 8) :
  Calls Tryz.prog 143 #[.pointer (some ⟨b, 0, none⟩), .int .i64 (c : Int), .agg #[.int .u8 o.kind, .int .i64 o.slot, .int .i64 o.at_, .int .i64 o.n, .int .u32 o.id, .int .u8 o.grav, .string o.text]] w (Post b w (recS M.st c) M) := by
 obtain ⟨hc, _⟩ := List.getElem?_eq_some_iff.1 hS
 have ho := fun W hW => open_any b M W hW
 have hE := ed2_start w o
 have hM0 := h.below hE.bl
 have hrB : w.heap.size ≤ w.heap.size + 1 := by omega
 obtain ⟨gs, cs, g, cp, cur, hA⟩ := hM0.seatAt hS
 have c5 := hM0.c5 hA.sv
 have a0 := hA.c0
 have e0 : M.st.seat c = S.st := MM.seat_st hS
 cases hs : S.sub with
 | false =>
  have hR : recS M.st c = (failR 19, M.st) := by unfold recS; rw [if_pos (by rw [e0]; show (!S.sub) = true; simp [hs])]
  rw [hR]
  go_enter Tryz.func143, Tryz.ntmps143
  go_wp2_with (go_at_call 99; refine (fail_any _ _).mono ?_; rintro e v7 ⟨rfl, hb7⟩; have hE7 := hE.on hb7; have hst := res_st hE7.res rfl)
  exact ⟨rfl, _, results_cell_row rfl _ _ _ _ _ _ _ rfl (setRow_heap _ _ _ _ _ _ hE7.res) Tryz.underlying51 rfl (by kernel_rfl), rfl, M, (hM0.below hb7).row hE7.res _, rfl, (KeepF.of_below hE7.bl).row hrB _, fun k hk => .inl hk⟩
 | true =>
  cases hl : M.closed with
  | true =>
   have hR : recS M.st c = (failR 13, M.st) := by unfold recS; rw [if_neg (by rw [e0]; show ¬ ((!S.sub) = true); simp [hs]), if_pos (by exact hl)]
   simp only [hl, if_true] at ho
   rw [hR]
   go_enter Tryz.func143, Tryz.ntmps143
   go_wp2_with (first | (go_at_call 189; refine (ho _ hM0).mono ?_; rintro e w1 ⟨rfl, rfl⟩) | (go_at_call 99; refine (fail_any _ _).mono ?_; rintro e v7 ⟨rfl, hb7⟩; have hE7 := hE.on hb7; have hst := res_st hE7.res rfl))
   exact ⟨rfl, _, results_cell_row rfl _ _ _ _ _ _ _ rfl (setRow_heap _ _ _ _ _ _ hE7.res) Tryz.underlying51 rfl (by kernel_rfl), rfl, M, (hM0.below hb7).row hE7.res _, rfl, (KeepF.of_below hE7.bl).row hrB _, fun k hk => .inl hk⟩
  | false =>
   have hR : recS M.st c = (failR 17, M.st) := by unfold recS; rw [if_neg (by rw [e0]; show ¬ ((!S.sub) = true); simp [hs]), if_neg (by show ¬ (M.closed = true); simp [hl])]
   simp only [hl, Bool.false_eq_true, if_false] at ho
   rw [hR]
   go_enter Tryz.func143, Tryz.ntmps143
   go_wp2_with (first | (go_at_call 189; refine (ho _ hM0).mono ?_; rintro e w1 ⟨rfl, rfl⟩) | (go_at_call 99; refine (fail_any _ _).mono ?_; rintro e v7 ⟨rfl, hb7⟩; have hE7 := hE.on hb7; have hst := res_st hE7.res rfl))
   exact ⟨rfl, _, results_cell_row rfl _ _ _ _ _ _ _ rfl (setRow_heap _ _ _ _ _ _ hE7.res) Tryz.underlying51 rfl (by kernel_rfl), rfl, M, (hM0.below hb7).row hE7.res _, rfl, (KeepF.of_below hE7.bl).row hrB _, fun k hk => .inl hk⟩
end Go.Proofs.YtdeiocppghhfdaaGreat
