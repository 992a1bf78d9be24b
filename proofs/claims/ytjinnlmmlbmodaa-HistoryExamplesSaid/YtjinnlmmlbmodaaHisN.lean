/- HistoryPairs: the walk. -/
import Derived.Test.YtjinnlmmlbmodaaHisM
namespace Go.Proofs.Ytjinnlmmlbmodaa
open Go.RowKit Go.Lib Go.Shelf
attribute [local go_sem, local simp] callL_0 callL_1 callL_2 callL_3 callL_4 callL_5 callL_6 callL_7 callL_8 callL_9 callL_10 callL_11 callL_12 callL_13 callL_14 callL_15 callL_16 callL_17 callL_18 callL_19 callL_20 callL_21 callL_22 callL_23 callL_24 callL_25 callL_26 resL_0 resL_1 resL_2 resL_3 resL_4 resL_5 resL_6 resL_7 resL_8 resL_9 resL_10 resL_11 resL_12 callG_0 callG_1 callG_2 callG_3 callG_4 callG_5 callG_6 callG_7 callG_8 callG_9 callG_10 callG_11 callG_12 callG_13 callG_14 callG_15 callG_16 callG_17 callG_18 callG_19 callG_20 callG_21 callG_22 callG_23 callG_24 callG_25 callG_26 resG_0 resG_1 resG_2 resG_3 resG_4 resG_5 resG_6 resG_7 resG_8 resG_9 resG_10 resG_11 resG_12 callL_len resL_len
attribute [local go_sem ↓] loadCall_eq loadRes_eq
attribute [local go_sem] ld_new ld_first ld_second ldr_new st_new

set_option maxRecDepth 100000 in
set_option maxHeartbeats 1000000 in
theorem refOverlap_any (c d : CallV) (w : World) : Calls Try.prog 13 #[.agg (callL c).toArray, .agg (callL d).toArray] w fun e w' => e = .returned (.bool (!befB c d && !befB d c)) ∧ Below w.heap.size w w' := by
  go_enter Try.func13, Try.ntmps13
  go_wp2_with fail
  refine (refBefore_any _ _ _).mono ?_
  rintro e w1 ⟨rfl, hb1⟩
  have h1 := blk_below (blk_old (blk_new w (callL c) 34) (.cells (callL d).toArray 34)) hb1 (by simp; omega)
  have h2 := blk_below (blk_new (w.alloc (.cells (callL c).toArray 34)) (callL d) 34) hb1 (by simp)
  rw [World.size_alloc] at h2
  have l1 := ld_call c h1
  have l2 := ld_call d h2
  clear h1 h2
  cases hcd : befB c d with
  | true =>
    go_wp2
    go_ret
    exact ⟨ret_bool (by rw [hcd]; simp), (below2 w _ _).trans (hb1.mono (by simp; omega))⟩
  | false =>
    go_wp2_with fail
    refine (refBefore_any _ _ _).mono ?_
    rintro e w2 ⟨rfl, hb2⟩
    go_wp2
    go_ret
    exact ⟨ret_bool (by rw [hcd]; simp), ((below2 w _ _).trans (hb1.mono (by simp; omega))).trans (hb2.mono (by have := hb1.size; simp at this; omega))⟩


structure PrI (w : World) (c d : CallV) (W : World) : Prop where
  b1 : CallBlk W w.heap.size c
  b2 : CallBlk W (w.heap.size + 1) d
  bl : Below w.heap.size w W
theorem PrI.on {w : World} {c d : CallV} {W W' : World} (h : PrI w c d W) (hb : Below W.heap.size W W') : PrI w c d W' :=
  ⟨blk_below h.b1 hb (Array.getElem?_eq_some_iff.1 h.b1).1, blk_below h.b2 hb (Array.getElem?_eq_some_iff.1 h.b2).1, h.bl.trans (hb.mono h.bl.size)⟩
theorem PrI.start (w : World) (c d : CallV) : PrI w c d ((w.alloc (.cells (callL c).toArray 34)).alloc (.cells (callL d).toArray 34)) :=
  ⟨blk_old (blk_new w _ _) _, by have := blk_new (w.alloc (.cells (callL c).toArray 34)) (callL d) 34; rwa [World.size_alloc] at this, ((Below.refl _ _).alloc (Nat.le_refl _) _).alloc (by simp) _⟩
set_option maxRecDepth 100000 in
set_option maxHeartbeats 1000000 in
theorem walkHistoryPairs (c d : CallV) (w : World) : Calls Try.prog 3 #[.agg (callL c).toArray, .agg (callL d).toArray] w fun e w' => e = .returned (.bool true) ∧ Below w.heap.size w w' := by
  have hx := (PrI.start w c d).on (Below.refl _ _).drew
  have kx : ∀ W, PrI w c d W → (loadCall (.pointer (some ⟨w.heap.size, 0, none⟩))).run Try.prog W = .ok (.agg (callL c).toArray) W ∧ (loadCall (.pointer (some ⟨w.heap.size + 1, 0, none⟩))).run Try.prog W = .ok (.agg (callL d).toArray) W := fun W h => ⟨ld_call c h.b1, ld_call d h.b2⟩
  have Kx := Lib.hid kx
  clear kx
  have a1 := fun W => before_any c d W
  have a2 := fun W => refBefore_any c d W
  have a3 := fun W => overlap_any c d W
  have a4 := fun W => refOverlap_any c d W
  generalize (!befB c d && !befB d c) = y at a3 a4
  generalize befB c d = x at a1 a2
  have ex : (x == x) = true := by simp
  have ey : (y == y) = true := by simp
  go_enter Try.func3, Try.ntmps3
  go_wp2_with fail
  refine wp_region_noPanic ?_
  refine wp_region_held_drew (S := fun W => ((loadCall (.pointer (some ⟨w.heap.size, 0, none⟩))).run Try.prog W = .ok (.agg (callL c).toArray) W ∧ (loadCall (.pointer (some ⟨w.heap.size + 1, 0, none⟩))).run Try.prog W = .ok (.agg (callL d).toArray) W) ∧ PrI w c d W) (by kernel_rfl) ?_ (fun hHeld => ?_)
  · first | exact ⟨Kx.out _ hx2, hx2⟩ | exact ⟨Kx.out _ hx, hx⟩
  first | fail | (refine np_take (i := 0) (v := ?_) rfl (by kernel_rfl) (by kernel_rfl) (by kernel_rfl) (by rfl) ?_ (by assumption) ?_; rotate_left 1; (· (intro w hSw; (try dsimp only at hSw); go_simp; all_goals with_reducible rfl)); (try simp only [Act.put, List.setIfInBounds_toArray, List.set_cons_zero, List.set_cons_succ]))
  first | fail | (refine np_take (i := 1) (v := ?_) rfl (by kernel_rfl) (by kernel_rfl) (by kernel_rfl) (by rfl) ?_ (by assumption) ?_; rotate_left 1; (· (intro w hSw; (try dsimp only at hSw); go_simp; all_goals with_reducible rfl)); (try simp only [Act.put, List.setIfInBounds_toArray, List.set_cons_zero, List.set_cons_succ]))
  first | fail | (refine np_take (i := 3) (v := ?_) rfl (by kernel_rfl) (by kernel_rfl) (by kernel_rfl) (by rfl) ?_ (by assumption) ?_; rotate_left 1; (· (intro w hSw; (try dsimp only at hSw); go_simp; all_goals with_reducible rfl)); (try simp only [Act.put, List.setIfInBounds_toArray, List.set_cons_zero, List.set_cons_succ]))
  first | fail | (refine np_take (i := 4) (v := ?_) rfl (by kernel_rfl) (by kernel_rfl) (by kernel_rfl) (by rfl) ?_ (by assumption) ?_; rotate_left 1; (· (intro w hSw; (try dsimp only at hSw); go_simp; all_goals with_reducible rfl)); (try simp only [Act.put, List.setIfInBounds_toArray, List.set_cons_zero, List.set_cons_succ]))
  first | fail | (refine np_step (i := 2) rfl (by kernel_rfl) (fun K hK => ?_); rw [if_pos (by rfl)]; go_simp; ((go_at_call 10; refine (a1 _).mono ?_; rintro e w4 ⟨rfl, hbc⟩; have hx2 := hHeld.2.on hbc)); (try go_wp2_with fail); refine hK.out _ _ ?_ (fun hHeld => ?_); (· (first | exact ⟨Kx.out _ hx2, hx2⟩ | exact ⟨Kx.out _ hx, hx⟩)); clear hK K; (try simp only [Act.put, List.setIfInBounds_toArray, List.set_cons_zero, List.set_cons_succ]))
  first | fail | (refine np_step (i := 5) rfl (by kernel_rfl) (fun K hK => ?_); rw [if_pos (by rfl)]; go_simp; ((go_at_call 11; refine (a2 _).mono ?_; rintro e w5 ⟨rfl, hbc⟩; have hx2 := hHeld.2.on hbc)); (try go_wp2_with fail); refine hK.out _ _ ?_ (fun hHeld => ?_); (· (first | exact ⟨Kx.out _ hx2, hx2⟩ | exact ⟨Kx.out _ hx, hx⟩)); clear hK K; (try simp only [Act.put, List.setIfInBounds_toArray, List.set_cons_zero, List.set_cons_succ]))
  first | fail | (refine np_take (i := 6) (v := ?_) rfl (by kernel_rfl) (by kernel_rfl) (by kernel_rfl) (by rfl) ?_ (by assumption) ?_; rotate_left 1; (· (intro w hSw; (try dsimp only at hSw); go_simp; all_goals with_reducible rfl)); (try simp only [Act.put, List.setIfInBounds_toArray, List.set_cons_zero, List.set_cons_succ]))
  first | fail | (refine np_take (i := 7) (v := ?_) rfl (by kernel_rfl) (by kernel_rfl) (by kernel_rfl) (by rfl) ?_ (by assumption) ?_; rotate_left 1; (· (intro w hSw; (try dsimp only at hSw); go_simp; all_goals with_reducible rfl)); (try simp only [Act.put, List.setIfInBounds_toArray, List.set_cons_zero, List.set_cons_succ]))
  first | fail | (refine np_take (i := 8) (v := ?_) rfl (by kernel_rfl) (by kernel_rfl) (by kernel_rfl) (by rfl) ?_ (by assumption) ?_; rotate_left 1; (· (intro w hSw; (try dsimp only at hSw); go_simp; all_goals with_reducible rfl)); (try simp only [Act.put, List.setIfInBounds_toArray, List.set_cons_zero, List.set_cons_succ]))
  first | fail | (refine np_take (i := 9) (v := ?_) rfl (by kernel_rfl) (by kernel_rfl) (by kernel_rfl) (by rfl) ?_ (by assumption) ?_; rotate_left 1; (· (intro w hSw; (try dsimp only at hSw); go_simp; all_goals with_reducible rfl)); (try simp only [Act.put, List.setIfInBounds_toArray, List.set_cons_zero, List.set_cons_succ]))
  first | fail | (refine np_take (i := 11) (v := ?_) rfl (by kernel_rfl) (by kernel_rfl) (by kernel_rfl) (by rfl) ?_ (by assumption) ?_; rotate_left 1; (· (intro w hSw; (try dsimp only at hSw); go_simp; all_goals with_reducible rfl)); (try simp only [Act.put, List.setIfInBounds_toArray, List.set_cons_zero, List.set_cons_succ]))
  first | fail | (refine np_take (i := 12) (v := ?_) rfl (by kernel_rfl) (by kernel_rfl) (by kernel_rfl) (by rfl) ?_ (by assumption) ?_; rotate_left 1; (· (intro w hSw; (try dsimp only at hSw); go_simp; all_goals with_reducible rfl)); (try simp only [Act.put, List.setIfInBounds_toArray, List.set_cons_zero, List.set_cons_succ]))
  first | fail | (refine np_step (i := 10) rfl (by kernel_rfl) (fun K hK => ?_); rw [if_pos (by rfl)]; go_simp; ((go_at_call 12; refine (a3 _).mono ?_; rintro e w6 ⟨rfl, hbc⟩; have hx2 := hHeld.2.on hbc)); (try go_wp2_with fail); refine hK.out _ _ ?_ (fun hHeld => ?_); (· (first | exact ⟨Kx.out _ hx2, hx2⟩ | exact ⟨Kx.out _ hx, hx⟩)); clear hK K; (try simp only [Act.put, List.setIfInBounds_toArray, List.set_cons_zero, List.set_cons_succ]))
  first | fail | (refine np_step (i := 13) rfl (by kernel_rfl) (fun K hK => ?_); rw [if_pos (by rfl)]; go_simp; ((go_at_call 13; refine (a4 _).mono ?_; rintro e w7 ⟨rfl, hbc⟩; have hx2 := hHeld.2.on hbc)); (try go_wp2_with fail); refine hK.out _ _ ?_ (fun hHeld => ?_); (· (first | exact ⟨Kx.out _ hx2, hx2⟩ | exact ⟨Kx.out _ hx, hx⟩)); clear hK K; (try simp only [Act.put, List.setIfInBounds_toArray, List.set_cons_zero, List.set_cons_succ]))
  first | fail | (refine np_take (i := 14) (v := ?_) rfl (by kernel_rfl) (by kernel_rfl) (by kernel_rfl) (by rfl) ?_ (by assumption) ?_; rotate_left 1; (· (intro w hSw; (try dsimp only at hSw); go_simp; all_goals with_reducible rfl)); (try simp only [Act.put, List.setIfInBounds_toArray, List.set_cons_zero, List.set_cons_succ]))
  first | fail | (refine np_take (i := 15) (v := ?_) rfl (by kernel_rfl) (by kernel_rfl) (by kernel_rfl) (by rfl) ?_ (by assumption) ?_; rotate_left 1; (· (intro w hSw; (try dsimp only at hSw); go_simp; all_goals with_reducible rfl)); (try simp only [Act.put, List.setIfInBounds_toArray, List.set_cons_zero, List.set_cons_succ]))
  first | fail | (refine np_take (i := 16) (v := ?_) rfl (by kernel_rfl) (by kernel_rfl) (by kernel_rfl) (by rfl) ?_ (by assumption) ?_; rotate_left 1; (· (intro w hSw; (try dsimp only at hSw); go_simp; all_goals with_reducible rfl)); (try simp only [Act.put, List.setIfInBounds_toArray, List.set_cons_zero, List.set_cons_succ]))
  first | fail | (refine np_step (i := 17) rfl (by kernel_rfl) (fun K hK => ?_); rw [if_pos (by rfl)]; go_simp; ((go_at_call 14; refine (awake_any _).mono ?_; rintro e w8 ⟨rfl, hbc⟩; have hx2 := hHeld.2.on hbc)); (try go_wp2_with fail); refine hK.out _ _ ?_ (fun hHeld => ?_); (· (first | exact ⟨Kx.out _ hx2, hx2⟩ | exact ⟨Kx.out _ hx, hx⟩)); clear hK K; (try simp only [Act.put, List.setIfInBounds_toArray, List.set_cons_zero, List.set_cons_succ]))
  first | fail | (refine np_take (i := 18) (v := ?_) rfl (by kernel_rfl) (by kernel_rfl) (by kernel_rfl) (by rfl) ?_ (by assumption) ?_; rotate_left 1; (· (intro w hSw; (try dsimp only at hSw); go_simp; all_goals with_reducible rfl)); (try simp only [Act.put, List.setIfInBounds_toArray, List.set_cons_zero, List.set_cons_succ]))
  first | fail | (refine np_take (i := 19) (v := ?_) rfl (by kernel_rfl) (by kernel_rfl) (by kernel_rfl) (by rfl) ?_ (by assumption) ?_; rotate_left 1; (· (intro w hSw; (try dsimp only at hSw); go_simp; all_goals with_reducible rfl)); (try simp only [Act.put, List.setIfInBounds_toArray, List.set_cons_zero, List.set_cons_succ]))
  refine wpAnyH_done (by kernel_rfl) ?_ _
  refine NoPanic.normal ?_
  have hf := hHeld.2.bl
  go_wp2
  go_returns
  exact ⟨rfl, hf⟩
end Go.Proofs.Ytjinnlmmlbmodaa
