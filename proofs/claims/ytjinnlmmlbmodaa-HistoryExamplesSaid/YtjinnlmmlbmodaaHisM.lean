/- awake of the history laws. -/
import Derived.Test.YtjinnlmmlbmodaaHisL
namespace Go.Proofs.Ytjinnlmmlbmodaa
open Go.RowKit Go.Lib Go.Shelf
open KitI (iv IRow own_below infoI eqi_any)
attribute [local go_sem, local simp] callL_0 callL_1 callL_2 callL_3 callL_4 callL_5 callL_6 callL_7 callL_8 callL_9 callL_10 callL_11 callL_12 callL_13 callL_14 callL_15 callL_16 callL_17 callL_18 callL_19 callL_20 callL_21 callL_22 callL_23 callL_24 callL_25 callL_26 resL_0 resL_1 resL_2 resL_3 resL_4 resL_5 resL_6 resL_7 resL_8 resL_9 resL_10 resL_11 resL_12 callG_0 callG_1 callG_2 callG_3 callG_4 callG_5 callG_6 callG_7 callG_8 callG_9 callG_10 callG_11 callG_12 callG_13 callG_14 callG_15 callG_16 callG_17 callG_18 callG_19 callG_20 callG_21 callG_22 callG_23 callG_24 callG_25 callG_26 resG_0 resG_1 resG_2 resG_3 resG_4 resG_5 resG_6 resG_7 resG_8 resG_9 resG_10 resG_11 resG_12 callL_len resL_len
attribute [local go_sem ↓] loadCall_eq loadRes_eq
attribute [local go_sem] ld_new ld_first ld_second ldr_new st_new

theorem pure_fields {c x : CallV} (h : c.pure = x.pure) : c.took = x.took ∧ c.rank = x.rank ∧ c.answered = x.answered ∧ c.steps = x.steps := by
  have h1 := congrArg CallV.took h
  have h2 := congrArg CallV.rank h
  have h3 := congrArg CallV.answered h
  have h4 := congrArg CallV.steps h
  exact ⟨h1, h2, h3, h4⟩
theorem pf5_0 : (prefS 5 exL)[0]? = some (cutV 5 ex0).pure := by decide +kernel
theorem pf5_1 : (prefS 5 exL)[1]? = some (cutV 5 ex1).pure := by decide +kernel
theorem pf4_1 : (prefS 4 exL)[1]? = some (cutV 4 ex1).pure := by decide +kernel
theorem pf_4 : (prefS 4 exL).length = 2 := by decide +kernel
theorem exPrefix5 {W : World} {B : Nat} (h : ExAt W B) : Calls Try.prog 23 #[.int .i64 5, .slice (some ⟨B, 0, none⟩) 3 3] W fun e w' => ∃ g cap, e = .returned (.tuple #[.slice (some ⟨g, 0, none⟩) 2 cap, .int .i64 0]) ∧
    w'.cell? ⟨g, 10, none⟩ = some (.int .i64 5) ∧ w'.cell? ⟨g, 12, none⟩ = some (.int .i64 (-1)) ∧ w'.cell? ⟨g, 13, none⟩ = some (.int .i64 0) ∧ w'.cell? ⟨g, 38, none⟩ = some (.int .i64 1) ∧ Below W.heap.size W w' := by
  refine (exPrefix h 5 (by omega) (by rw [pf_5]; omega)).mono ?_
  rintro e w' ⟨g, cap, rfl, hc, hb⟩
  rw [pf_5]
  obtain ⟨c, hp, h1⟩ := hc 0 _ pf5_0
  obtain ⟨d, hq, h2⟩ := hc 1 _ pf5_1
  obtain ⟨a1, a2, a3, a4⟩ := pure_fields hp
  obtain ⟨b1, b2, b3, b4⟩ := pure_fields hq
  refine ⟨g, cap, rfl, ?_, ?_, ?_, ?_, hb⟩
  · rw [h1 10 (by omega), callL_10, a1]; rfl
  · rw [h1 12 (by omega), callL_12, a3]; rfl
  · rw [h1 13 (by omega), callL_13, a4]; rfl
  · rw [h2 11 (by omega), callL_11, b2]; rfl
theorem exPrefix4 {W : World} {B : Nat} (h : ExAt W B) : Calls Try.prog 23 #[.int .i64 4, .slice (some ⟨B, 0, none⟩) 3 3] W fun e w' => ∃ g cap, e = .returned (.tuple #[.slice (some ⟨g, 0, none⟩) 2 cap, .int .i64 0]) ∧
    w'.cell? ⟨g, 37, none⟩ = some (.int .i64 (-1)) ∧ w'.cell? ⟨g, 38, none⟩ = some (.int .i64 0) ∧ Below W.heap.size W w' := by
  refine (exPrefix h 4 (by omega) (by rw [pf_4]; omega)).mono ?_
  rintro e w' ⟨g, cap, rfl, hc, hb⟩
  rw [pf_4]
  obtain ⟨d, hq, h2⟩ := hc 1 _ pf4_1
  obtain ⟨b1, b2, b3, b4⟩ := pure_fields hq
  refine ⟨g, cap, rfl, ?_, ?_, hb⟩
  · rw [h2 10 (by omega), callL_10, b1]; rfl
  · rw [h2 11 (by omega), callL_11, b2]; rfl
theorem b02 (W : World) : Calls Try.prog 10 #[.agg (callL ex0).toArray, .agg (callL ex2).toArray] W fun e w' => e = .returned (.bool true) ∧ Below W.heap.size W w' := by
  have h := before_any ex0 ex2 W
  rwa [bf_1] at h
theorem b01 (W : World) : Calls Try.prog 10 #[.agg (callL ex0).toArray, .agg (callL ex1).toArray] W fun e w' => e = .returned (.bool false) ∧ Below W.heap.size W w' := by
  have h := before_any ex0 ex1 W
  rwa [bf_2] at h
theorem o12 (W : World) : Calls Try.prog 12 #[.agg (callL ex1).toArray, .agg (callL ex2).toArray] W fun e w' => e = .returned (.bool true) ∧ Below W.heap.size W w' := by
  have h := overlap_any ex1 ex2 W
  rwa [show (!befB ex1 ex2 && !befB ex2 ex1) = true by decide +kernel] at h
theorem o00 (W : World) : Calls Try.prog 12 #[.agg (callL ex0).toArray, .agg (callL ex0).toArray] W fun e w' => e = .returned (.bool true) ∧ Below W.heap.size W w' := by
  have h := overlap_any ex0 ex0 W
  rwa [show (!befB ex0 ex0 && !befB ex0 ex0) = true by decide +kernel] at h
theorem eqiT (W : World) (va vb : Value) (zs : List Int) (ha : IRow W va zs) (hb : IRow W vb zs) (hs : zs.length ≤ 1000000) : Calls Try.prog 25 #[va, vb] W fun e w' => e = .returned (.bool true) ∧ Below W.heap.size W w' := by
  have h := eqi_any W va vb zs zs ha hb hs hs
  rwa [decide_eq_true rfl] at h
structure ExW (w W : World) : Prop where
  row : ExAt W w.heap.size
  bl : Below w.heap.size w W
theorem ExW.on {w W W' : World} (h : ExW w W) (hb : Below W.heap.size W W') : ExW w W' := ⟨h.row.on hb, h.bl.trans (hb.mono h.bl.size)⟩
theorem cell_on {W W' : World} {a : Addr} {v : Value} (h : W.cell? a = some v) (hb : Below W.heap.size W W') : W'.cell? a = some v := (hb.cell (cell_size h)).trans h
theorem below_alloc (W : World) (o : Obj) : Below W.heap.size W (W.alloc o) := (Below.refl _ _).alloc (Nat.le_refl _) _

attribute [local irreducible] callL ex0 ex1 ex2
set_option maxRecDepth 100000 in
set_option maxHeartbeats 1000000 in
theorem awake_any (w : World) : Calls Try.prog 14 #[] w fun e w' => e = .returned (.bool true) ∧ Below w.heap.size w w' := by
  go_enter Try.func14, Try.ntmps14
  go_wp2_with fail
  refine (example_any w).mono ?_
  rintro e w1 ⟨rfl, hC, hB1, hlt⟩
  have hx : ExW w w1 := ⟨⟨hlt, hC⟩, hB1⟩
  clear hC hB1 hlt
  go_wp2_with fail
  refine (exCheck hx.row).mono ?_
  rintro e w2 ⟨rfl, hb⟩
  replace hx := hx.on hb
  clear hb
  go_wp2_with fail
  refine (exCheck1 hx.row).mono ?_
  rintro e w3 ⟨rfl, hb⟩
  replace hx := hx.on hb
  clear hb
  have kx : ∀ W, ExW w W → (loadCall (.pointer (some ⟨w.heap.size, 0, none⟩))).run Try.prog W = .ok (.agg (callL ex0).toArray) W ∧ (loadCall (.pointer (some ⟨w.heap.size, 27, none⟩))).run Try.prog W = .ok (.agg (callL ex1).toArray) W ∧ (loadCall (.pointer (some ⟨w.heap.size, 54, none⟩))).run Try.prog W = .ok (.agg (callL ex2).toArray) W := fun W h => ⟨h.row.row.load (k := 0) rfl, h.row.row.load (k := 1) rfl, h.row.row.load (k := 2) rfl⟩
  have Kx := Lib.hid kx
  obtain ⟨q1, q2, q3⟩ := kx _ hx
  clear kx
  have hxd : ExW w w3.drew := hx.on (Below.refl _ _).drew
  go_wp2
  refine wp_region_noPanic ?_
  refine wp_region_held_drew (S := fun W => ((loadCall (.pointer (some ⟨w.heap.size, 0, none⟩))).run Try.prog W = .ok (.agg (callL ex0).toArray) W ∧ (loadCall (.pointer (some ⟨w.heap.size, 27, none⟩))).run Try.prog W = .ok (.agg (callL ex1).toArray) W ∧ (loadCall (.pointer (some ⟨w.heap.size, 54, none⟩))).run Try.prog W = .ok (.agg (callL ex2).toArray) W) ∧ ExW w W) (by kernel_rfl) ?_ (fun hHeld => ?_)
  · first | exact ⟨Kx.out _ hx2, hx2⟩ | exact ⟨Kx.out _ hxd, hxd⟩
  first | fail | (refine np_take (i := 0) (v := ?_) rfl (by kernel_rfl) (by kernel_rfl) (by kernel_rfl) (by rfl) ?_ (by assumption) ?_; rotate_left 1; (· (intro w hSw; (try dsimp only at hSw); go_simp; all_goals with_reducible rfl)); (try simp only [Act.put, List.setIfInBounds_toArray, List.set_cons_zero, List.set_cons_succ]))
  first | fail | (refine np_take (i := 1) (v := ?_) rfl (by kernel_rfl) (by kernel_rfl) (by kernel_rfl) (by rfl) ?_ (by assumption) ?_; rotate_left 1; (· (intro w hSw; (try dsimp only at hSw); go_simp; all_goals with_reducible rfl)); (try simp only [Act.put, List.setIfInBounds_toArray, List.set_cons_zero, List.set_cons_succ]))
  first | fail | (refine np_take (i := 2) (v := ?_) rfl (by kernel_rfl) (by kernel_rfl) (by kernel_rfl) (by rfl) ?_ (by assumption) ?_; rotate_left 1; (· (intro w hSw; (try dsimp only at hSw); go_simp; all_goals with_reducible rfl)); (try simp only [Act.put, List.setIfInBounds_toArray, List.set_cons_zero, List.set_cons_succ]))
  first | fail | (refine np_take (i := 3) (v := ?_) rfl (by kernel_rfl) (by kernel_rfl) (by kernel_rfl) (by rfl) ?_ (by assumption) ?_; rotate_left 1; (· (intro w hSw; (try dsimp only at hSw); go_simp; all_goals with_reducible rfl)); (try simp only [Act.put, List.setIfInBounds_toArray, List.set_cons_zero, List.set_cons_succ]))
  first | fail | (refine np_take (i := 4) (v := ?_) rfl (by kernel_rfl) (by kernel_rfl) (by kernel_rfl) (by rfl) ?_ (by assumption) ?_; rotate_left 1; (· (intro w hSw; (try dsimp only at hSw); go_simp; all_goals with_reducible rfl)); (try simp only [Act.put, List.setIfInBounds_toArray, List.set_cons_zero, List.set_cons_succ]))
  first | fail | (refine np_take (i := 5) (v := ?_) rfl (by kernel_rfl) (by kernel_rfl) (by kernel_rfl) (by rfl) ?_ (by assumption) ?_; rotate_left 1; (· (intro w hSw; (try dsimp only at hSw); go_simp; all_goals with_reducible rfl)); (try simp only [Act.put, List.setIfInBounds_toArray, List.set_cons_zero, List.set_cons_succ]))
  first | fail | (refine np_take (i := 6) (v := ?_) rfl (by kernel_rfl) (by kernel_rfl) (by kernel_rfl) (by rfl) ?_ (by assumption) ?_; rotate_left 1; (· (intro w hSw; (try dsimp only at hSw); go_simp; all_goals with_reducible rfl)); (try simp only [Act.put, List.setIfInBounds_toArray, List.set_cons_zero, List.set_cons_succ]))
  first | fail | (refine np_take (i := 7) (v := ?_) rfl (by kernel_rfl) (by kernel_rfl) (by kernel_rfl) (by rfl) ?_ (by assumption) ?_; rotate_left 1; (· (intro w hSw; (try dsimp only at hSw); go_simp; all_goals with_reducible rfl)); (try simp only [Act.put, List.setIfInBounds_toArray, List.set_cons_zero, List.set_cons_succ]))
  first | fail | (refine np_take (i := 8) (v := ?_) rfl (by kernel_rfl) (by kernel_rfl) (by kernel_rfl) (by rfl) ?_ (by assumption) ?_; rotate_left 1; (· (intro w hSw; (try dsimp only at hSw); go_simp; all_goals with_reducible rfl)); (try simp only [Act.put, List.setIfInBounds_toArray, List.set_cons_zero, List.set_cons_succ]))
  first | fail | (refine np_take (i := 9) (v := ?_) rfl (by kernel_rfl) (by kernel_rfl) (by kernel_rfl) (by rfl) ?_ (by assumption) ?_; rotate_left 1; (· (intro w hSw; (try dsimp only at hSw); go_simp; all_goals with_reducible rfl)); (try simp only [Act.put, List.setIfInBounds_toArray, List.set_cons_zero, List.set_cons_succ]))
  first | fail | (refine np_take (i := 10) (v := ?_) rfl (by kernel_rfl) (by kernel_rfl) (by kernel_rfl) (by rfl) ?_ (by assumption) ?_; rotate_left 1; (· (intro w hSw; (try dsimp only at hSw); go_simp; all_goals with_reducible rfl)); (try simp only [Act.put, List.setIfInBounds_toArray, List.set_cons_zero, List.set_cons_succ]))
  first | fail | (refine np_take (i := 11) (v := ?_) rfl (by kernel_rfl) (by kernel_rfl) (by kernel_rfl) (by rfl) ?_ (by assumption) ?_; rotate_left 1; (· (intro w hSw; (try dsimp only at hSw); go_simp; all_goals with_reducible rfl)); (try simp only [Act.put, List.setIfInBounds_toArray, List.set_cons_zero, List.set_cons_succ]))
  first | fail | (refine np_take (i := 12) (v := ?_) rfl (by kernel_rfl) (by kernel_rfl) (by kernel_rfl) (by rfl) ?_ (by assumption) ?_; rotate_left 1; (· (intro w hSw; (try dsimp only at hSw); go_simp; all_goals with_reducible rfl)); (try simp only [Act.put, List.setIfInBounds_toArray, List.set_cons_zero, List.set_cons_succ]))
  first | fail | (refine np_take (i := 13) (v := ?_) rfl (by kernel_rfl) (by kernel_rfl) (by kernel_rfl) (by rfl) ?_ (by assumption) ?_; rotate_left 1; (· (intro w hSw; (try dsimp only at hSw); go_simp; all_goals with_reducible rfl)); (try simp only [Act.put, List.setIfInBounds_toArray, List.set_cons_zero, List.set_cons_succ]))
  first | fail | (refine np_take (i := 14) (v := ?_) rfl (by kernel_rfl) (by kernel_rfl) (by kernel_rfl) (by rfl) ?_ (by assumption) ?_; rotate_left 1; (· (intro w hSw; (try dsimp only at hSw); go_simp; all_goals with_reducible rfl)); (try simp only [Act.put, List.setIfInBounds_toArray, List.set_cons_zero, List.set_cons_succ]))
  first | fail | (refine np_take (i := 15) (v := ?_) rfl (by kernel_rfl) (by kernel_rfl) (by kernel_rfl) (by rfl) ?_ (by assumption) ?_; rotate_left 1; (· (intro w hSw; (try dsimp only at hSw); go_simp; all_goals with_reducible rfl)); (try simp only [Act.put, List.setIfInBounds_toArray, List.set_cons_zero, List.set_cons_succ]))
  first | fail | (refine np_take (i := 16) (v := ?_) rfl (by kernel_rfl) (by kernel_rfl) (by kernel_rfl) (by rfl) ?_ (by assumption) ?_; rotate_left 1; (· (intro w hSw; (try dsimp only at hSw); go_simp; all_goals with_reducible rfl)); (try simp only [Act.put, List.setIfInBounds_toArray, List.set_cons_zero, List.set_cons_succ]))
  first | fail | (refine np_take (i := 17) (v := ?_) rfl (by kernel_rfl) (by kernel_rfl) (by kernel_rfl) (by rfl) ?_ (by assumption) ?_; rotate_left 1; (· (intro w hSw; (try dsimp only at hSw); go_simp; all_goals with_reducible rfl)); (try simp only [Act.put, List.setIfInBounds_toArray, List.set_cons_zero, List.set_cons_succ]))
  first | fail | (refine np_take (i := 18) (v := ?_) rfl (by kernel_rfl) (by kernel_rfl) (by kernel_rfl) (by rfl) ?_ (by assumption) ?_; rotate_left 1; (· (intro w hSw; (try dsimp only at hSw); go_simp; all_goals with_reducible rfl)); (try simp only [Act.put, List.setIfInBounds_toArray, List.set_cons_zero, List.set_cons_succ]))
  first | fail | (refine np_take (i := 19) (v := ?_) rfl (by kernel_rfl) (by kernel_rfl) (by kernel_rfl) (by rfl) ?_ (by assumption) ?_; rotate_left 1; (· (intro w hSw; (try dsimp only at hSw); go_simp; all_goals with_reducible rfl)); (try simp only [Act.put, List.setIfInBounds_toArray, List.set_cons_zero, List.set_cons_succ]))
  first | fail | (refine np_take (i := 20) (v := ?_) rfl (by kernel_rfl) (by kernel_rfl) (by kernel_rfl) (by rfl) ?_ (by assumption) ?_; rotate_left 1; (· (intro w hSw; (try dsimp only at hSw); go_simp; all_goals with_reducible rfl)); (try simp only [Act.put, List.setIfInBounds_toArray, List.set_cons_zero, List.set_cons_succ]))
  first | fail | (refine np_step (i := 21) rfl (by kernel_rfl) (fun K hK => ?_); rw [if_pos (by rfl)]; go_simp; ((go_at_call 10; refine (b02 _).mono ?_; rintro e w4 ⟨rfl, hbc⟩; have hx2 := hHeld.2.on hbc)); (try go_wp2_with fail); refine hK.out _ _ ?_ (fun hHeld => ?_); (· (first | exact ⟨Kx.out _ hx2, hx2⟩ | exact ⟨Kx.out _ hxd, hxd⟩)); clear hK K; (try simp only [Act.put, List.setIfInBounds_toArray, List.set_cons_zero, List.set_cons_succ]))
  first | fail | (refine np_take (i := 22) (v := ?_) rfl (by kernel_rfl) (by kernel_rfl) (by kernel_rfl) (by rfl) ?_ (by assumption) ?_; rotate_left 1; (· (intro w hSw; (try dsimp only at hSw); go_simp; all_goals with_reducible rfl)); (try simp only [Act.put, List.setIfInBounds_toArray, List.set_cons_zero, List.set_cons_succ]))
  first | fail | (refine np_take (i := 23) (v := ?_) rfl (by kernel_rfl) (by kernel_rfl) (by kernel_rfl) (by rfl) ?_ (by assumption) ?_; rotate_left 1; (· (intro w hSw; (try dsimp only at hSw); go_simp; all_goals with_reducible rfl)); (try simp only [Act.put, List.setIfInBounds_toArray, List.set_cons_zero, List.set_cons_succ]))
  first | fail | (refine np_take (i := 24) (v := ?_) rfl (by kernel_rfl) (by kernel_rfl) (by kernel_rfl) (by rfl) ?_ (by assumption) ?_; rotate_left 1; (· (intro w hSw; (try dsimp only at hSw); go_simp; all_goals with_reducible rfl)); (try simp only [Act.put, List.setIfInBounds_toArray, List.set_cons_zero, List.set_cons_succ]))
  first | fail | (refine np_take (i := 25) (v := ?_) rfl (by kernel_rfl) (by kernel_rfl) (by kernel_rfl) (by rfl) ?_ (by assumption) ?_; rotate_left 1; (· (intro w hSw; (try dsimp only at hSw); go_simp; all_goals with_reducible rfl)); (try simp only [Act.put, List.setIfInBounds_toArray, List.set_cons_zero, List.set_cons_succ]))
  first | fail | (refine np_take (i := 26) (v := ?_) rfl (by kernel_rfl) (by kernel_rfl) (by kernel_rfl) (by rfl) ?_ (by assumption) ?_; rotate_left 1; (· (intro w hSw; (try dsimp only at hSw); go_simp; all_goals with_reducible rfl)); (try simp only [Act.put, List.setIfInBounds_toArray, List.set_cons_zero, List.set_cons_succ]))
  first | fail | (refine np_take (i := 27) (v := ?_) rfl (by kernel_rfl) (by kernel_rfl) (by kernel_rfl) (by rfl) ?_ (by assumption) ?_; rotate_left 1; (· (intro w hSw; (try dsimp only at hSw); go_simp; all_goals with_reducible rfl)); (try simp only [Act.put, List.setIfInBounds_toArray, List.set_cons_zero, List.set_cons_succ]))
  first | fail | (refine np_take (i := 28) (v := ?_) rfl (by kernel_rfl) (by kernel_rfl) (by kernel_rfl) (by rfl) ?_ (by assumption) ?_; rotate_left 1; (· (intro w hSw; (try dsimp only at hSw); go_simp; all_goals with_reducible rfl)); (try simp only [Act.put, List.setIfInBounds_toArray, List.set_cons_zero, List.set_cons_succ]))
  first | fail | (refine np_take (i := 29) (v := ?_) rfl (by kernel_rfl) (by kernel_rfl) (by kernel_rfl) (by rfl) ?_ (by assumption) ?_; rotate_left 1; (· (intro w hSw; (try dsimp only at hSw); go_simp; all_goals with_reducible rfl)); (try simp only [Act.put, List.setIfInBounds_toArray, List.set_cons_zero, List.set_cons_succ]))
  first | fail | (refine np_take (i := 30) (v := ?_) rfl (by kernel_rfl) (by kernel_rfl) (by kernel_rfl) (by rfl) ?_ (by assumption) ?_; rotate_left 1; (· (intro w hSw; (try dsimp only at hSw); go_simp; all_goals with_reducible rfl)); (try simp only [Act.put, List.setIfInBounds_toArray, List.set_cons_zero, List.set_cons_succ]))
  first | fail | (refine np_step (i := 31) rfl (by kernel_rfl) (fun K hK => ?_); rw [if_pos (by rfl)]; go_simp; ((go_at_call 10; refine (b01 _).mono ?_; rintro e w5 ⟨rfl, hbc⟩; have hx2 := hHeld.2.on hbc)); (try go_wp2_with fail); refine hK.out _ _ ?_ (fun hHeld => ?_); (· (first | exact ⟨Kx.out _ hx2, hx2⟩ | exact ⟨Kx.out _ hxd, hxd⟩)); clear hK K; (try simp only [Act.put, List.setIfInBounds_toArray, List.set_cons_zero, List.set_cons_succ]))
  first | fail | (refine np_take (i := 32) (v := ?_) rfl (by kernel_rfl) (by kernel_rfl) (by kernel_rfl) (by rfl) ?_ (by assumption) ?_; rotate_left 1; (· (intro w hSw; (try dsimp only at hSw); go_simp; all_goals with_reducible rfl)); (try simp only [Act.put, List.setIfInBounds_toArray, List.set_cons_zero, List.set_cons_succ]))
  first | fail | (refine np_take (i := 33) (v := ?_) rfl (by kernel_rfl) (by kernel_rfl) (by kernel_rfl) (by rfl) ?_ (by assumption) ?_; rotate_left 1; (· (intro w hSw; (try dsimp only at hSw); go_simp; all_goals with_reducible rfl)); (try simp only [Act.put, List.setIfInBounds_toArray, List.set_cons_zero, List.set_cons_succ]))
  first | fail | (refine np_take (i := 34) (v := ?_) rfl (by kernel_rfl) (by kernel_rfl) (by kernel_rfl) (by rfl) ?_ (by assumption) ?_; rotate_left 1; (· (intro w hSw; (try dsimp only at hSw); go_simp; all_goals with_reducible rfl)); (try simp only [Act.put, List.setIfInBounds_toArray, List.set_cons_zero, List.set_cons_succ]))
  first | fail | (refine np_take (i := 35) (v := ?_) rfl (by kernel_rfl) (by kernel_rfl) (by kernel_rfl) (by rfl) ?_ (by assumption) ?_; rotate_left 1; (· (intro w hSw; (try dsimp only at hSw); go_simp; all_goals with_reducible rfl)); (try simp only [Act.put, List.setIfInBounds_toArray, List.set_cons_zero, List.set_cons_succ]))
  first | fail | (refine np_take (i := 36) (v := ?_) rfl (by kernel_rfl) (by kernel_rfl) (by kernel_rfl) (by rfl) ?_ (by assumption) ?_; rotate_left 1; (· (intro w hSw; (try dsimp only at hSw); go_simp; all_goals with_reducible rfl)); (try simp only [Act.put, List.setIfInBounds_toArray, List.set_cons_zero, List.set_cons_succ]))
  first | fail | (refine np_take (i := 37) (v := ?_) rfl (by kernel_rfl) (by kernel_rfl) (by kernel_rfl) (by rfl) ?_ (by assumption) ?_; rotate_left 1; (· (intro w hSw; (try dsimp only at hSw); go_simp; all_goals with_reducible rfl)); (try simp only [Act.put, List.setIfInBounds_toArray, List.set_cons_zero, List.set_cons_succ]))
  first | fail | (refine np_take (i := 38) (v := ?_) rfl (by kernel_rfl) (by kernel_rfl) (by kernel_rfl) (by rfl) ?_ (by assumption) ?_; rotate_left 1; (· (intro w hSw; (try dsimp only at hSw); go_simp; all_goals with_reducible rfl)); (try simp only [Act.put, List.setIfInBounds_toArray, List.set_cons_zero, List.set_cons_succ]))
  first | fail | (refine np_take (i := 39) (v := ?_) rfl (by kernel_rfl) (by kernel_rfl) (by kernel_rfl) (by rfl) ?_ (by assumption) ?_; rotate_left 1; (· (intro w hSw; (try dsimp only at hSw); go_simp; all_goals with_reducible rfl)); (try simp only [Act.put, List.setIfInBounds_toArray, List.set_cons_zero, List.set_cons_succ]))
  first | fail | (refine np_step (i := 40) rfl (by kernel_rfl) (fun K hK => ?_); rw [if_pos (by rfl)]; go_simp; ((go_at_call 12; refine (o12 _).mono ?_; rintro e w6 ⟨rfl, hbc⟩; have hx2 := hHeld.2.on hbc)); (try go_wp2_with fail); refine hK.out _ _ ?_ (fun hHeld => ?_); (· (first | exact ⟨Kx.out _ hx2, hx2⟩ | exact ⟨Kx.out _ hxd, hxd⟩)); clear hK K; (try simp only [Act.put, List.setIfInBounds_toArray, List.set_cons_zero, List.set_cons_succ]))
  first | fail | (refine np_take (i := 41) (v := ?_) rfl (by kernel_rfl) (by kernel_rfl) (by kernel_rfl) (by rfl) ?_ (by assumption) ?_; rotate_left 1; (· (intro w hSw; (try dsimp only at hSw); go_simp; all_goals with_reducible rfl)); (try simp only [Act.put, List.setIfInBounds_toArray, List.set_cons_zero, List.set_cons_succ]))
  first | fail | (refine np_take (i := 42) (v := ?_) rfl (by kernel_rfl) (by kernel_rfl) (by kernel_rfl) (by rfl) ?_ (by assumption) ?_; rotate_left 1; (· (intro w hSw; (try dsimp only at hSw); go_simp; all_goals with_reducible rfl)); (try simp only [Act.put, List.setIfInBounds_toArray, List.set_cons_zero, List.set_cons_succ]))
  first | fail | (refine np_take (i := 43) (v := ?_) rfl (by kernel_rfl) (by kernel_rfl) (by kernel_rfl) (by rfl) ?_ (by assumption) ?_; rotate_left 1; (· (intro w hSw; (try dsimp only at hSw); go_simp; all_goals with_reducible rfl)); (try simp only [Act.put, List.setIfInBounds_toArray, List.set_cons_zero, List.set_cons_succ]))
  first | fail | (refine np_take (i := 44) (v := ?_) rfl (by kernel_rfl) (by kernel_rfl) (by kernel_rfl) (by rfl) ?_ (by assumption) ?_; rotate_left 1; (· (intro w hSw; (try dsimp only at hSw); go_simp; all_goals with_reducible rfl)); (try simp only [Act.put, List.setIfInBounds_toArray, List.set_cons_zero, List.set_cons_succ]))
  first | fail | (refine np_take (i := 45) (v := ?_) rfl (by kernel_rfl) (by kernel_rfl) (by kernel_rfl) (by rfl) ?_ (by assumption) ?_; rotate_left 1; (· (intro w hSw; (try dsimp only at hSw); go_simp; all_goals with_reducible rfl)); (try simp only [Act.put, List.setIfInBounds_toArray, List.set_cons_zero, List.set_cons_succ]))
  first | fail | (refine np_take (i := 46) (v := ?_) rfl (by kernel_rfl) (by kernel_rfl) (by kernel_rfl) (by rfl) ?_ (by assumption) ?_; rotate_left 1; (· (intro w hSw; (try dsimp only at hSw); go_simp; all_goals with_reducible rfl)); (try simp only [Act.put, List.setIfInBounds_toArray, List.set_cons_zero, List.set_cons_succ]))
  first | fail | (refine np_take (i := 47) (v := ?_) rfl (by kernel_rfl) (by kernel_rfl) (by kernel_rfl) (by rfl) ?_ (by assumption) ?_; rotate_left 1; (· (intro w hSw; (try dsimp only at hSw); go_simp; all_goals with_reducible rfl)); (try simp only [Act.put, List.setIfInBounds_toArray, List.set_cons_zero, List.set_cons_succ]))
  first | fail | (refine np_take (i := 48) (v := ?_) rfl (by kernel_rfl) (by kernel_rfl) (by kernel_rfl) (by rfl) ?_ (by assumption) ?_; rotate_left 1; (· (intro w hSw; (try dsimp only at hSw); go_simp; all_goals with_reducible rfl)); (try simp only [Act.put, List.setIfInBounds_toArray, List.set_cons_zero, List.set_cons_succ]))
  first | fail | (refine np_take (i := 49) (v := ?_) rfl (by kernel_rfl) (by kernel_rfl) (by kernel_rfl) (by rfl) ?_ (by assumption) ?_; rotate_left 1; (· (intro w hSw; (try dsimp only at hSw); go_simp; all_goals with_reducible rfl)); (try simp only [Act.put, List.setIfInBounds_toArray, List.set_cons_zero, List.set_cons_succ]))
  first | fail | (refine np_step (i := 50) rfl (by kernel_rfl) (fun K hK => ?_); rw [if_pos (by rfl)]; go_simp; ((go_at_call 12; refine (o00 _).mono ?_; rintro e w7 ⟨rfl, hbc⟩; have hx2 := hHeld.2.on hbc)); (try go_wp2_with fail); refine hK.out _ _ ?_ (fun hHeld => ?_); (· (first | exact ⟨Kx.out _ hx2, hx2⟩ | exact ⟨Kx.out _ hxd, hxd⟩)); clear hK K; (try simp only [Act.put, List.setIfInBounds_toArray, List.set_cons_zero, List.set_cons_succ]))
  first | fail | (refine np_take (i := 51) (v := ?_) rfl (by kernel_rfl) (by kernel_rfl) (by kernel_rfl) (by rfl) ?_ (by assumption) ?_; rotate_left 1; (· (intro w hSw; (try dsimp only at hSw); go_simp; all_goals with_reducible rfl)); (try simp only [Act.put, List.setIfInBounds_toArray, List.set_cons_zero, List.set_cons_succ]))
  first | fail | (refine np_take (i := 52) (v := ?_) rfl (by kernel_rfl) (by kernel_rfl) (by kernel_rfl) (by rfl) ?_ (by assumption) ?_; rotate_left 1; (· (intro w hSw; (try dsimp only at hSw); go_simp; all_goals with_reducible rfl)); (try simp only [Act.put, List.setIfInBounds_toArray, List.set_cons_zero, List.set_cons_succ]))
  refine wpAnyH_done (by kernel_rfl) ?_ _
  refine NoPanic.normal ?_
  have hx3 := hHeld.2
  clear hHeld hxd Kx q1 q2 q3 hx
  go_wp2_with fail
  refine (exEffects hx3.row).mono ?_
  rintro e w8 ⟨vE, rfl, hI, hb⟩
  have hx4 := hx3.on hb
  clear hb
  have hxa9 : ExW w (w8.alloc (Obj.cells #[.int .i64 1, .int .i64 0] 3)) := hx4.on (below_alloc _ _)
  have hIa9 := hI.on (below_alloc w8 (Obj.cells #[.int .i64 1, .int .i64 0] 3))
  have A9 := exAgrees hxa9.row (some ⟨w8.heap.size, 0, none⟩) [1, 0] true 0 (IRow.new [1, 0] _ _ 2 2 rfl rfl _) (by decide) ag_1
  go_wp2_with fail
  refine A9.mono ?_
  rintro e w9 ⟨rfl, hb⟩
  have hxb9 := hxa9.on hb
  have hIb9 := hIa9.on hb
  clear hb A9 hxa9 hIa9 hx4 hI
  have hxa10 : ExW w (w9.alloc (Obj.cells #[.int .i64 2, .int .i64 0] 3)) := hxb9.on (below_alloc _ _)
  have hIa10 := hIb9.on (below_alloc w9 (Obj.cells #[.int .i64 2, .int .i64 0] 3))
  have A10 := exAgrees hxa10.row (some ⟨w9.heap.size, 0, none⟩) [2, 0] false 0 (IRow.new [2, 0] _ _ 2 2 rfl rfl _) (by decide) ag_2
  go_wp2_with fail
  refine A10.mono ?_
  rintro e w10 ⟨rfl, hb⟩
  have hxb10 := hxa10.on hb
  have hIb10 := hIa10.on hb
  clear hb A10 hxa10 hIa10 hxb9 hIb9
  have hxa11 : ExW w (w10.alloc (Obj.cells #[.int .i64 3] 3)) := hxb10.on (below_alloc _ _)
  have hIa11 := hIb10.on (below_alloc w10 (Obj.cells #[.int .i64 3] 3))
  have A11 := exAgrees hxa11.row (some ⟨w10.heap.size, 0, none⟩) [3] false 3 (IRow.new [3] _ _ 1 1 rfl rfl _) (by decide) ag_3
  go_wp2_with fail
  refine A11.mono ?_
  rintro e w11 ⟨rfl, hb⟩
  have hxb11 := hxa11.on hb
  have hIb11 := hIa11.on hb
  clear hb A11 hxa11 hIa11 hxb10 hIb10
  have hxa12 : ExW w (w11.alloc (Obj.cells #[.int .i64 1, .int .i64 1] 3)) := hxb11.on (below_alloc _ _)
  have hIa12 := hIb11.on (below_alloc w11 (Obj.cells #[.int .i64 1, .int .i64 1] 3))
  have A12 := exAgrees hxa12.row (some ⟨w11.heap.size, 0, none⟩) [1, 1] false 9 (IRow.new [1, 1] _ _ 2 2 rfl rfl _) (by decide) ag_4
  go_wp2_with fail
  refine A12.mono ?_
  rintro e w12 ⟨rfl, hb⟩
  have hxb12 := hxa12.on hb
  have hIb12 := hIa12.on hb
  clear hb A12 hxa12 hIa12 hxb11 hIb11
  go_wp2_with fail
  refine (exOf hxb12.row).mono ?_
  rintro e w13 ⟨pO, cO, rfl, hb⟩
  have hx13 := hxb12.on hb
  have hI13 := hIb12.on hb
  clear hb hxb12 hIb12
  go_wp2_with fail
  refine (exPending hx13.row).mono ?_
  rintro e w14 ⟨vP, rfl, hP, hb⟩
  have hx14 := hx13.on hb
  have hI14 := hI13.on hb
  clear hb hx13 hI13
  go_wp2_with fail
  refine (eqiT _ _ _ [2] (hP.on (below_alloc w14 (Obj.cells #[.int .i64 2] 3))) (IRow.new [2] _ _ 1 1 rfl rfl _) (by decide)).mono ?_
  rintro e w15 ⟨rfl, hb⟩
  have hx15 := (hx14.on (below_alloc w14 (Obj.cells #[.int .i64 2] 3))).on hb
  have hI15 := (hI14.on (below_alloc w14 (Obj.cells #[.int .i64 2] 3))).on hb
  clear hb hx14 hI14 hP
  go_wp2_with fail
  refine (eqiT _ _ _ [0, 1] (hI15.on (below_alloc w15 (Obj.cells #[.int .i64 0, .int .i64 1] 3))) (IRow.new [0, 1] _ _ 2 2 rfl rfl _) (by decide)).mono ?_
  rintro e w16 ⟨rfl, hb⟩
  have hx16 := (hx15.on (below_alloc w15 (Obj.cells #[.int .i64 0, .int .i64 1] 3))).on hb
  clear hb hx15 hI15
  go_wp2_with fail
  refine (exPrefix5 hx16.row).mono ?_
  rintro e w17 ⟨g, cg, rfl, c1, c2, c3, c4, hb⟩
  have hx17 := hx16.on hb
  clear hb hx16
  go_wp2_with fail
  refine (exPrefix4 hx17.row).mono ?_
  rintro e w18 ⟨g2, cg2, rfl, c5, c6, hb⟩
  have hx18 := hx17.on hb
  have c1 := cell_on c1 hb
  have c2 := cell_on c2 hb
  have c3 := cell_on c3 hb
  have c4 := cell_on c4 hb
  clear hb hx17
  go_wp2_with fail
  refine (exPrefixM hx18.row).mono ?_
  rintro e w19 ⟨rfl, hb⟩
  have hx19 := hx18.on hb
  have c1 := cell_on c1 hb
  have c2 := cell_on c2 hb
  have c3 := cell_on c3 hb
  have c4 := cell_on c4 hb
  have c5 := cell_on c5 hb
  have c6 := cell_on c6 hb
  clear hb hx18
  go_wp2
  go_returns
  exact ⟨rfl, hx19.bl⟩
end Go.Proofs.Ytjinnlmmlbmodaa
