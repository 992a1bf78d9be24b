/- changed: the example with one field of one call changed. -/
import Derived.Test.YtjinnlmmlbmodaaHrJ
namespace Go.Proofs.Ytjinnlmmlbmodaa
open Go.RowKit Go.Lib Go.Shelf
open KitI (iv IRow own_below infoI eqi_any)
attribute [local go_sem, local simp] callL_0 callL_1 callL_2 callL_3 callL_4 callL_5 callL_6 callL_7 callL_8 callL_9 callL_10 callL_11 callL_12 callL_13 callL_14 callL_15 callL_16 callL_17 callL_18 callL_19 callL_20 callL_21 callL_22 callL_23 callL_24 callL_25 callL_26 resL_0 resL_1 resL_2 resL_3 resL_4 resL_5 resL_6 resL_7 resL_8 resL_9 resL_10 resL_11 resL_12 callG_0 callG_1 callG_2 callG_3 callG_4 callG_5 callG_6 callG_7 callG_8 callG_9 callG_10 callG_11 callG_12 callG_13 callG_14 callG_15 callG_16 callG_17 callG_18 callG_19 callG_20 callG_21 callG_22 callG_23 callG_24 callG_25 callG_26 resG_0 resG_1 resG_2 resG_3 resG_4 resG_5 resG_6 resG_7 resG_8 resG_9 resG_10 resG_11 resG_12 callL_len resL_len
attribute [local go_sem ↓] loadCall_eq loadRes_eq
attribute [local go_sem] ld_new ld_first ld_second ldr_new st_new

theorem cat_blkK {W : World} {B : Nat} {cs : List CallV} {t : TypeId} (h : W.heap[B]? = some (.cells (callsL cs).toArray t (0, 0))) : CAt W B 0 cs := fun j u hj => by rw [Nat.zero_add, blk_cell h]; exact hj

set_option maxRecDepth 100000 in
theorem example_blk (w : World) : Calls Try.prog 15 #[] w fun e w' => e = .returned (.slice (some ⟨w.heap.size, 0, none⟩) 3 3) ∧ w'.heap[w.heap.size]? = some (.cells (callsL exL).toArray 34 (0, 0)) ∧ Below w.heap.size w w' := by
  go_enter Try.func15, Try.ntmps15
  go_wp2
  go_returns
  exact ⟨rfl, blk_new w (callsL exL) _, (Below.refl _ _).alloc (Nat.le_refl _) _⟩
/-- Calls without deltas, as the examples have them. -/
def CleanL (L : List CallV) : Prop := ∀ c ∈ L, c.Ok ∧ c.ps = [] ∧ c.dc = 0
theorem clean_ex : CleanL exL := by
  intro c hc
  simp only [exL, List.mem_cons, List.not_mem_nil, or_false] at hc
  rcases hc with rfl | rfl | rfl <;> exact ⟨by constructor <;> decide, rfl, rfl⟩
/-- The block of the calls. -/
structure EB (w : World) (L : List CallV) (W : World) : Prop where
  blk : W.heap[w.heap.size]? = some (.cells (callsL L).toArray 34 (0, 0))
  bl : Below w.heap.size w W
theorem EB.on {w : World} {L : List CallV} {W W' : World} (h : EB w L W) (hb : Below W.heap.size W W') : EB w L W' := ⟨blk_below h.blk hb (Array.getElem?_eq_some_iff.1 h.blk).1, h.bl.trans (hb.mono h.bl.size)⟩
theorem CleanL.raw {L : List CallV} (h : CleanL L) {W : World} : ∀ c ∈ L, c.Ok ∧ DRaw W c := fun c hc => ⟨(h c hc).1, .inl ⟨(h c hc).2.1, fun _ => (h c hc).2.2⟩⟩
theorem EB.arg {w : World} {L : List CallV} {W : World} (h : EB w L W) (hc : CleanL L) (hl : L.length = 3) : ArgRow W (some ⟨w.heap.size, 0, none⟩) L :=
  .inr ⟨_, 0, rfl, (Array.getElem?_eq_some_iff.1 h.blk).1, cat_blkK h.blk, by omega, hc.raw⟩
theorem EB.argd {w : World} {L : List CallV} {W : World} (h : EB w L W) (hc : CleanL L) (hl : L.length = 3) (i : Nat) : ArgRow W (some ⟨w.heap.size, i * 27, none⟩) (L.drop i) := by
  refine .inr ⟨_, i * 27, rfl, (Array.getElem?_eq_some_iff.1 h.blk).1, fun j u hj => ?_, by rw [List.length_drop]; omega, fun c hm => hc.raw c (List.mem_of_mem_drop hm)⟩
  have hcat := cat_blkK h.blk
  have hlt := (List.getElem?_eq_some_iff.1 hj).1
  rw [callsL_len, List.length_drop] at hlt
  have e : callsL L = callsL (L.take i) ++ callsL (L.drop i) := by
    unfold callsL
    rw [← List.flatMap_append, List.take_append_drop]
  have h1 := hcat (i * 27 + j) u (by
    rw [e, List.getElem?_append_right (by rw [callsL_len, List.length_take]; omega), callsL_len, List.length_take, Nat.min_eq_left (by omega), Nat.add_sub_cancel_left]
    exact hj)
  rwa [Nat.zero_add] at h1
theorem EB.argt {w : World} {L : List CallV} {W : World} (h : EB w L W) (hc : CleanL L) (hl : L.length = 3) (n : Nat) : ArgRow W (some ⟨w.heap.size, 0, none⟩) (L.take n) :=
  .inr ⟨_, 0, rfl, (Array.getElem?_eq_some_iff.1 h.blk).1, (cat_blkK h.blk).take n, by rw [List.length_take]; omega, fun c hm => hc.raw c (List.mem_of_mem_take hm)⟩
attribute [local irreducible] callL ex0 ex1 ex2
theorem set00 (n : Int) : (callsL exL).toArray.setIfInBounds 0 (.int .i64 n) = (callsL [{ ex0 with thread := n }, ex1, ex2]).toArray := by with_unfolding_all rfl
theorem clean00 (n : Int) (h1 : -9223372036854775808 ≤ n) (h2 : n ≤ 9223372036854775807) : CleanL [{ ex0 with thread := n }, ex1, ex2] := by
  intro c hc
  simp only [List.mem_cons, List.not_mem_nil, or_false] at hc
  have k0 := clean_ex ex0 (by simp [exL])
  have k1 := clean_ex ex1 (by simp [exL])
  have k2 := clean_ex ex2 (by simp [exL])
  rcases hc with rfl | rfl | rfl
  · exact ⟨⟨k0.1.i0, k0.1.i1, k0.1.a0, k0.1.a1, k0.1.s0, k0.1.s1, k0.1.t0, k0.1.t1, k0.1.r0, k0.1.r1⟩, k0.2.1, k0.2.2⟩
  · exact k1
  · exact k2
set_option linter.unusedSimpArgs false in
set_option maxRecDepth 100000 in
set_option maxHeartbeats 1000000 in
theorem chg00 (n : Int) (h1 : -9223372036854775808 ≤ n) (h2 : n ≤ 9223372036854775807) (w : World) : Calls Try.prog 16 #[.int .i64 0, .int .i64 0, .int .i64 n] w fun e w' => e = .returned (.bool true) ∧ Below w.heap.size w w' := by
  have hcl := clean00 n h1 h2
  have hse := set00 n
  have hl : [{ ex0 with thread := n }, ex1, ex2].length = 3 := rfl
  generalize [{ ex0 with thread := n }, ex1, ex2] = L at *
  have M1 : ∀ W, EB w L W → Calls Try.prog 18 #[.slice (some ⟨w.heap.size, 0, none⟩) 3 3, .int .i64 n, .int .i64 n] W fun e w' => e = .returned (.bool true) ∧ Below W.heap.size W w' := fun W h => by
    have := matches_any _ 3 L n n W (h.arg hcl hl)
    rwa [hl] at this
  have M2 : ∀ W, EB w L W → Calls Try.prog 18 #[.slice (some ⟨w.heap.size, 0, none⟩) 3 3, .int .i64 0, .int .i64 n] W fun e w' => e = .returned (.bool true) ∧ Below W.heap.size W w' := fun W h => by
    have := matches_any _ 3 (L.drop 0) 0 n W (h.argd hcl hl 0)
    rwa [List.length_drop, hl] at this
  have M3 : ∀ W po, EB w L W → OrdRow W po 3 [0, 2, 1] → Calls Try.prog 17 #[.slice po 3 3, .slice (some ⟨w.heap.size, 0, none⟩) 3 3] W fun e w' => e = .returned (.bool true) ∧ Below W.heap.size W w' := fun W po h ho => by
    have := agl_any _ po 3 3 L [0, 2, 1] W (by decide) (h.arg hcl hl) ho
    rwa [hl] at this
  have HSE := Lib.hid hse
  clear hcl hl hse
  go_enter Try.func16, Try.ntmps16
  go_wp2_with fail
  refine (example_blk w).mono ?_
  rintro e w1 ⟨rfl, hblk, hB⟩
  obtain ⟨u0, q⟩ : ∃ u, w1.cell? ⟨w.heap.size, 0, none⟩ = some u := ⟨_, (blk_cell hblk 0).trans (List.getElem?_eq_getElem (by rw [callsL_len]; decide))⟩
  have fz := blk_frozen hblk 0
  have hE : EB w L (w1.setCell ⟨w.heap.size, 0, none⟩ (.int .i64 n)) := ⟨by rw [setCell_eq_setRow _ _ _ _ _ _ _ hblk, setRow_heap _ _ _ _ _ _ hblk, HSE.out], hB.setCell (p := ⟨w.heap.size, 0, none⟩) (Nat.le_refl _) _⟩
  have HE := Lib.hid hE
  clear hblk hB hE
  go_wp2_with fail
  refine (M1 _ HE.out).mono ?_
  rintro e w2 ⟨rfl, hb⟩
  have hE2 := HE.out.on hb
  clear hb HE q fz
  go_wp2_with fail
  refine (M2 _ hE2).mono ?_
  rintro e w3 ⟨rfl, hb⟩
  have hE3 := hE2.on hb
  have hE4 := hE3.on (below_alloc w3 (.cells #[.int .i64 0, .int .i64 2, .int .i64 1] 3))
  clear hb hE2
  go_wp2_with fail
  refine (M3 _ _ hE4 (.inr ⟨_, 0, rfl, by decide, fun j u hj => ?_⟩)).mono ?_
  · rw [Nat.zero_add, World.cell?_alloc_new]
    match j, hj with
    | 0, h => cases h; rfl
    | 1, h => cases h; rfl
    | 2, h => cases h; rfl
    | j + 3, h => simp at h
  rintro e w5 ⟨rfl, hb⟩
  have hE5 := hE4.on hb
  clear hb
  have hbl := hE5.bl
  go_wp2
  go_returns
  exact ⟨rfl, hbl⟩
theorem set01 (n : Int) : (callsL exL).toArray.setIfInBounds 1 (.int .i64 n) = (callsL [{ ex0 with index := n }, ex1, ex2]).toArray := by with_unfolding_all rfl
theorem clean01 (n : Int) (h1 : -9223372036854775808 ≤ n) (h2 : n ≤ 9223372036854775807) : CleanL [{ ex0 with index := n }, ex1, ex2] := by
  intro c hc
  simp only [List.mem_cons, List.not_mem_nil, or_false] at hc
  have k0 := clean_ex ex0 (by simp [exL])
  have k1 := clean_ex ex1 (by simp [exL])
  have k2 := clean_ex ex2 (by simp [exL])
  rcases hc with rfl | rfl | rfl
  · exact ⟨⟨k0.1.i0, k0.1.i1, k0.1.a0, k0.1.a1, k0.1.s0, k0.1.s1, k0.1.t0, k0.1.t1, k0.1.r0, k0.1.r1⟩, k0.2.1, k0.2.2⟩
  · exact k1
  · exact k2
set_option linter.unusedSimpArgs false in
set_option maxRecDepth 100000 in
set_option maxHeartbeats 1000000 in
theorem chg01 (n : Int) (h1 : -9223372036854775808 ≤ n) (h2 : n ≤ 9223372036854775807) (w : World) : Calls Try.prog 16 #[.int .i64 0, .int .i64 1, .int .i64 n] w fun e w' => e = .returned (.bool true) ∧ Below w.heap.size w w' := by
  have hcl := clean01 n h1 h2
  have hse := set01 n
  have hl : [{ ex0 with index := n }, ex1, ex2].length = 3 := rfl
  generalize [{ ex0 with index := n }, ex1, ex2] = L at *
  have M1 : ∀ W, EB w L W → Calls Try.prog 18 #[.slice (some ⟨w.heap.size, 0, none⟩) 3 3, .int .i64 n, .int .i64 n] W fun e w' => e = .returned (.bool true) ∧ Below W.heap.size W w' := fun W h => by
    have := matches_any _ 3 L n n W (h.arg hcl hl)
    rwa [hl] at this
  have M2 : ∀ W, EB w L W → Calls Try.prog 18 #[.slice (some ⟨w.heap.size, 0, none⟩) 3 3, .int .i64 0, .int .i64 n] W fun e w' => e = .returned (.bool true) ∧ Below W.heap.size W w' := fun W h => by
    have := matches_any _ 3 (L.drop 0) 0 n W (h.argd hcl hl 0)
    rwa [List.length_drop, hl] at this
  have M3 : ∀ W po, EB w L W → OrdRow W po 3 [0, 2, 1] → Calls Try.prog 17 #[.slice po 3 3, .slice (some ⟨w.heap.size, 0, none⟩) 3 3] W fun e w' => e = .returned (.bool true) ∧ Below W.heap.size W w' := fun W po h ho => by
    have := agl_any _ po 3 3 L [0, 2, 1] W (by decide) (h.arg hcl hl) ho
    rwa [hl] at this
  have HSE := Lib.hid hse
  clear hcl hl hse
  go_enter Try.func16, Try.ntmps16
  go_wp2_with fail
  refine (example_blk w).mono ?_
  rintro e w1 ⟨rfl, hblk, hB⟩
  obtain ⟨u0, q⟩ : ∃ u, w1.cell? ⟨w.heap.size, 1, none⟩ = some u := ⟨_, (blk_cell hblk 1).trans (List.getElem?_eq_getElem (by rw [callsL_len]; decide))⟩
  have fz := blk_frozen hblk 1
  have hE : EB w L (w1.setCell ⟨w.heap.size, 1, none⟩ (.int .i64 n)) := ⟨by rw [setCell_eq_setRow _ _ _ _ _ _ _ hblk, setRow_heap _ _ _ _ _ _ hblk, HSE.out], hB.setCell (p := ⟨w.heap.size, 1, none⟩) (Nat.le_refl _) _⟩
  have HE := Lib.hid hE
  clear hblk hB hE
  go_wp2_with fail
  refine (M1 _ HE.out).mono ?_
  rintro e w2 ⟨rfl, hb⟩
  have hE2 := HE.out.on hb
  clear hb HE q fz
  go_wp2_with fail
  refine (M2 _ hE2).mono ?_
  rintro e w3 ⟨rfl, hb⟩
  have hE3 := hE2.on hb
  have hE4 := hE3.on (below_alloc w3 (.cells #[.int .i64 0, .int .i64 2, .int .i64 1] 3))
  clear hb hE2
  go_wp2_with fail
  refine (M3 _ _ hE4 (.inr ⟨_, 0, rfl, by decide, fun j u hj => ?_⟩)).mono ?_
  · rw [Nat.zero_add, World.cell?_alloc_new]
    match j, hj with
    | 0, h => cases h; rfl
    | 1, h => cases h; rfl
    | 2, h => cases h; rfl
    | j + 3, h => simp at h
  rintro e w5 ⟨rfl, hb⟩
  have hE5 := hE4.on hb
  clear hb
  have hbl := hE5.bl
  go_wp2
  go_returns
  exact ⟨rfl, hbl⟩
theorem set02 (n : Int) : (callsL exL).toArray.setIfInBounds 9 (.int .i64 n) = (callsL [{ ex0 with invoked := n }, ex1, ex2]).toArray := by with_unfolding_all rfl
theorem clean02 (n : Int) (h1 : -9223372036854775808 ≤ n) (h2 : n ≤ 9223372036854775807) : CleanL [{ ex0 with invoked := n }, ex1, ex2] := by
  intro c hc
  simp only [List.mem_cons, List.not_mem_nil, or_false] at hc
  have k0 := clean_ex ex0 (by simp [exL])
  have k1 := clean_ex ex1 (by simp [exL])
  have k2 := clean_ex ex2 (by simp [exL])
  rcases hc with rfl | rfl | rfl
  · exact ⟨⟨h1, h2, k0.1.a0, k0.1.a1, k0.1.s0, k0.1.s1, k0.1.t0, k0.1.t1, k0.1.r0, k0.1.r1⟩, k0.2.1, k0.2.2⟩
  · exact k1
  · exact k2
set_option linter.unusedSimpArgs false in
set_option maxRecDepth 100000 in
set_option maxHeartbeats 1000000 in
theorem chg02 (n : Int) (h1 : -9223372036854775808 ≤ n) (h2 : n ≤ 9223372036854775807) (w : World) : Calls Try.prog 16 #[.int .i64 0, .int .i64 2, .int .i64 n] w fun e w' => e = .returned (.bool true) ∧ Below w.heap.size w w' := by
  have hcl := clean02 n h1 h2
  have hse := set02 n
  have hl : [{ ex0 with invoked := n }, ex1, ex2].length = 3 := rfl
  generalize [{ ex0 with invoked := n }, ex1, ex2] = L at *
  have M1 : ∀ W, EB w L W → Calls Try.prog 18 #[.slice (some ⟨w.heap.size, 0, none⟩) 3 3, .int .i64 n, .int .i64 n] W fun e w' => e = .returned (.bool true) ∧ Below W.heap.size W w' := fun W h => by
    have := matches_any _ 3 L n n W (h.arg hcl hl)
    rwa [hl] at this
  have M2 : ∀ W, EB w L W → Calls Try.prog 18 #[.slice (some ⟨w.heap.size, 0, none⟩) 3 3, .int .i64 0, .int .i64 n] W fun e w' => e = .returned (.bool true) ∧ Below W.heap.size W w' := fun W h => by
    have := matches_any _ 3 (L.drop 0) 0 n W (h.argd hcl hl 0)
    rwa [List.length_drop, hl] at this
  have M3 : ∀ W po, EB w L W → OrdRow W po 3 [0, 2, 1] → Calls Try.prog 17 #[.slice po 3 3, .slice (some ⟨w.heap.size, 0, none⟩) 3 3] W fun e w' => e = .returned (.bool true) ∧ Below W.heap.size W w' := fun W po h ho => by
    have := agl_any _ po 3 3 L [0, 2, 1] W (by decide) (h.arg hcl hl) ho
    rwa [hl] at this
  have HSE := Lib.hid hse
  clear hcl hl hse
  go_enter Try.func16, Try.ntmps16
  go_wp2_with fail
  refine (example_blk w).mono ?_
  rintro e w1 ⟨rfl, hblk, hB⟩
  obtain ⟨u0, q⟩ : ∃ u, w1.cell? ⟨w.heap.size, 9, none⟩ = some u := ⟨_, (blk_cell hblk 9).trans (List.getElem?_eq_getElem (by rw [callsL_len]; decide))⟩
  have fz := blk_frozen hblk 9
  have hE : EB w L (w1.setCell ⟨w.heap.size, 9, none⟩ (.int .i64 n)) := ⟨by rw [setCell_eq_setRow _ _ _ _ _ _ _ hblk, setRow_heap _ _ _ _ _ _ hblk, HSE.out], hB.setCell (p := ⟨w.heap.size, 9, none⟩) (Nat.le_refl _) _⟩
  have HE := Lib.hid hE
  clear hblk hB hE
  go_wp2_with fail
  refine (M1 _ HE.out).mono ?_
  rintro e w2 ⟨rfl, hb⟩
  have hE2 := HE.out.on hb
  clear hb HE q fz
  go_wp2_with fail
  refine (M2 _ hE2).mono ?_
  rintro e w3 ⟨rfl, hb⟩
  have hE3 := hE2.on hb
  have hE4 := hE3.on (below_alloc w3 (.cells #[.int .i64 0, .int .i64 2, .int .i64 1] 3))
  clear hb hE2
  go_wp2_with fail
  refine (M3 _ _ hE4 (.inr ⟨_, 0, rfl, by decide, fun j u hj => ?_⟩)).mono ?_
  · rw [Nat.zero_add, World.cell?_alloc_new]
    match j, hj with
    | 0, h => cases h; rfl
    | 1, h => cases h; rfl
    | 2, h => cases h; rfl
    | j + 3, h => simp at h
  rintro e w5 ⟨rfl, hb⟩
  have hE5 := hE4.on hb
  clear hb
  have hbl := hE5.bl
  go_wp2
  go_returns
  exact ⟨rfl, hbl⟩
theorem set03 (n : Int) : (callsL exL).toArray.setIfInBounds 10 (.int .i64 n) = (callsL [{ ex0 with took := n }, ex1, ex2]).toArray := by with_unfolding_all rfl
theorem clean03 (n : Int) (h1 : -9223372036854775808 ≤ n) (h2 : n ≤ 9223372036854775807) : CleanL [{ ex0 with took := n }, ex1, ex2] := by
  intro c hc
  simp only [List.mem_cons, List.not_mem_nil, or_false] at hc
  have k0 := clean_ex ex0 (by simp [exL])
  have k1 := clean_ex ex1 (by simp [exL])
  have k2 := clean_ex ex2 (by simp [exL])
  rcases hc with rfl | rfl | rfl
  · exact ⟨⟨k0.1.i0, k0.1.i1, k0.1.a0, k0.1.a1, k0.1.s0, k0.1.s1, h1, h2, k0.1.r0, k0.1.r1⟩, k0.2.1, k0.2.2⟩
  · exact k1
  · exact k2
set_option linter.unusedSimpArgs false in
set_option maxRecDepth 100000 in
set_option maxHeartbeats 1000000 in
theorem chg03 (n : Int) (h1 : -9223372036854775808 ≤ n) (h2 : n ≤ 9223372036854775807) (w : World) : Calls Try.prog 16 #[.int .i64 0, .int .i64 3, .int .i64 n] w fun e w' => e = .returned (.bool true) ∧ Below w.heap.size w w' := by
  have hcl := clean03 n h1 h2
  have hse := set03 n
  have hl : [{ ex0 with took := n }, ex1, ex2].length = 3 := rfl
  generalize [{ ex0 with took := n }, ex1, ex2] = L at *
  have M1 : ∀ W, EB w L W → Calls Try.prog 18 #[.slice (some ⟨w.heap.size, 0, none⟩) 3 3, .int .i64 n, .int .i64 n] W fun e w' => e = .returned (.bool true) ∧ Below W.heap.size W w' := fun W h => by
    have := matches_any _ 3 L n n W (h.arg hcl hl)
    rwa [hl] at this
  have M2 : ∀ W, EB w L W → Calls Try.prog 18 #[.slice (some ⟨w.heap.size, 0, none⟩) 3 3, .int .i64 0, .int .i64 n] W fun e w' => e = .returned (.bool true) ∧ Below W.heap.size W w' := fun W h => by
    have := matches_any _ 3 (L.drop 0) 0 n W (h.argd hcl hl 0)
    rwa [List.length_drop, hl] at this
  have M3 : ∀ W po, EB w L W → OrdRow W po 3 [0, 2, 1] → Calls Try.prog 17 #[.slice po 3 3, .slice (some ⟨w.heap.size, 0, none⟩) 3 3] W fun e w' => e = .returned (.bool true) ∧ Below W.heap.size W w' := fun W po h ho => by
    have := agl_any _ po 3 3 L [0, 2, 1] W (by decide) (h.arg hcl hl) ho
    rwa [hl] at this
  have HSE := Lib.hid hse
  clear hcl hl hse
  go_enter Try.func16, Try.ntmps16
  go_wp2_with fail
  refine (example_blk w).mono ?_
  rintro e w1 ⟨rfl, hblk, hB⟩
  obtain ⟨u0, q⟩ : ∃ u, w1.cell? ⟨w.heap.size, 10, none⟩ = some u := ⟨_, (blk_cell hblk 10).trans (List.getElem?_eq_getElem (by rw [callsL_len]; decide))⟩
  have fz := blk_frozen hblk 10
  have hE : EB w L (w1.setCell ⟨w.heap.size, 10, none⟩ (.int .i64 n)) := ⟨by rw [setCell_eq_setRow _ _ _ _ _ _ _ hblk, setRow_heap _ _ _ _ _ _ hblk, HSE.out], hB.setCell (p := ⟨w.heap.size, 10, none⟩) (Nat.le_refl _) _⟩
  have HE := Lib.hid hE
  clear hblk hB hE
  go_wp2_with fail
  refine (M1 _ HE.out).mono ?_
  rintro e w2 ⟨rfl, hb⟩
  have hE2 := HE.out.on hb
  clear hb HE q fz
  go_wp2_with fail
  refine (M2 _ hE2).mono ?_
  rintro e w3 ⟨rfl, hb⟩
  have hE3 := hE2.on hb
  have hE4 := hE3.on (below_alloc w3 (.cells #[.int .i64 0, .int .i64 2, .int .i64 1] 3))
  clear hb hE2
  go_wp2_with fail
  refine (M3 _ _ hE4 (.inr ⟨_, 0, rfl, by decide, fun j u hj => ?_⟩)).mono ?_
  · rw [Nat.zero_add, World.cell?_alloc_new]
    match j, hj with
    | 0, h => cases h; rfl
    | 1, h => cases h; rfl
    | 2, h => cases h; rfl
    | j + 3, h => simp at h
  rintro e w5 ⟨rfl, hb⟩
  have hE5 := hE4.on hb
  clear hb
  have hbl := hE5.bl
  go_wp2
  go_returns
  exact ⟨rfl, hbl⟩
theorem set04 (n : Int) : (callsL exL).toArray.setIfInBounds 11 (.int .i64 n) = (callsL [{ ex0 with rank := n }, ex1, ex2]).toArray := by with_unfolding_all rfl
theorem clean04 (n : Int) (h1 : -9223372036854775808 ≤ n) (h2 : n ≤ 9223372036854775807) : CleanL [{ ex0 with rank := n }, ex1, ex2] := by
  intro c hc
  simp only [List.mem_cons, List.not_mem_nil, or_false] at hc
  have k0 := clean_ex ex0 (by simp [exL])
  have k1 := clean_ex ex1 (by simp [exL])
  have k2 := clean_ex ex2 (by simp [exL])
  rcases hc with rfl | rfl | rfl
  · exact ⟨⟨k0.1.i0, k0.1.i1, k0.1.a0, k0.1.a1, k0.1.s0, k0.1.s1, k0.1.t0, k0.1.t1, h1, h2⟩, k0.2.1, k0.2.2⟩
  · exact k1
  · exact k2
set_option linter.unusedSimpArgs false in
set_option maxRecDepth 100000 in
set_option maxHeartbeats 1000000 in
theorem chg04 (n : Int) (h1 : -9223372036854775808 ≤ n) (h2 : n ≤ 9223372036854775807) (w : World) : Calls Try.prog 16 #[.int .i64 0, .int .i64 4, .int .i64 n] w fun e w' => e = .returned (.bool true) ∧ Below w.heap.size w w' := by
  have hcl := clean04 n h1 h2
  have hse := set04 n
  have hl : [{ ex0 with rank := n }, ex1, ex2].length = 3 := rfl
  generalize [{ ex0 with rank := n }, ex1, ex2] = L at *
  have M1 : ∀ W, EB w L W → Calls Try.prog 18 #[.slice (some ⟨w.heap.size, 0, none⟩) 3 3, .int .i64 n, .int .i64 n] W fun e w' => e = .returned (.bool true) ∧ Below W.heap.size W w' := fun W h => by
    have := matches_any _ 3 L n n W (h.arg hcl hl)
    rwa [hl] at this
  have M2 : ∀ W, EB w L W → Calls Try.prog 18 #[.slice (some ⟨w.heap.size, 0, none⟩) 3 3, .int .i64 0, .int .i64 n] W fun e w' => e = .returned (.bool true) ∧ Below W.heap.size W w' := fun W h => by
    have := matches_any _ 3 (L.drop 0) 0 n W (h.argd hcl hl 0)
    rwa [List.length_drop, hl] at this
  have M3 : ∀ W po, EB w L W → OrdRow W po 3 [0, 2, 1] → Calls Try.prog 17 #[.slice po 3 3, .slice (some ⟨w.heap.size, 0, none⟩) 3 3] W fun e w' => e = .returned (.bool true) ∧ Below W.heap.size W w' := fun W po h ho => by
    have := agl_any _ po 3 3 L [0, 2, 1] W (by decide) (h.arg hcl hl) ho
    rwa [hl] at this
  have HSE := Lib.hid hse
  clear hcl hl hse
  go_enter Try.func16, Try.ntmps16
  go_wp2_with fail
  refine (example_blk w).mono ?_
  rintro e w1 ⟨rfl, hblk, hB⟩
  obtain ⟨u0, q⟩ : ∃ u, w1.cell? ⟨w.heap.size, 11, none⟩ = some u := ⟨_, (blk_cell hblk 11).trans (List.getElem?_eq_getElem (by rw [callsL_len]; decide))⟩
  have fz := blk_frozen hblk 11
  have hE : EB w L (w1.setCell ⟨w.heap.size, 11, none⟩ (.int .i64 n)) := ⟨by rw [setCell_eq_setRow _ _ _ _ _ _ _ hblk, setRow_heap _ _ _ _ _ _ hblk, HSE.out], hB.setCell (p := ⟨w.heap.size, 11, none⟩) (Nat.le_refl _) _⟩
  have HE := Lib.hid hE
  clear hblk hB hE
  go_wp2_with fail
  refine (M1 _ HE.out).mono ?_
  rintro e w2 ⟨rfl, hb⟩
  have hE2 := HE.out.on hb
  clear hb HE q fz
  go_wp2_with fail
  refine (M2 _ hE2).mono ?_
  rintro e w3 ⟨rfl, hb⟩
  have hE3 := hE2.on hb
  have hE4 := hE3.on (below_alloc w3 (.cells #[.int .i64 0, .int .i64 2, .int .i64 1] 3))
  clear hb hE2
  go_wp2_with fail
  refine (M3 _ _ hE4 (.inr ⟨_, 0, rfl, by decide, fun j u hj => ?_⟩)).mono ?_
  · rw [Nat.zero_add, World.cell?_alloc_new]
    match j, hj with
    | 0, h => cases h; rfl
    | 1, h => cases h; rfl
    | 2, h => cases h; rfl
    | j + 3, h => simp at h
  rintro e w5 ⟨rfl, hb⟩
  have hE5 := hE4.on hb
  clear hb
  have hbl := hE5.bl
  go_wp2
  go_returns
  exact ⟨rfl, hbl⟩
theorem set05 (n : Int) : (callsL exL).toArray.setIfInBounds 12 (.int .i64 n) = (callsL [{ ex0 with answered := n }, ex1, ex2]).toArray := by with_unfolding_all rfl
theorem clean05 (n : Int) (h1 : -9223372036854775808 ≤ n) (h2 : n ≤ 9223372036854775807) : CleanL [{ ex0 with answered := n }, ex1, ex2] := by
  intro c hc
  simp only [List.mem_cons, List.not_mem_nil, or_false] at hc
  have k0 := clean_ex ex0 (by simp [exL])
  have k1 := clean_ex ex1 (by simp [exL])
  have k2 := clean_ex ex2 (by simp [exL])
  rcases hc with rfl | rfl | rfl
  · exact ⟨⟨k0.1.i0, k0.1.i1, h1, h2, k0.1.s0, k0.1.s1, k0.1.t0, k0.1.t1, k0.1.r0, k0.1.r1⟩, k0.2.1, k0.2.2⟩
  · exact k1
  · exact k2
set_option linter.unusedSimpArgs false in
set_option maxRecDepth 100000 in
set_option maxHeartbeats 1000000 in
theorem chg05 (n : Int) (h1 : -9223372036854775808 ≤ n) (h2 : n ≤ 9223372036854775807) (w : World) : Calls Try.prog 16 #[.int .i64 0, .int .i64 5, .int .i64 n] w fun e w' => e = .returned (.bool true) ∧ Below w.heap.size w w' := by
  have hcl := clean05 n h1 h2
  have hse := set05 n
  have hl : [{ ex0 with answered := n }, ex1, ex2].length = 3 := rfl
  generalize [{ ex0 with answered := n }, ex1, ex2] = L at *
  have M1 : ∀ W, EB w L W → Calls Try.prog 18 #[.slice (some ⟨w.heap.size, 0, none⟩) 3 3, .int .i64 n, .int .i64 n] W fun e w' => e = .returned (.bool true) ∧ Below W.heap.size W w' := fun W h => by
    have := matches_any _ 3 L n n W (h.arg hcl hl)
    rwa [hl] at this
  have M2 : ∀ W, EB w L W → Calls Try.prog 18 #[.slice (some ⟨w.heap.size, 0, none⟩) 3 3, .int .i64 0, .int .i64 n] W fun e w' => e = .returned (.bool true) ∧ Below W.heap.size W w' := fun W h => by
    have := matches_any _ 3 (L.drop 0) 0 n W (h.argd hcl hl 0)
    rwa [List.length_drop, hl] at this
  have M3 : ∀ W po, EB w L W → OrdRow W po 3 [0, 2, 1] → Calls Try.prog 17 #[.slice po 3 3, .slice (some ⟨w.heap.size, 0, none⟩) 3 3] W fun e w' => e = .returned (.bool true) ∧ Below W.heap.size W w' := fun W po h ho => by
    have := agl_any _ po 3 3 L [0, 2, 1] W (by decide) (h.arg hcl hl) ho
    rwa [hl] at this
  have HSE := Lib.hid hse
  clear hcl hl hse
  go_enter Try.func16, Try.ntmps16
  go_wp2_with fail
  refine (example_blk w).mono ?_
  rintro e w1 ⟨rfl, hblk, hB⟩
  obtain ⟨u0, q⟩ : ∃ u, w1.cell? ⟨w.heap.size, 12, none⟩ = some u := ⟨_, (blk_cell hblk 12).trans (List.getElem?_eq_getElem (by rw [callsL_len]; decide))⟩
  have fz := blk_frozen hblk 12
  have hE : EB w L (w1.setCell ⟨w.heap.size, 12, none⟩ (.int .i64 n)) := ⟨by rw [setCell_eq_setRow _ _ _ _ _ _ _ hblk, setRow_heap _ _ _ _ _ _ hblk, HSE.out], hB.setCell (p := ⟨w.heap.size, 12, none⟩) (Nat.le_refl _) _⟩
  have HE := Lib.hid hE
  clear hblk hB hE
  go_wp2_with fail
  refine (M1 _ HE.out).mono ?_
  rintro e w2 ⟨rfl, hb⟩
  have hE2 := HE.out.on hb
  clear hb HE q fz
  go_wp2_with fail
  refine (M2 _ hE2).mono ?_
  rintro e w3 ⟨rfl, hb⟩
  have hE3 := hE2.on hb
  have hE4 := hE3.on (below_alloc w3 (.cells #[.int .i64 0, .int .i64 2, .int .i64 1] 3))
  clear hb hE2
  go_wp2_with fail
  refine (M3 _ _ hE4 (.inr ⟨_, 0, rfl, by decide, fun j u hj => ?_⟩)).mono ?_
  · rw [Nat.zero_add, World.cell?_alloc_new]
    match j, hj with
    | 0, h => cases h; rfl
    | 1, h => cases h; rfl
    | 2, h => cases h; rfl
    | j + 3, h => simp at h
  rintro e w5 ⟨rfl, hb⟩
  have hE5 := hE4.on hb
  clear hb
  have hbl := hE5.bl
  go_wp2
  go_returns
  exact ⟨rfl, hbl⟩
theorem set06 (n : Int) : (callsL exL).toArray.setIfInBounds 13 (.int .i64 n) = (callsL [{ ex0 with steps := n }, ex1, ex2]).toArray := by with_unfolding_all rfl
theorem clean06 (n : Int) (h1 : -9223372036854775808 ≤ n) (h2 : n ≤ 9223372036854775807) : CleanL [{ ex0 with steps := n }, ex1, ex2] := by
  intro c hc
  simp only [List.mem_cons, List.not_mem_nil, or_false] at hc
  have k0 := clean_ex ex0 (by simp [exL])
  have k1 := clean_ex ex1 (by simp [exL])
  have k2 := clean_ex ex2 (by simp [exL])
  rcases hc with rfl | rfl | rfl
  · exact ⟨⟨k0.1.i0, k0.1.i1, k0.1.a0, k0.1.a1, h1, h2, k0.1.t0, k0.1.t1, k0.1.r0, k0.1.r1⟩, k0.2.1, k0.2.2⟩
  · exact k1
  · exact k2
set_option linter.unusedSimpArgs false in
set_option maxRecDepth 100000 in
set_option maxHeartbeats 1000000 in
theorem chg06 (n : Int) (h1 : -9223372036854775808 ≤ n) (h2 : n ≤ 9223372036854775807) (w : World) : Calls Try.prog 16 #[.int .i64 0, .int .i64 6, .int .i64 n] w fun e w' => e = .returned (.bool true) ∧ Below w.heap.size w w' := by
  have hcl := clean06 n h1 h2
  have hse := set06 n
  have hl : [{ ex0 with steps := n }, ex1, ex2].length = 3 := rfl
  generalize [{ ex0 with steps := n }, ex1, ex2] = L at *
  have M1 : ∀ W, EB w L W → Calls Try.prog 18 #[.slice (some ⟨w.heap.size, 0, none⟩) 3 3, .int .i64 n, .int .i64 n] W fun e w' => e = .returned (.bool true) ∧ Below W.heap.size W w' := fun W h => by
    have := matches_any _ 3 L n n W (h.arg hcl hl)
    rwa [hl] at this
  have M2 : ∀ W, EB w L W → Calls Try.prog 18 #[.slice (some ⟨w.heap.size, 0, none⟩) 3 3, .int .i64 0, .int .i64 n] W fun e w' => e = .returned (.bool true) ∧ Below W.heap.size W w' := fun W h => by
    have := matches_any _ 3 (L.drop 0) 0 n W (h.argd hcl hl 0)
    rwa [List.length_drop, hl] at this
  have M3 : ∀ W po, EB w L W → OrdRow W po 3 [0, 2, 1] → Calls Try.prog 17 #[.slice po 3 3, .slice (some ⟨w.heap.size, 0, none⟩) 3 3] W fun e w' => e = .returned (.bool true) ∧ Below W.heap.size W w' := fun W po h ho => by
    have := agl_any _ po 3 3 L [0, 2, 1] W (by decide) (h.arg hcl hl) ho
    rwa [hl] at this
  have HSE := Lib.hid hse
  clear hcl hl hse
  go_enter Try.func16, Try.ntmps16
  go_wp2_with fail
  refine (example_blk w).mono ?_
  rintro e w1 ⟨rfl, hblk, hB⟩
  obtain ⟨u0, q⟩ : ∃ u, w1.cell? ⟨w.heap.size, 13, none⟩ = some u := ⟨_, (blk_cell hblk 13).trans (List.getElem?_eq_getElem (by rw [callsL_len]; decide))⟩
  have fz := blk_frozen hblk 13
  have hE : EB w L (w1.setCell ⟨w.heap.size, 13, none⟩ (.int .i64 n)) := ⟨by rw [setCell_eq_setRow _ _ _ _ _ _ _ hblk, setRow_heap _ _ _ _ _ _ hblk, HSE.out], hB.setCell (p := ⟨w.heap.size, 13, none⟩) (Nat.le_refl _) _⟩
  have HE := Lib.hid hE
  clear hblk hB hE
  go_wp2_with fail
  refine (M1 _ HE.out).mono ?_
  rintro e w2 ⟨rfl, hb⟩
  have hE2 := HE.out.on hb
  clear hb HE q fz
  go_wp2_with fail
  refine (M2 _ hE2).mono ?_
  rintro e w3 ⟨rfl, hb⟩
  have hE3 := hE2.on hb
  have hE4 := hE3.on (below_alloc w3 (.cells #[.int .i64 0, .int .i64 2, .int .i64 1] 3))
  clear hb hE2
  go_wp2_with fail
  refine (M3 _ _ hE4 (.inr ⟨_, 0, rfl, by decide, fun j u hj => ?_⟩)).mono ?_
  · rw [Nat.zero_add, World.cell?_alloc_new]
    match j, hj with
    | 0, h => cases h; rfl
    | 1, h => cases h; rfl
    | 2, h => cases h; rfl
    | j + 3, h => simp at h
  rintro e w5 ⟨rfl, hb⟩
  have hE5 := hE4.on hb
  clear hb
  have hbl := hE5.bl
  go_wp2
  go_returns
  exact ⟨rfl, hbl⟩
theorem set07 (n : Int) : (callsL exL).toArray.setIfInBounds 14 (.int .i64 n) = (callsL [{ ex0 with err := n }, ex1, ex2]).toArray := by with_unfolding_all rfl
theorem clean07 (n : Int) (h1 : -9223372036854775808 ≤ n) (h2 : n ≤ 9223372036854775807) : CleanL [{ ex0 with err := n }, ex1, ex2] := by
  intro c hc
  simp only [List.mem_cons, List.not_mem_nil, or_false] at hc
  have k0 := clean_ex ex0 (by simp [exL])
  have k1 := clean_ex ex1 (by simp [exL])
  have k2 := clean_ex ex2 (by simp [exL])
  rcases hc with rfl | rfl | rfl
  · exact ⟨⟨k0.1.i0, k0.1.i1, k0.1.a0, k0.1.a1, k0.1.s0, k0.1.s1, k0.1.t0, k0.1.t1, k0.1.r0, k0.1.r1⟩, k0.2.1, k0.2.2⟩
  · exact k1
  · exact k2
set_option linter.unusedSimpArgs false in
set_option maxRecDepth 100000 in
set_option maxHeartbeats 1000000 in
theorem chg07 (n : Int) (h1 : -9223372036854775808 ≤ n) (h2 : n ≤ 9223372036854775807) (w : World) : Calls Try.prog 16 #[.int .i64 0, .int .i64 7, .int .i64 n] w fun e w' => e = .returned (.bool true) ∧ Below w.heap.size w w' := by
  have hcl := clean07 n h1 h2
  have hse := set07 n
  have hl : [{ ex0 with err := n }, ex1, ex2].length = 3 := rfl
  generalize [{ ex0 with err := n }, ex1, ex2] = L at *
  have M1 : ∀ W, EB w L W → Calls Try.prog 18 #[.slice (some ⟨w.heap.size, 0, none⟩) 3 3, .int .i64 n, .int .i64 n] W fun e w' => e = .returned (.bool true) ∧ Below W.heap.size W w' := fun W h => by
    have := matches_any _ 3 L n n W (h.arg hcl hl)
    rwa [hl] at this
  have M2 : ∀ W, EB w L W → Calls Try.prog 18 #[.slice (some ⟨w.heap.size, 0, none⟩) 3 3, .int .i64 0, .int .i64 n] W fun e w' => e = .returned (.bool true) ∧ Below W.heap.size W w' := fun W h => by
    have := matches_any _ 3 (L.drop 0) 0 n W (h.argd hcl hl 0)
    rwa [List.length_drop, hl] at this
  have M3 : ∀ W po, EB w L W → OrdRow W po 3 [0, 2, 1] → Calls Try.prog 17 #[.slice po 3 3, .slice (some ⟨w.heap.size, 0, none⟩) 3 3] W fun e w' => e = .returned (.bool true) ∧ Below W.heap.size W w' := fun W po h ho => by
    have := agl_any _ po 3 3 L [0, 2, 1] W (by decide) (h.arg hcl hl) ho
    rwa [hl] at this
  have HSE := Lib.hid hse
  clear hcl hl hse
  go_enter Try.func16, Try.ntmps16
  go_wp2_with fail
  refine (example_blk w).mono ?_
  rintro e w1 ⟨rfl, hblk, hB⟩
  obtain ⟨u0, q⟩ : ∃ u, w1.cell? ⟨w.heap.size, 14, none⟩ = some u := ⟨_, (blk_cell hblk 14).trans (List.getElem?_eq_getElem (by rw [callsL_len]; decide))⟩
  have fz := blk_frozen hblk 14
  have hE : EB w L (w1.setCell ⟨w.heap.size, 14, none⟩ (.int .i64 n)) := ⟨by rw [setCell_eq_setRow _ _ _ _ _ _ _ hblk, setRow_heap _ _ _ _ _ _ hblk, HSE.out], hB.setCell (p := ⟨w.heap.size, 14, none⟩) (Nat.le_refl _) _⟩
  have HE := Lib.hid hE
  clear hblk hB hE
  go_wp2_with fail
  refine (M1 _ HE.out).mono ?_
  rintro e w2 ⟨rfl, hb⟩
  have hE2 := HE.out.on hb
  clear hb HE q fz
  go_wp2_with fail
  refine (M2 _ hE2).mono ?_
  rintro e w3 ⟨rfl, hb⟩
  have hE3 := hE2.on hb
  have hE4 := hE3.on (below_alloc w3 (.cells #[.int .i64 0, .int .i64 2, .int .i64 1] 3))
  clear hb hE2
  go_wp2_with fail
  refine (M3 _ _ hE4 (.inr ⟨_, 0, rfl, by decide, fun j u hj => ?_⟩)).mono ?_
  · rw [Nat.zero_add, World.cell?_alloc_new]
    match j, hj with
    | 0, h => cases h; rfl
    | 1, h => cases h; rfl
    | 2, h => cases h; rfl
    | j + 3, h => simp at h
  rintro e w5 ⟨rfl, hb⟩
  have hE5 := hE4.on hb
  clear hb
  have hbl := hE5.bl
  go_wp2
  go_returns
  exact ⟨rfl, hbl⟩
theorem set10 (n : Int) : (callsL exL).toArray.setIfInBounds 27 (.int .i64 n) = (callsL [ex0, { ex1 with thread := n }, ex2]).toArray := by with_unfolding_all rfl
theorem clean10 (n : Int) (h1 : -9223372036854775808 ≤ n) (h2 : n ≤ 9223372036854775807) : CleanL [ex0, { ex1 with thread := n }, ex2] := by
  intro c hc
  simp only [List.mem_cons, List.not_mem_nil, or_false] at hc
  have k0 := clean_ex ex0 (by simp [exL])
  have k1 := clean_ex ex1 (by simp [exL])
  have k2 := clean_ex ex2 (by simp [exL])
  rcases hc with rfl | rfl | rfl
  · exact k0
  · exact ⟨⟨k1.1.i0, k1.1.i1, k1.1.a0, k1.1.a1, k1.1.s0, k1.1.s1, k1.1.t0, k1.1.t1, k1.1.r0, k1.1.r1⟩, k1.2.1, k1.2.2⟩
  · exact k2
set_option linter.unusedSimpArgs false in
set_option maxRecDepth 100000 in
set_option maxHeartbeats 1000000 in
theorem chg10 (n : Int) (h1 : -9223372036854775808 ≤ n) (h2 : n ≤ 9223372036854775807) (w : World) : Calls Try.prog 16 #[.int .i64 1, .int .i64 0, .int .i64 n] w fun e w' => e = .returned (.bool true) ∧ Below w.heap.size w w' := by
  have hcl := clean10 n h1 h2
  have hse := set10 n
  have hl : [ex0, { ex1 with thread := n }, ex2].length = 3 := rfl
  generalize [ex0, { ex1 with thread := n }, ex2] = L at *
  have M1 : ∀ W, EB w L W → Calls Try.prog 18 #[.slice (some ⟨w.heap.size, 0, none⟩) 3 3, .int .i64 n, .int .i64 n] W fun e w' => e = .returned (.bool true) ∧ Below W.heap.size W w' := fun W h => by
    have := matches_any _ 3 L n n W (h.arg hcl hl)
    rwa [hl] at this
  have M2 : ∀ W, EB w L W → Calls Try.prog 18 #[.slice (some ⟨w.heap.size, 27, none⟩) 2 2, .int .i64 0, .int .i64 n] W fun e w' => e = .returned (.bool true) ∧ Below W.heap.size W w' := fun W h => by
    have := matches_any _ 2 (L.drop 1) 0 n W (h.argd hcl hl 1)
    rwa [List.length_drop, hl] at this
  have M3 : ∀ W po, EB w L W → OrdRow W po 3 [0, 2, 1] → Calls Try.prog 17 #[.slice po 3 3, .slice (some ⟨w.heap.size, 0, none⟩) 3 3] W fun e w' => e = .returned (.bool true) ∧ Below W.heap.size W w' := fun W po h ho => by
    have := agl_any _ po 3 3 L [0, 2, 1] W (by decide) (h.arg hcl hl) ho
    rwa [hl] at this
  have HSE := Lib.hid hse
  clear hcl hl hse
  go_enter Try.func16, Try.ntmps16
  go_wp2_with fail
  refine (example_blk w).mono ?_
  rintro e w1 ⟨rfl, hblk, hB⟩
  obtain ⟨u0, q⟩ : ∃ u, w1.cell? ⟨w.heap.size, 27, none⟩ = some u := ⟨_, (blk_cell hblk 27).trans (List.getElem?_eq_getElem (by rw [callsL_len]; decide))⟩
  have fz := blk_frozen hblk 27
  have hE : EB w L (w1.setCell ⟨w.heap.size, 27, none⟩ (.int .i64 n)) := ⟨by rw [setCell_eq_setRow _ _ _ _ _ _ _ hblk, setRow_heap _ _ _ _ _ _ hblk, HSE.out], hB.setCell (p := ⟨w.heap.size, 27, none⟩) (Nat.le_refl _) _⟩
  have HE := Lib.hid hE
  clear hblk hB hE
  go_wp2_with fail
  refine (M1 _ HE.out).mono ?_
  rintro e w2 ⟨rfl, hb⟩
  have hE2 := HE.out.on hb
  clear hb HE q fz
  go_wp2_with fail
  refine (M2 _ hE2).mono ?_
  rintro e w3 ⟨rfl, hb⟩
  have hE3 := hE2.on hb
  have hE4 := hE3.on (below_alloc w3 (.cells #[.int .i64 0, .int .i64 2, .int .i64 1] 3))
  clear hb hE2
  go_wp2_with fail
  refine (M3 _ _ hE4 (.inr ⟨_, 0, rfl, by decide, fun j u hj => ?_⟩)).mono ?_
  · rw [Nat.zero_add, World.cell?_alloc_new]
    match j, hj with
    | 0, h => cases h; rfl
    | 1, h => cases h; rfl
    | 2, h => cases h; rfl
    | j + 3, h => simp at h
  rintro e w5 ⟨rfl, hb⟩
  have hE5 := hE4.on hb
  clear hb
  have hbl := hE5.bl
  go_wp2
  go_returns
  exact ⟨rfl, hbl⟩
theorem set11 (n : Int) : (callsL exL).toArray.setIfInBounds 28 (.int .i64 n) = (callsL [ex0, { ex1 with index := n }, ex2]).toArray := by with_unfolding_all rfl
theorem clean11 (n : Int) (h1 : -9223372036854775808 ≤ n) (h2 : n ≤ 9223372036854775807) : CleanL [ex0, { ex1 with index := n }, ex2] := by
  intro c hc
  simp only [List.mem_cons, List.not_mem_nil, or_false] at hc
  have k0 := clean_ex ex0 (by simp [exL])
  have k1 := clean_ex ex1 (by simp [exL])
  have k2 := clean_ex ex2 (by simp [exL])
  rcases hc with rfl | rfl | rfl
  · exact k0
  · exact ⟨⟨k1.1.i0, k1.1.i1, k1.1.a0, k1.1.a1, k1.1.s0, k1.1.s1, k1.1.t0, k1.1.t1, k1.1.r0, k1.1.r1⟩, k1.2.1, k1.2.2⟩
  · exact k2
set_option linter.unusedSimpArgs false in
set_option maxRecDepth 100000 in
set_option maxHeartbeats 1000000 in
theorem chg11 (n : Int) (h1 : -9223372036854775808 ≤ n) (h2 : n ≤ 9223372036854775807) (w : World) : Calls Try.prog 16 #[.int .i64 1, .int .i64 1, .int .i64 n] w fun e w' => e = .returned (.bool true) ∧ Below w.heap.size w w' := by
  have hcl := clean11 n h1 h2
  have hse := set11 n
  have hl : [ex0, { ex1 with index := n }, ex2].length = 3 := rfl
  generalize [ex0, { ex1 with index := n }, ex2] = L at *
  have M1 : ∀ W, EB w L W → Calls Try.prog 18 #[.slice (some ⟨w.heap.size, 0, none⟩) 3 3, .int .i64 n, .int .i64 n] W fun e w' => e = .returned (.bool true) ∧ Below W.heap.size W w' := fun W h => by
    have := matches_any _ 3 L n n W (h.arg hcl hl)
    rwa [hl] at this
  have M2 : ∀ W, EB w L W → Calls Try.prog 18 #[.slice (some ⟨w.heap.size, 27, none⟩) 2 2, .int .i64 0, .int .i64 n] W fun e w' => e = .returned (.bool true) ∧ Below W.heap.size W w' := fun W h => by
    have := matches_any _ 2 (L.drop 1) 0 n W (h.argd hcl hl 1)
    rwa [List.length_drop, hl] at this
  have M3 : ∀ W po, EB w L W → OrdRow W po 3 [0, 2, 1] → Calls Try.prog 17 #[.slice po 3 3, .slice (some ⟨w.heap.size, 0, none⟩) 3 3] W fun e w' => e = .returned (.bool true) ∧ Below W.heap.size W w' := fun W po h ho => by
    have := agl_any _ po 3 3 L [0, 2, 1] W (by decide) (h.arg hcl hl) ho
    rwa [hl] at this
  have HSE := Lib.hid hse
  clear hcl hl hse
  go_enter Try.func16, Try.ntmps16
  go_wp2_with fail
  refine (example_blk w).mono ?_
  rintro e w1 ⟨rfl, hblk, hB⟩
  obtain ⟨u0, q⟩ : ∃ u, w1.cell? ⟨w.heap.size, 28, none⟩ = some u := ⟨_, (blk_cell hblk 28).trans (List.getElem?_eq_getElem (by rw [callsL_len]; decide))⟩
  have fz := blk_frozen hblk 28
  have hE : EB w L (w1.setCell ⟨w.heap.size, 28, none⟩ (.int .i64 n)) := ⟨by rw [setCell_eq_setRow _ _ _ _ _ _ _ hblk, setRow_heap _ _ _ _ _ _ hblk, HSE.out], hB.setCell (p := ⟨w.heap.size, 28, none⟩) (Nat.le_refl _) _⟩
  have HE := Lib.hid hE
  clear hblk hB hE
  go_wp2_with fail
  refine (M1 _ HE.out).mono ?_
  rintro e w2 ⟨rfl, hb⟩
  have hE2 := HE.out.on hb
  clear hb HE q fz
  go_wp2_with fail
  refine (M2 _ hE2).mono ?_
  rintro e w3 ⟨rfl, hb⟩
  have hE3 := hE2.on hb
  have hE4 := hE3.on (below_alloc w3 (.cells #[.int .i64 0, .int .i64 2, .int .i64 1] 3))
  clear hb hE2
  go_wp2_with fail
  refine (M3 _ _ hE4 (.inr ⟨_, 0, rfl, by decide, fun j u hj => ?_⟩)).mono ?_
  · rw [Nat.zero_add, World.cell?_alloc_new]
    match j, hj with
    | 0, h => cases h; rfl
    | 1, h => cases h; rfl
    | 2, h => cases h; rfl
    | j + 3, h => simp at h
  rintro e w5 ⟨rfl, hb⟩
  have hE5 := hE4.on hb
  clear hb
  have hbl := hE5.bl
  go_wp2
  go_returns
  exact ⟨rfl, hbl⟩
theorem set12 (n : Int) : (callsL exL).toArray.setIfInBounds 36 (.int .i64 n) = (callsL [ex0, { ex1 with invoked := n }, ex2]).toArray := by with_unfolding_all rfl
theorem clean12 (n : Int) (h1 : -9223372036854775808 ≤ n) (h2 : n ≤ 9223372036854775807) : CleanL [ex0, { ex1 with invoked := n }, ex2] := by
  intro c hc
  simp only [List.mem_cons, List.not_mem_nil, or_false] at hc
  have k0 := clean_ex ex0 (by simp [exL])
  have k1 := clean_ex ex1 (by simp [exL])
  have k2 := clean_ex ex2 (by simp [exL])
  rcases hc with rfl | rfl | rfl
  · exact k0
  · exact ⟨⟨h1, h2, k1.1.a0, k1.1.a1, k1.1.s0, k1.1.s1, k1.1.t0, k1.1.t1, k1.1.r0, k1.1.r1⟩, k1.2.1, k1.2.2⟩
  · exact k2
set_option linter.unusedSimpArgs false in
set_option maxRecDepth 100000 in
set_option maxHeartbeats 1000000 in
theorem chg12 (n : Int) (h1 : -9223372036854775808 ≤ n) (h2 : n ≤ 9223372036854775807) (w : World) : Calls Try.prog 16 #[.int .i64 1, .int .i64 2, .int .i64 n] w fun e w' => e = .returned (.bool true) ∧ Below w.heap.size w w' := by
  have hcl := clean12 n h1 h2
  have hse := set12 n
  have hl : [ex0, { ex1 with invoked := n }, ex2].length = 3 := rfl
  generalize [ex0, { ex1 with invoked := n }, ex2] = L at *
  have M1 : ∀ W, EB w L W → Calls Try.prog 18 #[.slice (some ⟨w.heap.size, 0, none⟩) 3 3, .int .i64 n, .int .i64 n] W fun e w' => e = .returned (.bool true) ∧ Below W.heap.size W w' := fun W h => by
    have := matches_any _ 3 L n n W (h.arg hcl hl)
    rwa [hl] at this
  have M2 : ∀ W, EB w L W → Calls Try.prog 18 #[.slice (some ⟨w.heap.size, 27, none⟩) 2 2, .int .i64 0, .int .i64 n] W fun e w' => e = .returned (.bool true) ∧ Below W.heap.size W w' := fun W h => by
    have := matches_any _ 2 (L.drop 1) 0 n W (h.argd hcl hl 1)
    rwa [List.length_drop, hl] at this
  have M3 : ∀ W po, EB w L W → OrdRow W po 3 [0, 2, 1] → Calls Try.prog 17 #[.slice po 3 3, .slice (some ⟨w.heap.size, 0, none⟩) 3 3] W fun e w' => e = .returned (.bool true) ∧ Below W.heap.size W w' := fun W po h ho => by
    have := agl_any _ po 3 3 L [0, 2, 1] W (by decide) (h.arg hcl hl) ho
    rwa [hl] at this
  have HSE := Lib.hid hse
  clear hcl hl hse
  go_enter Try.func16, Try.ntmps16
  go_wp2_with fail
  refine (example_blk w).mono ?_
  rintro e w1 ⟨rfl, hblk, hB⟩
  obtain ⟨u0, q⟩ : ∃ u, w1.cell? ⟨w.heap.size, 36, none⟩ = some u := ⟨_, (blk_cell hblk 36).trans (List.getElem?_eq_getElem (by rw [callsL_len]; decide))⟩
  have fz := blk_frozen hblk 36
  have hE : EB w L (w1.setCell ⟨w.heap.size, 36, none⟩ (.int .i64 n)) := ⟨by rw [setCell_eq_setRow _ _ _ _ _ _ _ hblk, setRow_heap _ _ _ _ _ _ hblk, HSE.out], hB.setCell (p := ⟨w.heap.size, 36, none⟩) (Nat.le_refl _) _⟩
  have HE := Lib.hid hE
  clear hblk hB hE
  go_wp2_with fail
  refine (M1 _ HE.out).mono ?_
  rintro e w2 ⟨rfl, hb⟩
  have hE2 := HE.out.on hb
  clear hb HE q fz
  go_wp2_with fail
  refine (M2 _ hE2).mono ?_
  rintro e w3 ⟨rfl, hb⟩
  have hE3 := hE2.on hb
  have hE4 := hE3.on (below_alloc w3 (.cells #[.int .i64 0, .int .i64 2, .int .i64 1] 3))
  clear hb hE2
  go_wp2_with fail
  refine (M3 _ _ hE4 (.inr ⟨_, 0, rfl, by decide, fun j u hj => ?_⟩)).mono ?_
  · rw [Nat.zero_add, World.cell?_alloc_new]
    match j, hj with
    | 0, h => cases h; rfl
    | 1, h => cases h; rfl
    | 2, h => cases h; rfl
    | j + 3, h => simp at h
  rintro e w5 ⟨rfl, hb⟩
  have hE5 := hE4.on hb
  clear hb
  have hbl := hE5.bl
  go_wp2
  go_returns
  exact ⟨rfl, hbl⟩
theorem set13 (n : Int) : (callsL exL).toArray.setIfInBounds 37 (.int .i64 n) = (callsL [ex0, { ex1 with took := n }, ex2]).toArray := by with_unfolding_all rfl
theorem clean13 (n : Int) (h1 : -9223372036854775808 ≤ n) (h2 : n ≤ 9223372036854775807) : CleanL [ex0, { ex1 with took := n }, ex2] := by
  intro c hc
  simp only [List.mem_cons, List.not_mem_nil, or_false] at hc
  have k0 := clean_ex ex0 (by simp [exL])
  have k1 := clean_ex ex1 (by simp [exL])
  have k2 := clean_ex ex2 (by simp [exL])
  rcases hc with rfl | rfl | rfl
  · exact k0
  · exact ⟨⟨k1.1.i0, k1.1.i1, k1.1.a0, k1.1.a1, k1.1.s0, k1.1.s1, h1, h2, k1.1.r0, k1.1.r1⟩, k1.2.1, k1.2.2⟩
  · exact k2
set_option linter.unusedSimpArgs false in
set_option maxRecDepth 100000 in
set_option maxHeartbeats 1000000 in
theorem chg13 (n : Int) (h1 : -9223372036854775808 ≤ n) (h2 : n ≤ 9223372036854775807) (w : World) : Calls Try.prog 16 #[.int .i64 1, .int .i64 3, .int .i64 n] w fun e w' => e = .returned (.bool true) ∧ Below w.heap.size w w' := by
  have hcl := clean13 n h1 h2
  have hse := set13 n
  have hl : [ex0, { ex1 with took := n }, ex2].length = 3 := rfl
  generalize [ex0, { ex1 with took := n }, ex2] = L at *
  have M1 : ∀ W, EB w L W → Calls Try.prog 18 #[.slice (some ⟨w.heap.size, 0, none⟩) 3 3, .int .i64 n, .int .i64 n] W fun e w' => e = .returned (.bool true) ∧ Below W.heap.size W w' := fun W h => by
    have := matches_any _ 3 L n n W (h.arg hcl hl)
    rwa [hl] at this
  have M2 : ∀ W, EB w L W → Calls Try.prog 18 #[.slice (some ⟨w.heap.size, 27, none⟩) 2 2, .int .i64 0, .int .i64 n] W fun e w' => e = .returned (.bool true) ∧ Below W.heap.size W w' := fun W h => by
    have := matches_any _ 2 (L.drop 1) 0 n W (h.argd hcl hl 1)
    rwa [List.length_drop, hl] at this
  have M3 : ∀ W po, EB w L W → OrdRow W po 3 [0, 2, 1] → Calls Try.prog 17 #[.slice po 3 3, .slice (some ⟨w.heap.size, 0, none⟩) 3 3] W fun e w' => e = .returned (.bool true) ∧ Below W.heap.size W w' := fun W po h ho => by
    have := agl_any _ po 3 3 L [0, 2, 1] W (by decide) (h.arg hcl hl) ho
    rwa [hl] at this
  have HSE := Lib.hid hse
  clear hcl hl hse
  go_enter Try.func16, Try.ntmps16
  go_wp2_with fail
  refine (example_blk w).mono ?_
  rintro e w1 ⟨rfl, hblk, hB⟩
  obtain ⟨u0, q⟩ : ∃ u, w1.cell? ⟨w.heap.size, 37, none⟩ = some u := ⟨_, (blk_cell hblk 37).trans (List.getElem?_eq_getElem (by rw [callsL_len]; decide))⟩
  have fz := blk_frozen hblk 37
  have hE : EB w L (w1.setCell ⟨w.heap.size, 37, none⟩ (.int .i64 n)) := ⟨by rw [setCell_eq_setRow _ _ _ _ _ _ _ hblk, setRow_heap _ _ _ _ _ _ hblk, HSE.out], hB.setCell (p := ⟨w.heap.size, 37, none⟩) (Nat.le_refl _) _⟩
  have HE := Lib.hid hE
  clear hblk hB hE
  go_wp2_with fail
  refine (M1 _ HE.out).mono ?_
  rintro e w2 ⟨rfl, hb⟩
  have hE2 := HE.out.on hb
  clear hb HE q fz
  go_wp2_with fail
  refine (M2 _ hE2).mono ?_
  rintro e w3 ⟨rfl, hb⟩
  have hE3 := hE2.on hb
  have hE4 := hE3.on (below_alloc w3 (.cells #[.int .i64 0, .int .i64 2, .int .i64 1] 3))
  clear hb hE2
  go_wp2_with fail
  refine (M3 _ _ hE4 (.inr ⟨_, 0, rfl, by decide, fun j u hj => ?_⟩)).mono ?_
  · rw [Nat.zero_add, World.cell?_alloc_new]
    match j, hj with
    | 0, h => cases h; rfl
    | 1, h => cases h; rfl
    | 2, h => cases h; rfl
    | j + 3, h => simp at h
  rintro e w5 ⟨rfl, hb⟩
  have hE5 := hE4.on hb
  clear hb
  have hbl := hE5.bl
  go_wp2
  go_returns
  exact ⟨rfl, hbl⟩
theorem set14 (n : Int) : (callsL exL).toArray.setIfInBounds 38 (.int .i64 n) = (callsL [ex0, { ex1 with rank := n }, ex2]).toArray := by with_unfolding_all rfl
theorem clean14 (n : Int) (h1 : -9223372036854775808 ≤ n) (h2 : n ≤ 9223372036854775807) : CleanL [ex0, { ex1 with rank := n }, ex2] := by
  intro c hc
  simp only [List.mem_cons, List.not_mem_nil, or_false] at hc
  have k0 := clean_ex ex0 (by simp [exL])
  have k1 := clean_ex ex1 (by simp [exL])
  have k2 := clean_ex ex2 (by simp [exL])
  rcases hc with rfl | rfl | rfl
  · exact k0
  · exact ⟨⟨k1.1.i0, k1.1.i1, k1.1.a0, k1.1.a1, k1.1.s0, k1.1.s1, k1.1.t0, k1.1.t1, h1, h2⟩, k1.2.1, k1.2.2⟩
  · exact k2
set_option linter.unusedSimpArgs false in
set_option maxRecDepth 100000 in
set_option maxHeartbeats 1000000 in
theorem chg14 (n : Int) (h1 : -9223372036854775808 ≤ n) (h2 : n ≤ 9223372036854775807) (w : World) : Calls Try.prog 16 #[.int .i64 1, .int .i64 4, .int .i64 n] w fun e w' => e = .returned (.bool true) ∧ Below w.heap.size w w' := by
  have hcl := clean14 n h1 h2
  have hse := set14 n
  have hl : [ex0, { ex1 with rank := n }, ex2].length = 3 := rfl
  generalize [ex0, { ex1 with rank := n }, ex2] = L at *
  have M1 : ∀ W, EB w L W → Calls Try.prog 18 #[.slice (some ⟨w.heap.size, 0, none⟩) 3 3, .int .i64 n, .int .i64 n] W fun e w' => e = .returned (.bool true) ∧ Below W.heap.size W w' := fun W h => by
    have := matches_any _ 3 L n n W (h.arg hcl hl)
    rwa [hl] at this
  have M2 : ∀ W, EB w L W → Calls Try.prog 18 #[.slice (some ⟨w.heap.size, 27, none⟩) 2 2, .int .i64 0, .int .i64 n] W fun e w' => e = .returned (.bool true) ∧ Below W.heap.size W w' := fun W h => by
    have := matches_any _ 2 (L.drop 1) 0 n W (h.argd hcl hl 1)
    rwa [List.length_drop, hl] at this
  have M3 : ∀ W po, EB w L W → OrdRow W po 3 [0, 2, 1] → Calls Try.prog 17 #[.slice po 3 3, .slice (some ⟨w.heap.size, 0, none⟩) 3 3] W fun e w' => e = .returned (.bool true) ∧ Below W.heap.size W w' := fun W po h ho => by
    have := agl_any _ po 3 3 L [0, 2, 1] W (by decide) (h.arg hcl hl) ho
    rwa [hl] at this
  have HSE := Lib.hid hse
  clear hcl hl hse
  go_enter Try.func16, Try.ntmps16
  go_wp2_with fail
  refine (example_blk w).mono ?_
  rintro e w1 ⟨rfl, hblk, hB⟩
  obtain ⟨u0, q⟩ : ∃ u, w1.cell? ⟨w.heap.size, 38, none⟩ = some u := ⟨_, (blk_cell hblk 38).trans (List.getElem?_eq_getElem (by rw [callsL_len]; decide))⟩
  have fz := blk_frozen hblk 38
  have hE : EB w L (w1.setCell ⟨w.heap.size, 38, none⟩ (.int .i64 n)) := ⟨by rw [setCell_eq_setRow _ _ _ _ _ _ _ hblk, setRow_heap _ _ _ _ _ _ hblk, HSE.out], hB.setCell (p := ⟨w.heap.size, 38, none⟩) (Nat.le_refl _) _⟩
  have HE := Lib.hid hE
  clear hblk hB hE
  go_wp2_with fail
  refine (M1 _ HE.out).mono ?_
  rintro e w2 ⟨rfl, hb⟩
  have hE2 := HE.out.on hb
  clear hb HE q fz
  go_wp2_with fail
  refine (M2 _ hE2).mono ?_
  rintro e w3 ⟨rfl, hb⟩
  have hE3 := hE2.on hb
  have hE4 := hE3.on (below_alloc w3 (.cells #[.int .i64 0, .int .i64 2, .int .i64 1] 3))
  clear hb hE2
  go_wp2_with fail
  refine (M3 _ _ hE4 (.inr ⟨_, 0, rfl, by decide, fun j u hj => ?_⟩)).mono ?_
  · rw [Nat.zero_add, World.cell?_alloc_new]
    match j, hj with
    | 0, h => cases h; rfl
    | 1, h => cases h; rfl
    | 2, h => cases h; rfl
    | j + 3, h => simp at h
  rintro e w5 ⟨rfl, hb⟩
  have hE5 := hE4.on hb
  clear hb
  have hbl := hE5.bl
  go_wp2
  go_returns
  exact ⟨rfl, hbl⟩
theorem set15 (n : Int) : (callsL exL).toArray.setIfInBounds 39 (.int .i64 n) = (callsL [ex0, { ex1 with answered := n }, ex2]).toArray := by with_unfolding_all rfl
theorem clean15 (n : Int) (h1 : -9223372036854775808 ≤ n) (h2 : n ≤ 9223372036854775807) : CleanL [ex0, { ex1 with answered := n }, ex2] := by
  intro c hc
  simp only [List.mem_cons, List.not_mem_nil, or_false] at hc
  have k0 := clean_ex ex0 (by simp [exL])
  have k1 := clean_ex ex1 (by simp [exL])
  have k2 := clean_ex ex2 (by simp [exL])
  rcases hc with rfl | rfl | rfl
  · exact k0
  · exact ⟨⟨k1.1.i0, k1.1.i1, h1, h2, k1.1.s0, k1.1.s1, k1.1.t0, k1.1.t1, k1.1.r0, k1.1.r1⟩, k1.2.1, k1.2.2⟩
  · exact k2
set_option linter.unusedSimpArgs false in
set_option maxRecDepth 100000 in
set_option maxHeartbeats 1000000 in
theorem chg15 (n : Int) (h1 : -9223372036854775808 ≤ n) (h2 : n ≤ 9223372036854775807) (w : World) : Calls Try.prog 16 #[.int .i64 1, .int .i64 5, .int .i64 n] w fun e w' => e = .returned (.bool true) ∧ Below w.heap.size w w' := by
  have hcl := clean15 n h1 h2
  have hse := set15 n
  have hl : [ex0, { ex1 with answered := n }, ex2].length = 3 := rfl
  generalize [ex0, { ex1 with answered := n }, ex2] = L at *
  have M1 : ∀ W, EB w L W → Calls Try.prog 18 #[.slice (some ⟨w.heap.size, 0, none⟩) 3 3, .int .i64 n, .int .i64 n] W fun e w' => e = .returned (.bool true) ∧ Below W.heap.size W w' := fun W h => by
    have := matches_any _ 3 L n n W (h.arg hcl hl)
    rwa [hl] at this
  have M2 : ∀ W, EB w L W → Calls Try.prog 18 #[.slice (some ⟨w.heap.size, 27, none⟩) 2 2, .int .i64 0, .int .i64 n] W fun e w' => e = .returned (.bool true) ∧ Below W.heap.size W w' := fun W h => by
    have := matches_any _ 2 (L.drop 1) 0 n W (h.argd hcl hl 1)
    rwa [List.length_drop, hl] at this
  have M3 : ∀ W po, EB w L W → OrdRow W po 3 [0, 2, 1] → Calls Try.prog 17 #[.slice po 3 3, .slice (some ⟨w.heap.size, 0, none⟩) 3 3] W fun e w' => e = .returned (.bool true) ∧ Below W.heap.size W w' := fun W po h ho => by
    have := agl_any _ po 3 3 L [0, 2, 1] W (by decide) (h.arg hcl hl) ho
    rwa [hl] at this
  have HSE := Lib.hid hse
  clear hcl hl hse
  go_enter Try.func16, Try.ntmps16
  go_wp2_with fail
  refine (example_blk w).mono ?_
  rintro e w1 ⟨rfl, hblk, hB⟩
  obtain ⟨u0, q⟩ : ∃ u, w1.cell? ⟨w.heap.size, 39, none⟩ = some u := ⟨_, (blk_cell hblk 39).trans (List.getElem?_eq_getElem (by rw [callsL_len]; decide))⟩
  have fz := blk_frozen hblk 39
  have hE : EB w L (w1.setCell ⟨w.heap.size, 39, none⟩ (.int .i64 n)) := ⟨by rw [setCell_eq_setRow _ _ _ _ _ _ _ hblk, setRow_heap _ _ _ _ _ _ hblk, HSE.out], hB.setCell (p := ⟨w.heap.size, 39, none⟩) (Nat.le_refl _) _⟩
  have HE := Lib.hid hE
  clear hblk hB hE
  go_wp2_with fail
  refine (M1 _ HE.out).mono ?_
  rintro e w2 ⟨rfl, hb⟩
  have hE2 := HE.out.on hb
  clear hb HE q fz
  go_wp2_with fail
  refine (M2 _ hE2).mono ?_
  rintro e w3 ⟨rfl, hb⟩
  have hE3 := hE2.on hb
  have hE4 := hE3.on (below_alloc w3 (.cells #[.int .i64 0, .int .i64 2, .int .i64 1] 3))
  clear hb hE2
  go_wp2_with fail
  refine (M3 _ _ hE4 (.inr ⟨_, 0, rfl, by decide, fun j u hj => ?_⟩)).mono ?_
  · rw [Nat.zero_add, World.cell?_alloc_new]
    match j, hj with
    | 0, h => cases h; rfl
    | 1, h => cases h; rfl
    | 2, h => cases h; rfl
    | j + 3, h => simp at h
  rintro e w5 ⟨rfl, hb⟩
  have hE5 := hE4.on hb
  clear hb
  have hbl := hE5.bl
  go_wp2
  go_returns
  exact ⟨rfl, hbl⟩
theorem set16 (n : Int) : (callsL exL).toArray.setIfInBounds 40 (.int .i64 n) = (callsL [ex0, { ex1 with steps := n }, ex2]).toArray := by with_unfolding_all rfl
theorem clean16 (n : Int) (h1 : -9223372036854775808 ≤ n) (h2 : n ≤ 9223372036854775807) : CleanL [ex0, { ex1 with steps := n }, ex2] := by
  intro c hc
  simp only [List.mem_cons, List.not_mem_nil, or_false] at hc
  have k0 := clean_ex ex0 (by simp [exL])
  have k1 := clean_ex ex1 (by simp [exL])
  have k2 := clean_ex ex2 (by simp [exL])
  rcases hc with rfl | rfl | rfl
  · exact k0
  · exact ⟨⟨k1.1.i0, k1.1.i1, k1.1.a0, k1.1.a1, h1, h2, k1.1.t0, k1.1.t1, k1.1.r0, k1.1.r1⟩, k1.2.1, k1.2.2⟩
  · exact k2
set_option linter.unusedSimpArgs false in
set_option maxRecDepth 100000 in
set_option maxHeartbeats 1000000 in
theorem chg16 (n : Int) (h1 : -9223372036854775808 ≤ n) (h2 : n ≤ 9223372036854775807) (w : World) : Calls Try.prog 16 #[.int .i64 1, .int .i64 6, .int .i64 n] w fun e w' => e = .returned (.bool true) ∧ Below w.heap.size w w' := by
  have hcl := clean16 n h1 h2
  have hse := set16 n
  have hl : [ex0, { ex1 with steps := n }, ex2].length = 3 := rfl
  generalize [ex0, { ex1 with steps := n }, ex2] = L at *
  have M1 : ∀ W, EB w L W → Calls Try.prog 18 #[.slice (some ⟨w.heap.size, 0, none⟩) 3 3, .int .i64 n, .int .i64 n] W fun e w' => e = .returned (.bool true) ∧ Below W.heap.size W w' := fun W h => by
    have := matches_any _ 3 L n n W (h.arg hcl hl)
    rwa [hl] at this
  have M2 : ∀ W, EB w L W → Calls Try.prog 18 #[.slice (some ⟨w.heap.size, 27, none⟩) 2 2, .int .i64 0, .int .i64 n] W fun e w' => e = .returned (.bool true) ∧ Below W.heap.size W w' := fun W h => by
    have := matches_any _ 2 (L.drop 1) 0 n W (h.argd hcl hl 1)
    rwa [List.length_drop, hl] at this
  have M3 : ∀ W po, EB w L W → OrdRow W po 3 [0, 2, 1] → Calls Try.prog 17 #[.slice po 3 3, .slice (some ⟨w.heap.size, 0, none⟩) 3 3] W fun e w' => e = .returned (.bool true) ∧ Below W.heap.size W w' := fun W po h ho => by
    have := agl_any _ po 3 3 L [0, 2, 1] W (by decide) (h.arg hcl hl) ho
    rwa [hl] at this
  have HSE := Lib.hid hse
  clear hcl hl hse
  go_enter Try.func16, Try.ntmps16
  go_wp2_with fail
  refine (example_blk w).mono ?_
  rintro e w1 ⟨rfl, hblk, hB⟩
  obtain ⟨u0, q⟩ : ∃ u, w1.cell? ⟨w.heap.size, 40, none⟩ = some u := ⟨_, (blk_cell hblk 40).trans (List.getElem?_eq_getElem (by rw [callsL_len]; decide))⟩
  have fz := blk_frozen hblk 40
  have hE : EB w L (w1.setCell ⟨w.heap.size, 40, none⟩ (.int .i64 n)) := ⟨by rw [setCell_eq_setRow _ _ _ _ _ _ _ hblk, setRow_heap _ _ _ _ _ _ hblk, HSE.out], hB.setCell (p := ⟨w.heap.size, 40, none⟩) (Nat.le_refl _) _⟩
  have HE := Lib.hid hE
  clear hblk hB hE
  go_wp2_with fail
  refine (M1 _ HE.out).mono ?_
  rintro e w2 ⟨rfl, hb⟩
  have hE2 := HE.out.on hb
  clear hb HE q fz
  go_wp2_with fail
  refine (M2 _ hE2).mono ?_
  rintro e w3 ⟨rfl, hb⟩
  have hE3 := hE2.on hb
  have hE4 := hE3.on (below_alloc w3 (.cells #[.int .i64 0, .int .i64 2, .int .i64 1] 3))
  clear hb hE2
  go_wp2_with fail
  refine (M3 _ _ hE4 (.inr ⟨_, 0, rfl, by decide, fun j u hj => ?_⟩)).mono ?_
  · rw [Nat.zero_add, World.cell?_alloc_new]
    match j, hj with
    | 0, h => cases h; rfl
    | 1, h => cases h; rfl
    | 2, h => cases h; rfl
    | j + 3, h => simp at h
  rintro e w5 ⟨rfl, hb⟩
  have hE5 := hE4.on hb
  clear hb
  have hbl := hE5.bl
  go_wp2
  go_returns
  exact ⟨rfl, hbl⟩
theorem set17 (n : Int) : (callsL exL).toArray.setIfInBounds 41 (.int .i64 n) = (callsL [ex0, { ex1 with err := n }, ex2]).toArray := by with_unfolding_all rfl
theorem clean17 (n : Int) (h1 : -9223372036854775808 ≤ n) (h2 : n ≤ 9223372036854775807) : CleanL [ex0, { ex1 with err := n }, ex2] := by
  intro c hc
  simp only [List.mem_cons, List.not_mem_nil, or_false] at hc
  have k0 := clean_ex ex0 (by simp [exL])
  have k1 := clean_ex ex1 (by simp [exL])
  have k2 := clean_ex ex2 (by simp [exL])
  rcases hc with rfl | rfl | rfl
  · exact k0
  · exact ⟨⟨k1.1.i0, k1.1.i1, k1.1.a0, k1.1.a1, k1.1.s0, k1.1.s1, k1.1.t0, k1.1.t1, k1.1.r0, k1.1.r1⟩, k1.2.1, k1.2.2⟩
  · exact k2
set_option linter.unusedSimpArgs false in
set_option maxRecDepth 100000 in
set_option maxHeartbeats 1000000 in
theorem chg17 (n : Int) (h1 : -9223372036854775808 ≤ n) (h2 : n ≤ 9223372036854775807) (w : World) : Calls Try.prog 16 #[.int .i64 1, .int .i64 7, .int .i64 n] w fun e w' => e = .returned (.bool true) ∧ Below w.heap.size w w' := by
  have hcl := clean17 n h1 h2
  have hse := set17 n
  have hl : [ex0, { ex1 with err := n }, ex2].length = 3 := rfl
  generalize [ex0, { ex1 with err := n }, ex2] = L at *
  have M1 : ∀ W, EB w L W → Calls Try.prog 18 #[.slice (some ⟨w.heap.size, 0, none⟩) 3 3, .int .i64 n, .int .i64 n] W fun e w' => e = .returned (.bool true) ∧ Below W.heap.size W w' := fun W h => by
    have := matches_any _ 3 L n n W (h.arg hcl hl)
    rwa [hl] at this
  have M2 : ∀ W, EB w L W → Calls Try.prog 18 #[.slice (some ⟨w.heap.size, 27, none⟩) 2 2, .int .i64 0, .int .i64 n] W fun e w' => e = .returned (.bool true) ∧ Below W.heap.size W w' := fun W h => by
    have := matches_any _ 2 (L.drop 1) 0 n W (h.argd hcl hl 1)
    rwa [List.length_drop, hl] at this
  have M3 : ∀ W po, EB w L W → OrdRow W po 3 [0, 2, 1] → Calls Try.prog 17 #[.slice po 3 3, .slice (some ⟨w.heap.size, 0, none⟩) 3 3] W fun e w' => e = .returned (.bool true) ∧ Below W.heap.size W w' := fun W po h ho => by
    have := agl_any _ po 3 3 L [0, 2, 1] W (by decide) (h.arg hcl hl) ho
    rwa [hl] at this
  have HSE := Lib.hid hse
  clear hcl hl hse
  go_enter Try.func16, Try.ntmps16
  go_wp2_with fail
  refine (example_blk w).mono ?_
  rintro e w1 ⟨rfl, hblk, hB⟩
  obtain ⟨u0, q⟩ : ∃ u, w1.cell? ⟨w.heap.size, 41, none⟩ = some u := ⟨_, (blk_cell hblk 41).trans (List.getElem?_eq_getElem (by rw [callsL_len]; decide))⟩
  have fz := blk_frozen hblk 41
  have hE : EB w L (w1.setCell ⟨w.heap.size, 41, none⟩ (.int .i64 n)) := ⟨by rw [setCell_eq_setRow _ _ _ _ _ _ _ hblk, setRow_heap _ _ _ _ _ _ hblk, HSE.out], hB.setCell (p := ⟨w.heap.size, 41, none⟩) (Nat.le_refl _) _⟩
  have HE := Lib.hid hE
  clear hblk hB hE
  go_wp2_with fail
  refine (M1 _ HE.out).mono ?_
  rintro e w2 ⟨rfl, hb⟩
  have hE2 := HE.out.on hb
  clear hb HE q fz
  go_wp2_with fail
  refine (M2 _ hE2).mono ?_
  rintro e w3 ⟨rfl, hb⟩
  have hE3 := hE2.on hb
  have hE4 := hE3.on (below_alloc w3 (.cells #[.int .i64 0, .int .i64 2, .int .i64 1] 3))
  clear hb hE2
  go_wp2_with fail
  refine (M3 _ _ hE4 (.inr ⟨_, 0, rfl, by decide, fun j u hj => ?_⟩)).mono ?_
  · rw [Nat.zero_add, World.cell?_alloc_new]
    match j, hj with
    | 0, h => cases h; rfl
    | 1, h => cases h; rfl
    | 2, h => cases h; rfl
    | j + 3, h => simp at h
  rintro e w5 ⟨rfl, hb⟩
  have hE5 := hE4.on hb
  clear hb
  have hbl := hE5.bl
  go_wp2
  go_returns
  exact ⟨rfl, hbl⟩
theorem set20 (n : Int) : (callsL exL).toArray.setIfInBounds 54 (.int .i64 n) = (callsL [ex0, ex1, { ex2 with thread := n }]).toArray := by with_unfolding_all rfl
theorem clean20 (n : Int) (h1 : -9223372036854775808 ≤ n) (h2 : n ≤ 9223372036854775807) : CleanL [ex0, ex1, { ex2 with thread := n }] := by
  intro c hc
  simp only [List.mem_cons, List.not_mem_nil, or_false] at hc
  have k0 := clean_ex ex0 (by simp [exL])
  have k1 := clean_ex ex1 (by simp [exL])
  have k2 := clean_ex ex2 (by simp [exL])
  rcases hc with rfl | rfl | rfl
  · exact k0
  · exact k1
  · exact ⟨⟨k2.1.i0, k2.1.i1, k2.1.a0, k2.1.a1, k2.1.s0, k2.1.s1, k2.1.t0, k2.1.t1, k2.1.r0, k2.1.r1⟩, k2.2.1, k2.2.2⟩
set_option linter.unusedSimpArgs false in
set_option maxRecDepth 100000 in
set_option maxHeartbeats 1000000 in
theorem chg20 (n : Int) (h1 : -9223372036854775808 ≤ n) (h2 : n ≤ 9223372036854775807) (w : World) : Calls Try.prog 16 #[.int .i64 2, .int .i64 0, .int .i64 n] w fun e w' => e = .returned (.bool true) ∧ Below w.heap.size w w' := by
  have hcl := clean20 n h1 h2
  have hse := set20 n
  have hl : [ex0, ex1, { ex2 with thread := n }].length = 3 := rfl
  generalize [ex0, ex1, { ex2 with thread := n }] = L at *
  have M1 : ∀ W, EB w L W → Calls Try.prog 18 #[.slice (some ⟨w.heap.size, 0, none⟩) 3 3, .int .i64 n, .int .i64 n] W fun e w' => e = .returned (.bool true) ∧ Below W.heap.size W w' := fun W h => by
    have := matches_any _ 3 L n n W (h.arg hcl hl)
    rwa [hl] at this
  have M2 : ∀ W, EB w L W → Calls Try.prog 18 #[.slice (some ⟨w.heap.size, 54, none⟩) 1 1, .int .i64 0, .int .i64 n] W fun e w' => e = .returned (.bool true) ∧ Below W.heap.size W w' := fun W h => by
    have := matches_any _ 1 (L.drop 2) 0 n W (h.argd hcl hl 2)
    rwa [List.length_drop, hl] at this
  have M3 : ∀ W po, EB w L W → OrdRow W po 3 [0, 2, 1] → Calls Try.prog 17 #[.slice po 3 3, .slice (some ⟨w.heap.size, 0, none⟩) 3 3] W fun e w' => e = .returned (.bool true) ∧ Below W.heap.size W w' := fun W po h ho => by
    have := agl_any _ po 3 3 L [0, 2, 1] W (by decide) (h.arg hcl hl) ho
    rwa [hl] at this
  have HSE := Lib.hid hse
  clear hcl hl hse
  go_enter Try.func16, Try.ntmps16
  go_wp2_with fail
  refine (example_blk w).mono ?_
  rintro e w1 ⟨rfl, hblk, hB⟩
  obtain ⟨u0, q⟩ : ∃ u, w1.cell? ⟨w.heap.size, 54, none⟩ = some u := ⟨_, (blk_cell hblk 54).trans (List.getElem?_eq_getElem (by rw [callsL_len]; decide))⟩
  have fz := blk_frozen hblk 54
  have hE : EB w L (w1.setCell ⟨w.heap.size, 54, none⟩ (.int .i64 n)) := ⟨by rw [setCell_eq_setRow _ _ _ _ _ _ _ hblk, setRow_heap _ _ _ _ _ _ hblk, HSE.out], hB.setCell (p := ⟨w.heap.size, 54, none⟩) (Nat.le_refl _) _⟩
  have HE := Lib.hid hE
  clear hblk hB hE
  go_wp2_with fail
  refine (M1 _ HE.out).mono ?_
  rintro e w2 ⟨rfl, hb⟩
  have hE2 := HE.out.on hb
  clear hb HE q fz
  go_wp2_with fail
  refine (M2 _ hE2).mono ?_
  rintro e w3 ⟨rfl, hb⟩
  have hE3 := hE2.on hb
  have hE4 := hE3.on (below_alloc w3 (.cells #[.int .i64 0, .int .i64 2, .int .i64 1] 3))
  clear hb hE2
  go_wp2_with fail
  refine (M3 _ _ hE4 (.inr ⟨_, 0, rfl, by decide, fun j u hj => ?_⟩)).mono ?_
  · rw [Nat.zero_add, World.cell?_alloc_new]
    match j, hj with
    | 0, h => cases h; rfl
    | 1, h => cases h; rfl
    | 2, h => cases h; rfl
    | j + 3, h => simp at h
  rintro e w5 ⟨rfl, hb⟩
  have hE5 := hE4.on hb
  clear hb
  have hbl := hE5.bl
  go_wp2
  go_returns
  exact ⟨rfl, hbl⟩
theorem set21 (n : Int) : (callsL exL).toArray.setIfInBounds 55 (.int .i64 n) = (callsL [ex0, ex1, { ex2 with index := n }]).toArray := by with_unfolding_all rfl
theorem clean21 (n : Int) (h1 : -9223372036854775808 ≤ n) (h2 : n ≤ 9223372036854775807) : CleanL [ex0, ex1, { ex2 with index := n }] := by
  intro c hc
  simp only [List.mem_cons, List.not_mem_nil, or_false] at hc
  have k0 := clean_ex ex0 (by simp [exL])
  have k1 := clean_ex ex1 (by simp [exL])
  have k2 := clean_ex ex2 (by simp [exL])
  rcases hc with rfl | rfl | rfl
  · exact k0
  · exact k1
  · exact ⟨⟨k2.1.i0, k2.1.i1, k2.1.a0, k2.1.a1, k2.1.s0, k2.1.s1, k2.1.t0, k2.1.t1, k2.1.r0, k2.1.r1⟩, k2.2.1, k2.2.2⟩
set_option linter.unusedSimpArgs false in
set_option maxRecDepth 100000 in
set_option maxHeartbeats 1000000 in
theorem chg21 (n : Int) (h1 : -9223372036854775808 ≤ n) (h2 : n ≤ 9223372036854775807) (w : World) : Calls Try.prog 16 #[.int .i64 2, .int .i64 1, .int .i64 n] w fun e w' => e = .returned (.bool true) ∧ Below w.heap.size w w' := by
  have hcl := clean21 n h1 h2
  have hse := set21 n
  have hl : [ex0, ex1, { ex2 with index := n }].length = 3 := rfl
  generalize [ex0, ex1, { ex2 with index := n }] = L at *
  have M1 : ∀ W, EB w L W → Calls Try.prog 18 #[.slice (some ⟨w.heap.size, 0, none⟩) 3 3, .int .i64 n, .int .i64 n] W fun e w' => e = .returned (.bool true) ∧ Below W.heap.size W w' := fun W h => by
    have := matches_any _ 3 L n n W (h.arg hcl hl)
    rwa [hl] at this
  have M2 : ∀ W, EB w L W → Calls Try.prog 18 #[.slice (some ⟨w.heap.size, 54, none⟩) 1 1, .int .i64 0, .int .i64 n] W fun e w' => e = .returned (.bool true) ∧ Below W.heap.size W w' := fun W h => by
    have := matches_any _ 1 (L.drop 2) 0 n W (h.argd hcl hl 2)
    rwa [List.length_drop, hl] at this
  have M3 : ∀ W po, EB w L W → OrdRow W po 3 [0, 2, 1] → Calls Try.prog 17 #[.slice po 3 3, .slice (some ⟨w.heap.size, 0, none⟩) 3 3] W fun e w' => e = .returned (.bool true) ∧ Below W.heap.size W w' := fun W po h ho => by
    have := agl_any _ po 3 3 L [0, 2, 1] W (by decide) (h.arg hcl hl) ho
    rwa [hl] at this
  have HSE := Lib.hid hse
  clear hcl hl hse
  go_enter Try.func16, Try.ntmps16
  go_wp2_with fail
  refine (example_blk w).mono ?_
  rintro e w1 ⟨rfl, hblk, hB⟩
  obtain ⟨u0, q⟩ : ∃ u, w1.cell? ⟨w.heap.size, 55, none⟩ = some u := ⟨_, (blk_cell hblk 55).trans (List.getElem?_eq_getElem (by rw [callsL_len]; decide))⟩
  have fz := blk_frozen hblk 55
  have hE : EB w L (w1.setCell ⟨w.heap.size, 55, none⟩ (.int .i64 n)) := ⟨by rw [setCell_eq_setRow _ _ _ _ _ _ _ hblk, setRow_heap _ _ _ _ _ _ hblk, HSE.out], hB.setCell (p := ⟨w.heap.size, 55, none⟩) (Nat.le_refl _) _⟩
  have HE := Lib.hid hE
  clear hblk hB hE
  go_wp2_with fail
  refine (M1 _ HE.out).mono ?_
  rintro e w2 ⟨rfl, hb⟩
  have hE2 := HE.out.on hb
  clear hb HE q fz
  go_wp2_with fail
  refine (M2 _ hE2).mono ?_
  rintro e w3 ⟨rfl, hb⟩
  have hE3 := hE2.on hb
  have hE4 := hE3.on (below_alloc w3 (.cells #[.int .i64 0, .int .i64 2, .int .i64 1] 3))
  clear hb hE2
  go_wp2_with fail
  refine (M3 _ _ hE4 (.inr ⟨_, 0, rfl, by decide, fun j u hj => ?_⟩)).mono ?_
  · rw [Nat.zero_add, World.cell?_alloc_new]
    match j, hj with
    | 0, h => cases h; rfl
    | 1, h => cases h; rfl
    | 2, h => cases h; rfl
    | j + 3, h => simp at h
  rintro e w5 ⟨rfl, hb⟩
  have hE5 := hE4.on hb
  clear hb
  have hbl := hE5.bl
  go_wp2
  go_returns
  exact ⟨rfl, hbl⟩
theorem set22 (n : Int) : (callsL exL).toArray.setIfInBounds 63 (.int .i64 n) = (callsL [ex0, ex1, { ex2 with invoked := n }]).toArray := by with_unfolding_all rfl
theorem clean22 (n : Int) (h1 : -9223372036854775808 ≤ n) (h2 : n ≤ 9223372036854775807) : CleanL [ex0, ex1, { ex2 with invoked := n }] := by
  intro c hc
  simp only [List.mem_cons, List.not_mem_nil, or_false] at hc
  have k0 := clean_ex ex0 (by simp [exL])
  have k1 := clean_ex ex1 (by simp [exL])
  have k2 := clean_ex ex2 (by simp [exL])
  rcases hc with rfl | rfl | rfl
  · exact k0
  · exact k1
  · exact ⟨⟨h1, h2, k2.1.a0, k2.1.a1, k2.1.s0, k2.1.s1, k2.1.t0, k2.1.t1, k2.1.r0, k2.1.r1⟩, k2.2.1, k2.2.2⟩
set_option linter.unusedSimpArgs false in
set_option maxRecDepth 100000 in
set_option maxHeartbeats 1000000 in
theorem chg22 (n : Int) (h1 : -9223372036854775808 ≤ n) (h2 : n ≤ 9223372036854775807) (w : World) : Calls Try.prog 16 #[.int .i64 2, .int .i64 2, .int .i64 n] w fun e w' => e = .returned (.bool true) ∧ Below w.heap.size w w' := by
  have hcl := clean22 n h1 h2
  have hse := set22 n
  have hl : [ex0, ex1, { ex2 with invoked := n }].length = 3 := rfl
  generalize [ex0, ex1, { ex2 with invoked := n }] = L at *
  have M1 : ∀ W, EB w L W → Calls Try.prog 18 #[.slice (some ⟨w.heap.size, 0, none⟩) 3 3, .int .i64 n, .int .i64 n] W fun e w' => e = .returned (.bool true) ∧ Below W.heap.size W w' := fun W h => by
    have := matches_any _ 3 L n n W (h.arg hcl hl)
    rwa [hl] at this
  have M2 : ∀ W, EB w L W → Calls Try.prog 18 #[.slice (some ⟨w.heap.size, 54, none⟩) 1 1, .int .i64 0, .int .i64 n] W fun e w' => e = .returned (.bool true) ∧ Below W.heap.size W w' := fun W h => by
    have := matches_any _ 1 (L.drop 2) 0 n W (h.argd hcl hl 2)
    rwa [List.length_drop, hl] at this
  have M3 : ∀ W po, EB w L W → OrdRow W po 3 [0, 2, 1] → Calls Try.prog 17 #[.slice po 3 3, .slice (some ⟨w.heap.size, 0, none⟩) 3 3] W fun e w' => e = .returned (.bool true) ∧ Below W.heap.size W w' := fun W po h ho => by
    have := agl_any _ po 3 3 L [0, 2, 1] W (by decide) (h.arg hcl hl) ho
    rwa [hl] at this
  have HSE := Lib.hid hse
  clear hcl hl hse
  go_enter Try.func16, Try.ntmps16
  go_wp2_with fail
  refine (example_blk w).mono ?_
  rintro e w1 ⟨rfl, hblk, hB⟩
  obtain ⟨u0, q⟩ : ∃ u, w1.cell? ⟨w.heap.size, 63, none⟩ = some u := ⟨_, (blk_cell hblk 63).trans (List.getElem?_eq_getElem (by rw [callsL_len]; decide))⟩
  have fz := blk_frozen hblk 63
  have hE : EB w L (w1.setCell ⟨w.heap.size, 63, none⟩ (.int .i64 n)) := ⟨by rw [setCell_eq_setRow _ _ _ _ _ _ _ hblk, setRow_heap _ _ _ _ _ _ hblk, HSE.out], hB.setCell (p := ⟨w.heap.size, 63, none⟩) (Nat.le_refl _) _⟩
  have HE := Lib.hid hE
  clear hblk hB hE
  go_wp2_with fail
  refine (M1 _ HE.out).mono ?_
  rintro e w2 ⟨rfl, hb⟩
  have hE2 := HE.out.on hb
  clear hb HE q fz
  go_wp2_with fail
  refine (M2 _ hE2).mono ?_
  rintro e w3 ⟨rfl, hb⟩
  have hE3 := hE2.on hb
  have hE4 := hE3.on (below_alloc w3 (.cells #[.int .i64 0, .int .i64 2, .int .i64 1] 3))
  clear hb hE2
  go_wp2_with fail
  refine (M3 _ _ hE4 (.inr ⟨_, 0, rfl, by decide, fun j u hj => ?_⟩)).mono ?_
  · rw [Nat.zero_add, World.cell?_alloc_new]
    match j, hj with
    | 0, h => cases h; rfl
    | 1, h => cases h; rfl
    | 2, h => cases h; rfl
    | j + 3, h => simp at h
  rintro e w5 ⟨rfl, hb⟩
  have hE5 := hE4.on hb
  clear hb
  have hbl := hE5.bl
  go_wp2
  go_returns
  exact ⟨rfl, hbl⟩
theorem set23 (n : Int) : (callsL exL).toArray.setIfInBounds 64 (.int .i64 n) = (callsL [ex0, ex1, { ex2 with took := n }]).toArray := by with_unfolding_all rfl
theorem clean23 (n : Int) (h1 : -9223372036854775808 ≤ n) (h2 : n ≤ 9223372036854775807) : CleanL [ex0, ex1, { ex2 with took := n }] := by
  intro c hc
  simp only [List.mem_cons, List.not_mem_nil, or_false] at hc
  have k0 := clean_ex ex0 (by simp [exL])
  have k1 := clean_ex ex1 (by simp [exL])
  have k2 := clean_ex ex2 (by simp [exL])
  rcases hc with rfl | rfl | rfl
  · exact k0
  · exact k1
  · exact ⟨⟨k2.1.i0, k2.1.i1, k2.1.a0, k2.1.a1, k2.1.s0, k2.1.s1, h1, h2, k2.1.r0, k2.1.r1⟩, k2.2.1, k2.2.2⟩
set_option linter.unusedSimpArgs false in
set_option maxRecDepth 100000 in
set_option maxHeartbeats 1000000 in
theorem chg23 (n : Int) (h1 : -9223372036854775808 ≤ n) (h2 : n ≤ 9223372036854775807) (w : World) : Calls Try.prog 16 #[.int .i64 2, .int .i64 3, .int .i64 n] w fun e w' => e = .returned (.bool true) ∧ Below w.heap.size w w' := by
  have hcl := clean23 n h1 h2
  have hse := set23 n
  have hl : [ex0, ex1, { ex2 with took := n }].length = 3 := rfl
  generalize [ex0, ex1, { ex2 with took := n }] = L at *
  have M1 : ∀ W, EB w L W → Calls Try.prog 18 #[.slice (some ⟨w.heap.size, 0, none⟩) 3 3, .int .i64 n, .int .i64 n] W fun e w' => e = .returned (.bool true) ∧ Below W.heap.size W w' := fun W h => by
    have := matches_any _ 3 L n n W (h.arg hcl hl)
    rwa [hl] at this
  have M2 : ∀ W, EB w L W → Calls Try.prog 18 #[.slice (some ⟨w.heap.size, 54, none⟩) 1 1, .int .i64 0, .int .i64 n] W fun e w' => e = .returned (.bool true) ∧ Below W.heap.size W w' := fun W h => by
    have := matches_any _ 1 (L.drop 2) 0 n W (h.argd hcl hl 2)
    rwa [List.length_drop, hl] at this
  have M3 : ∀ W po, EB w L W → OrdRow W po 3 [0, 2, 1] → Calls Try.prog 17 #[.slice po 3 3, .slice (some ⟨w.heap.size, 0, none⟩) 3 3] W fun e w' => e = .returned (.bool true) ∧ Below W.heap.size W w' := fun W po h ho => by
    have := agl_any _ po 3 3 L [0, 2, 1] W (by decide) (h.arg hcl hl) ho
    rwa [hl] at this
  have HSE := Lib.hid hse
  clear hcl hl hse
  go_enter Try.func16, Try.ntmps16
  go_wp2_with fail
  refine (example_blk w).mono ?_
  rintro e w1 ⟨rfl, hblk, hB⟩
  obtain ⟨u0, q⟩ : ∃ u, w1.cell? ⟨w.heap.size, 64, none⟩ = some u := ⟨_, (blk_cell hblk 64).trans (List.getElem?_eq_getElem (by rw [callsL_len]; decide))⟩
  have fz := blk_frozen hblk 64
  have hE : EB w L (w1.setCell ⟨w.heap.size, 64, none⟩ (.int .i64 n)) := ⟨by rw [setCell_eq_setRow _ _ _ _ _ _ _ hblk, setRow_heap _ _ _ _ _ _ hblk, HSE.out], hB.setCell (p := ⟨w.heap.size, 64, none⟩) (Nat.le_refl _) _⟩
  have HE := Lib.hid hE
  clear hblk hB hE
  go_wp2_with fail
  refine (M1 _ HE.out).mono ?_
  rintro e w2 ⟨rfl, hb⟩
  have hE2 := HE.out.on hb
  clear hb HE q fz
  go_wp2_with fail
  refine (M2 _ hE2).mono ?_
  rintro e w3 ⟨rfl, hb⟩
  have hE3 := hE2.on hb
  have hE4 := hE3.on (below_alloc w3 (.cells #[.int .i64 0, .int .i64 2, .int .i64 1] 3))
  clear hb hE2
  go_wp2_with fail
  refine (M3 _ _ hE4 (.inr ⟨_, 0, rfl, by decide, fun j u hj => ?_⟩)).mono ?_
  · rw [Nat.zero_add, World.cell?_alloc_new]
    match j, hj with
    | 0, h => cases h; rfl
    | 1, h => cases h; rfl
    | 2, h => cases h; rfl
    | j + 3, h => simp at h
  rintro e w5 ⟨rfl, hb⟩
  have hE5 := hE4.on hb
  clear hb
  have hbl := hE5.bl
  go_wp2
  go_returns
  exact ⟨rfl, hbl⟩
theorem set24 (n : Int) : (callsL exL).toArray.setIfInBounds 65 (.int .i64 n) = (callsL [ex0, ex1, { ex2 with rank := n }]).toArray := by with_unfolding_all rfl
theorem clean24 (n : Int) (h1 : -9223372036854775808 ≤ n) (h2 : n ≤ 9223372036854775807) : CleanL [ex0, ex1, { ex2 with rank := n }] := by
  intro c hc
  simp only [List.mem_cons, List.not_mem_nil, or_false] at hc
  have k0 := clean_ex ex0 (by simp [exL])
  have k1 := clean_ex ex1 (by simp [exL])
  have k2 := clean_ex ex2 (by simp [exL])
  rcases hc with rfl | rfl | rfl
  · exact k0
  · exact k1
  · exact ⟨⟨k2.1.i0, k2.1.i1, k2.1.a0, k2.1.a1, k2.1.s0, k2.1.s1, k2.1.t0, k2.1.t1, h1, h2⟩, k2.2.1, k2.2.2⟩
set_option linter.unusedSimpArgs false in
set_option maxRecDepth 100000 in
set_option maxHeartbeats 1000000 in
theorem chg24 (n : Int) (h1 : -9223372036854775808 ≤ n) (h2 : n ≤ 9223372036854775807) (w : World) : Calls Try.prog 16 #[.int .i64 2, .int .i64 4, .int .i64 n] w fun e w' => e = .returned (.bool true) ∧ Below w.heap.size w w' := by
  have hcl := clean24 n h1 h2
  have hse := set24 n
  have hl : [ex0, ex1, { ex2 with rank := n }].length = 3 := rfl
  generalize [ex0, ex1, { ex2 with rank := n }] = L at *
  have M1 : ∀ W, EB w L W → Calls Try.prog 18 #[.slice (some ⟨w.heap.size, 0, none⟩) 3 3, .int .i64 n, .int .i64 n] W fun e w' => e = .returned (.bool true) ∧ Below W.heap.size W w' := fun W h => by
    have := matches_any _ 3 L n n W (h.arg hcl hl)
    rwa [hl] at this
  have M2 : ∀ W, EB w L W → Calls Try.prog 18 #[.slice (some ⟨w.heap.size, 54, none⟩) 1 1, .int .i64 0, .int .i64 n] W fun e w' => e = .returned (.bool true) ∧ Below W.heap.size W w' := fun W h => by
    have := matches_any _ 1 (L.drop 2) 0 n W (h.argd hcl hl 2)
    rwa [List.length_drop, hl] at this
  have M3 : ∀ W po, EB w L W → OrdRow W po 3 [0, 2, 1] → Calls Try.prog 17 #[.slice po 3 3, .slice (some ⟨w.heap.size, 0, none⟩) 3 3] W fun e w' => e = .returned (.bool true) ∧ Below W.heap.size W w' := fun W po h ho => by
    have := agl_any _ po 3 3 L [0, 2, 1] W (by decide) (h.arg hcl hl) ho
    rwa [hl] at this
  have HSE := Lib.hid hse
  clear hcl hl hse
  go_enter Try.func16, Try.ntmps16
  go_wp2_with fail
  refine (example_blk w).mono ?_
  rintro e w1 ⟨rfl, hblk, hB⟩
  obtain ⟨u0, q⟩ : ∃ u, w1.cell? ⟨w.heap.size, 65, none⟩ = some u := ⟨_, (blk_cell hblk 65).trans (List.getElem?_eq_getElem (by rw [callsL_len]; decide))⟩
  have fz := blk_frozen hblk 65
  have hE : EB w L (w1.setCell ⟨w.heap.size, 65, none⟩ (.int .i64 n)) := ⟨by rw [setCell_eq_setRow _ _ _ _ _ _ _ hblk, setRow_heap _ _ _ _ _ _ hblk, HSE.out], hB.setCell (p := ⟨w.heap.size, 65, none⟩) (Nat.le_refl _) _⟩
  have HE := Lib.hid hE
  clear hblk hB hE
  go_wp2_with fail
  refine (M1 _ HE.out).mono ?_
  rintro e w2 ⟨rfl, hb⟩
  have hE2 := HE.out.on hb
  clear hb HE q fz
  go_wp2_with fail
  refine (M2 _ hE2).mono ?_
  rintro e w3 ⟨rfl, hb⟩
  have hE3 := hE2.on hb
  have hE4 := hE3.on (below_alloc w3 (.cells #[.int .i64 0, .int .i64 2, .int .i64 1] 3))
  clear hb hE2
  go_wp2_with fail
  refine (M3 _ _ hE4 (.inr ⟨_, 0, rfl, by decide, fun j u hj => ?_⟩)).mono ?_
  · rw [Nat.zero_add, World.cell?_alloc_new]
    match j, hj with
    | 0, h => cases h; rfl
    | 1, h => cases h; rfl
    | 2, h => cases h; rfl
    | j + 3, h => simp at h
  rintro e w5 ⟨rfl, hb⟩
  have hE5 := hE4.on hb
  clear hb
  have hbl := hE5.bl
  go_wp2
  go_returns
  exact ⟨rfl, hbl⟩
theorem set25 (n : Int) : (callsL exL).toArray.setIfInBounds 66 (.int .i64 n) = (callsL [ex0, ex1, { ex2 with answered := n }]).toArray := by with_unfolding_all rfl
theorem clean25 (n : Int) (h1 : -9223372036854775808 ≤ n) (h2 : n ≤ 9223372036854775807) : CleanL [ex0, ex1, { ex2 with answered := n }] := by
  intro c hc
  simp only [List.mem_cons, List.not_mem_nil, or_false] at hc
  have k0 := clean_ex ex0 (by simp [exL])
  have k1 := clean_ex ex1 (by simp [exL])
  have k2 := clean_ex ex2 (by simp [exL])
  rcases hc with rfl | rfl | rfl
  · exact k0
  · exact k1
  · exact ⟨⟨k2.1.i0, k2.1.i1, h1, h2, k2.1.s0, k2.1.s1, k2.1.t0, k2.1.t1, k2.1.r0, k2.1.r1⟩, k2.2.1, k2.2.2⟩
set_option linter.unusedSimpArgs false in
set_option maxRecDepth 100000 in
set_option maxHeartbeats 1000000 in
theorem chg25 (n : Int) (h1 : -9223372036854775808 ≤ n) (h2 : n ≤ 9223372036854775807) (w : World) : Calls Try.prog 16 #[.int .i64 2, .int .i64 5, .int .i64 n] w fun e w' => e = .returned (.bool true) ∧ Below w.heap.size w w' := by
  have hcl := clean25 n h1 h2
  have hse := set25 n
  have hl : [ex0, ex1, { ex2 with answered := n }].length = 3 := rfl
  generalize [ex0, ex1, { ex2 with answered := n }] = L at *
  have M1 : ∀ W, EB w L W → Calls Try.prog 18 #[.slice (some ⟨w.heap.size, 0, none⟩) 3 3, .int .i64 n, .int .i64 n] W fun e w' => e = .returned (.bool true) ∧ Below W.heap.size W w' := fun W h => by
    have := matches_any _ 3 L n n W (h.arg hcl hl)
    rwa [hl] at this
  have M2 : ∀ W, EB w L W → Calls Try.prog 18 #[.slice (some ⟨w.heap.size, 54, none⟩) 1 1, .int .i64 0, .int .i64 n] W fun e w' => e = .returned (.bool true) ∧ Below W.heap.size W w' := fun W h => by
    have := matches_any _ 1 (L.drop 2) 0 n W (h.argd hcl hl 2)
    rwa [List.length_drop, hl] at this
  have M3 : ∀ W po, EB w L W → OrdRow W po 3 [0, 2, 1] → Calls Try.prog 17 #[.slice po 3 3, .slice (some ⟨w.heap.size, 0, none⟩) 3 3] W fun e w' => e = .returned (.bool true) ∧ Below W.heap.size W w' := fun W po h ho => by
    have := agl_any _ po 3 3 L [0, 2, 1] W (by decide) (h.arg hcl hl) ho
    rwa [hl] at this
  have HSE := Lib.hid hse
  clear hcl hl hse
  go_enter Try.func16, Try.ntmps16
  go_wp2_with fail
  refine (example_blk w).mono ?_
  rintro e w1 ⟨rfl, hblk, hB⟩
  obtain ⟨u0, q⟩ : ∃ u, w1.cell? ⟨w.heap.size, 66, none⟩ = some u := ⟨_, (blk_cell hblk 66).trans (List.getElem?_eq_getElem (by rw [callsL_len]; decide))⟩
  have fz := blk_frozen hblk 66
  have hE : EB w L (w1.setCell ⟨w.heap.size, 66, none⟩ (.int .i64 n)) := ⟨by rw [setCell_eq_setRow _ _ _ _ _ _ _ hblk, setRow_heap _ _ _ _ _ _ hblk, HSE.out], hB.setCell (p := ⟨w.heap.size, 66, none⟩) (Nat.le_refl _) _⟩
  have HE := Lib.hid hE
  clear hblk hB hE
  go_wp2_with fail
  refine (M1 _ HE.out).mono ?_
  rintro e w2 ⟨rfl, hb⟩
  have hE2 := HE.out.on hb
  clear hb HE q fz
  go_wp2_with fail
  refine (M2 _ hE2).mono ?_
  rintro e w3 ⟨rfl, hb⟩
  have hE3 := hE2.on hb
  have hE4 := hE3.on (below_alloc w3 (.cells #[.int .i64 0, .int .i64 2, .int .i64 1] 3))
  clear hb hE2
  go_wp2_with fail
  refine (M3 _ _ hE4 (.inr ⟨_, 0, rfl, by decide, fun j u hj => ?_⟩)).mono ?_
  · rw [Nat.zero_add, World.cell?_alloc_new]
    match j, hj with
    | 0, h => cases h; rfl
    | 1, h => cases h; rfl
    | 2, h => cases h; rfl
    | j + 3, h => simp at h
  rintro e w5 ⟨rfl, hb⟩
  have hE5 := hE4.on hb
  clear hb
  have hbl := hE5.bl
  go_wp2
  go_returns
  exact ⟨rfl, hbl⟩
theorem set26 (n : Int) : (callsL exL).toArray.setIfInBounds 67 (.int .i64 n) = (callsL [ex0, ex1, { ex2 with steps := n }]).toArray := by with_unfolding_all rfl
theorem clean26 (n : Int) (h1 : -9223372036854775808 ≤ n) (h2 : n ≤ 9223372036854775807) : CleanL [ex0, ex1, { ex2 with steps := n }] := by
  intro c hc
  simp only [List.mem_cons, List.not_mem_nil, or_false] at hc
  have k0 := clean_ex ex0 (by simp [exL])
  have k1 := clean_ex ex1 (by simp [exL])
  have k2 := clean_ex ex2 (by simp [exL])
  rcases hc with rfl | rfl | rfl
  · exact k0
  · exact k1
  · exact ⟨⟨k2.1.i0, k2.1.i1, k2.1.a0, k2.1.a1, h1, h2, k2.1.t0, k2.1.t1, k2.1.r0, k2.1.r1⟩, k2.2.1, k2.2.2⟩
set_option linter.unusedSimpArgs false in
set_option maxRecDepth 100000 in
set_option maxHeartbeats 1000000 in
theorem chg26 (n : Int) (h1 : -9223372036854775808 ≤ n) (h2 : n ≤ 9223372036854775807) (w : World) : Calls Try.prog 16 #[.int .i64 2, .int .i64 6, .int .i64 n] w fun e w' => e = .returned (.bool true) ∧ Below w.heap.size w w' := by
  have hcl := clean26 n h1 h2
  have hse := set26 n
  have hl : [ex0, ex1, { ex2 with steps := n }].length = 3 := rfl
  generalize [ex0, ex1, { ex2 with steps := n }] = L at *
  have M1 : ∀ W, EB w L W → Calls Try.prog 18 #[.slice (some ⟨w.heap.size, 0, none⟩) 3 3, .int .i64 n, .int .i64 n] W fun e w' => e = .returned (.bool true) ∧ Below W.heap.size W w' := fun W h => by
    have := matches_any _ 3 L n n W (h.arg hcl hl)
    rwa [hl] at this
  have M2 : ∀ W, EB w L W → Calls Try.prog 18 #[.slice (some ⟨w.heap.size, 54, none⟩) 1 1, .int .i64 0, .int .i64 n] W fun e w' => e = .returned (.bool true) ∧ Below W.heap.size W w' := fun W h => by
    have := matches_any _ 1 (L.drop 2) 0 n W (h.argd hcl hl 2)
    rwa [List.length_drop, hl] at this
  have M3 : ∀ W po, EB w L W → OrdRow W po 3 [0, 2, 1] → Calls Try.prog 17 #[.slice po 3 3, .slice (some ⟨w.heap.size, 0, none⟩) 3 3] W fun e w' => e = .returned (.bool true) ∧ Below W.heap.size W w' := fun W po h ho => by
    have := agl_any _ po 3 3 L [0, 2, 1] W (by decide) (h.arg hcl hl) ho
    rwa [hl] at this
  have HSE := Lib.hid hse
  clear hcl hl hse
  go_enter Try.func16, Try.ntmps16
  go_wp2_with fail
  refine (example_blk w).mono ?_
  rintro e w1 ⟨rfl, hblk, hB⟩
  obtain ⟨u0, q⟩ : ∃ u, w1.cell? ⟨w.heap.size, 67, none⟩ = some u := ⟨_, (blk_cell hblk 67).trans (List.getElem?_eq_getElem (by rw [callsL_len]; decide))⟩
  have fz := blk_frozen hblk 67
  have hE : EB w L (w1.setCell ⟨w.heap.size, 67, none⟩ (.int .i64 n)) := ⟨by rw [setCell_eq_setRow _ _ _ _ _ _ _ hblk, setRow_heap _ _ _ _ _ _ hblk, HSE.out], hB.setCell (p := ⟨w.heap.size, 67, none⟩) (Nat.le_refl _) _⟩
  have HE := Lib.hid hE
  clear hblk hB hE
  go_wp2_with fail
  refine (M1 _ HE.out).mono ?_
  rintro e w2 ⟨rfl, hb⟩
  have hE2 := HE.out.on hb
  clear hb HE q fz
  go_wp2_with fail
  refine (M2 _ hE2).mono ?_
  rintro e w3 ⟨rfl, hb⟩
  have hE3 := hE2.on hb
  have hE4 := hE3.on (below_alloc w3 (.cells #[.int .i64 0, .int .i64 2, .int .i64 1] 3))
  clear hb hE2
  go_wp2_with fail
  refine (M3 _ _ hE4 (.inr ⟨_, 0, rfl, by decide, fun j u hj => ?_⟩)).mono ?_
  · rw [Nat.zero_add, World.cell?_alloc_new]
    match j, hj with
    | 0, h => cases h; rfl
    | 1, h => cases h; rfl
    | 2, h => cases h; rfl
    | j + 3, h => simp at h
  rintro e w5 ⟨rfl, hb⟩
  have hE5 := hE4.on hb
  clear hb
  have hbl := hE5.bl
  go_wp2
  go_returns
  exact ⟨rfl, hbl⟩
theorem set27 (n : Int) : (callsL exL).toArray.setIfInBounds 68 (.int .i64 n) = (callsL [ex0, ex1, { ex2 with err := n }]).toArray := by with_unfolding_all rfl
theorem clean27 (n : Int) (h1 : -9223372036854775808 ≤ n) (h2 : n ≤ 9223372036854775807) : CleanL [ex0, ex1, { ex2 with err := n }] := by
  intro c hc
  simp only [List.mem_cons, List.not_mem_nil, or_false] at hc
  have k0 := clean_ex ex0 (by simp [exL])
  have k1 := clean_ex ex1 (by simp [exL])
  have k2 := clean_ex ex2 (by simp [exL])
  rcases hc with rfl | rfl | rfl
  · exact k0
  · exact k1
  · exact ⟨⟨k2.1.i0, k2.1.i1, k2.1.a0, k2.1.a1, k2.1.s0, k2.1.s1, k2.1.t0, k2.1.t1, k2.1.r0, k2.1.r1⟩, k2.2.1, k2.2.2⟩
set_option linter.unusedSimpArgs false in
set_option maxRecDepth 100000 in
set_option maxHeartbeats 1000000 in
theorem chg27 (n : Int) (h1 : -9223372036854775808 ≤ n) (h2 : n ≤ 9223372036854775807) (w : World) : Calls Try.prog 16 #[.int .i64 2, .int .i64 7, .int .i64 n] w fun e w' => e = .returned (.bool true) ∧ Below w.heap.size w w' := by
  have hcl := clean27 n h1 h2
  have hse := set27 n
  have hl : [ex0, ex1, { ex2 with err := n }].length = 3 := rfl
  generalize [ex0, ex1, { ex2 with err := n }] = L at *
  have M1 : ∀ W, EB w L W → Calls Try.prog 18 #[.slice (some ⟨w.heap.size, 0, none⟩) 3 3, .int .i64 n, .int .i64 n] W fun e w' => e = .returned (.bool true) ∧ Below W.heap.size W w' := fun W h => by
    have := matches_any _ 3 L n n W (h.arg hcl hl)
    rwa [hl] at this
  have M2 : ∀ W, EB w L W → Calls Try.prog 18 #[.slice (some ⟨w.heap.size, 54, none⟩) 1 1, .int .i64 0, .int .i64 n] W fun e w' => e = .returned (.bool true) ∧ Below W.heap.size W w' := fun W h => by
    have := matches_any _ 1 (L.drop 2) 0 n W (h.argd hcl hl 2)
    rwa [List.length_drop, hl] at this
  have M3 : ∀ W po, EB w L W → OrdRow W po 3 [0, 2, 1] → Calls Try.prog 17 #[.slice po 3 3, .slice (some ⟨w.heap.size, 0, none⟩) 3 3] W fun e w' => e = .returned (.bool true) ∧ Below W.heap.size W w' := fun W po h ho => by
    have := agl_any _ po 3 3 L [0, 2, 1] W (by decide) (h.arg hcl hl) ho
    rwa [hl] at this
  have HSE := Lib.hid hse
  clear hcl hl hse
  go_enter Try.func16, Try.ntmps16
  go_wp2_with fail
  refine (example_blk w).mono ?_
  rintro e w1 ⟨rfl, hblk, hB⟩
  obtain ⟨u0, q⟩ : ∃ u, w1.cell? ⟨w.heap.size, 68, none⟩ = some u := ⟨_, (blk_cell hblk 68).trans (List.getElem?_eq_getElem (by rw [callsL_len]; decide))⟩
  have fz := blk_frozen hblk 68
  have hE : EB w L (w1.setCell ⟨w.heap.size, 68, none⟩ (.int .i64 n)) := ⟨by rw [setCell_eq_setRow _ _ _ _ _ _ _ hblk, setRow_heap _ _ _ _ _ _ hblk, HSE.out], hB.setCell (p := ⟨w.heap.size, 68, none⟩) (Nat.le_refl _) _⟩
  have HE := Lib.hid hE
  clear hblk hB hE
  go_wp2_with fail
  refine (M1 _ HE.out).mono ?_
  rintro e w2 ⟨rfl, hb⟩
  have hE2 := HE.out.on hb
  clear hb HE q fz
  go_wp2_with fail
  refine (M2 _ hE2).mono ?_
  rintro e w3 ⟨rfl, hb⟩
  have hE3 := hE2.on hb
  have hE4 := hE3.on (below_alloc w3 (.cells #[.int .i64 0, .int .i64 2, .int .i64 1] 3))
  clear hb hE2
  go_wp2_with fail
  refine (M3 _ _ hE4 (.inr ⟨_, 0, rfl, by decide, fun j u hj => ?_⟩)).mono ?_
  · rw [Nat.zero_add, World.cell?_alloc_new]
    match j, hj with
    | 0, h => cases h; rfl
    | 1, h => cases h; rfl
    | 2, h => cases h; rfl
    | j + 3, h => simp at h
  rintro e w5 ⟨rfl, hb⟩
  have hE5 := hE4.on hb
  clear hb
  have hbl := hE5.bl
  go_wp2
  go_returns
  exact ⟨rfl, hbl⟩
/-- **changed returns true.** -/
theorem changed_any (i f : Nat) (hi : i < 3) (hf : f < 8) (n : Int) (h1 : -9223372036854775808 ≤ n) (h2 : n ≤ 9223372036854775807) (w : World) : Calls Try.prog 16 #[.int .i64 i, .int .i64 f, .int .i64 n] w fun e w' => e = .returned (.bool true) ∧ Below w.heap.size w w' := by
  match i, f, hi, hf with
  | 0, 0, _, _ => exact chg00 n h1 h2 w
  | 0, 1, _, _ => exact chg01 n h1 h2 w
  | 0, 2, _, _ => exact chg02 n h1 h2 w
  | 0, 3, _, _ => exact chg03 n h1 h2 w
  | 0, 4, _, _ => exact chg04 n h1 h2 w
  | 0, 5, _, _ => exact chg05 n h1 h2 w
  | 0, 6, _, _ => exact chg06 n h1 h2 w
  | 0, 7, _, _ => exact chg07 n h1 h2 w
  | 1, 0, _, _ => exact chg10 n h1 h2 w
  | 1, 1, _, _ => exact chg11 n h1 h2 w
  | 1, 2, _, _ => exact chg12 n h1 h2 w
  | 1, 3, _, _ => exact chg13 n h1 h2 w
  | 1, 4, _, _ => exact chg14 n h1 h2 w
  | 1, 5, _, _ => exact chg15 n h1 h2 w
  | 1, 6, _, _ => exact chg16 n h1 h2 w
  | 1, 7, _, _ => exact chg17 n h1 h2 w
  | 2, 0, _, _ => exact chg20 n h1 h2 w
  | 2, 1, _, _ => exact chg21 n h1 h2 w
  | 2, 2, _, _ => exact chg22 n h1 h2 w
  | 2, 3, _, _ => exact chg23 n h1 h2 w
  | 2, 4, _, _ => exact chg24 n h1 h2 w
  | 2, 5, _, _ => exact chg25 n h1 h2 w
  | 2, 6, _, _ => exact chg26 n h1 h2 w
  | 2, 7, _, _ => exact chg27 n h1 h2 w
end Go.Proofs.Ytjinnlmmlbmodaa
