/- The texts RaF RaG RaH RaI RaI2. -/
import Derived.Test.YtlealeecmmpckaaGreatKug
import Derived.Test.YtlealeecmmpckaaGreatKxc
import Derived.Test.YtlealeecmmpckaaGreatKui
import Derived.Laws.OwnMore
import Derived.Deep.RegionLaw
namespace Go.Proofs.YtlealeecmmpckaaGreat
set_option linter.unusedVariables false
set_option linter.unusedSimpArgs false
set_option maxRecDepth 100000
set_option maxHeartbeats 8000000
open Go.RowKit Go.Lib Go.Shelf
def McI (w : World) (n : Int) (ad : Option Addr) (l : List MkV) (c : Nat) (a : Act) (wr : World) : Prop :=
  ∃ (k : Nat) (u : Nat → Value), a = { tmps := #[.int .i64 n, .slice ad l.length c, u 2, u 3, u 4, .int .i64 k, u 6, u 7, u 8, u 9, u 10, u 11, u 12, u 13, u 14, u 15, u 16, u 17, u 18, u 19, u 20, u 21, u 22, u 23, u 24, u 25, u 26, u 27, u 28, u 29, u 30, u 31, u 32, u 33, u 34, u 35, u 36, u 37, u 38, u 39, u 40, u 41, u 42, u 43, u 44, u 45, u 46, u 47, u 48, u 49, u 50, u 51, u 52, u 53], defers := [] } ∧ k ≤ l.length ∧ Below w.heap.size w wr
theorem McI.intro {w : World} {n : Int} {ad : Option Addr} {l : List MkV} {c : Nat} {a : Act} {wr : World} (k : Nat) (h : a = { tmps := #[.int .i64 n, .slice ad l.length c, a.tmps.getD 2 undef, a.tmps.getD 3 undef, a.tmps.getD 4 undef, .int .i64 k, a.tmps.getD 6 undef, a.tmps.getD 7 undef, a.tmps.getD 8 undef, a.tmps.getD 9 undef, a.tmps.getD 10 undef, a.tmps.getD 11 undef, a.tmps.getD 12 undef, a.tmps.getD 13 undef, a.tmps.getD 14 undef, a.tmps.getD 15 undef, a.tmps.getD 16 undef, a.tmps.getD 17 undef, a.tmps.getD 18 undef, a.tmps.getD 19 undef, a.tmps.getD 20 undef, a.tmps.getD 21 undef, a.tmps.getD 22 undef, a.tmps.getD 23 undef, a.tmps.getD 24 undef, a.tmps.getD 25 undef, a.tmps.getD 26 undef, a.tmps.getD 27 undef, a.tmps.getD 28 undef, a.tmps.getD 29 undef, a.tmps.getD 30 undef, a.tmps.getD 31 undef, a.tmps.getD 32 undef, a.tmps.getD 33 undef, a.tmps.getD 34 undef, a.tmps.getD 35 undef, a.tmps.getD 36 undef, a.tmps.getD 37 undef, a.tmps.getD 38 undef, a.tmps.getD 39 undef, a.tmps.getD 40 undef, a.tmps.getD 41 undef, a.tmps.getD 42 undef, a.tmps.getD 43 undef, a.tmps.getD 44 undef, a.tmps.getD 45 undef, a.tmps.getD 46 undef, a.tmps.getD 47 undef, a.tmps.getD 48 undef, a.tmps.getD 49 undef, a.tmps.getD 50 undef, a.tmps.getD 51 undef, a.tmps.getD 52 undef, a.tmps.getD 53 undef], defers := [] }) (hk : k ≤ l.length) (hB : Below w.heap.size w wr) : McI w n ad l c a wr := ⟨k, fun i => a.tmps.getD i undef, h, hk, hB⟩
theorem refMCheck_ok (n : Int) (ad : Option Addr) (c : Nat) (l : List MkV) (w : World) (hr : MRow w ad l) (hok : MkOK n l) (hn : 0 ≤ n) (hc : l.length ≤ c) : Calls Tryz.prog 132 #[.int .i64 n, .slice ad l.length c] w fun e w' => e = .returned (.int .i64 0) ∧ Below w.heap.size w w' := by
  obtain ⟨h64, hpw, hin⟩ := hok
  have hpg : ∀ i j (m x : MkV), i < j → l[i]? = some m → l[j]? = some x → m.id < x.id := fun i j m x hij hi hj => by
    obtain ⟨hil, rfl⟩ := List.getElem?_eq_some_iff.1 hi
    obtain ⟨hjl, rfl⟩ := List.getElem?_eq_some_iff.1 hj
    exact List.pairwise_iff_getElem.1 hpw i j hil hjl hij
  have HPG := Lib.hid hpg
  clear hpg hpw
  go_enter Tryz.func132, Tryz.ntmps132
  go_wp2
  refine wp_loop (McI w n ad l c) (fun a _ => l.length - (intOf (a.tmps.getD 5 undef)).toNat) ?_ ?_
  · exact McI.intro 0 rfl (by omega) (Below.refl _ _)
  · rintro a wr ⟨k, u, rfl, hk, hB⟩
    by_cases hlt : k < l.length
    · have hg := List.getElem?_eq_getElem hlt
      generalize l[k] = m at hg
      obtain ⟨g1, g2, g3, g4, g5⟩ := hin m (List.mem_of_getElem? hg)
      obtain ⟨b, off, rfl, hb⟩ := mrow_some hr (fun h => by rw [h] at hlt; simp at hlt)
      have HM := Lib.hid (fun W (hW : Below w.heap.size w W) => mcs_of (hr.on hW))
      obtain ⟨c0, c1, c2⟩ := mk_at (HM.out _ hB) hg
      have hB1 := hB.alloc hB.size (.cells #[.int .u32 m.id, .int .i64 m.at_, .int .u8 m.grav] 81)
      have hz := heap_alloc_new wr (.cells #[.int .u32 m.id, .int .i64 m.at_, .int .u8 m.grav] 81)
      have hB2 := hB1.drew
      have d1 : (m.id == 0) = false := by simp; omega
      have d2 : decide (1 < m.grav) = false := by simp; omega
      have d3 : decide (m.at_ < 0) = false := by simp; omega
      have d4 : decide (n < m.at_) = false := by simp; omega
      have hz2 : (wr.alloc (.cells #[.int .u32 m.id, .int .i64 m.at_, .int .u8 m.grav] 81)).drew.heap[wr.heap.size]? = some (.cells #[.int .u32 m.id, .int .i64 m.at_, .int .u8 m.grav] 81 (0, 0)) := hz
      obtain ⟨z0, z1, z2⟩ := blk3' hz2
      cases k with
      | zero =>
        have d5 : decide ((0 : Int) < 0) = false := rfl
        have c0' : wr.cell? ⟨b, off, none⟩ = some (.int .u32 m.id) := by simpa using c0
        have c1' : wr.cell? ⟨b, off + 1, none⟩ = some (.int .i64 m.at_) := by simpa using c1
        have c2' : wr.cell? ⟨b, off + 2, none⟩ = some (.int .u8 m.grav) := by simpa using c2
        clear c0 c1 c2
        clear hg hr hin hz hz2
        go_wp2
        refine wp_region_noPanic ?_
        refine wp_region_held_drew (S := fun W => W.cell? ⟨wr.heap.size, 0, none⟩ = some (.int .u32 m.id) ∧ W.cell? ⟨wr.heap.size, 1, none⟩ = some (.int .i64 m.at_) ∧ W.cell? ⟨wr.heap.size, 2, none⟩ = some (.int .u8 m.grav)) (by kernel_rfl) ?_ (fun hHeld => ?_)
        · exact ⟨z0, z1, z2⟩
        iterate 23 (first | (refine np_sn ?_; (try simp only [nSO])) | ((first | refine np_n ?_ ?_ ?_ | refine np_t 0 ?_ ?_ ?_); rotate_left 1; (· (intro w hSw; (try dsimp only at hSw); go_simp; all_goals with_reducible rfl)); (try simp only [nSO])))
        refine wpAnyH_done (by kernel_rfl) ?_ _
        refine NoPanic.normal ?_
        go_wp2
        exact ⟨McI.intro 1 rfl (by omega) hB2, by simp [intOf]; omega⟩
      | succ j =>
        have hg0 := List.getElem?_eq_getElem (show j < l.length by omega)
        generalize l[j] = m0 at hg0
        have hid := HPG.out j (j + 1) m0 m (by omega) hg0 hg
        have K2 := mk_at (HM.out _ hB2) hg0
        have d5 : decide (0 < j + 1) = true := by simp
        have d6 : decide ((0 : Int) < (j : Int) + 1) = true := decide_eq_true (by omega)
        have w1 : IntKind.i64.wrap (j : Int) = j := IntWalk.i64_in _ (by omega)
        have w0 : (0 : Int) ≤ j := Int.natCast_nonneg _
        have w2 : (j : Int) < l.length := by omega
        have w3 : j < l.length := by omega
        have d7 : decide (m.id ≤ m0.id) = false := by simp; omega
        clear hg hg0 hr hin hz hz2 hid
        go_wp2
        refine wp_region_noPanic ?_
        refine wp_region_held_drew (S := fun W => (W.cell? ⟨wr.heap.size, 0, none⟩ = some (.int .u32 m.id) ∧ W.cell? ⟨wr.heap.size, 1, none⟩ = some (.int .i64 m.at_) ∧ W.cell? ⟨wr.heap.size, 2, none⟩ = some (.int .u8 m.grav)) ∧ W.cell? ⟨b, off + j * 3, none⟩ = some (.int .u32 m0.id)) (by kernel_rfl) ?_ (fun hHeld => ?_)
        · exact ⟨⟨z0, z1, z2⟩, K2.1⟩
        iterate 23 (first | (refine np_sn ?_; (try simp only [nSO])) | ((first | refine np_n ?_ ?_ ?_ | refine np_t 0 ?_ ?_ ?_); rotate_left 1; (· (intro w hSw; (try dsimp only at hSw); go_simp; all_goals with_reducible rfl)); (try simp only [nSO])))
        refine wpAnyH_done (by kernel_rfl) ?_ _
        refine NoPanic.normal ?_
        go_wp2
        exact ⟨McI.intro (j + 1 + 1) rfl (by omega) hB2, by simp [intOf]; omega⟩
    · go_wp2
      go_returns
      exact ⟨rfl, hB⟩
theorem refIs_ok (ad : Option Addr) (c : Nat) (l : List MkV) (w : World) (hr : MRow w ad l) (hok : MkOK bigN l) (hc : l.length ≤ c) : Calls Tryz.prog 136 #[.slice ad l.length c] w fun e w' => e = .returned (.bool true) ∧ Below w.heap.size w w' := by
  have h1 := refMCheck_ok bigN ad c l w hr hok (by unfold bigN; omega) hc
  unfold bigN at h1
  have H1 := Lib.hid h1
  clear h1
  go_enter Tryz.func136, Tryz.ntmps136
  go_wp2_with (go_at_call 132; refine H1.out.mono ?_; rintro e w1 ⟨rfl, hB1⟩)
  go_returns
  exact ⟨rfl, hB1⟩
abbrev MOw (W : World) (B : Nat) (v : Value) (l : List MkV) : Prop := W.ownsRow B 81 3 v l.length (mksL l)
theorem MOw.snoc {W : World} {B : Nat} {v : Value} {l : List MkV} {m : MkV} (h : W.ownsRow B 81 3 v (l.length + 1) (mksL l ++ mkL m)) : MOw W B v (l ++ [m]) := by
  show W.ownsRow B 81 3 v (l ++ [m]).length (mksL (l ++ [m]))
  rw [List.length_append]; unfold mksL at *; rw [List.flatMap_append]; simpa using h
theorem dropM_take {id : Int} {l : List MkV} {k : Nat} {m : MkV} (h : l[k]? = some m) : dropM id (l.take (k + 1)) = if m.id = id then dropM id (l.take k) else dropM id (l.take k) ++ [m] := by
  unfold dropM
  rw [List.take_add_one, h, Option.toList_some, List.filter_append, List.filter_cons]
  by_cases e : m.id = id
  · rw [if_pos e, if_neg (by simpa using e)]; simp
  · rw [if_neg e, if_pos (by simpa using e)]; rfl
def RwI (w : World) (ad : Option Addr) (l : List MkV) (c : Nat) (id : Int) (a : Act) (wr : World) : Prop :=
  ∃ (k : Nat) (v : Value) (u : Nat → Value), a = { tmps := #[.slice ad l.length c, .int .u32 id, u 2, u 3, u 4, v, .int .i64 k, u 7, u 8, u 9, u 10, u 11, u 12, u 13, u 14, u 15, u 16, u 17, u 18, u 19, u 20, u 21, u 22, u 23, u 24, u 25, u 26, u 27], defers := [] } ∧ k ≤ l.length ∧ MOw wr w.heap.size v (dropM id (l.take k)) ∧ (dropM id (l.take k)).length ≤ k ∧ Below w.heap.size w wr
theorem RwI.intro {w : World} {ad : Option Addr} {l : List MkV} {c : Nat} {id : Int} {a : Act} {wr : World} (k : Nat) (v : Value) (h : a = { tmps := #[.slice ad l.length c, .int .u32 id, a.tmps.getD 2 undef, a.tmps.getD 3 undef, a.tmps.getD 4 undef, v, .int .i64 k, a.tmps.getD 7 undef, a.tmps.getD 8 undef, a.tmps.getD 9 undef, a.tmps.getD 10 undef, a.tmps.getD 11 undef, a.tmps.getD 12 undef, a.tmps.getD 13 undef, a.tmps.getD 14 undef, a.tmps.getD 15 undef, a.tmps.getD 16 undef, a.tmps.getD 17 undef, a.tmps.getD 18 undef, a.tmps.getD 19 undef, a.tmps.getD 20 undef, a.tmps.getD 21 undef, a.tmps.getD 22 undef, a.tmps.getD 23 undef, a.tmps.getD 24 undef, a.tmps.getD 25 undef, a.tmps.getD 26 undef, a.tmps.getD 27 undef], defers := [] }) (hk : k ≤ l.length) (hv : MOw wr w.heap.size v (dropM id (l.take k))) (hl : (dropM id (l.take k)).length ≤ k) (hB : Below w.heap.size w wr) : RwI w ad l c id a wr := ⟨k, v, fun i => a.tmps.getD i undef, h, hk, hv, hl, hB⟩
theorem refWithout_ok (ad : Option Addr) (c : Nat) (l : List MkV) (id : Int) (w : World) (hr : MRow w ad l) (hl : l.length ≤ 64) (hc : l.length ≤ c) : Calls Tryz.prog 137 #[.slice ad l.length c, .int .u32 id] w fun e w' => ∃ v, e = .returned v ∧ MOw w' w.heap.size v (dropM id l) ∧ Below w.heap.size w w' := by
  obtain ⟨i0, hi, hz0, hz1, hz2⟩ := info_parts infoMk
  go_enter Tryz.func137, Tryz.ntmps137
  go_wp2
  refine wp_loop (RwI w ad l c id) (fun a _ => l.length - (intOf (a.tmps.getD 6 undef)).toNat) ?_ ?_
  · exact RwI.intro 0 (.slice none 0 0) rfl (by omega) (World.ownsRow_nil _ _ _ _) (by simp [dropM]) (Below.refl _ _)
  · rintro a wr ⟨k, v, u, rfl, hk, hv, hlk, hB⟩
    by_cases hlt : k < l.length
    · have hg := List.getElem?_eq_getElem hlt
      generalize l[k] = m at hg
      obtain ⟨b, off, rfl, hb⟩ := mrow_some hr (fun h => by rw [h] at hlt; simp at hlt)
      obtain ⟨c0, c1, c2⟩ := mk_at (mcs_of (hr.on hB)) hg
      have hst := dropM_take (id := id) hg
      have HST := Lib.hid hst
      have hBz := hB.size
      generalize hX : dropM id (l.take k) = X at *
      clear hst hg hX hr
      by_cases e : m.id = id
      · have d1 : (m.id != id) = false := by simpa using e
        have HE := Lib.hid e
        clear e
        go_wp2
        exact ⟨RwI.intro (k + 1) v rfl (by omega) (by rw [HST.out, if_pos HE.out]; exact hv) (by rw [HST.out, if_pos HE.out]; omega) hB, by simp [intOf]; omega⟩
      · have d1 : (m.id != id) = true := by simpa using e
        have HE := Lib.hid e
        clear e
        go_wp2_with (at_builtin; refine wpList_append_own _ rfl _ _ 70 rfl w.heap.size 81 i0 _ 3 24 Tryz.underlying70 hi hz0 hz1 hz2 rfl (by decide) _ _ _ rfl (hv.alloc _) ⟨_, 0, none⟩ 1 1 (mkL m) rfl rfl (pieces_new _ _ _) (mkL_one _) (by unfold maxLen; omega) (by omega) (by simp; omega) ?_; intro v1 w1 hw1 hg1 _; have hB1 := (hB.alloc hB.size (.cells (mkL m).toArray 81)).grown hg1 (by simp; omega) (fun k hk => (hv.lt k hk).1); have hv1 := MOw.snoc hw1)
        exact ⟨RwI.intro (k + 1) v1 rfl (by omega) (by rw [HST.out, if_neg HE.out]; exact hv1) (by rw [HST.out, if_neg HE.out, List.length_append, List.length_singleton]; omega) hB1, by simp [intOf]; omega⟩
    · obtain rfl : k = l.length := by omega
      rw [List.take_length] at hv
      obtain ⟨av, cv, rfl⟩ := own_slice hv
      go_wp2
      go_returns
      exact ⟨_, rfl, hv, hB⟩
end Go.Proofs.YtlealeecmmpckaaGreat
namespace Go.Proofs.YtlealeecmmpckaaGreat
set_option linter.unusedVariables false
set_option linter.unusedSimpArgs false
set_option maxRecDepth 100000
set_option maxHeartbeats 8000000
open Go.RowKit Go.Lib Go.Shelf
theorem found_at {id : Int} {l : List MkV} {k : Nat} {m : MkV} (h : l[k]? = some m) (hid : m.id = id) (hno : ∀ j x, j < k → l[j]? = some x → x.id ≠ id) : findM id l = some m ∧ hasM id l = true := by
  obtain ⟨hk, rfl⟩ := List.getElem?_eq_some_iff.1 h
  constructor
  · unfold findM
    rw [List.find?_eq_some_iff_getElem]
    refine ⟨by simpa using hid, k, hk, rfl, fun j hj => ?_⟩
    have := hno j l[j] hj (List.getElem?_eq_getElem (by omega))
    simpa using this
  · unfold hasM
    rw [List.any_eq_true]
    exact ⟨l[k], List.getElem_mem hk, by simpa using hid⟩
theorem found_no {id : Int} {l : List MkV} (hno : ∀ j x, j < l.length → l[j]? = some x → x.id ≠ id) : findM id l = none ∧ hasM id l = false := by
  have h : ∀ m ∈ l, (m.id == id) = false := fun m hm => by
    obtain ⟨j, hj⟩ := List.getElem?_of_mem hm
    simpa using hno j m (List.getElem?_eq_some_iff.1 hj).1 hj
  exact ⟨by unfold findM; rw [List.find?_eq_none]; intro m hm; rw [h m hm]; simp, by unfold hasM; rw [List.any_eq_false]; intro m hm; rw [h m hm]; simp⟩
def RqI (w : World) (ad : Option Addr) (l : List MkV) (c : Nat) (id : Int) (a : Act) (wr : World) : Prop :=
  ∃ (k : Nat) (u : Nat → Value), a = { tmps := #[.slice ad l.length c, .int .u32 id, u 2, u 3, .pointer (some ⟨w.heap.size, 0, none⟩), .bool false, .int .i64 k, u 7, u 8, u 9, u 10, u 11, u 12, u 13, u 14, u 15, u 16, u 17, u 18, u 19, u 20, u 21, u 22, u 23, u 24], defers := [] } ∧ k ≤ l.length ∧ (∀ j x, j < k → l[j]? = some x → x.id ≠ id) ∧ wr = w.alloc (.cells #[.int .u32 0, .int .i64 0, .int .u8 0] 81)
theorem RqI.intro {w : World} {ad : Option Addr} {l : List MkV} {c : Nat} {id : Int} {a : Act} {wr : World} (k : Nat) (h : a = { tmps := #[.slice ad l.length c, .int .u32 id, a.tmps.getD 2 undef, a.tmps.getD 3 undef, .pointer (some ⟨w.heap.size, 0, none⟩), .bool false, .int .i64 k, a.tmps.getD 7 undef, a.tmps.getD 8 undef, a.tmps.getD 9 undef, a.tmps.getD 10 undef, a.tmps.getD 11 undef, a.tmps.getD 12 undef, a.tmps.getD 13 undef, a.tmps.getD 14 undef, a.tmps.getD 15 undef, a.tmps.getD 16 undef, a.tmps.getD 17 undef, a.tmps.getD 18 undef, a.tmps.getD 19 undef, a.tmps.getD 20 undef, a.tmps.getD 21 undef, a.tmps.getD 22 undef, a.tmps.getD 23 undef, a.tmps.getD 24 undef], defers := [] }) (hk : k ≤ l.length) (hn : ∀ j x, j < k → l[j]? = some x → x.id ≠ id) (hw : wr = w.alloc (.cells #[.int .u32 0, .int .i64 0, .int .u8 0] 81)) : RqI w ad l c id a wr := ⟨k, fun i => a.tmps.getD i undef, h, hk, hn, hw⟩
theorem refFind_ok (ad : Option Addr) (c : Nat) (l : List MkV) (id : Int) (w : World) (hr : MRow w ad l) (hl : l.length ≤ 64) (hc : l.length ≤ c) : Calls Tryz.prog 96 #[.slice ad l.length c, .int .u32 id] w fun e w' => e = .returned (foundV id l) ∧ Below w.heap.size w w' := by
  have hB0 := (Below.refl w.heap.size w).alloc (Nat.le_refl _) (.cells #[.int .u32 0, .int .i64 0, .int .u8 0] 81)
  have hres := heap_alloc_new w (.cells #[.int .u32 0, .int .i64 0, .int .u8 0] 81)
  go_enter Tryz.func96, Tryz.ntmps96
  go_wp2
  refine wp_loop (RqI w ad l c id) (fun a _ => l.length - (intOf (a.tmps.getD 6 undef)).toNat) ?_ ?_
  · exact RqI.intro 0 rfl (by omega) (fun j x hj => by omega) rfl
  · rintro a wr ⟨k, u, rfl, hk, hno, rfl⟩
    have hrw := hr.on hB0
    have HN := Lib.hid hno
    clear hno
    obtain ⟨W0, hW0⟩ : ∃ W0, w.alloc (.cells #[.int .u32 0, .int .i64 0, .int .u8 0] 81) = W0 := ⟨_, rfl⟩
    rw [hW0] at hB0 hres hrw ⊢
    have HW := Lib.hid hW0
    clear hW0
    have hlt0 := (Array.getElem?_eq_some_iff.1 hres).1
    by_cases hlt : k < l.length
    · have hg := List.getElem?_eq_getElem hlt
      generalize l[k] = m at hg
      obtain ⟨b, off, rfl, hb⟩ := mrow_some hr (fun h => by rw [h] at hlt; simp at hlt)
      obtain ⟨c0, c1, c2⟩ := mk_at (mcs_of hrw) hg
      by_cases e : m.id = id
      · have d1 : (m.id == id) = true := by simpa using e
        obtain ⟨f1, f2⟩ := found_at hg e HN.out
        have hF : foundV id l = .tuple #[.agg (mkL m).toArray, .bool true] := by unfold foundV; rw [f1, f2]; rfl
        have HF := Lib.hid hF
        obtain ⟨z0, z1, z2⟩ := blk3' hres
        obtain ⟨y0, y1, y2⟩ := blk3f hres
        clear e f1 f2 hF hg hr hrw
        go_wp2
        obtain ⟨r0, r1, r2⟩ := blk3' (set3 (u' := .int .u32 m.id) (v' := .int .i64 m.at_) (x' := .int .u8 m.grav) hres)
        have hBz := below_set3 hB0 (Nat.le_refl _) (.int .u32 m.id) (.int .i64 m.at_) (.int .u8 m.grav)
        generalize ((W0.setCell ⟨w.heap.size, 0, none⟩ (.int .u32 m.id)).setCell ⟨w.heap.size, 1, none⟩ (.int .i64 m.at_)).setCell ⟨w.heap.size, 2, none⟩ (.int .u8 m.grav) = W3 at *
        refine bodyPost_ret (v := foundV id l) ?_ rfl ⟨rfl, hBz⟩
        rw [HF.out]
        simp [results, Tryz.f96, go_sem, r0, r1, r2, mkL]
      · have d1 : (m.id == id) = false := by simpa using e
        have HE := Lib.hid e
        have HG := Lib.hid hg
        clear e hg hr hrw
        go_wp2
        exact ⟨RqI.intro (k + 1) rfl (by omega) (fun j x hj hx => by
          by_cases ej : j = k
          · subst ej
            rw [HG.out] at hx; cases hx; exact HE.out
          · exact HN.out j x (by omega) hx) HW.out.symm, by simp [intOf]; omega⟩
    · obtain rfl : k = l.length := by omega
      obtain ⟨f1, f2⟩ := found_no HN.out
      have hF : foundV id l = .tuple #[.agg (mkL zeroM).toArray, .bool false] := by unfold foundV; rw [f1, f2]; rfl
      have HF := Lib.hid hF
      obtain ⟨z0, z1, z2⟩ := blk3' hres
      obtain ⟨y0, y1, y2⟩ := blk3f hres
      clear f1 f2 hF hr hrw
      go_wp2
      obtain ⟨r0, r1, r2⟩ := blk3' (set3 (u' := .int .u32 0) (v' := .int .i64 0) (x' := .int .u8 0) hres)
      have hBz := below_set3 hB0 (Nat.le_refl _) (.int .u32 0) (.int .i64 0) (.int .u8 0)
      generalize ((W0.setCell ⟨w.heap.size, 0, none⟩ (.int .u32 0)).setCell ⟨w.heap.size, 1, none⟩ (.int .i64 0)).setCell ⟨w.heap.size, 2, none⟩ (.int .u8 0) = W3 at *
      refine bodyPost_ret (v := foundV id l) ?_ rfl ⟨rfl, hBz⟩
      rw [HF.out]
      simp [results, Tryz.f96, go_sem, r0, r1, r2, mkL, zeroM]
theorem refDrop_yes (ad : Option Addr) (c : Nat) (l : List MkV) (id : Int) (w : World) (hr : MRow w ad l) (hok : MkOK bigN l) (hc : l.length ≤ c) (hs : hasM id l = true) : Calls Tryz.prog 101 #[.slice ad l.length c, .int .u32 id] w fun e w' => ∃ v, e = .returned (.tuple #[v, .int .i64 0]) ∧ MOw w' w.heap.size v (dropM id l) ∧ Below w.heap.size w w' := by
  have h64 := hok.1
  have h1 := refIs_ok ad c l w hr hok hc
  have h2 := fun W (hW : MRow W ad l) => refFind_ok ad c l id W hW h64 hc
  have h3 := fun W (hW : MRow W ad l) => refWithout_ok ad c l id W hW h64 hc
  unfold foundV at h2
  rw [hs] at h2
  obtain ⟨f, hf⟩ : ∃ f, (findM id l).getD zeroM = f := ⟨_, rfl⟩
  rw [hf] at h2
  unfold mkL at h2
  have H1 := Lib.hid h1; have H2 := Lib.hid h2; have H3 := Lib.hid h3
  clear h1 h2 h3 hf hs
  go_enter Tryz.func101, Tryz.ntmps101
  go_wp2_with (first | (go_at_call 136; refine H1.out.mono ?_; rintro e w1 ⟨rfl, hB1⟩) | (go_at_call 96; refine (H2.out _ (hr.on hB1)).mono ?_; rintro e w2 ⟨rfl, hB2⟩; have hB3 := (hB1.trans (hB2.mono hB1.size)).alloc (hB1.trans (hB2.mono hB1.size)).size (.cells #[.int .u32 f.id, .int .i64 f.at_, .int .u8 f.grav] 81)) | (go_at_call 137; refine (H3.out _ (hr.on hB3)).mono ?_; rintro e w4 ⟨v4, rfl, hv4, hB4⟩; obtain ⟨a4, c4, rfl⟩ := own_slice hv4))
  go_returns
  exact ⟨_, rfl, own_mono hB3.size hv4, hB3.trans (hB4.mono hB3.size)⟩
theorem refDrop_no (ad : Option Addr) (c : Nat) (l : List MkV) (id : Int) (w : World) (hr : MRow w ad l) (hok : MkOK bigN l) (hc : l.length ≤ c) (hs : hasM id l = false) : Calls Tryz.prog 101 #[.slice ad l.length c, .int .u32 id] w fun e w' => e = .returned (.tuple #[.slice none 0 0, .int .i64 7]) ∧ Below w.heap.size w w' := by
  have h64 := hok.1
  have h1 := refIs_ok ad c l w hr hok hc
  have h2 := fun W (hW : MRow W ad l) => refFind_ok ad c l id W hW h64 hc
  unfold foundV at h2
  rw [hs] at h2
  obtain ⟨f, hf⟩ : ∃ f, (findM id l).getD zeroM = f := ⟨_, rfl⟩
  rw [hf] at h2
  unfold mkL at h2
  have H1 := Lib.hid h1; have H2 := Lib.hid h2
  clear h1 h2 hf hs
  go_enter Tryz.func101, Tryz.ntmps101
  go_wp2_with (first | (go_at_call 136; refine H1.out.mono ?_; rintro e w1 ⟨rfl, hB1⟩) | (go_at_call 96; refine (H2.out _ (hr.on hB1)).mono ?_; rintro e w2 ⟨rfl, hB2⟩; have hB3 := (hB1.trans (hB2.mono hB1.size)).alloc (hB1.trans (hB2.mono hB1.size)).size (.cells #[.int .u32 f.id, .int .i64 f.at_, .int .u8 f.grav] 81)))
  go_returns
  exact ⟨rfl, hB3⟩
end Go.Proofs.YtlealeecmmpckaaGreat
namespace Go.Proofs.YtlealeecmmpckaaGreat
set_option linter.unusedVariables false
set_option linter.unusedSimpArgs false
set_option maxRecDepth 100000
set_option maxHeartbeats 8000000
open Go.RowKit Go.Lib Go.Shelf
def RsH (w : World) (ad dd : Option Addr) (dn dc : Nat) (l : List MkV) (c : Nat) (d : List PcV) (a : Act) (wr : World) : Prop :=
  ∃ (k : Nat) (v : Value) (u : Nat → Value), a = { tmps := #[.slice ad l.length c, .slice dd dn dc, u 2, u 3, u 4, u 5, u 6, u 7, u 8, v, .int .i64 k, u 11, u 12, u 13, u 14, u 15, u 16, u 17, u 18, u 19, u 20, u 21, u 22, u 23, u 24, u 25, u 26, u 27, u 28, u 29, u 30, u 31, u 32, u 33, u 34, u 35, u 36, u 37, u 38, u 39, u 40, u 41, u 42, u 43, u 44, u 45, u 46, u 47], defers := [] } ∧ k ≤ l.length ∧ MOw wr w.heap.size v (shiftM d (l.take k)) ∧ Below w.heap.size w wr
theorem RsH.intro {w : World} {ad dd : Option Addr} {dn dc : Nat} {l : List MkV} {c : Nat} {d : List PcV} {a : Act} {wr : World} (k : Nat) (v : Value) (h : a = { tmps := #[.slice ad l.length c, .slice dd dn dc, a.tmps.getD 2 undef, a.tmps.getD 3 undef, a.tmps.getD 4 undef, a.tmps.getD 5 undef, a.tmps.getD 6 undef, a.tmps.getD 7 undef, a.tmps.getD 8 undef, v, .int .i64 k, a.tmps.getD 11 undef, a.tmps.getD 12 undef, a.tmps.getD 13 undef, a.tmps.getD 14 undef, a.tmps.getD 15 undef, a.tmps.getD 16 undef, a.tmps.getD 17 undef, a.tmps.getD 18 undef, a.tmps.getD 19 undef, a.tmps.getD 20 undef, a.tmps.getD 21 undef, a.tmps.getD 22 undef, a.tmps.getD 23 undef, a.tmps.getD 24 undef, a.tmps.getD 25 undef, a.tmps.getD 26 undef, a.tmps.getD 27 undef, a.tmps.getD 28 undef, a.tmps.getD 29 undef, a.tmps.getD 30 undef, a.tmps.getD 31 undef, a.tmps.getD 32 undef, a.tmps.getD 33 undef, a.tmps.getD 34 undef, a.tmps.getD 35 undef, a.tmps.getD 36 undef, a.tmps.getD 37 undef, a.tmps.getD 38 undef, a.tmps.getD 39 undef, a.tmps.getD 40 undef, a.tmps.getD 41 undef, a.tmps.getD 42 undef, a.tmps.getD 43 undef, a.tmps.getD 44 undef, a.tmps.getD 45 undef, a.tmps.getD 46 undef, a.tmps.getD 47 undef], defers := [] }) (hk : k ≤ l.length) (hv : MOw wr w.heap.size v (shiftM d (l.take k))) (hB : Below w.heap.size w wr) : RsH w ad dd dn dc l c d a wr := ⟨k, v, fun i => a.tmps.getD i undef, h, hk, hv, hB⟩
theorem pieces_set (W : World) (a : Addr) (x : Value) (L : List Value) (T : TypeId) : ∀ (j : Nat) (u : Value), L[j]? = some u → ((W.setCell a x).alloc (.cells L.toArray T)).cell? ((⟨W.heap.size, 0, none⟩ : Addr).add j) = some u := by
  have h := pieces_new (W.setCell a x) L T
  have e : (W.setCell a x).heap.size = W.heap.size := by simp [World.setCell]
  rwa [e] at h
theorem set3at {w : World} {b : Nat} {u v x v' : Value} {T : TypeId} (h : w.heap[b]? = some (.cells #[u, v, x] T (0, 0))) : (w.setCell ⟨b, 1, none⟩ v').heap[b]? = some (.cells #[u, v', x] T (0, 0)) := by
  simp [World.setCell, Array.getElem?_modify, h]
theorem refShift_ok (n a0 k0 : Int) (t : ByteArray) (ad dd : Option Addr) (c dc : Nat) (l : List MkV) (w : World) (h : RepOK n a0 k0 t) (hr : MRow w ad l) (hd : PRow w dd (repD n a0 k0 t)) (hok : MkOK n l) (hc : l.length ≤ c) (hdc : (repD n a0 k0 t).length ≤ dc) :
    Calls Tryz.prog 99 #[.slice ad l.length c, .slice dd (repD n a0 k0 t).length dc] w fun e w' => ∃ v, e = .returned (.tuple #[v, .int .i64 0]) ∧ MOw w' w.heap.size v (shiftM (repD n a0 k0 t) l) ∧ Below w.heap.size w w' := by
  obtain ⟨i0, hi, hz0, hz1, hz2⟩ := info_parts infoMk
  obtain ⟨hdo, hsn, _⟩ := rep_dok h
  have h64 := hok.1
  have hin := hok.2.2
  have hn0 : 0 ≤ n := by have := h.1; have := h.2.1; have := h.2.2.1; omega
  have le := refLengths_ok dd dc (repD n a0 k0 t) w hd hdo hdc
  rw [hsn] at le
  have ck := fun W (hW : MRow W ad l) => refMCheck_ok n ad c l W hW hok hn0 hc
  have mv := fun W (p g : Int) (hW : PRow W dd (repD n a0 k0 t)) hp hg => refMove_ok n a0 k0 p g t dd dc W h hW hdc hp hg
  have LE := Lib.hid le; have CK := Lib.hid ck; have MV := Lib.hid mv
  clear le ck mv hsn hdo
  generalize repD n a0 k0 t = D at *
  go_enter Tryz.func99, Tryz.ntmps99
  go_wp2_with (first | (go_at_call 131; refine LE.out.mono ?_; rintro e w1 ⟨rfl, hB1⟩) | (go_at_call 132; refine (CK.out _ (hr.on hB1)).mono ?_; rintro e w2 ⟨rfl, hB2⟩; have hB3 := hB1.trans (hB2.mono hB1.size)))
  refine wp_loop (RsH w ad dd D.length dc l c D) (fun a _ => l.length - (intOf (a.tmps.getD 10 undef)).toNat) ?_ ?_
  · exact RsH.intro 0 (.slice none 0 0) rfl (by omega) (World.ownsRow_nil _ _ _ _) hB3
  · clear hB1 hB2 hB3
    rintro a wr ⟨k, v, u, rfl, hk, hv, hB⟩
    have hlk : (shiftM D (l.take k)).length = k := by unfold shiftM; rw [List.length_map, List.length_take]; omega
    by_cases hlt : k < l.length
    · have hg := List.getElem?_eq_getElem hlt
      generalize l[k] = m at hg
      obtain ⟨g1, g2, g3, g4, g5⟩ := hin m (List.mem_of_getElem? hg)
      obtain ⟨b, off, rfl, hb⟩ := mrow_some hr (fun h => by rw [h] at hlt; simp at hlt)
      obtain ⟨c0, c1, c2⟩ := mk_at (mcs_of (hr.on hB)) hg
      have hB1 := hB.alloc hB.size (.cells #[.int .u32 m.id, .int .i64 m.at_, .int .u8 m.grav] 81)
      have hz := heap_alloc_new wr (.cells #[.int .u32 m.id, .int .i64 m.at_, .int .u8 m.grav] 81)
      have hv1 := hv.alloc (.cells #[.int .u32 m.id, .int .i64 m.at_, .int .u8 m.grav] 81)
      have hBz := hB.size
      have hst : shiftM D (l.take (k + 1)) = shiftM D (l.take k) ++ [{ m with at_ := posS D m.at_ m.grav }] := by
        unfold shiftM; rw [List.take_add_one, hg, Option.toList_some, List.map_append]; rfl
      have mc := MV.out (wr.alloc (.cells #[.int .u32 m.id, .int .i64 m.at_, .int .u8 m.grav] 81)) m.at_ m.grav (hd.on hB1) ⟨g4, g5⟩ (by omega)
      have HST := Lib.hid hst; have HLK := Lib.hid hlk; have MC := Lib.hid mc
      clear hst hlk hg hr hd mc
      generalize posS D m.at_ m.grav = q at *
      generalize shiftM D (l.take k) = X at *
      have hne : v.ownBlock ≠ some wr.heap.size := fun e => by have := own_ltR hv _ e; omega
      go_wp2_with (first | (go_at_call 133; refine MC.out.mono ?_; rintro e w2 ⟨rfl, hB2⟩; have hzm := (hB2.block _ (by simp)).trans hz; obtain ⟨z0, z1, z2⟩ := blk3' hzm; obtain ⟨y0, y1, y2⟩ := blk3f hzm; have hv2 := own_below6 hv1 hB2; have hz3 := set3at (v' := .int .i64 q) hzm; have hB3 := (hB1.trans (hB2.mono hB1.size)).setCell (p := ⟨wr.heap.size, 1, none⟩) hBz (.int .i64 q); have hv3 := own_keepB (w' := w2.setCell ⟨wr.heap.size, 1, none⟩ (.int .i64 q)) hv2 (fun k _ hk2 => setCell_ne _ _ _ _ (fun e => hne (by rw [hk2]; exact congrArg some e)))) | (at_builtin; refine wpList_append_own _ rfl _ _ 70 rfl w.heap.size 81 i0 _ 3 24 Tryz.underlying70 hi hz0 hz1 hz2 rfl (by decide) _ _ _ rfl (hv3.alloc _) ⟨_, 0, none⟩ 1 1 (mkL ⟨m.id, q, m.grav⟩) rfl rfl (pieces_set _ _ _ _ _) (mkL_one _) (by have := HLK.out; unfold maxLen; omega) (by have := HLK.out; omega) (by have := hB3.size; simp at this ⊢; omega) ?_; intro v4 w4 hw4 hg4 _; have hB4 := (hB3.alloc hB3.size (.cells (mkL ⟨m.id, q, m.grav⟩).toArray 81)).grown hg4 (by have := hB3.size; simp at this ⊢; omega) (fun k hk => (hv3.lt k hk).1); have hv4 := MOw.snoc hw4))
      exact ⟨RsH.intro (k + 1) v4 rfl (by omega) (by rw [HST.out]; exact hv4) hB4, by simp [intOf]; omega⟩
    · obtain rfl : k = l.length := by omega
      rw [List.take_length] at hv
      obtain ⟨av, cv, rfl⟩ := own_slice hv
      go_wp2
      go_returns
      exact ⟨_, rfl, hv, hB⟩
end Go.Proofs.YtlealeecmmpckaaGreat
namespace Go.Proofs.YtlealeecmmpckaaGreat
set_option linter.unusedVariables false
set_option linter.unusedSimpArgs false
set_option maxRecDepth 100000
set_option maxHeartbeats 8000000
open Go.RowKit Go.Lib Go.Shelf
theorem wp_append_zero {P : Program} {w : World} {o : Oper} {a : Act} {K : Act → World → Prop} {Q : Exit → Act → World → Prop} (s x : Operand) (t : TypeId)
    (ho : o.op = .call { callee := .builtin .append, args := #[s, x], argTypes := #[t, t] })
    (base : Nat) (e : TypeId) (i : TypeInfo) (size : Nat) (ht : P.underlying t = some (.slice e)) (hi : P.info? e = some i)
    (v : Value) (n : Nat) (xs : List Value) (hs : a.eval s = v) (hown : w.ownsRow base e size v n xs) (hx : a.eval x = .slice none 0 0) (h : K (a.put o.dst v) w) : o.wp P a w K Q := by
  have hrun := run_append_owned_none (P := P) (w := w) base t o.type e i size ht hi v n xs hown
  unfold Oper.wp
  simp [execOp, ho, resolve, invoke, builtin, hs, hx, hrun, Result.andThen]
  exact h
theorem wpList_append_zero {P : Program} {w : World} {ops : Array Oper} {rest : List Oper} {o : Oper} {a : Act} {Q : Exit → Act → World → Prop} (hgd : o.guard = none) (s x : Operand) (t : TypeId)
    (ho : o.op = .call { callee := .builtin .append, args := #[s, x], argTypes := #[t, t] })
    (base : Nat) (e : TypeId) (i : TypeInfo) (size : Nat) (ht : P.underlying t = some (.slice e)) (hi : P.info? e = some i)
    (v : Value) (n : Nat) (xs : List Value) (hs : a.eval s = v) (hown : w.ownsRow base e size v n xs) (hx : a.eval x = .slice none 0 0) (h : wpList P ops Q rest (a.put o.dst v) w) : wpList P ops Q (o :: rest) a w := by
  refine wpList_plain hgd fun K hK => ?_
  exact wp_append_zero s x t ho base e i size ht hi v n xs hs hown hx (hK _ _ h)
theorem dropM_lt {id : Int} {l : List MkV} (h : l.Pairwise (fun a b => a.id < b.id)) : (∀ k x, k < (loM id l).length → (dropM id l)[k]? = some x → x.id < id) ∧ (∀ x, (dropM id l)[(loM id l).length]? = some x → ¬ x.id < id) ∧ (dropM id l).take (loM id l).length = loM id l ∧ (dropM id l).drop (loM id l).length = hiM id l := by
  have e := drop_eq (id := id) h
  refine ⟨fun k x hk hx => ?_, fun x hx => ?_, by rw [e]; exact List.take_left, by rw [e]; exact List.drop_left⟩
  · rw [e, List.getElem?_append_left hk] at hx
    have := (List.mem_filter.1 (List.mem_of_getElem? hx)).2
    simpa using this
  · rw [e, List.getElem?_append_right (Nat.le_refl _)] at hx
    have := (List.mem_filter.1 (List.mem_of_getElem? hx)).2
    simp at this; omega
theorem dropM_len {id : Int} {l : List MkV} (h : l.Pairwise (fun a b => a.id < b.id)) : (dropM id l).length + (if hasM id l then 1 else 0) = l.length := by
  obtain ⟨h1, h2, h3⟩ := sp_take id h
  have e : l.length = (loM id l).length + (l.drop (idxM id l)).length := by rw [← h1, ← List.length_append, List.take_append_drop]
  rw [drop_eq h, List.length_append, e, h2]
  cases hs : hasM id l <;> rw [hs] at h3 <;> simp at h3 ⊢ <;> omega
def SeR (w0 : World) (ad : Option Addr) (l : List MkV) (c g cr bx : Nat) (rest : List MkV) (m : MkV) (lo : List MkV) (a : Act) (wr : World) : Prop :=
  ∃ (v : Value) (u : Nat → Value), a = { tmps := #[.slice ad l.length c, u 1, u 2, .pointer (some ⟨bx, 0, none⟩), u 4, u 5, .slice (some ⟨g, 0, none⟩) rest.length cr, .int .i64 (lo.length : Nat), v, u 9, u 10, u 11, u 12, u 13, u 14, u 15, u 16, u 17, u 18, u 19, u 20, u 21, u 22, u 23, u 24, u 25, u 26, u 27, u 28, u 29, u 30, u 31, u 32, u 33, u 34, u 35, u 36, u 37, u 38, u 39, u 40, u 41, u 42, u 43, u 44, u 45, u 46, u 47, u 48, u 49, u 50, u 51, u 52, u 53], defers := [] } ∧ wr.ownsRow w0.heap.size 81 3 v (0 + lo.length + 1) ([] ++ mksL lo ++ mkL m) ∧ Below w0.heap.size w0 wr
theorem SeR.intro {w0 : World} {ad : Option Addr} {l : List MkV} {c g cr bx : Nat} {rest : List MkV} {m : MkV} {lo : List MkV} {a : Act} {wr : World} (v : Value) (h : a = { tmps := #[.slice ad l.length c, a.tmps.getD 1 undef, a.tmps.getD 2 undef, .pointer (some ⟨bx, 0, none⟩), a.tmps.getD 4 undef, a.tmps.getD 5 undef, .slice (some ⟨g, 0, none⟩) rest.length cr, .int .i64 (lo.length : Nat), v, a.tmps.getD 9 undef, a.tmps.getD 10 undef, a.tmps.getD 11 undef, a.tmps.getD 12 undef, a.tmps.getD 13 undef, a.tmps.getD 14 undef, a.tmps.getD 15 undef, a.tmps.getD 16 undef, a.tmps.getD 17 undef, a.tmps.getD 18 undef, a.tmps.getD 19 undef, a.tmps.getD 20 undef, a.tmps.getD 21 undef, a.tmps.getD 22 undef, a.tmps.getD 23 undef, a.tmps.getD 24 undef, a.tmps.getD 25 undef, a.tmps.getD 26 undef, a.tmps.getD 27 undef, a.tmps.getD 28 undef, a.tmps.getD 29 undef, a.tmps.getD 30 undef, a.tmps.getD 31 undef, a.tmps.getD 32 undef, a.tmps.getD 33 undef, a.tmps.getD 34 undef, a.tmps.getD 35 undef, a.tmps.getD 36 undef, a.tmps.getD 37 undef, a.tmps.getD 38 undef, a.tmps.getD 39 undef, a.tmps.getD 40 undef, a.tmps.getD 41 undef, a.tmps.getD 42 undef, a.tmps.getD 43 undef, a.tmps.getD 44 undef, a.tmps.getD 45 undef, a.tmps.getD 46 undef, a.tmps.getD 47 undef, a.tmps.getD 48 undef, a.tmps.getD 49 undef, a.tmps.getD 50 undef, a.tmps.getD 51 undef, a.tmps.getD 52 undef, a.tmps.getD 53 undef], defers := [] }) (hn : wr.ownsRow w0.heap.size 81 3 v (0 + lo.length + 1) ([] ++ mksL lo ++ mkL m)) (hB : Below w0.heap.size w0 wr) : SeR w0 ad l c g cr bx rest m lo a wr := ⟨v, fun i => a.tmps.getD i undef, h, hn, hB⟩
def SeN (w0 : World) (ad : Option Addr) (l : List MkV) (c bx : Nat) (m : MkV) (a : Act) (wr : World) : Prop :=
  ∃ (v : Value) (u : Nat → Value), a = { tmps := #[.slice ad l.length c, u 1, u 2, .pointer (some ⟨bx, 0, none⟩), u 4, u 5, .slice none 0 0, .int .i64 0, v, u 9, u 10, u 11, u 12, u 13, u 14, u 15, u 16, u 17, u 18, u 19, u 20, u 21, u 22, u 23, u 24, u 25, u 26, u 27, u 28, u 29, u 30, u 31, u 32, u 33, u 34, u 35, u 36, u 37, u 38, u 39, u 40, u 41, u 42, u 43, u 44, u 45, u 46, u 47, u 48, u 49, u 50, u 51, u 52, u 53], defers := [] } ∧ wr.ownsRow w0.heap.size 81 3 v 1 (mkL m) ∧ Below w0.heap.size w0 wr
theorem SeN.intro {w0 : World} {ad : Option Addr} {l : List MkV} {c bx : Nat} {m : MkV} {a : Act} {wr : World} (v : Value) (h : a = { tmps := #[.slice ad l.length c, a.tmps.getD 1 undef, a.tmps.getD 2 undef, .pointer (some ⟨bx, 0, none⟩), a.tmps.getD 4 undef, a.tmps.getD 5 undef, .slice none 0 0, .int .i64 0, v, a.tmps.getD 9 undef, a.tmps.getD 10 undef, a.tmps.getD 11 undef, a.tmps.getD 12 undef, a.tmps.getD 13 undef, a.tmps.getD 14 undef, a.tmps.getD 15 undef, a.tmps.getD 16 undef, a.tmps.getD 17 undef, a.tmps.getD 18 undef, a.tmps.getD 19 undef, a.tmps.getD 20 undef, a.tmps.getD 21 undef, a.tmps.getD 22 undef, a.tmps.getD 23 undef, a.tmps.getD 24 undef, a.tmps.getD 25 undef, a.tmps.getD 26 undef, a.tmps.getD 27 undef, a.tmps.getD 28 undef, a.tmps.getD 29 undef, a.tmps.getD 30 undef, a.tmps.getD 31 undef, a.tmps.getD 32 undef, a.tmps.getD 33 undef, a.tmps.getD 34 undef, a.tmps.getD 35 undef, a.tmps.getD 36 undef, a.tmps.getD 37 undef, a.tmps.getD 38 undef, a.tmps.getD 39 undef, a.tmps.getD 40 undef, a.tmps.getD 41 undef, a.tmps.getD 42 undef, a.tmps.getD 43 undef, a.tmps.getD 44 undef, a.tmps.getD 45 undef, a.tmps.getD 46 undef, a.tmps.getD 47 undef, a.tmps.getD 48 undef, a.tmps.getD 49 undef, a.tmps.getD 50 undef, a.tmps.getD 51 undef, a.tmps.getD 52 undef, a.tmps.getD 53 undef], defers := [] }) (hn : wr.ownsRow w0.heap.size 81 3 v (0 + 1) ([] ++ mkL m)) (hB : Below w0.heap.size w0 wr) : SeN w0 ad l c bx m a wr := ⟨v, fun i => a.tmps.getD i undef, h, hn, hB⟩
structure SeW (w : World) (ar : Option Addr) (cr bx : Nat) (rest : List MkV) (m : MkV) (W : World) : Prop where
  own : MOw W 0 (.slice ar rest.length cr) rest
  box : W.heap[bx]? = some (.cells #[.int .u32 m.id, .int .i64 m.at_, .int .u8 m.grav] 81 (0, 0))
  bl : Below w.heap.size w W
theorem SeW.on {w : World} {ar : Option Addr} {cr bx : Nat} {rest : List MkV} {m : MkV} {W W' : World} (h : SeW w ar cr bx rest m W) (hb : Below W.heap.size W W') : SeW w ar cr bx rest m W' :=
  ⟨own_below6 h.own hb, (hb.block _ (Array.getElem?_eq_some_iff.1 h.box).1).trans h.box, h.bl.trans (hb.mono h.bl.size)⟩
def SeI (w : World) (ad : Option Addr) (l : List MkV) (c : Nat) (ar : Option Addr) (cr bx : Nat) (rest : List MkV) (m : MkV) (lo : Nat) (a : Act) (wr : World) : Prop :=
  ∃ (k : Nat) (u : Nat → Value), a = { tmps := #[.slice ad l.length c, u 1, u 2, .pointer (some ⟨bx, 0, none⟩), u 4, u 5, .slice ar rest.length cr, .int .i64 k, u 8, u 9, u 10, u 11, u 12, u 13, u 14, u 15, u 16, u 17, u 18, u 19, u 20, u 21, u 22, u 23, u 24, u 25, u 26, u 27, u 28, u 29, u 30, u 31, u 32, u 33, u 34, u 35, u 36, u 37, u 38, u 39, u 40, u 41, u 42, u 43, u 44, u 45, u 46, u 47, u 48, u 49, u 50, u 51, u 52, u 53], defers := [] } ∧ k ≤ lo ∧ SeW w ar cr bx rest m wr
theorem SeI.intro {w : World} {ad : Option Addr} {l : List MkV} {c : Nat} {ar : Option Addr} {cr bx : Nat} {rest : List MkV} {m : MkV} {lo : Nat} {a : Act} {wr : World} (k : Nat) (h : a = { tmps := #[.slice ad l.length c, a.tmps.getD 1 undef, a.tmps.getD 2 undef, .pointer (some ⟨bx, 0, none⟩), a.tmps.getD 4 undef, a.tmps.getD 5 undef, .slice ar rest.length cr, .int .i64 k, a.tmps.getD 8 undef, a.tmps.getD 9 undef, a.tmps.getD 10 undef, a.tmps.getD 11 undef, a.tmps.getD 12 undef, a.tmps.getD 13 undef, a.tmps.getD 14 undef, a.tmps.getD 15 undef, a.tmps.getD 16 undef, a.tmps.getD 17 undef, a.tmps.getD 18 undef, a.tmps.getD 19 undef, a.tmps.getD 20 undef, a.tmps.getD 21 undef, a.tmps.getD 22 undef, a.tmps.getD 23 undef, a.tmps.getD 24 undef, a.tmps.getD 25 undef, a.tmps.getD 26 undef, a.tmps.getD 27 undef, a.tmps.getD 28 undef, a.tmps.getD 29 undef, a.tmps.getD 30 undef, a.tmps.getD 31 undef, a.tmps.getD 32 undef, a.tmps.getD 33 undef, a.tmps.getD 34 undef, a.tmps.getD 35 undef, a.tmps.getD 36 undef, a.tmps.getD 37 undef, a.tmps.getD 38 undef, a.tmps.getD 39 undef, a.tmps.getD 40 undef, a.tmps.getD 41 undef, a.tmps.getD 42 undef, a.tmps.getD 43 undef, a.tmps.getD 44 undef, a.tmps.getD 45 undef, a.tmps.getD 46 undef, a.tmps.getD 47 undef, a.tmps.getD 48 undef, a.tmps.getD 49 undef, a.tmps.getD 50 undef, a.tmps.getD 51 undef, a.tmps.getD 52 undef, a.tmps.getD 53 undef], defers := [] }) (hk : k ≤ lo) (hW : SeW w ar cr bx rest m wr) : SeI w ad l c ar cr bx rest m lo a wr := ⟨k, fun i => a.tmps.getD i undef, h, hk, hW⟩
theorem set_done {W : World} {B n : Nat} {v : Value} {l lo hi : List MkV} {m : MkV} {k : Nat} (hs : setM m l = lo ++ m :: hi) (hl : hi.length = n) (h : W.ownsRow B 81 3 v (0 + k + 1 + n) ([] ++ mksL lo ++ mkL m ++ mksL hi)) (hk : lo.length = k := by rfl) : MOw W B v (setM m l) := by
  show W.ownsRow B 81 3 v (setM m l).length (mksL (setM m l))
  have e1 : mksL (setM m l) = [] ++ mksL lo ++ mkL m ++ mksL hi := by rw [hs, mk_split, List.nil_append, List.append_assoc]; rfl
  have e2 : (setM m l).length = 0 + k + 1 + n := by rw [hs, List.length_append, List.length_cons]; omega
  rw [e1, e2]; exact h
theorem mo_at {W : World} {B g c k : Nat} {l : List MkV} {m : MkV} (h : MOw W B (.slice (some ⟨g, 0, none⟩) l.length c) l) (hk : l[k]? = some m) : W.cell? ⟨g, k * 3, none⟩ = some (.int .u32 m.id) := by
  have h2 := (mrow_own rfl h).1
  have := (mk_at (mcs_of h2) hk).1
  rwa [Nat.zero_add] at this
theorem refSet_ok (ad : Option Addr) (c : Nat) (l : List MkV) (m : MkV) (w : World) (hr : MRow w ad l) (hok : MkOK bigN l) (hm : MkIn bigN m) (hc : l.length ≤ c) (hl : hasM m.id l = true ∨ l.length < 64) :
    Calls Tryz.prog 102 #[.slice ad l.length c, .agg #[.int .u32 m.id, .int .i64 m.at_, .int .u8 m.grav]] w fun e w' => ∃ v, e = .returned (.tuple #[v, .int .i64 0]) ∧ MOw w' w.heap.size v (setM m l) ∧ Below w.heap.size w w' := by
  obtain ⟨i0, hi, hz0, hz1, hz2⟩ := info_parts infoMk
  have h64 := hok.1
  have hpw := hok.2.1
  obtain ⟨hlt1, hlt2, htk, hdr⟩ := dropM_lt (id := m.id) hpw
  have hln := dropM_len (id := m.id) hpw
  have hlen : (dropM m.id l).length < 64 := by
    rcases hl with h | h
    · rw [h, if_pos rfl] at hln; omega
    · omega
  have hset : setM m l = loM m.id l ++ m :: hiM m.id l := rfl
  have hlo : (loM m.id l).length ≤ (dropM m.id l).length := by rw [drop_eq hpw, List.length_append]; omega
  have hB0 := (Below.refl w.heap.size w).alloc (Nat.le_refl _) (.cells #[.int .u32 m.id, .int .i64 m.at_, .int .u8 m.grav] 81)
  have hbx := heap_alloc_new w (.cells #[.int .u32 m.id, .int .i64 m.at_, .int .u8 m.grav] 81)
  have h1 := fun W (hW : Below w.heap.size w W) => refIs_ok ad c l W (hr.on hW) hok hc
  have h2 := fun W (a : Option Addr) (hW : MRow W a [m]) => refIs_ok a 1 [m] W hW ⟨by simp, by simp, fun x hx => by rw [List.mem_singleton] at hx; subst hx; exact hm⟩ (Nat.le_refl _)
  have h3 := fun W (hW : Below w.heap.size w W) => refWithout_ok ad c l m.id W (hr.on hW) h64 hc
  have H1 := Lib.hid h1; have H2 := Lib.hid h2; have H3 := Lib.hid h3; have HS := Lib.hid hset
  have HT1 := Lib.hid hlt1; have HT2 := Lib.hid hlt2; have HTK := Lib.hid htk; have HDR := Lib.hid hdr
  clear h1 h2 h3 hset hlt1 hlt2 htk hdr hln hl hpw hok hm
  have d64 : decide (64 ≤ ((dropM m.id l).length : Int)) = false := decide_eq_false (by omega)
  have d65 : decide (64 ≤ (dropM m.id l).length) = false := decide_eq_false (by omega)
  generalize dropM m.id l = rest at *
  generalize loM m.id l = lo at *
  generalize hiM m.id l = hi2 at *
  go_enter Tryz.func102, Tryz.ntmps102
  go_wp2_with (first | (go_at_call 136; refine (H2.out _ (some ⟨_, 0, none⟩) (mrow_new w1 m)).mono ?_; rintro e w2 ⟨rfl, hB2⟩; have hb2 := (Below.refl w1.heap.size w1).alloc (Nat.le_refl _) (.cells #[.int .u32 m.id, .int .i64 m.at_, .int .u8 m.grav] 81); have hb3 := hb2.trans (hB2.mono (by simp)); have hB3 := hB1.trans (hb3.mono hB1.size); have hbx3 := (hb3.block _ (Array.getElem?_eq_some_iff.1 hbx1).1).trans hbx1; obtain ⟨y0, y1, y2⟩ := blk3' hbx3) | (go_at_call 136; refine (H1.out _ hB0).mono ?_; rintro e w1 ⟨rfl, hb1⟩; have hB1 := hB0.trans (hb1.mono hB0.size); have hbx1 := (hb1.block _ (by simp)).trans hbx; obtain ⟨z0, z1, z2⟩ := blk3' hbx1) | (go_at_call 137; refine (H3.out _ hB3).mono ?_; rintro e w4 ⟨v4, rfl, hv4, hb4⟩; have hB4 := hB3.trans (hb4.mono hB3.size); have hbx4 := (hb4.block _ (Array.getElem?_eq_some_iff.1 hbx3).1).trans hbx3; obtain ⟨ar, cr, rfl⟩ := own_slice hv4))
  have hW4 : SeW w ar cr w.heap.size rest m w4 := ⟨own_mono (Nat.zero_le _) hv4, hbx4, hB4⟩
  clear hbx hbx1 hbx3 hbx4 hB0 hB1 hB2 hB3 hB4 hb1 hb2 hb3 hb4 hv4 z0 z1 z2 y0 y1 y2 hr
  refine wp_loop (SeI w ad l c ar cr w.heap.size rest m lo.length) (fun a _ => lo.length + 1 - (intOf (a.tmps.getD 7 undef)).toNat) ?_ ?_
  · exact SeI.intro 0 rfl (by omega) hW4
  · clear hW4
    rintro a wr ⟨k, u, rfl, hk, hW⟩
    have hWd := hW.on (Below.refl _ _).drew
    obtain ⟨z0, z1, z2⟩ := blk3' hWd.box
    by_cases hlt : k < lo.length
    · have hg := List.getElem?_eq_getElem (show k < rest.length by omega)
      generalize rest[k]'(by omega) = x at hg
      have hid := HT1.out k x hlt hg
      obtain ⟨g, rfl⟩ := own_someR hW.own (by omega)
      have K1 := mo_at hWd.own hg
      have d1 : decide (k < rest.length) = true := by simp; omega
      have d1' : decide ((k : Int) < rest.length) = true := by simp; omega
      have d2 : decide (x.id < m.id) = true := by simpa using hid
      have hkr : k < rest.length := by omega
      clear hg hid
      go_wp2
      refine wp_region_noPanic ?_
      refine wp_region_held_drew (S := fun W => W.cell? ⟨g, k * 3, none⟩ = some (.int .u32 x.id) ∧ W.cell? ⟨w.heap.size, 0, none⟩ = some (.int .u32 m.id)) (by kernel_rfl) ?_ (fun hHeld => ?_)
      · exact ⟨K1, z0⟩
      iterate 14 (first | (refine np_sn ?_; (try simp only [nSO])) | ((first | refine np_n ?_ ?_ ?_ | refine np_t 0 ?_ ?_ ?_); rotate_left 1; (· (intro w hSw; (try dsimp only at hSw); go_simp; all_goals with_reducible rfl)); (try simp only [nSO])))
      refine wpAnyH_done (by kernel_rfl) ?_ _
      refine NoPanic.normal ?_
      go_wp2
      exact ⟨SeI.intro (k + 1) rfl (by omega) hWd, by simp [intOf]; omega⟩
    · obtain rfl : k = lo.length := by omega
      have hre : rest = lo ++ hi2 := by have := List.take_append_drop lo.length rest; rw [HTK.out, HDR.out] at this; exact this.symm
      have HRE := Lib.hid hre
      have hWe := hWd.on (Below.refl _ _).drew
      obtain ⟨x0, x1, x2⟩ := blk3' hWe.box
      rcases own_caseR hW.own with ⟨rfl, hn0, rfl⟩ | ⟨g, rfl, hrc⟩
      · have hr0 : rest = [] := List.eq_nil_of_length_eq_zero hn0
        have hlo0 : lo = [] := by rw [hr0] at hre; exact (List.append_eq_nil_iff.1 hre.symm).1
        have hhi0 : hi2 = [] := by rw [hr0] at hre; exact (List.append_eq_nil_iff.1 hre.symm).2
        subst hr0; subst hlo0; subst hhi0
        clear hre hn0 hlen hlo hlt d64 d65
        go_wp2
        refine wp_region_noPanic ?_
        refine wp_region_held_drew (S := fun W => W.cell? ⟨w.heap.size, 0, none⟩ = some (.int .u32 m.id)) (by kernel_rfl) ?_ (fun hHeld => ?_)
        · exact z0
        iterate 14 (first | (refine np_sn ?_; (try simp only [nSO])) | ((first | refine np_n ?_ ?_ ?_ | refine np_t 0 ?_ ?_ ?_); rotate_left 1; (· (intro w hSw; (try dsimp only at hSw); go_simp; all_goals with_reducible rfl)); (try simp only [nSO])))
        refine wpAnyH_done (by kernel_rfl) ?_ _
        refine NoPanic.normal ?_
        go_wp2
        have hDz := hWe.bl.size
        have hwz : w.heap.size ≤ wr.heap.size := hW.bl.size
        have hr1 : Below wr.heap.size wr (wr.alloc (.cells #[] 81)) := (Below.refl _ wr).alloc (Nat.le_refl _) _
        have hr2 : Below wr.heap.size wr ((wr.alloc (.cells #[] 81)).alloc (.cells (mkL m).toArray 81)) := hr1.alloc hr1.size _
        have hr3 : Below wr.heap.size wr ((wr.alloc (.cells (mkL m).toArray 81)).alloc (.cells #[] 81)) := ((Below.refl _ wr).alloc (Nat.le_refl _) (.cells (mkL m).toArray 81)).alloc (by simp) _
        have hW1 := hW.on hr1
        have hW2 := hW.on hr2
        have hW3 := hW.on hr3
        obtain ⟨s0, s1, s2⟩ := blk3' hW.box
        obtain ⟨t0, t1, t2⟩ := blk3' hW1.box
        have e1 := own_empty wr
        have e2 := (own_empty wr).alloc (.cells (mkL m).toArray 81)
        have e3 := own_empty (wr.alloc (.cells (mkL m).toArray 81))
        rw [World.size_alloc] at e3
        replace e3 := own_mono (Nat.le_succ _) e3
        refine Code.wp_mono (Q := fun e a' w' => match e with | .normal => SeN wr ad l c w.heap.size m a' w' | _ => False) ?_ ?region
        case region =>
          go_region_law (first | (rw [if_pos (by rfl)]; refine wp_append_own _ _ _ 70 rfl wr.heap.size 81 i0 _ 3 24 Tryz.underlying70 hi hz0 hz1 hz2 rfl (by decide) _ 0 [] rfl (e3) ⟨_, 0, none⟩ 1 1 (mkL m) rfl rfl (new_at ((heap_alloc_old _ _ (by simp)).trans (heap_alloc_new wr _))) (mkL_one m) (by unfold maxLen; omega) (by omega) (by simp; try omega) ?_; intro v6 w6 hn6 hg6 _; have hB6 := hr3.drew.drew.grown hg6 (by simp; try omega) (fun k hk => (e3.lt k hk).1)) | (rw [if_pos (by rfl)]; refine wp_append_own _ _ _ 70 rfl wr.heap.size 81 i0 _ 3 24 Tryz.underlying70 hi hz0 hz1 hz2 rfl (by decide) _ 0 [] rfl (e2) ⟨_, 0, none⟩ 1 1 (mkL m) rfl rfl (new_at (new_second wr _ _)) (mkL_one m) (by unfold maxLen; omega) (by omega) (by simp; try omega) ?_; intro v6 w6 hn6 hg6 _; have hB6 := hr2.drew.drew.grown hg6 (by simp; try omega) (fun k hk => (e2.lt k hk).1)) | (rw [if_pos (by rfl)]; refine wp_append_zero _ _ 70 rfl wr.heap.size 81 i0 3 Tryz.underlying70 hi _ 0 [] rfl (e1) rfl ?_; skip) | (rw [if_pos (by rfl)]; refine wp_append_zero _ _ 70 rfl wr.heap.size 81 i0 3 Tryz.underlying70 hi _ 0 [] rfl (e2) rfl ?_; skip) | (rw [if_pos (by rfl)]; refine wp_append_zero _ _ 70 rfl wr.heap.size 81 i0 3 Tryz.underlying70 hi _ 0 [] rfl (e3) rfl ?_; skip))
          all_goals exact SeN.intro _ rfl hn6 hB6
        intro e6 a6 w6 h6
        cases e6 <;> first | exact False.elim h6 | skip
        obtain ⟨v6, u, rfl, hn6, hB6⟩ := h6
        obtain ⟨a6, c6, rfl⟩ := own_slice hn6
        go_wp2_with (at_builtin; refine wpList_append_zero rfl _ _ 70 rfl wr.heap.size 81 i0 3 Tryz.underlying70 hi _ _ _ rfl hn6 rfl ?_)
        go_returns
        exact ⟨_, rfl, by rw [HS.out]; exact own_mono hwz hn6, hW.bl.trans (hB6.mono hwz)⟩
      · by_cases hlr : lo.length < rest.length
        · have hg := List.getElem?_eq_getElem hlr
          generalize rest[lo.length] = x at hg
          have hid := HT2.out x hg
          have K1 := mo_at hWd.own hg
          have d1 : decide (lo.length < rest.length) = true := by simpa using hlr
          have d2 : decide (x.id < m.id) = false := by simpa using hid
          clear hg hid hre
          go_wp2
          refine wp_region_noPanic ?_
          refine wp_region_held_drew (S := fun W => W.cell? ⟨g, lo.length * 3, none⟩ = some (.int .u32 x.id) ∧ W.cell? ⟨w.heap.size, 0, none⟩ = some (.int .u32 m.id)) (by kernel_rfl) ?_ (fun hHeld => ?_)
          · exact ⟨K1, z0⟩
          iterate 14 (first | (refine np_sn ?_; (try simp only [nSO])) | ((first | refine np_n ?_ ?_ ?_ | refine np_t 0 ?_ ?_ ?_); rotate_left 1; (· (intro w hSw; (try dsimp only at hSw); go_simp; all_goals with_reducible rfl)); (try simp only [nSO])))
          refine wpAnyH_done (by kernel_rfl) ?_ _
          refine NoPanic.normal ?_
          go_wp2
          have hDz := hWe.bl.size
          have b1 : (lo.length : Int) ≤ cr := by omega
          have b2 : lo.length ≤ cr := by omega
          have b3 : (0 : Int) ≤ lo.length := Int.natCast_nonneg _
          have hwz : w.heap.size ≤ wr.heap.size := hW.bl.size
          have hr1 : Below wr.heap.size wr (wr.alloc (.cells #[] 81)) := (Below.refl _ wr).alloc (Nat.le_refl _) _
          have hr2 : Below wr.heap.size wr ((wr.alloc (.cells #[] 81)).alloc (.cells (mkL m).toArray 81)) := hr1.alloc hr1.size _
          have hr3 : Below wr.heap.size wr ((wr.alloc (.cells (mkL m).toArray 81)).alloc (.cells #[] 81)) := ((Below.refl _ wr).alloc (Nat.le_refl _) (.cells (mkL m).toArray 81)).alloc (by simp) _
          have hW1 := hW.on hr1
          have hW2 := hW.on hr2
          have hW3 := hW.on hr3
          obtain ⟨s0, s1, s2⟩ := blk3' hW.box
          obtain ⟨t0, t1, t2⟩ := blk3' hW1.box
          have e1 := own_empty wr
          have e2 := (own_empty wr).alloc (.cells (mkL m).toArray 81)
          have e3 := own_empty (wr.alloc (.cells (mkL m).toArray 81))
          rw [World.size_alloc] at e3
          replace e3 := own_mono (Nat.le_succ _) e3
          refine Code.wp_mono (Q := fun e a' w' => match e with | .normal => SeR wr ad l c g cr w.heap.size rest m lo a' w' | _ => False) ?_ ?region
          case region =>
            go_region_law (first | (rw [if_pos (by rfl)]; refine wp_append_own _ _ _ 70 rfl wr.heap.size 81 i0 _ 3 24 Tryz.underlying70 hi hz0 hz1 hz2 rfl (by decide) _ _ _ rfl (hn1.alloc _) ⟨_, 0, none⟩ 1 1 (mkL m) rfl rfl (pieces_new w5 _ _) (mkL_one m) (by unfold maxLen; omega) (by omega) (by have := hB5.size; simp at this ⊢; omega) ?_; intro v6 w6 hn6 hg6 _; have hB6 := (hB5.alloc hB5.size (.cells (mkL m).toArray 81)).grown hg6 (by have := hB5.size; simp at this ⊢; omega) (fun k hk => (hn1.lt k hk).1)) | (rw [if_pos (by rfl)]; refine wp_append_own _ _ _ 70 rfl wr.heap.size 81 i0 _ 3 24 Tryz.underlying70 hi hz0 hz1 hz2 rfl (by decide) _ _ _ rfl (hn2) ⟨_, 0, none⟩ 1 1 (mkL m) rfl rfl (new_at hz5) (mkL_one m) (by unfold maxLen; omega) (by omega) (by have := hB5b.size; simp at this ⊢; omega) ?_; intro v6 w6 hn6 hg6 _; have hB6 := hB5b.grown hg6 hB5b.size (fun k hk => (hn2.lt k hk).1)) | (rw [if_pos (by rfl)]; refine wp_append_own _ _ _ 70 rfl wr.heap.size 81 i0 _ 3 24 Tryz.underlying70 hi hz0 hz1 hz2 rfl (by decide) _ _ _ rfl (hn3) ⟨_, 0, none⟩ 1 1 (mkL m) rfl rfl (new_at hz5c) (mkL_one m) (by unfold maxLen; omega) (by omega) (by have := hB5c.size; simp at this ⊢; omega) ?_; intro v6 w6 hn6 hg6 _; have hB6 := hB5c.grown hg6 hB5c.size (fun k hk => (hn3.lt k hk).1)) | (rw [if_pos (by rfl)]; refine wp_append_own _ _ _ 70 rfl wr.heap.size 81 i0 _ 3 24 Tryz.underlying70 hi hz0 hz1 hz2 rfl (by decide) _ 0 [] rfl (e1) ⟨g, 0, none⟩ lo.length cr (mksL lo) rfl (mk_len lo) (src_lo (hW1.own) HRE.out) (mk_ones lo) (by unfold maxLen; omega) (by omega) (by simp) ?_; intro v1 w5 hn1 hg1 _; have hB5 := hr1.drew.drew.grown hg1 (by simp) (fun k hk => (e1.lt k hk).1); have hW5 := hW.on hB5; obtain ⟨x50, x51, x52⟩ := blk3' hW5.box) | (rw [if_pos (by rfl)]; refine wp_append_own _ _ _ 70 rfl wr.heap.size 81 i0 _ 3 24 Tryz.underlying70 hi hz0 hz1 hz2 rfl (by decide) _ 0 [] rfl (e2) ⟨g, 0, none⟩ lo.length cr (mksL lo) rfl (mk_len lo) (src_lo (hW2.own) HRE.out) (mk_ones lo) (by unfold maxLen; omega) (by omega) (by simp; try omega) ?_; intro v1b w5b hn2 hg2 _; have hB5b := hr2.drew.drew.grown hg2 (by simp; try omega) (fun k hk => (e2.lt k hk).1); have hz5 : w5b.heap[wr.heap.size + 1]? = some (.cells (mkL m).toArray 81 (0, 0)) := (hg2.block _ (by simp) (show some (wr.heap.size + 1) ≠ some wr.heap.size by simp)).trans (new_second wr _ _)) | (rw [if_pos (by rfl)]; refine wp_append_own _ _ _ 70 rfl wr.heap.size 81 i0 _ 3 24 Tryz.underlying70 hi hz0 hz1 hz2 rfl (by decide) _ 0 [] rfl (e3) ⟨g, 0, none⟩ lo.length cr (mksL lo) rfl (mk_len lo) (src_lo (hW3.own) HRE.out) (mk_ones lo) (by unfold maxLen; omega) (by omega) (by simp; try omega) ?_; intro v1c w5c hn3 hg3 _; have hB5c := hr3.drew.drew.grown hg3 (by simp; try omega) (fun k hk => (e3.lt k hk).1); have hz5c : w5c.heap[wr.heap.size]? = some (.cells (mkL m).toArray 81 (0, 0)) := (hg3.block _ (by simp; try omega) (show some wr.heap.size ≠ some (wr.heap.size + 1) by simp)).trans ((heap_alloc_old _ _ (by simp)).trans (heap_alloc_new wr _))))
            all_goals exact SeR.intro _ rfl hn6 hB6
          intro e6 a6 w6 h6
          cases e6 <;> first | exact False.elim h6 | skip
          obtain ⟨v6, u, rfl, hn6, hB6⟩ := h6
          have hW6 := hW.on hB6
          have hhl : hi2.length = rest.length - lo.length := by have := congrArg List.length HRE.out; rw [List.length_append] at this; omega
          have HHL := Lib.hid hhl
          clear hhl
          go_wp2_with (at_builtin; refine wpList_append_own _ rfl _ _ 70 rfl wr.heap.size 81 i0 _ 3 24 Tryz.underlying70 hi hz0 hz1 hz2 rfl (by decide) _ _ _ rfl hn6 _ (rest.length - lo.length) _ (mksL hi2) rfl (by rw [mk_len, HHL.out]) (src_hi hW6.own HRE.out) (mk_ones _) (by unfold maxLen; omega) (by omega) (by have := hB6.size; omega) ?_; intro v7 w7 hn7 hg7 _; have hB7 : Below wr.heap.size w6 w7 := (Below.refl _ w6).grown hg7 hB6.size (fun k hk => (hn6.lt k hk).1))
          obtain ⟨a7, c7, rfl⟩ := own_slice hn7
          go_returns
          exact ⟨_, rfl, own_mono hwz (set_done HS.out HHL.out hn7), (hW.bl.trans (hB6.mono hwz)).trans (hB7.mono hwz)⟩
        · have hhe : lo.length = rest.length := by omega
          have hhi0 : hi2 = [] := List.eq_nil_of_length_eq_zero (by have := congrArg List.length hre; rw [List.length_append] at this; omega)
          have HHI := Lib.hid hhi0
          have d1 : decide (lo.length < rest.length) = false := by simp; omega
          have HHE := Lib.hid hhe
          clear hre hhi0 hhe
          go_wp2
          refine wp_region_noPanic ?_
          refine wp_region_held_drew (S := fun W => W.cell? ⟨w.heap.size, 0, none⟩ = some (.int .u32 m.id)) (by kernel_rfl) ?_ (fun hHeld => ?_)
          · exact z0
          iterate 14 (first | (refine np_sn ?_; (try simp only [nSO])) | ((first | refine np_n ?_ ?_ ?_ | refine np_t 0 ?_ ?_ ?_); rotate_left 1; (· (intro w hSw; (try dsimp only at hSw); go_simp; all_goals with_reducible rfl)); (try simp only [nSO])))
          refine wpAnyH_done (by kernel_rfl) ?_ _
          refine NoPanic.normal ?_
          go_wp2
          have hDz := hWe.bl.size
          have b1 : (lo.length : Int) ≤ cr := by omega
          have b2 : lo.length ≤ cr := by omega
          have b3 : (0 : Int) ≤ lo.length := Int.natCast_nonneg _
          have hwz : w.heap.size ≤ wr.heap.size := hW.bl.size
          have hr1 : Below wr.heap.size wr (wr.alloc (.cells #[] 81)) := (Below.refl _ wr).alloc (Nat.le_refl _) _
          have hr2 : Below wr.heap.size wr ((wr.alloc (.cells #[] 81)).alloc (.cells (mkL m).toArray 81)) := hr1.alloc hr1.size _
          have hr3 : Below wr.heap.size wr ((wr.alloc (.cells (mkL m).toArray 81)).alloc (.cells #[] 81)) := ((Below.refl _ wr).alloc (Nat.le_refl _) (.cells (mkL m).toArray 81)).alloc (by simp) _
          have hW1 := hW.on hr1
          have hW2 := hW.on hr2
          have hW3 := hW.on hr3
          obtain ⟨s0, s1, s2⟩ := blk3' hW.box
          obtain ⟨t0, t1, t2⟩ := blk3' hW1.box
          have e1 := own_empty wr
          have e2 := (own_empty wr).alloc (.cells (mkL m).toArray 81)
          have e3 := own_empty (wr.alloc (.cells (mkL m).toArray 81))
          rw [World.size_alloc] at e3
          replace e3 := own_mono (Nat.le_succ _) e3
          refine Code.wp_mono (Q := fun e a' w' => match e with | .normal => SeR wr ad l c g cr w.heap.size rest m lo a' w' | _ => False) ?_ ?region
          case region =>
            go_region_law (first | (rw [if_pos (by rfl)]; refine wp_append_own _ _ _ 70 rfl wr.heap.size 81 i0 _ 3 24 Tryz.underlying70 hi hz0 hz1 hz2 rfl (by decide) _ _ _ rfl (hn1.alloc _) ⟨_, 0, none⟩ 1 1 (mkL m) rfl rfl (pieces_new w5 _ _) (mkL_one m) (by unfold maxLen; omega) (by omega) (by have := hB5.size; simp at this ⊢; omega) ?_; intro v6 w6 hn6 hg6 _; have hB6 := (hB5.alloc hB5.size (.cells (mkL m).toArray 81)).grown hg6 (by have := hB5.size; simp at this ⊢; omega) (fun k hk => (hn1.lt k hk).1)) | (rw [if_pos (by rfl)]; refine wp_append_own _ _ _ 70 rfl wr.heap.size 81 i0 _ 3 24 Tryz.underlying70 hi hz0 hz1 hz2 rfl (by decide) _ _ _ rfl (hn2) ⟨_, 0, none⟩ 1 1 (mkL m) rfl rfl (new_at hz5) (mkL_one m) (by unfold maxLen; omega) (by omega) (by have := hB5b.size; simp at this ⊢; omega) ?_; intro v6 w6 hn6 hg6 _; have hB6 := hB5b.grown hg6 hB5b.size (fun k hk => (hn2.lt k hk).1)) | (rw [if_pos (by rfl)]; refine wp_append_own _ _ _ 70 rfl wr.heap.size 81 i0 _ 3 24 Tryz.underlying70 hi hz0 hz1 hz2 rfl (by decide) _ _ _ rfl (hn3) ⟨_, 0, none⟩ 1 1 (mkL m) rfl rfl (new_at hz5c) (mkL_one m) (by unfold maxLen; omega) (by omega) (by have := hB5c.size; simp at this ⊢; omega) ?_; intro v6 w6 hn6 hg6 _; have hB6 := hB5c.grown hg6 hB5c.size (fun k hk => (hn3.lt k hk).1)) | (rw [if_pos (by rfl)]; refine wp_append_own _ _ _ 70 rfl wr.heap.size 81 i0 _ 3 24 Tryz.underlying70 hi hz0 hz1 hz2 rfl (by decide) _ 0 [] rfl (e1) ⟨g, 0, none⟩ lo.length cr (mksL lo) rfl (mk_len lo) (src_lo (hW1.own) HRE.out) (mk_ones lo) (by unfold maxLen; omega) (by omega) (by simp) ?_; intro v1 w5 hn1 hg1 _; have hB5 := hr1.drew.drew.grown hg1 (by simp) (fun k hk => (e1.lt k hk).1); have hW5 := hW.on hB5; obtain ⟨x50, x51, x52⟩ := blk3' hW5.box) | (rw [if_pos (by rfl)]; refine wp_append_own _ _ _ 70 rfl wr.heap.size 81 i0 _ 3 24 Tryz.underlying70 hi hz0 hz1 hz2 rfl (by decide) _ 0 [] rfl (e2) ⟨g, 0, none⟩ lo.length cr (mksL lo) rfl (mk_len lo) (src_lo (hW2.own) HRE.out) (mk_ones lo) (by unfold maxLen; omega) (by omega) (by simp; try omega) ?_; intro v1b w5b hn2 hg2 _; have hB5b := hr2.drew.drew.grown hg2 (by simp; try omega) (fun k hk => (e2.lt k hk).1); have hz5 : w5b.heap[wr.heap.size + 1]? = some (.cells (mkL m).toArray 81 (0, 0)) := (hg2.block _ (by simp) (show some (wr.heap.size + 1) ≠ some wr.heap.size by simp)).trans (new_second wr _ _)) | (rw [if_pos (by rfl)]; refine wp_append_own _ _ _ 70 rfl wr.heap.size 81 i0 _ 3 24 Tryz.underlying70 hi hz0 hz1 hz2 rfl (by decide) _ 0 [] rfl (e3) ⟨g, 0, none⟩ lo.length cr (mksL lo) rfl (mk_len lo) (src_lo (hW3.own) HRE.out) (mk_ones lo) (by unfold maxLen; omega) (by omega) (by simp; try omega) ?_; intro v1c w5c hn3 hg3 _; have hB5c := hr3.drew.drew.grown hg3 (by simp; try omega) (fun k hk => (e3.lt k hk).1); have hz5c : w5c.heap[wr.heap.size]? = some (.cells (mkL m).toArray 81 (0, 0)) := (hg3.block _ (by simp; try omega) (show some wr.heap.size ≠ some (wr.heap.size + 1) by simp)).trans ((heap_alloc_old _ _ (by simp)).trans (heap_alloc_new wr _))))
            all_goals exact SeR.intro _ rfl hn6 hB6
          intro e6 a6 w6 h6
          cases e6 <;> first | exact False.elim h6 | skip
          obtain ⟨v6, u, rfl, hn6, hB6⟩ := h6
          by_cases hkc : cr = lo.length
          · subst hkc
            have hW6 := hW.on hB6
            have hhl : hi2.length = rest.length - lo.length := by have := congrArg List.length HRE.out; rw [List.length_append] at this; omega
            have HHL := Lib.hid hhl
            clear hhl
            go_wp2_with (at_builtin; refine wpList_append_own _ rfl _ _ 70 rfl wr.heap.size 81 i0 _ 3 24 Tryz.underlying70 hi hz0 hz1 hz2 rfl (by decide) _ _ _ rfl hn6 _ _ _ (mksL hi2) rfl (by rw [mk_len, HHL.out]; first | rfl | (have := HHE.out; omega)) (fun j u hj => by rw [HHI.out] at hj; cases hj) (mk_ones _) (by have := HHE.out; unfold maxLen; omega) (by have := HHE.out; omega) (by have := hB6.size; omega) ?_; intro v7 w7 hn7 hg7 _; have hB7 : Below wr.heap.size w6 w7 := (Below.refl _ w6).grown hg7 hB6.size (fun k hk => (hn6.lt k hk).1))
            obtain ⟨a7, c7, rfl⟩ := own_slice hn7
            go_returns
            exact ⟨_, rfl, own_mono hwz (set_done HS.out (by first | exact HHL.out | (rw [HHL.out]; have := HHE.out; omega)) hn7), (hW.bl.trans (hB6.mono hwz)).trans (hB7.mono hwz)⟩
          · have hkc2 : (cr : Int) ≠ lo.length := by omega
            have hW6 := hW.on hB6
            have hhl : hi2.length = rest.length - lo.length := by have := congrArg List.length HRE.out; rw [List.length_append] at this; omega
            have HHL := Lib.hid hhl
            clear hhl
            go_wp2_with (at_builtin; refine wpList_append_own _ rfl _ _ 70 rfl wr.heap.size 81 i0 _ 3 24 Tryz.underlying70 hi hz0 hz1 hz2 rfl (by decide) _ _ _ rfl hn6 _ (rest.length - lo.length) _ (mksL hi2) rfl (by rw [mk_len, HHL.out]) (fun j u hj => by rw [HHI.out] at hj; cases hj) (mk_ones _) (by have := HHE.out; unfold maxLen; omega) (by have := HHE.out; omega) (by have := hB6.size; omega) ?_; intro v7 w7 hn7 hg7 _; have hB7 : Below wr.heap.size w6 w7 := (Below.refl _ w6).grown hg7 hB6.size (fun k hk => (hn6.lt k hk).1))
            obtain ⟨a7, c7, rfl⟩ := own_slice hn7
            go_returns
            exact ⟨_, rfl, own_mono hwz (set_done HS.out (by first | exact HHL.out | (rw [HHL.out]; have := HHE.out; omega)) hn7), (hW.bl.trans (hB6.mono hwz)).trans (hB7.mono hwz)⟩
end Go.Proofs.YtlealeecmmpckaaGreat
namespace Go.Proofs.YtlealeecmmpckaaGreat
set_option linter.unusedVariables false
set_option linter.unusedSimpArgs false
set_option maxRecDepth 100000
set_option maxHeartbeats 8000000
open Go.RowKit Go.Lib Go.Shelf
theorem refSet_full (ad : Option Addr) (c : Nat) (l : List MkV) (m : MkV) (w : World) (hr : MRow w ad l) (hok : MkOK bigN l) (hm : MkIn bigN m) (hc : l.length ≤ c) (hl : ¬(hasM m.id l = true ∨ l.length < 64)) :
    Calls Tryz.prog 102 #[.slice ad l.length c, .agg #[.int .u32 m.id, .int .i64 m.at_, .int .u8 m.grav]] w fun e w' => e = .returned (.tuple #[.slice none 0 0, .int .i64 20]) ∧ Below w.heap.size w w' := by
  obtain ⟨i0, hi, hz0, hz1, hz2⟩ := info_parts infoMk
  have h64 := hok.1
  have hpw := hok.2.1
  have hln := dropM_len (id := m.id) hpw
  have hlen : 64 ≤ (dropM m.id l).length := by
    rcases Bool.eq_false_or_eq_true (hasM m.id l) with h | h
    · exact absurd (.inl h) hl
    · rw [h, if_neg (by simp)] at hln; have : ¬ l.length < 64 := fun x => hl (.inr x); omega
  have hB0 := (Below.refl w.heap.size w).alloc (Nat.le_refl _) (.cells #[.int .u32 m.id, .int .i64 m.at_, .int .u8 m.grav] 81)
  have hbx := heap_alloc_new w (.cells #[.int .u32 m.id, .int .i64 m.at_, .int .u8 m.grav] 81)
  have h1 := fun W (hW : Below w.heap.size w W) => refIs_ok ad c l W (hr.on hW) hok hc
  have h2 := fun W (a : Option Addr) (hW : MRow W a [m]) => refIs_ok a 1 [m] W hW ⟨by simp, by simp, fun x hx => by rw [List.mem_singleton] at hx; subst hx; exact hm⟩ (Nat.le_refl _)
  have h3 := fun W (hW : Below w.heap.size w W) => refWithout_ok ad c l m.id W (hr.on hW) h64 hc
  have H1 := Lib.hid h1; have H2 := Lib.hid h2; have H3 := Lib.hid h3
  clear h1 h2 h3 hln hl hpw hok hm
  have d64 : decide (64 ≤ ((dropM m.id l).length : Int)) = true := decide_eq_true (by omega)
  have d65 : decide (64 ≤ (dropM m.id l).length) = true := decide_eq_true (by omega)
  generalize dropM m.id l = rest at *
  go_enter Tryz.func102, Tryz.ntmps102
  go_wp2_with (first | (go_at_call 136; refine (H2.out _ (some ⟨_, 0, none⟩) (mrow_new w1 m)).mono ?_; rintro e w2 ⟨rfl, hB2⟩; have hb2 := (Below.refl w1.heap.size w1).alloc (Nat.le_refl _) (.cells #[.int .u32 m.id, .int .i64 m.at_, .int .u8 m.grav] 81); have hb3 := hb2.trans (hB2.mono (by simp)); have hB3 := hB1.trans (hb3.mono hB1.size); have hbx3 := (hb3.block _ (Array.getElem?_eq_some_iff.1 hbx1).1).trans hbx1; obtain ⟨y0, y1, y2⟩ := blk3' hbx3) | (go_at_call 136; refine (H1.out _ hB0).mono ?_; rintro e w1 ⟨rfl, hb1⟩; have hB1 := hB0.trans (hb1.mono hB0.size); have hbx1 := (hb1.block _ (by simp)).trans hbx; obtain ⟨z0, z1, z2⟩ := blk3' hbx1) | (go_at_call 137; refine (H3.out _ hB3).mono ?_; rintro e w4 ⟨v4, rfl, hv4, hb4⟩; have hB4 := hB3.trans (hb4.mono hB3.size); have hbx4 := (hb4.block _ (Array.getElem?_eq_some_iff.1 hbx3).1).trans hbx3; obtain ⟨ar, cr, rfl⟩ := own_slice hv4))
  go_returns
  exact ⟨rfl, hB4⟩
end Go.Proofs.YtlealeecmmpckaaGreat
