/- handle.Sort, by the shelf's contracts. -/
import Derived.Test.YtipljlejhdggnaaDoorHanV
import Derived.Test.YtipljlejhdggnaaDoorSortShelf
namespace Go.Proofs.YtipljlejhdggnaaDoor
open Go.Shelf Go.RowKit Go.Lib Go.Sort

/-- What handle.Sort returns. -/
def sorted (zs : List UInt64) : List UInt64 := zs.mergeSort fun x y => !ltH y x
def setH (zs : List UInt64) : List UInt64 := compactUpTo (sorted zs).toArray (sorted zs).toArray.size

theorem cmpH (blk off size : Nat) (w : World) : CmpReads Tryd.prog 41 #[] hv cfH blk off size w := fun _ _ _ _ x y => (closure_any x y _).mono fun _ _ ⟨h, k⟩ => ⟨h, 0, k⟩

theorem sortFunc_any (g cap : Nat) (zs : List UInt64) (w : World) (hH : Holds hv w g 0 zs.toArray) (hg : g < w.heap.size) (hn : zs.length ≤ 1000000) :
    Calls Tryd.prog 40 #[.slice (some ⟨g, 0, none⟩) zs.length cap, .func (.func 41) #[] #[]] w fun e w' => e = .returned (.tuple #[]) ∧ ∃ n os, w' = grow (putRow hv (Sort.ahead w n) g 0 (sorted zs).toArray) os := by
  have eg : ∀ args w, (callFunc 41 args).run Tryd.prog w = .ok (.enter 41 args) w := enters_of Tryd.func41 (by kernel_rfl) rfl
  have h := Any.slices_SortFunc_total Tryd.sortL hv hv_one cfH (by rw [ltOf_cfH]; exact swoH) 41 #[] g 0 cap zs.toArray w eg (cmpH g 0 zs.toArray.size w).lays hH hg (by simp; omega) (by rw [ltOf_cfH]; exact totH)
  rw [ltOf_cfH] at h
  exact h

theorem mergeSort_len (zs : List UInt64) : (sorted zs).length = zs.length := by unfold sorted; simp
theorem setH_len (zs : List UInt64) : (setH zs).length ≤ zs.length := by
  unfold setH compactUpTo
  refine Nat.le_trans ?_ (Nat.le_of_eq (mergeSort_len zs))
  rw [List.length_map]
  refine Nat.le_trans (List.length_filter_le _ _) ?_
  simp

theorem compact_any (g cap : Nat) (d : Array UInt64) (w : World) (hH : Holds hv w g 0 d) (hn : d.size ≤ 1000000) (hc : d.size ≤ cap) :
    Calls Tryd.prog 42 #[.slice (some ⟨g, 0, none⟩) d.size cap] w fun e w' => e = .returned (.slice (some ⟨g, 0, none⟩) (compactUpTo d d.size).length cap) ∧ ∃ q, w' = putRow hv (Sort.ahead w q) g 0 (compactUpTo d d.size ++ List.replicate (d.size - (compactUpTo d d.size).length) 0).toArray :=
  AnyE.slices_Compact Tryd.compactL hv hv_one (hv_eql _) ⟨fun x y w => by
    have h := (NeqAt.intD Tryd.prog 23 .u64).1 (x.toNat : Int) (y.toNat : Int) w
    have e : decide ((x.toNat : Int) = (y.toNat : Int)) = decide (x = y) := by
      rw [Bool.eq_iff_iff]
      simp only [decide_eq_true_eq]
      exact ⟨fun e => UInt64.toNat_inj.1 (by omega), fun e => by rw [e]⟩
    simp only [e] at h
    exact h, (hv_eql _).2⟩ 0 (fun w => Tryd.zeroValue23 w) g 0 cap d w hH (by omega) hc

theorem clone_any (b off c : Nat) (zs : List UInt64) (w : World) (hn : zs.length ≤ 1000000) (h : ∀ j u, zs[j]? = some u → w.cell? ⟨b, off + j, none⟩ = some (hv u)) :
    Calls Tryd.prog 39 #[.slice (some ⟨b, off, none⟩) zs.length c] w fun e w' => ∃ v', e = .returned v' ∧ w'.ownsRow w.heap.size 23 1 v' zs.length (zs.map hv) ∧ v' ≠ .slice none 0 0 ∧ Below w.heap.size w w' := by
  obtain ⟨i0, hi, hz0, hz1, hz2⟩ := info_parts Tryd.infoH
  exact AnyE.slices_Clone Tryd.cloneL i0 (.int .u64 0) 1 8 hi hz0 hz1 hz2 rfl (by decide) (fun w => Tryd.sizeOf23 w) b off zs.length c (zs.map hv) w (by simp) (by unfold maxLen; omega) (by omega) (fun j u hj => by
    rw [List.getElem?_map] at hj
    cases hz : zs[j]? with
    | none => rw [hz] at hj; cases hj
    | some z => rw [hz] at hj; cases hj; exact h j z hz) (ones_h _)

set_option maxHeartbeats 1000000 in
theorem sort_some (b off c : Nat) (zs : List UInt64) (w : World) (hn : zs.length ≤ 1000000) (h : ∀ j u, zs[j]? = some u → w.cell? ⟨b, off + j, none⟩ = some (hv u)) :
    Calls Tryd.prog 31 #[.slice (some ⟨b, off, none⟩) zs.length c] w fun e w' => ∃ v, e = .returned v ∧ w'.ownsRow w.heap.size 23 1 v (setH zs).length ((setH zs).map hv) ∧ Below w.heap.size w w' := by
  have hcl := clone_any b off c zs w hn h
  clear h
  go_enter Tryd.func31, Tryd.ntmps31
  go_wp2_with fail
  refine hcl.mono ?_
  rintro e w1 ⟨v1, rfl, hown, hnil, hB⟩
  rcases hown.2 with ⟨h1, _⟩ | ⟨g, cap, cur, rfl, hbase, hg, hnc, hcm, hcs, htake⟩
  · exact absurd h1 hnil
  have hlt := (Array.getElem?_eq_some_iff.1 hg).1
  have hsf := sortFunc_any g cap zs w1 (holds_h hg (by simpa using htake)) hlt hn
  clear hnil
  go_wp2_with fail
  refine hsf.mono ?_
  rintro e w2 ⟨rfl, n, os, rfl⟩
  have hlen := mergeSort_len zs
  have hg2 := heap_put (n := n) (os := os) (sorted zs).toArray hg
  have hB2 := hB.grown (grownBy_put (n := n) (os := os) (g := g) (sorted zs).toArray) hB.size (by intro k hk; cases hk; exact hbase)
  have ht2 := take_put cur (sorted zs) (sorted zs).length (Nat.le_refl _) (by omega)
  rw [List.take_length] at ht2
  have hcs2 : (putCells hv 0 (sorted zs).toArray cur).size = cap * 1 := by simp [putCells, hcs]
  generalize grow (putRow hv (Sort.ahead w1 n) g 0 (sorted zs).toArray) os = w2 at *
  generalize putCells hv 0 (sorted zs).toArray cur = cur2 at *
  have hcp := compact_any g cap (sorted zs).toArray w2 (holds_h hg2 ht2) (by simp; omega) (by simp; omega)
  have hs2 : (sorted zs).toArray.size = zs.length := by simp [hlen]
  have hset : (compactUpTo (sorted zs).toArray (sorted zs).toArray.size) = setH zs := rfl
  have hsl := setH_len zs
  rw [hset, hs2] at hcp
  clear hcl hsf hg htake hcs hs2 hset ht2
  go_wp2_with fail
  refine hcp.mono ?_
  rintro e w3 ⟨rfl, q, rfl⟩
  have hrow := ownsRow_put (n := q) (os := #[]) (k := (setH zs).length) (ts := setH zs ++ List.replicate (zs.length - (setH zs).length) 0) (by simp) hbase hg2 (by simp; omega) hcm hcs2
  have hB3 := hB2.grown (grownBy_put (n := q) (os := #[]) (g := g) (setH zs ++ List.replicate (zs.length - (setH zs).length) 0).toArray) hB2.size (by intro k hk; cases hk; exact hbase)
  rw [grow_empty] at hrow hB3
  rw [List.take_left] at hrow
  go_wp2_with fail
  go_returns
  exact ⟨_, rfl, hrow, hB3⟩

set_option maxHeartbeats 1000000 in
theorem sort_nil (w : World) :
    Calls Tryd.prog 31 #[.slice none 0 0] w fun e w' => e = .returned (.slice none 0 0) ∧ Below w.heap.size w w' := by
  have hcl : ∀ W, Calls Tryd.prog 39 #[.slice none 0 0] W fun e w' => e = .returned (.slice none 0 0) ∧ w' = W := fun W => AnyE.slices_Clone_nil Tryd.cloneL 0 0 W
  have hsf : ∀ W, Calls Tryd.prog 40 #[.slice none 0 0, .func (.func 41) #[] #[]] W fun e w' => e = .returned (.tuple #[]) ∧ w' = W := fun W => AnyF.slices_SortFunc_none (P := Tryd.prog) (ρ := Tryd.sortL_ren) { Tryd.sortL with } none 0 _ W
  have hcp : ∀ W, Calls Tryd.prog 42 #[.slice none 0 0] W fun e w' => e = .returned (.slice none 0 0) ∧ w' = W := fun W => by
    clear hcl hsf
    go_enter Tryd.func42, Tryd.ntmps42
    go_wp2
    go_returns
    exact ⟨rfl, rfl⟩
  go_enter Tryd.func31, Tryd.ntmps31
  go_wp2_with (first | (go_at_call 39; refine (hcl _).mono ?_; rintro e w' ⟨rfl, rfl⟩) | (go_at_call 40; refine (hsf _).mono ?_; rintro e w' ⟨rfl, rfl⟩) | (go_at_call 42; refine (hcp _).mono ?_; rintro e w' ⟨rfl, rfl⟩))
  go_returns
  exact ⟨rfl, Below.refl _ _⟩
end Go.Proofs.YtipljlejhdggnaaDoor
