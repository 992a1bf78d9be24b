/- HandleSorts at nil and at a row whose two sorts agree; HandleExamples. -/
import Derived.Test.YtipljlejhdggnaaDoorHanZ
import Derived.Deep.RegionHeld3
namespace Go.Proofs.YtipljlejhdggnaaDoor
open Go.RowKit Go.Lib

/-- The reference's Sort at nil. -/
theorem refSort_nil (w : World) : Calls Tryd.prog 37 #[.slice none 0 0] w fun e w' => e = .returned (.slice none 0 0) ∧ w' = w := by
  go_enter Tryd.func37, Tryd.ntmps37
  go_wp2
  refine wp_loop_rounds 1 ?_
  rw [rounds_succ]
  go_wp2
  go_returns
  exact ⟨rfl, rfl⟩

theorem copyh_nil (w : World) : Calls Tryd.prog 36 #[.slice none 0 0] w fun e w' => e = .returned (.slice none 0 0) ∧ w' = w := by
  go_enter Tryd.func36, Tryd.ntmps36
  go_wp2
  refine wp_loop_rounds 1 ?_
  rw [rounds_succ]
  go_wp2
  go_returns
  exact ⟨rfl, rfl⟩

theorem row_nil (w : World) : Row w (.slice none 0 0) [] := .inl ⟨rfl, rfl⟩

set_option maxHeartbeats 1000000 in
theorem sorts_nil (w : World) (ht : Tab w) : Calls Tryd.prog 24 #[.slice none 0 0] w fun e w' => e = .returned (.bool true) ∧ Below w.heap.size w w' := by
  have ce := fun W => eqh_any W _ _ [] [] (row_nil W) (row_nil W) (by decide) (by decide)
  simp only [decide_true] at ce
  go_enter Tryd.func24, Tryd.ntmps24
  go_wp2_with fail
  refine (copyh_nil _).mono ?_
  rintro e w1 ⟨rfl, rfl⟩
  go_wp2_with fail
  refine (refSort_nil _).mono ?_
  rintro e w2 ⟨rfl, rfl⟩
  go_wp2_with fail
  refine (sort_nil _).mono ?_
  rintro e w3 ⟨rfl, hB3⟩
  go_wp2_with fail
  refine (ce _).mono ?_
  rintro e w4 ⟨rfl, hB4⟩
  have hC4 := hB3.trans (hB4.mono hB3.size)
  go_wp2_with fail
  refine (ce _).mono ?_
  rintro e w5 ⟨rfl, hB5⟩
  have hC5 := hC4.trans (hB5.mono hC4.size)
  go_wp2
  refine wp_loop_rounds 1 ?_
  rw [rounds_succ]
  go_wp2_with fail
  refine (ce _).mono ?_
  rintro e w6 ⟨rfl, hB6⟩
  have hC6 := hC5.trans (hB6.mono hC5.size)
  go_wp2_with fail
  refine (sort_nil _).mono ?_
  rintro e w7 ⟨rfl, hB7⟩
  have hC7 := hC6.trans (hB7.mono hC6.size)
  go_wp2_with fail
  refine (ce _).mono ?_
  rintro e w8 ⟨rfl, hB8⟩
  have hC8 := hC7.trans (hB8.mono hC7.size)
  clear hB3 hB4 hB5 hB6 hB7 hB8 hC4 hC5 hC6 hC7
  go_wp2_with fail
  refine (awake_any _ (ht.on hC8)).mono ?_
  rintro e w9 ⟨rfl, hB9⟩
  go_wp2_with fail
  go_returns
  exact ⟨rfl, hC8.trans (hB9.mono hC8.size)⟩

theorem refSet_len' (l : List UInt64) : (refSet l).length ≤ l.length := by
  have := refSet_len l l.length
  rwa [List.take_length] at this
theorem own_nonempty {w : World} {base : Nat} {e : TypeId} {v : Value} {zs : List UInt64} (h : w.ownsRow base e 1 v zs.length (zs.map hv)) (hz : 0 < zs.length) : ∃ g cap, v = .slice (some ⟨g, 0, none⟩) zs.length cap ∧ base ≤ g ∧ g < w.heap.size := by
  obtain ⟨g, cap, h1, h2, h3⟩ := h.form hz
  exact ⟨g, cap, h1, h2, h3⟩

def ZRel (w1 : World) (g cap n : Nat) (i : Value) (wr : World) : Prop := ∃ (k : Nat) (xs : List Value), i = .int .i64 k ∧ k ≤ n ∧ wr.ownsRow w1.heap.size 23 1 (.slice (some ⟨g, 0, none⟩) n cap) n xs ∧ Below w1.heap.size w1 wr

set_option maxHeartbeats 2000000 in
theorem sorts_some (b off c : Nat) (zs : List UInt64) (w : World) (ht : Tab w) (hcap : zs.length ≤ c) (hn : zs.length ≤ 1000) (hn0 : 0 < zs.length) (hset : setH zs = refSet zs) (hne : 0 < (refSet zs).length)
    (hz : ∀ j u, zs[j]? = some u → w.cell? ⟨b, off + j, none⟩ = some (hv u)) :
    Calls Tryd.prog 24 #[.slice (some ⟨b, off, none⟩) zs.length c] w fun e w' => e = .returned (.bool true) ∧ Below w.heap.size w w' := by
  have rl : Row w (.slice (some ⟨b, off, none⟩) zs.length c) zs := .inr ⟨b, off, c, rfl, hz⟩
  have hset' := Lib.hid hset
  have hlr := refSet_len' zs
  have Hz := Lib.hid hz
  clear hz hset
  have hmin : min (zs.length : Int) 1000 = zs.length := by omega
  go_enter Tryd.func24, Tryd.ntmps24
  go_wp2_with fail
  refine (copyh_any _ _ zs rl (by omega)).mono ?_
  rintro e w1 ⟨vi, rfl, howni, hB1⟩
  obtain ⟨gi, ci, rfl, hgi, hgi2⟩ := own_nonempty howni hn0
  have ri := Row.own howni rfl
  have rl1 := rl.on hB1
  go_wp2_with fail
  refine (refSort_some w1 b off c zs (by omega) (fun j u hj => by rw [hB1.cell (cell_size (Hz.out j u hj))]; exact Hz.out j u hj)).mono ?_
  rintro e w2 ⟨vw, rfl, hownw, hB2⟩
  have rw2 := Row.own hownw rfl
  have ri2 := ri.on hB2
  have rl2 := rl1.on hB2
  have hC2 := hB1.trans (hB2.mono hB1.size)
  have hoi2 := own_below howni hB2
  clear ri rl1 howni
  have hcell : ∀ W, Below w2.heap.size w2 W → ∀ j u, zs[j]? = some u → W.cell? ⟨gi, 0 + j, none⟩ = some (hv u) := fun W hW j u hj => by
    have hl : j < zs.length := (List.getElem?_eq_some_iff.1 hj).1
    rw [Nat.zero_add, (own_below hoi2 hW).cellAt j (by omega), List.getElem?_map, hj]
    rfl
  have hs1 := fun W hW => sort_some gi 0 ci zs W (by omega) (hcell W hW)
  rw [hset'.out] at hs1
  clear hcell hoi2
  go_wp2_with fail
  refine (hs1 _ (Below.refl _ _)).mono ?_
  rintro e w3 ⟨vg, rfl, hown, hB3⟩
  obtain ⟨g, cap, rfl, hg, hg2⟩ := own_nonempty hown hne
  have rg3 := Row.own hown rfl
  have hC3 := hC2.trans (hB3.mono hC2.size)
  have e1 := eqh_any w3 _ _ _ _ rg3 (rw2.on hB3) (by omega) (by omega)
  simp only [decide_true] at e1
  go_wp2_with fail
  refine e1.mono ?_
  clear e1 rg3
  rintro e w4 ⟨rfl, hB4⟩
  have hD4 := hB3.trans (hB4.mono hB3.size)
  have e2 := eqh_any w4 _ _ _ _ (ri2.on hD4) (rl2.on hD4) (by omega) (by omega)
  simp only [decide_true] at e2
  have hown4 := own_below hown hB4
  clear hown hB4 hB3 hC3
  go_wp2_with fail
  refine e2.mono ?_
  clear e2
  rintro e w5 ⟨rfl, hB5⟩
  have hD5 := hD4.trans (hB5.mono hD4.size)
  have hown5 := own_below hown4 hB5
  clear hown4 hD4 hB5
  go_wp2
  go_loopw [6] (fun i wr => ZRel w2 g cap (refSet zs).length i wr) (fun i wr => (refSet zs).length - (intOf i).toNat)
  case atStart => exact ⟨0, _, rfl, by omega, hown5, hD5⟩
  case round =>
    obtain ⟨k, xs, rfl, hk, hownr, hBr⟩ := hrel
    by_cases hlt : k < (refSet zs).length
    · obtain ⟨v, hv'⟩ : ∃ v, xs[k]? = some v := ⟨_, List.getElem?_eq_getElem (by have := hownr.1; omega)⟩
      have hc := hownr.cellAt k (by omega)
      rw [hv'] at hc
      have hf := hownr.frozenAt k
      have hst := hownr.stored k (.int .u64 0)
      have hB6 := hBr.setCell (p := ⟨g, k, none⟩) hg (.int .u64 0)
      clear hv'
      go_wp2
      go_roundw
      case rel => exact ⟨k + 1, _, by go_num, by omega, hst.1, hB6⟩
      case measure => simp [intOf]; omega
    · have e3 := eqh_any wr _ _ _ _ (ri2.on hBr) (rl2.on hBr) (by omega) (by omega)
      simp only [decide_true] at e3
      clear hown5 hD5
      go_wp2_with fail
      refine e3.mono ?_
      clear e3
      rintro e w6 ⟨rfl, hB6⟩
      have hD6 := hBr.trans (hB6.mono hBr.size)
      go_wp2_with fail
      refine (hs1 _ hD6).mono ?_
      rintro e w7 ⟨v7, rfl, hown7, hB7⟩
      have hD7 := hD6.trans (hB7.mono hD6.size)
      have e4 := eqh_any w7 _ _ _ _ (Row.own hown7 rfl) (rw2.on hD7) (by omega) (by omega)
      simp only [decide_true] at e4
      go_wp2_with fail
      refine e4.mono ?_
      clear e4
      rintro e w8 ⟨rfl, hB8⟩
      have hD8 := hD7.trans (hB8.mono hD7.size)
      have hC8 := hC2.trans (hD8.mono hC2.size)
      go_wp2_with fail
      refine (awake_any _ (ht.on hC8)).mono ?_
      rintro e w9 ⟨rfl, hB9⟩
      go_wp2_with fail
      go_returns
      exact ⟨rfl, hC8.trans (hB9.mono hC8.size)⟩
end Go.Proofs.YtipljlejhdggnaaDoor
