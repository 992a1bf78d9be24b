/- The texts RcD0. -/
import Derived.Test.YtlealeecmmpckaaGreatKug
import Derived.Test.YtlealeecmmpckaaGreatKxi
import Derived.Test.YtlealeecmmpckaaGreatKxc
namespace Go.Proofs.YtlealeecmmpckaaGreat
set_option linter.unusedVariables false
set_option linter.unusedSimpArgs false
set_option maxRecDepth 100000
set_option maxHeartbeats 8000000
open Go.RowKit Go.Lib Go.Shelf
def snB (x y : SnV) : Bool := (x.held == y.held) && (x.text.toList == y.text.toList) && (x.cursor == y.cursor) && decide (x.marks = y.marks)
theorem txt_eq (s t : ByteArray) : (s.toList == t.toList) = decide (s = t) := by
  by_cases h : s = t
  · subst h; simp
  · have h2 : ¬ s.toList = t.toList := fun e => h (by rw [toList_data, toList_data] at e; exact ByteArray.ext (Array.toList_inj.1 e))
    simp [h, h2]
theorem snB_iff (x y : SnV) : snB x y = true ↔ x = y := by
  unfold snB
  rw [txt_eq]
  simp only [Bool.and_eq_true, beq_iff_eq, decide_eq_true_eq]
  constructor
  · rintro ⟨⟨⟨a, b⟩, c⟩, d⟩; cases x; cases y; simp_all
  · rintro rfl; exact ⟨⟨⟨rfl, rfl⟩, rfl⟩, rfl⟩
theorem rsnap_any (x y : SnV) (a1 a2 : Option Addr) (c1 c2 : Nat) (w : World) (h1 : MRow w a1 x.marks) (h2 : MRow w a2 y.marks) (k1 : x.marks.length ≤ c1) (k2 : y.marks.length ≤ c2) (l1 : x.marks.length ≤ 1000) (l2 : y.marks.length ≤ 1000) :
    Calls Tryz.prog 62 #[.agg #[.bool x.held, .string x.text, .slice a1 x.marks.length c1, .int .i64 x.cursor], .agg #[.bool y.held, .string y.text, .slice a2 y.marks.length c2, .int .i64 y.cursor]] w fun e w' => e = .returned (.bool (snB x y)) ∧ Below w.heap.size w w' := by
  have hB0 := ((Below.refl w.heap.size w).alloc (Nat.le_refl _) (.cells #[.bool x.held, .string x.text, .slice a1 x.marks.length c1, .int .i64 x.cursor] 114)).alloc (by simp) (.cells #[.bool y.held, .string y.text, .slice a2 y.marks.length c2, .int .i64 y.cursor] 114)
  have hsm := fun W (hB : Below w.heap.size w W) => refMSame_any a1 a2 c1 c2 x.marks y.marks W (h1.on hB) (h2.on hB) k1 k2 l1 l2
  cases h3 : (x.held == y.held) with
  | false =>
    go_enter Tryz.func62, Tryz.ntmps62
    go_wp2
    go_returns
    exact ⟨by simp [snB, *], hB0⟩
  | true =>
    cases h4 : (x.text.toList == y.text.toList) with
    | false =>
      go_enter Tryz.func62, Tryz.ntmps62
      go_wp2
      go_returns
      exact ⟨by simp [snB, *], hB0⟩
    | true =>
      cases h5 : (x.cursor == y.cursor) with
      | false =>
        go_enter Tryz.func62, Tryz.ntmps62
        go_wp2
        go_returns
        exact ⟨by simp [snB, *], hB0⟩
      | true =>
        go_enter Tryz.func62, Tryz.ntmps62
        go_wp2_with (go_at_call 53; refine (hsm _ hB0).mono ?_; rintro e w1 ⟨rfl, hb1⟩)
        go_returns
        exact ⟨by simp [snB, *], hB0.trans (hb1.mono hB0.size)⟩
theorem rst_parts {A B : RM} (h : A.st = B.st) : A.seats.length = B.seats.length ∧ A.readers = B.readers ∧ A.text = B.text ∧ A.number = B.number ∧ A.closed = B.closed ∧ A.marks = B.marks := by
  refine ⟨?_, congrArg MS.readers h, congrArg MS.text h, congrArg MS.number h, congrArg MS.closed h, congrArg MS.marks h⟩
  have := congrArg (fun s : MS => s.seats.length) h
  simpa [RM.st] using this
theorem rst_ext {A B : RM} (h1 : A.readers = B.readers) (h2 : A.text = B.text) (h3 : A.number = B.number) (h4 : A.closed = B.closed) (h5 : A.marks = B.marks) (h6 : A.seats.map (·.st) = B.seats.map (·.st)) : A.st = B.st := by
  unfold RM.st; rw [h1, h2, h3, h4, h5, h6]
theorem map_ext_get {α β : Type} {f : α → β} {l k : List α} (hl : l.length = k.length) (h : ∀ (i : Nat) x y, l[i]? = some x → k[i]? = some y → f x = f y) : l.map f = k.map f := by
  refine List.ext_getElem? fun i => ?_
  rw [List.getElem?_map, List.getElem?_map]
  by_cases hi : i < l.length
  · rw [List.getElem?_eq_getElem hi, List.getElem?_eq_getElem (by omega : i < k.length)]
    simp only [Option.map_some]
    rw [h i _ _ (List.getElem?_eq_getElem hi) (List.getElem?_eq_getElem (by omega))]
  · rw [List.getElem?_eq_none (by omega), List.getElem?_eq_none (by omega)]
theorem rstate_ne0 (ba bb : Nat) (A B : RM) (w : World) (hA : RdAt w ba A) (hB : RdAt w bb B) {K J : Int} (okA : MSok A.st K) (okB : MSok B.st J)  (hne : ¬ A.seats.length = B.seats.length) :
    Calls Tryz.prog 26 #[.pointer (some ⟨ba, 0, none⟩), .pointer (some ⟨bb, 0, none⟩)] w fun e w' => e = .returned (.bool false) ∧ Below w.heap.size w w' := by
  obtain ⟨a0, a1, a2, a3, a4, a5, _⟩ := hA.cs
  obtain ⟨b0, b1, b2, b3, b4, b5, _⟩ := hB.cs
  obtain ⟨am, cm, hmv⟩ := own_slice hA.marks
  obtain ⟨bm, dm, hnv⟩ := own_slice hB.marks
  have hmA := hA.marks
  have hmB := hB.marks
  rw [hmv] at a3 hmA
  rw [hnv] at b3 hmB
  have f0 : (A.seats.length == B.seats.length) = false := by simp; omega
  have f1 : ((A.seats.length : Int) == (B.seats.length : Int)) = false := by simp; omega
  have f2 : decide (A.seats.length = B.seats.length) = false := by simp; omega
  have g0 : (A.seats.length = B.seats.length) = False := by simp; omega
  have g72 : decide (A.seats.length = B.seats.length) = false := by simp; omega
  have g152 : (A.seats.length != B.seats.length) = true := by simp; omega
  have g226 : (A.seats.length == B.seats.length) = false := by simp; omega
  have g301 : ((A.seats.length : Int) = (B.seats.length : Int)) = False := by simp; omega
  have g391 : decide ((A.seats.length : Int) = (B.seats.length : Int)) = false := by simp; omega
  have g488 : ((A.seats.length : Int) != (B.seats.length : Int)) = true := by simp; omega
  have g578 : ((A.seats.length : Int) == (B.seats.length : Int)) = false := by simp; omega
  have kx : ∀ W, Below w.heap.size w W → (W.cell? ⟨ba, 0, none⟩ = some (.int .i64 A.seats.length) ∧ W.cell? ⟨ba, 1, none⟩ = some (.int .i64 A.readers) ∧ W.cell? ⟨ba, 2, none⟩ = some (.string A.text) ∧ W.cell? ⟨ba, 4, none⟩ = some (.int .i64 A.number) ∧ W.cell? ⟨ba, 5, none⟩ = some (.bool A.closed) ∧ W.cell? ⟨ba, 3, none⟩ = some (.slice am A.marks.length cm)) ∧ W.cell? ⟨bb, 0, none⟩ = some (.int .i64 B.seats.length) ∧ W.cell? ⟨bb, 1, none⟩ = some (.int .i64 B.readers) ∧ W.cell? ⟨bb, 2, none⟩ = some (.string B.text) ∧ W.cell? ⟨bb, 4, none⟩ = some (.int .i64 B.number) ∧ W.cell? ⟨bb, 5, none⟩ = some (.bool B.closed) ∧ W.cell? ⟨bb, 3, none⟩ = some (.slice bm B.marks.length dm) := fun W h => ⟨⟨cell_below a0 h, cell_below a1 h, cell_below a2 h, cell_below a4 h, cell_below a5 h, cell_below a3 h⟩, cell_below b0 h, cell_below b1 h, cell_below b2 h, cell_below b4 h, cell_below b5 h, cell_below b3 h⟩
  have Kx := Lib.hid kx
  have hx0 : Below w.heap.size w w.drew := (Below.refl _ _).drew
  clear kx
  clear hne okA okB hA hB
  go_enter Tryz.func26, Tryz.ntmps26
  go_wp2
  refine wp_region_noPanic ?_
  refine wp_region_held_drew (S := fun W => (W.cell? ⟨ba, 0, none⟩ = some (.int .i64 A.seats.length) ∧ W.cell? ⟨ba, 1, none⟩ = some (.int .i64 A.readers) ∧ W.cell? ⟨ba, 2, none⟩ = some (.string A.text) ∧ W.cell? ⟨ba, 4, none⟩ = some (.int .i64 A.number) ∧ W.cell? ⟨ba, 5, none⟩ = some (.bool A.closed) ∧ W.cell? ⟨ba, 3, none⟩ = some (.slice am A.marks.length cm)) ∧ W.cell? ⟨bb, 0, none⟩ = some (.int .i64 B.seats.length) ∧ W.cell? ⟨bb, 1, none⟩ = some (.int .i64 B.readers) ∧ W.cell? ⟨bb, 2, none⟩ = some (.string B.text) ∧ W.cell? ⟨bb, 4, none⟩ = some (.int .i64 B.number) ∧ W.cell? ⟨bb, 5, none⟩ = some (.bool B.closed) ∧ W.cell? ⟨bb, 3, none⟩ = some (.slice bm B.marks.length dm)) (by kernel_rfl) ?_ (fun hHeld => ?_)
  · first | exact Kx.out _ hb1' | exact Kx.out _ hx0
  iterate 62 (first | (refine np_sn ?_; (try simp only [nSO])) | ((first | refine np_n ?_ ?_ ?_ | refine np_t 0 ?_ ?_ ?_); rotate_left 1; (· (intro w hSw; (try dsimp only at hSw); go_simp; all_goals with_reducible rfl)); (try simp only [nSO])))
  first | (refine np_s 62 ?_; (try simp only [nSO])) | (refine np_step (i := 62) rfl (by kernel_rfl) (fun K hK => ?_); rw [if_pos (by rfl)]; go_simp; (skip); (try go_wp2_with fail); refine hK.out _ _ ?_ (fun hHeld => ?_); (· (first | exact Kx.out _ hb1' | exact Kx.out _ hx0)); clear hK K; (try simp only [nSO]))
  iterate 2 (first | (refine np_sn ?_; (try simp only [nSO])) | (refine np_n ?_ ?_ ?_; rotate_left 1; (· (intro w hSw; (try dsimp only at hSw); go_simp; all_goals with_reducible rfl)); (try simp only [nSO])))
  refine wpAnyH_done (by kernel_rfl) ?_ _
  refine NoPanic.normal ?_
  go_wp2
  go_returns
  exact ⟨rfl, hx0⟩
theorem rstate_ne1 (ba bb : Nat) (A B : RM) (w : World) (hA : RdAt w ba A) (hB : RdAt w bb B) {K J : Int} (okA : MSok A.st K) (okB : MSok B.st J) (e0 : A.seats.length = B.seats.length) (hne : ¬ A.readers = B.readers) :
    Calls Tryz.prog 26 #[.pointer (some ⟨ba, 0, none⟩), .pointer (some ⟨bb, 0, none⟩)] w fun e w' => e = .returned (.bool false) ∧ Below w.heap.size w w' := by
  obtain ⟨a0, a1, a2, a3, a4, a5, _⟩ := hA.cs
  obtain ⟨b0, b1, b2, b3, b4, b5, _⟩ := hB.cs
  obtain ⟨am, cm, hmv⟩ := own_slice hA.marks
  obtain ⟨bm, dm, hnv⟩ := own_slice hB.marks
  have hmA := hA.marks
  have hmB := hB.marks
  rw [hmv] at a3 hmA
  rw [hnv] at b3 hmB
  rw [← e0] at b0
  have f0 : (A.readers == B.readers) = false := by simp; omega
  have f1 : ((A.readers : Int) == (B.readers : Int)) = false := by simp; omega
  have f2 : decide (A.readers = B.readers) = false := by simp; omega
  have g0 : (A.readers = B.readers) = False := by simp; omega
  have g62 : decide (A.readers = B.readers) = false := by simp; omega
  have g132 : (A.readers != B.readers) = true := by simp; omega
  have g196 : (A.readers == B.readers) = false := by simp; omega
  have g261 : ((A.readers : Int) = (B.readers : Int)) = False := by simp; omega
  have g341 : decide ((A.readers : Int) = (B.readers : Int)) = false := by simp; omega
  have g428 : ((A.readers : Int) != (B.readers : Int)) = true := by simp; omega
  have g508 : ((A.readers : Int) == (B.readers : Int)) = false := by simp; omega
  have kx : ∀ W, Below w.heap.size w W → (W.cell? ⟨ba, 0, none⟩ = some (.int .i64 A.seats.length) ∧ W.cell? ⟨ba, 1, none⟩ = some (.int .i64 A.readers) ∧ W.cell? ⟨ba, 2, none⟩ = some (.string A.text) ∧ W.cell? ⟨ba, 4, none⟩ = some (.int .i64 A.number) ∧ W.cell? ⟨ba, 5, none⟩ = some (.bool A.closed) ∧ W.cell? ⟨ba, 3, none⟩ = some (.slice am A.marks.length cm)) ∧ W.cell? ⟨bb, 0, none⟩ = some (.int .i64 A.seats.length) ∧ W.cell? ⟨bb, 1, none⟩ = some (.int .i64 B.readers) ∧ W.cell? ⟨bb, 2, none⟩ = some (.string B.text) ∧ W.cell? ⟨bb, 4, none⟩ = some (.int .i64 B.number) ∧ W.cell? ⟨bb, 5, none⟩ = some (.bool B.closed) ∧ W.cell? ⟨bb, 3, none⟩ = some (.slice bm B.marks.length dm) := fun W h => ⟨⟨cell_below a0 h, cell_below a1 h, cell_below a2 h, cell_below a4 h, cell_below a5 h, cell_below a3 h⟩, cell_below b0 h, cell_below b1 h, cell_below b2 h, cell_below b4 h, cell_below b5 h, cell_below b3 h⟩
  have Kx := Lib.hid kx
  have hx0 : Below w.heap.size w w.drew := (Below.refl _ _).drew
  clear kx
  clear hne okA okB hA hB e0
  go_enter Tryz.func26, Tryz.ntmps26
  go_wp2
  refine wp_region_noPanic ?_
  refine wp_region_held_drew (S := fun W => (W.cell? ⟨ba, 0, none⟩ = some (.int .i64 A.seats.length) ∧ W.cell? ⟨ba, 1, none⟩ = some (.int .i64 A.readers) ∧ W.cell? ⟨ba, 2, none⟩ = some (.string A.text) ∧ W.cell? ⟨ba, 4, none⟩ = some (.int .i64 A.number) ∧ W.cell? ⟨ba, 5, none⟩ = some (.bool A.closed) ∧ W.cell? ⟨ba, 3, none⟩ = some (.slice am A.marks.length cm)) ∧ W.cell? ⟨bb, 0, none⟩ = some (.int .i64 A.seats.length) ∧ W.cell? ⟨bb, 1, none⟩ = some (.int .i64 B.readers) ∧ W.cell? ⟨bb, 2, none⟩ = some (.string B.text) ∧ W.cell? ⟨bb, 4, none⟩ = some (.int .i64 B.number) ∧ W.cell? ⟨bb, 5, none⟩ = some (.bool B.closed) ∧ W.cell? ⟨bb, 3, none⟩ = some (.slice bm B.marks.length dm)) (by kernel_rfl) ?_ (fun hHeld => ?_)
  · first | exact Kx.out _ hb1' | exact Kx.out _ hx0
  iterate 62 (first | (refine np_sn ?_; (try simp only [nSO])) | ((first | refine np_n ?_ ?_ ?_ | refine np_t 0 ?_ ?_ ?_); rotate_left 1; (· (intro w hSw; (try dsimp only at hSw); go_simp; all_goals with_reducible rfl)); (try simp only [nSO])))
  first | (refine np_s 62 ?_; (try simp only [nSO])) | (refine np_step (i := 62) rfl (by kernel_rfl) (fun K hK => ?_); rw [if_pos (by rfl)]; go_simp; (skip); (try go_wp2_with fail); refine hK.out _ _ ?_ (fun hHeld => ?_); (· (first | exact Kx.out _ hb1' | exact Kx.out _ hx0)); clear hK K; (try simp only [nSO]))
  iterate 2 (first | (refine np_sn ?_; (try simp only [nSO])) | (refine np_n ?_ ?_ ?_; rotate_left 1; (· (intro w hSw; (try dsimp only at hSw); go_simp; all_goals with_reducible rfl)); (try simp only [nSO])))
  refine wpAnyH_done (by kernel_rfl) ?_ _
  refine NoPanic.normal ?_
  go_wp2
  go_returns
  exact ⟨rfl, hx0⟩
theorem rstate_ne2 (ba bb : Nat) (A B : RM) (w : World) (hA : RdAt w ba A) (hB : RdAt w bb B) {K J : Int} (okA : MSok A.st K) (okB : MSok B.st J) (e0 : A.seats.length = B.seats.length) (e1 : A.readers = B.readers) (hne : ¬ A.text = B.text) :
    Calls Tryz.prog 26 #[.pointer (some ⟨ba, 0, none⟩), .pointer (some ⟨bb, 0, none⟩)] w fun e w' => e = .returned (.bool false) ∧ Below w.heap.size w w' := by
  obtain ⟨a0, a1, a2, a3, a4, a5, _⟩ := hA.cs
  obtain ⟨b0, b1, b2, b3, b4, b5, _⟩ := hB.cs
  obtain ⟨am, cm, hmv⟩ := own_slice hA.marks
  obtain ⟨bm, dm, hnv⟩ := own_slice hB.marks
  have hmA := hA.marks
  have hmB := hB.marks
  rw [hmv] at a3 hmA
  rw [hnv] at b3 hmB
  rw [← e0] at b0
  rw [← e1] at b1
  have f0 : (A.text.toList == B.text.toList) = false := by rw [txt_eq]; simpa using hne
  have kx : ∀ W, Below w.heap.size w W → (W.cell? ⟨ba, 0, none⟩ = some (.int .i64 A.seats.length) ∧ W.cell? ⟨ba, 1, none⟩ = some (.int .i64 A.readers) ∧ W.cell? ⟨ba, 2, none⟩ = some (.string A.text) ∧ W.cell? ⟨ba, 4, none⟩ = some (.int .i64 A.number) ∧ W.cell? ⟨ba, 5, none⟩ = some (.bool A.closed) ∧ W.cell? ⟨ba, 3, none⟩ = some (.slice am A.marks.length cm)) ∧ W.cell? ⟨bb, 0, none⟩ = some (.int .i64 A.seats.length) ∧ W.cell? ⟨bb, 1, none⟩ = some (.int .i64 A.readers) ∧ W.cell? ⟨bb, 2, none⟩ = some (.string B.text) ∧ W.cell? ⟨bb, 4, none⟩ = some (.int .i64 B.number) ∧ W.cell? ⟨bb, 5, none⟩ = some (.bool B.closed) ∧ W.cell? ⟨bb, 3, none⟩ = some (.slice bm B.marks.length dm) := fun W h => ⟨⟨cell_below a0 h, cell_below a1 h, cell_below a2 h, cell_below a4 h, cell_below a5 h, cell_below a3 h⟩, cell_below b0 h, cell_below b1 h, cell_below b2 h, cell_below b4 h, cell_below b5 h, cell_below b3 h⟩
  have Kx := Lib.hid kx
  have hx0 : Below w.heap.size w w.drew := (Below.refl _ _).drew
  clear kx
  clear hne okA okB hA hB e0 e1
  go_enter Tryz.func26, Tryz.ntmps26
  go_wp2
  refine wp_region_noPanic ?_
  refine wp_region_held_drew (S := fun W => (W.cell? ⟨ba, 0, none⟩ = some (.int .i64 A.seats.length) ∧ W.cell? ⟨ba, 1, none⟩ = some (.int .i64 A.readers) ∧ W.cell? ⟨ba, 2, none⟩ = some (.string A.text) ∧ W.cell? ⟨ba, 4, none⟩ = some (.int .i64 A.number) ∧ W.cell? ⟨ba, 5, none⟩ = some (.bool A.closed) ∧ W.cell? ⟨ba, 3, none⟩ = some (.slice am A.marks.length cm)) ∧ W.cell? ⟨bb, 0, none⟩ = some (.int .i64 A.seats.length) ∧ W.cell? ⟨bb, 1, none⟩ = some (.int .i64 A.readers) ∧ W.cell? ⟨bb, 2, none⟩ = some (.string B.text) ∧ W.cell? ⟨bb, 4, none⟩ = some (.int .i64 B.number) ∧ W.cell? ⟨bb, 5, none⟩ = some (.bool B.closed) ∧ W.cell? ⟨bb, 3, none⟩ = some (.slice bm B.marks.length dm)) (by kernel_rfl) ?_ (fun hHeld => ?_)
  · first | exact Kx.out _ hb1' | exact Kx.out _ hx0
  iterate 62 (first | (refine np_sn ?_; (try simp only [nSO])) | ((first | refine np_n ?_ ?_ ?_ | refine np_t 0 ?_ ?_ ?_); rotate_left 1; (· (intro w hSw; (try dsimp only at hSw); go_simp; all_goals with_reducible rfl)); (try simp only [nSO])))
  first | (refine np_s 62 ?_; (try simp only [nSO])) | (refine np_step (i := 62) rfl (by kernel_rfl) (fun K hK => ?_); rw [if_pos (by rfl)]; go_simp; (skip); (try go_wp2_with fail); refine hK.out _ _ ?_ (fun hHeld => ?_); (· (first | exact Kx.out _ hb1' | exact Kx.out _ hx0)); clear hK K; (try simp only [nSO]))
  iterate 2 (first | (refine np_sn ?_; (try simp only [nSO])) | (refine np_n ?_ ?_ ?_; rotate_left 1; (· (intro w hSw; (try dsimp only at hSw); go_simp; all_goals with_reducible rfl)); (try simp only [nSO])))
  refine wpAnyH_done (by kernel_rfl) ?_ _
  refine NoPanic.normal ?_
  go_wp2
  go_returns
  exact ⟨rfl, hx0⟩
theorem rstate_ne3 (ba bb : Nat) (A B : RM) (w : World) (hA : RdAt w ba A) (hB : RdAt w bb B) {K J : Int} (okA : MSok A.st K) (okB : MSok B.st J) (e0 : A.seats.length = B.seats.length) (e1 : A.readers = B.readers) (e2 : A.text = B.text) (hne : ¬ A.number = B.number) :
    Calls Tryz.prog 26 #[.pointer (some ⟨ba, 0, none⟩), .pointer (some ⟨bb, 0, none⟩)] w fun e w' => e = .returned (.bool false) ∧ Below w.heap.size w w' := by
  obtain ⟨a0, a1, a2, a3, a4, a5, _⟩ := hA.cs
  obtain ⟨b0, b1, b2, b3, b4, b5, _⟩ := hB.cs
  obtain ⟨am, cm, hmv⟩ := own_slice hA.marks
  obtain ⟨bm, dm, hnv⟩ := own_slice hB.marks
  have hmA := hA.marks
  have hmB := hB.marks
  rw [hmv] at a3 hmA
  rw [hnv] at b3 hmB
  rw [← e0] at b0
  rw [← e1] at b1
  rw [← e2] at b2
  have f0 : (A.number == B.number) = false := by simpa using hne
  have g0 : (A.number = B.number) = False := by simp; omega
  have g60 : decide (A.number = B.number) = false := by simp; omega
  have g128 : (A.number != B.number) = true := by simp; omega
  have g190 : (A.number == B.number) = false := by simp; omega
  have kx : ∀ W, Below w.heap.size w W → (W.cell? ⟨ba, 0, none⟩ = some (.int .i64 A.seats.length) ∧ W.cell? ⟨ba, 1, none⟩ = some (.int .i64 A.readers) ∧ W.cell? ⟨ba, 2, none⟩ = some (.string A.text) ∧ W.cell? ⟨ba, 4, none⟩ = some (.int .i64 A.number) ∧ W.cell? ⟨ba, 5, none⟩ = some (.bool A.closed) ∧ W.cell? ⟨ba, 3, none⟩ = some (.slice am A.marks.length cm)) ∧ W.cell? ⟨bb, 0, none⟩ = some (.int .i64 A.seats.length) ∧ W.cell? ⟨bb, 1, none⟩ = some (.int .i64 A.readers) ∧ W.cell? ⟨bb, 2, none⟩ = some (.string A.text) ∧ W.cell? ⟨bb, 4, none⟩ = some (.int .i64 B.number) ∧ W.cell? ⟨bb, 5, none⟩ = some (.bool B.closed) ∧ W.cell? ⟨bb, 3, none⟩ = some (.slice bm B.marks.length dm) := fun W h => ⟨⟨cell_below a0 h, cell_below a1 h, cell_below a2 h, cell_below a4 h, cell_below a5 h, cell_below a3 h⟩, cell_below b0 h, cell_below b1 h, cell_below b2 h, cell_below b4 h, cell_below b5 h, cell_below b3 h⟩
  have Kx := Lib.hid kx
  have hx0 : Below w.heap.size w w.drew := (Below.refl _ _).drew
  clear kx
  clear hne okA okB hA hB e0 e1 e2
  go_enter Tryz.func26, Tryz.ntmps26
  go_wp2
  refine wp_region_noPanic ?_
  refine wp_region_held_drew (S := fun W => (W.cell? ⟨ba, 0, none⟩ = some (.int .i64 A.seats.length) ∧ W.cell? ⟨ba, 1, none⟩ = some (.int .i64 A.readers) ∧ W.cell? ⟨ba, 2, none⟩ = some (.string A.text) ∧ W.cell? ⟨ba, 4, none⟩ = some (.int .i64 A.number) ∧ W.cell? ⟨ba, 5, none⟩ = some (.bool A.closed) ∧ W.cell? ⟨ba, 3, none⟩ = some (.slice am A.marks.length cm)) ∧ W.cell? ⟨bb, 0, none⟩ = some (.int .i64 A.seats.length) ∧ W.cell? ⟨bb, 1, none⟩ = some (.int .i64 A.readers) ∧ W.cell? ⟨bb, 2, none⟩ = some (.string A.text) ∧ W.cell? ⟨bb, 4, none⟩ = some (.int .i64 B.number) ∧ W.cell? ⟨bb, 5, none⟩ = some (.bool B.closed) ∧ W.cell? ⟨bb, 3, none⟩ = some (.slice bm B.marks.length dm)) (by kernel_rfl) ?_ (fun hHeld => ?_)
  · first | exact Kx.out _ hb1' | exact Kx.out _ hx0
  iterate 62 (first | (refine np_sn ?_; (try simp only [nSO])) | ((first | refine np_n ?_ ?_ ?_ | refine np_t 0 ?_ ?_ ?_); rotate_left 1; (· (intro w hSw; (try dsimp only at hSw); go_simp; all_goals with_reducible rfl)); (try simp only [nSO])))
  first | (refine np_s 62 ?_; (try simp only [nSO])) | (refine np_step (i := 62) rfl (by kernel_rfl) (fun K hK => ?_); rw [if_pos (by rfl)]; go_simp; (skip); (try go_wp2_with fail); refine hK.out _ _ ?_ (fun hHeld => ?_); (· (first | exact Kx.out _ hb1' | exact Kx.out _ hx0)); clear hK K; (try simp only [nSO]))
  iterate 2 (first | (refine np_sn ?_; (try simp only [nSO])) | (refine np_n ?_ ?_ ?_; rotate_left 1; (· (intro w hSw; (try dsimp only at hSw); go_simp; all_goals with_reducible rfl)); (try simp only [nSO])))
  refine wpAnyH_done (by kernel_rfl) ?_ _
  refine NoPanic.normal ?_
  go_wp2
  go_returns
  exact ⟨rfl, hx0⟩
theorem rstate_ne4 (ba bb : Nat) (A B : RM) (w : World) (hA : RdAt w ba A) (hB : RdAt w bb B) {K J : Int} (okA : MSok A.st K) (okB : MSok B.st J) (e0 : A.seats.length = B.seats.length) (e1 : A.readers = B.readers) (e2 : A.text = B.text) (e3 : A.number = B.number) (hne : ¬ A.closed = B.closed) :
    Calls Tryz.prog 26 #[.pointer (some ⟨ba, 0, none⟩), .pointer (some ⟨bb, 0, none⟩)] w fun e w' => e = .returned (.bool false) ∧ Below w.heap.size w w' := by
  obtain ⟨a0, a1, a2, a3, a4, a5, _⟩ := hA.cs
  obtain ⟨b0, b1, b2, b3, b4, b5, _⟩ := hB.cs
  obtain ⟨am, cm, hmv⟩ := own_slice hA.marks
  obtain ⟨bm, dm, hnv⟩ := own_slice hB.marks
  have hmA := hA.marks
  have hmB := hB.marks
  rw [hmv] at a3 hmA
  rw [hnv] at b3 hmB
  rw [← e0] at b0
  rw [← e1] at b1
  rw [← e2] at b2
  rw [← e3] at b4
  have f0 : (A.closed == B.closed) = false := by simpa using hne
  have kx : ∀ W, Below w.heap.size w W → (W.cell? ⟨ba, 0, none⟩ = some (.int .i64 A.seats.length) ∧ W.cell? ⟨ba, 1, none⟩ = some (.int .i64 A.readers) ∧ W.cell? ⟨ba, 2, none⟩ = some (.string A.text) ∧ W.cell? ⟨ba, 4, none⟩ = some (.int .i64 A.number) ∧ W.cell? ⟨ba, 5, none⟩ = some (.bool A.closed) ∧ W.cell? ⟨ba, 3, none⟩ = some (.slice am A.marks.length cm)) ∧ W.cell? ⟨bb, 0, none⟩ = some (.int .i64 A.seats.length) ∧ W.cell? ⟨bb, 1, none⟩ = some (.int .i64 A.readers) ∧ W.cell? ⟨bb, 2, none⟩ = some (.string A.text) ∧ W.cell? ⟨bb, 4, none⟩ = some (.int .i64 A.number) ∧ W.cell? ⟨bb, 5, none⟩ = some (.bool B.closed) ∧ W.cell? ⟨bb, 3, none⟩ = some (.slice bm B.marks.length dm) := fun W h => ⟨⟨cell_below a0 h, cell_below a1 h, cell_below a2 h, cell_below a4 h, cell_below a5 h, cell_below a3 h⟩, cell_below b0 h, cell_below b1 h, cell_below b2 h, cell_below b4 h, cell_below b5 h, cell_below b3 h⟩
  have Kx := Lib.hid kx
  have hx0 : Below w.heap.size w w.drew := (Below.refl _ _).drew
  clear kx
  clear hne okA okB hA hB e0 e1 e2 e3
  go_enter Tryz.func26, Tryz.ntmps26
  go_wp2
  refine wp_region_noPanic ?_
  refine wp_region_held_drew (S := fun W => (W.cell? ⟨ba, 0, none⟩ = some (.int .i64 A.seats.length) ∧ W.cell? ⟨ba, 1, none⟩ = some (.int .i64 A.readers) ∧ W.cell? ⟨ba, 2, none⟩ = some (.string A.text) ∧ W.cell? ⟨ba, 4, none⟩ = some (.int .i64 A.number) ∧ W.cell? ⟨ba, 5, none⟩ = some (.bool A.closed) ∧ W.cell? ⟨ba, 3, none⟩ = some (.slice am A.marks.length cm)) ∧ W.cell? ⟨bb, 0, none⟩ = some (.int .i64 A.seats.length) ∧ W.cell? ⟨bb, 1, none⟩ = some (.int .i64 A.readers) ∧ W.cell? ⟨bb, 2, none⟩ = some (.string A.text) ∧ W.cell? ⟨bb, 4, none⟩ = some (.int .i64 A.number) ∧ W.cell? ⟨bb, 5, none⟩ = some (.bool B.closed) ∧ W.cell? ⟨bb, 3, none⟩ = some (.slice bm B.marks.length dm)) (by kernel_rfl) ?_ (fun hHeld => ?_)
  · first | exact Kx.out _ hb1' | exact Kx.out _ hx0
  iterate 62 (first | (refine np_sn ?_; (try simp only [nSO])) | ((first | refine np_n ?_ ?_ ?_ | refine np_t 0 ?_ ?_ ?_); rotate_left 1; (· (intro w hSw; (try dsimp only at hSw); go_simp; all_goals with_reducible rfl)); (try simp only [nSO])))
  first | (refine np_s 62 ?_; (try simp only [nSO])) | (refine np_step (i := 62) rfl (by kernel_rfl) (fun K hK => ?_); rw [if_pos (by rfl)]; go_simp; (skip); (try go_wp2_with fail); refine hK.out _ _ ?_ (fun hHeld => ?_); (· (first | exact Kx.out _ hb1' | exact Kx.out _ hx0)); clear hK K; (try simp only [nSO]))
  iterate 2 (first | (refine np_sn ?_; (try simp only [nSO])) | (refine np_n ?_ ?_ ?_; rotate_left 1; (· (intro w hSw; (try dsimp only at hSw); go_simp; all_goals with_reducible rfl)); (try simp only [nSO])))
  refine wpAnyH_done (by kernel_rfl) ?_ _
  refine NoPanic.normal ?_
  go_wp2
  go_returns
  exact ⟨rfl, hx0⟩
theorem rstate_ne5 (ba bb : Nat) (A B : RM) (w : World) (hA : RdAt w ba A) (hB : RdAt w bb B) {K J : Int} (okA : MSok A.st K) (okB : MSok B.st J) (e0 : A.seats.length = B.seats.length) (e1 : A.readers = B.readers) (e2 : A.text = B.text) (e3 : A.number = B.number) (e4 : A.closed = B.closed) (hne : ¬ A.marks = B.marks) :
    Calls Tryz.prog 26 #[.pointer (some ⟨ba, 0, none⟩), .pointer (some ⟨bb, 0, none⟩)] w fun e w' => e = .returned (.bool false) ∧ Below w.heap.size w w' := by
  obtain ⟨a0, a1, a2, a3, a4, a5, _⟩ := hA.cs
  obtain ⟨b0, b1, b2, b3, b4, b5, _⟩ := hB.cs
  obtain ⟨am, cm, hmv⟩ := own_slice hA.marks
  obtain ⟨bm, dm, hnv⟩ := own_slice hB.marks
  have hmA := hA.marks
  have hmB := hB.marks
  rw [hmv] at a3 hmA
  rw [hnv] at b3 hmB
  obtain ⟨hr1, hc1⟩ := mrow_own rfl hmA
  obtain ⟨hr2, hc2⟩ := mrow_own rfl hmB
  have hl1 : A.marks.length ≤ 64 := okA.marks.1
  have hl2 : B.marks.length ≤ 64 := okB.marks.1
  have hsm := fun W (hW : Below w.heap.size w W) => refMSame_any am bm cm dm A.marks B.marks W (hr1.on hW) (hr2.on hW) hc1 hc2 (by omega) (by omega)
  rw [show decide (A.marks = B.marks) = false by simpa using hne] at hsm
  have HSM := Lib.hid hsm
  clear hsm
  rw [← e0] at b0
  rw [← e1] at b1
  rw [← e2] at b2
  rw [← e3] at b4
  rw [← e4] at b5
  have kx : ∀ W, Below w.heap.size w W → (W.cell? ⟨ba, 0, none⟩ = some (.int .i64 A.seats.length) ∧ W.cell? ⟨ba, 1, none⟩ = some (.int .i64 A.readers) ∧ W.cell? ⟨ba, 2, none⟩ = some (.string A.text) ∧ W.cell? ⟨ba, 4, none⟩ = some (.int .i64 A.number) ∧ W.cell? ⟨ba, 5, none⟩ = some (.bool A.closed) ∧ W.cell? ⟨ba, 3, none⟩ = some (.slice am A.marks.length cm)) ∧ W.cell? ⟨bb, 0, none⟩ = some (.int .i64 A.seats.length) ∧ W.cell? ⟨bb, 1, none⟩ = some (.int .i64 A.readers) ∧ W.cell? ⟨bb, 2, none⟩ = some (.string A.text) ∧ W.cell? ⟨bb, 4, none⟩ = some (.int .i64 A.number) ∧ W.cell? ⟨bb, 5, none⟩ = some (.bool A.closed) ∧ W.cell? ⟨bb, 3, none⟩ = some (.slice bm B.marks.length dm) := fun W h => ⟨⟨cell_below a0 h, cell_below a1 h, cell_below a2 h, cell_below a4 h, cell_below a5 h, cell_below a3 h⟩, cell_below b0 h, cell_below b1 h, cell_below b2 h, cell_below b4 h, cell_below b5 h, cell_below b3 h⟩
  have Kx := Lib.hid kx
  have hx0 : Below w.heap.size w w.drew := (Below.refl _ _).drew
  clear kx
  clear hne okA okB hA hB e0 e1 e2 e3 e4
  go_enter Tryz.func26, Tryz.ntmps26
  go_wp2
  refine wp_region_noPanic ?_
  refine wp_region_held_drew (S := fun W => (W.cell? ⟨ba, 0, none⟩ = some (.int .i64 A.seats.length) ∧ W.cell? ⟨ba, 1, none⟩ = some (.int .i64 A.readers) ∧ W.cell? ⟨ba, 2, none⟩ = some (.string A.text) ∧ W.cell? ⟨ba, 4, none⟩ = some (.int .i64 A.number) ∧ W.cell? ⟨ba, 5, none⟩ = some (.bool A.closed) ∧ W.cell? ⟨ba, 3, none⟩ = some (.slice am A.marks.length cm)) ∧ W.cell? ⟨bb, 0, none⟩ = some (.int .i64 A.seats.length) ∧ W.cell? ⟨bb, 1, none⟩ = some (.int .i64 A.readers) ∧ W.cell? ⟨bb, 2, none⟩ = some (.string A.text) ∧ W.cell? ⟨bb, 4, none⟩ = some (.int .i64 A.number) ∧ W.cell? ⟨bb, 5, none⟩ = some (.bool A.closed) ∧ W.cell? ⟨bb, 3, none⟩ = some (.slice bm B.marks.length dm)) (by kernel_rfl) ?_ (fun hHeld => ?_)
  · first | exact Kx.out _ hb1' | exact Kx.out _ hx0
  iterate 62 (first | (refine np_sn ?_; (try simp only [nSO])) | ((first | refine np_n ?_ ?_ ?_ | refine np_t 0 ?_ ?_ ?_); rotate_left 1; (· (intro w hSw; (try dsimp only at hSw); go_simp; all_goals with_reducible rfl)); (try simp only [nSO])))
  first | (refine np_s 62 ?_; (try simp only [nSO])) | (refine np_step (i := 62) rfl (by kernel_rfl) (fun K hK => ?_); rw [if_pos (by rfl)]; go_simp; ((go_at_call 53; refine (HSM.out _ hx0).mono ?_; rintro e w1 ⟨rfl, hb1⟩; have hb1' := hx0.trans (hb1.mono hx0.size))); (try go_wp2_with fail); refine hK.out _ _ ?_ (fun hHeld => ?_); (· (first | exact Kx.out _ hb1' | exact Kx.out _ hx0)); clear hK K; (try simp only [nSO]))
  iterate 2 (first | (refine np_sn ?_; (try simp only [nSO])) | (refine np_n ?_ ?_ ?_; rotate_left 1; (· (intro w hSw; (try dsimp only at hSw); go_simp; all_goals with_reducible rfl)); (try simp only [nSO])))
  refine wpAnyH_done (by kernel_rfl) ?_ _
  refine NoPanic.normal ?_
  go_wp2
  go_returns
  exact ⟨rfl, hb1'⟩
theorem rstate_ne (ba bb : Nat) (A B : RM) (w : World) (hA : RdAt w ba A) (hB : RdAt w bb B) {K J : Int} (okA : MSok A.st K) (okB : MSok B.st J) (hne : ¬ (A.seats.length = B.seats.length ∧ A.readers = B.readers ∧ A.text = B.text ∧ A.number = B.number ∧ A.closed = B.closed ∧ A.marks = B.marks)) :
    Calls Tryz.prog 26 #[.pointer (some ⟨ba, 0, none⟩), .pointer (some ⟨bb, 0, none⟩)] w fun e w' => e = .returned (.bool false) ∧ Below w.heap.size w w' := by
  by_cases e0 : A.seats.length = B.seats.length
  rotate_left 1
  · exact rstate_ne0 ba bb A B w hA hB okA okB e0
  by_cases e1 : A.readers = B.readers
  rotate_left 1
  · exact rstate_ne1 ba bb A B w hA hB okA okB e0 e1
  by_cases e2 : A.text = B.text
  rotate_left 1
  · exact rstate_ne2 ba bb A B w hA hB okA okB e0 e1 e2
  by_cases e3 : A.number = B.number
  rotate_left 1
  · exact rstate_ne3 ba bb A B w hA hB okA okB e0 e1 e2 e3
  by_cases e4 : A.closed = B.closed
  rotate_left 1
  · exact rstate_ne4 ba bb A B w hA hB okA okB e0 e1 e2 e3 e4
  by_cases e5 : A.marks = B.marks
  rotate_left 1
  · exact rstate_ne5 ba bb A B w hA hB okA okB e0 e1 e2 e3 e4 e5
  exact absurd ⟨e0, e1, e2, e3, e4, e5⟩ hne
end Go.Proofs.YtlealeecmmpckaaGreat
