/- Calls that an argument bears: their cells, their numbers, their deltas. -/
import Derived.Test.YtjinnlmmlbmodaaHisU
import Derived.Test.YtjinnlmmlbmodaaHisP
namespace Go.Proofs.Ytjinnlmmlbmodaa
open Go.RowKit Go.WideShapes Go.ChangeShapes Go.Deep
section
variable {H : Type} {enc : TypeId × Value → H} {w : World} {base : Nat} {spare : Nat → Bool} {held : Bool}
theorem piece_cells {fuel : Nat} {cs : List Value} {x : DataW H × List MemPlace} (h : DataW.trod enc Try.prog w base spare held fuel 72 cs = some x) : ∃ p : PieceV, cs = pieceL p := by
  have hlen : cs.length = 3 := by
    obtain ⟨_, _, _, _, hl, _⟩ := DataW.trod_struct Try.underlying72 h
    rw [hl]
    kernel_rfl
  obtain ⟨_, _, h0⟩ := field_of Try.underlying72 h 0 _ rfl
  obtain ⟨z0, x0, w0⟩ := int_cell Try.underlying5 h0
  obtain ⟨_, _, h1⟩ := field_of Try.underlying72 h 1 _ rfl
  obtain ⟨z1, x1, w1⟩ := int_cell Try.underlying3 h1
  obtain ⟨_, _, h2⟩ := field_of Try.underlying72 h 2 _ rfl
  obtain ⟨z2, x2⟩ := str_cell Try.underlying9 h2
  refine ⟨⟨z0, z1, z2⟩, ?_⟩
  apply List.ext_getElem?
  intro j
  match j with
  | 0 => exact x0
  | 1 => exact x1
  | 2 => exact x2
  | n + 3 => rw [List.getElem?_eq_none (by omega), List.getElem?_eq_none (by rw [pieceL_len]; omega)]
/-- A row of elements of k cells each. -/
theorem rows_of {α : Type} (f : α → List Value) (k : Nat) (hk : ∀ x, (f x).length = k) (a : Addr) (Q : α → Prop) : ∀ (n : Nat), (∀ i, i < n → ∃ x, w.cells? base (a.add (i * k)) k = some (f x) ∧ Q x) →
    ∃ xs : List α, xs.length = n ∧ (∀ x ∈ xs, Q x) ∧ ∀ j u, (xs.flatMap f)[j]? = some u → w.cell? (a.add j) = some u
  | 0, _ => ⟨[], rfl, fun _ h => by (cases h), fun j u h => by simp at h⟩
  | n + 1, h => by
    obtain ⟨xs, hl, hQ, hx⟩ := rows_of f k hk a Q n (fun i hi => h i (by omega))
    obtain ⟨x, hc, hq⟩ := h n (by omega)
    obtain ⟨_, hlen, hcell⟩ := World.cells?_some hc
    have hfl : (xs.flatMap f).length = n * k := by
      clear hx h
      rw [← hl]
      clear hl hQ
      induction xs with
      | nil => simp
      | cons y ys ih => rw [List.flatMap_cons, List.length_append, ih, hk, List.length_cons, Nat.succ_mul]; omega
    refine ⟨xs ++ [x], by simp [hl], fun y hy => ?_, fun j u hj => ?_⟩
    · rcases List.mem_append.1 hy with h | h
      · exact hQ y h
      · rw [List.mem_singleton.1 h]; exact hq
    · rw [List.flatMap_append] at hj
      by_cases hlt : j < n * k
      · rw [List.getElem?_append_left (by omega)] at hj
        exact hx j u hj
      · rw [List.getElem?_append_right (by omega), hfl] at hj
        have hj2 : (f x)[j - n * k]? = some u := by simpa using hj
        have hlt2 : j - n * k < k := by
          have := (List.getElem?_eq_some_iff.1 hj2).1
          rwa [hk] at this
        have := hcell (j - n * k) hlt2
        rw [hj2, Deep.add_add, show n * k + (j - n * k) = j from by omega] at this
        exact this
theorem slc_open {fuel k m : Nat} {cs : List Value} {x : DataW H × List MemPlace} (h : DataW.trod enc Try.prog w base spare held fuel 28 ((cs.drop k).take m) = some x) : ∃ (a : Option Addr) (n c : Nat) (ps : List PieceV), cs[k]? = some (.slice a n c) ∧ ps.length = n ∧
    ((ps = [] ∧ (a = none → c = 0)) ∨ ∃ b off, a = some ⟨b, off, none⟩ ∧ ps.length ≤ c ∧ ps.length < 9223372036854775808 ∧ b < w.heap.size ∧ ∀ j u, (piecesL ps)[j]? = some u → w.cell? ⟨b, off + j, none⟩ = some u) := by
  rcases open_slice Try.underlying28 h with ⟨h1, _⟩ | ⟨a, len, cap, q, n, D, Pl, h1, hb, hlc, hcap, hq, _, hel⟩
  · exact ⟨_, _, _, [], cell_of h1, rfl, .inl ⟨rfl, fun _ => rfl⟩⟩
  · have hc3 : Try.prog.cellsOf 72 = 3 := by kernel_rfl
    rw [hc3] at hel
    have hlq : len ≤ q := by rw [hq]; split <;> omega
    obtain ⟨ps, hl, _, hcell⟩ := rows_of (w := w) (base := base) pieceL 3 pieceL_len a (fun _ => True) len (fun i hi => by
      obtain ⟨cs', h1, h2⟩ := hel i (by omega)
      obtain ⟨p, rfl⟩ := piece_cells h2
      exact ⟨p, h1, trivial⟩)
    refine ⟨_, _, _, ps, cell_of h1, hl, ?_⟩
    by_cases h0 : ps = []
    · exact .inl ⟨h0, fun e => by cases e⟩
    · right
      obtain ⟨b, off, spot⟩ := a
      have hpos : 0 < ps.length := by
        rcases ps with _ | ⟨p, ps⟩
        · exact absurd rfl h0
        · simp
      obtain ⟨u, hu⟩ : ∃ u, (piecesL ps)[0]? = some u := ⟨_, List.getElem?_eq_getElem (by rw [piecesL_len]; omega)⟩
      have g0 := hcell 0 u hu
      have hspot : spot = none := by simpa [Addr.add] using World.cell?_spot g0
      subst hspot
      have hblk : b < w.heap.size := by
        have := cell_size g0
        simpa [Addr.add] using this
      have hml : maxLen < 9223372036854775808 := by unfold maxLen; omega
      exact ⟨b, off, rfl, by omega, by omega, hblk, fun j u hj => by have := hcell j u hj; rwa [add_plain] at this⟩
theorem wf64 {z : Int} (h : (Lit.int .i64 z).wf = true) : -9223372036854775808 ≤ z ∧ z ≤ 9223372036854775807 := by
  simp only [Lit.wf, Bool.and_eq_true, decide_eq_true_eq] at h
  exact h
theorem call_open {fuel : Nat} {cs : List Value} {x : DataW H × List MemPlace} (h : DataW.trod enc Try.prog w base spare held fuel 34 cs = some x) : ∃ c : CallV, cs = callL c ∧ c.Ok ∧ DRaw w c := by
  have hlen : cs.length = 27 := by
    obtain ⟨_, _, _, _, hl, _⟩ := DataW.trod_struct Try.underlying34 h
    rw [hl]
    kernel_rfl
  obtain ⟨_, _, h_0⟩ := field_of Try.underlying34 h 0 _ rfl
  obtain ⟨z0, x0, w0⟩ := int_cell Try.underlying3 h_0
  obtain ⟨_, _, h_1⟩ := field_of Try.underlying34 h 1 _ rfl
  obtain ⟨z1, x1, w1⟩ := int_cell Try.underlying3 h_1
  obtain ⟨_, _, h_2⟩ := field_of Try.underlying34 h 2 _ rfl
  obtain ⟨_, _, h_2_0⟩ := field_of Try.underlying24 h_2 0 _ rfl
  obtain ⟨z2, x2, w2⟩ := int_cell Try.underlying5 h_2_0
  replace x2 := part_cell x2
  obtain ⟨_, _, h_2_1⟩ := field_of Try.underlying24 h_2 1 _ rfl
  obtain ⟨z3, x3, w3⟩ := int_cell Try.underlying3 h_2_1
  replace x3 := part_cell x3
  obtain ⟨_, _, h_2_2⟩ := field_of Try.underlying24 h_2 2 _ rfl
  obtain ⟨z4, x4, w4⟩ := int_cell Try.underlying3 h_2_2
  replace x4 := part_cell x4
  obtain ⟨_, _, h_2_3⟩ := field_of Try.underlying24 h_2 3 _ rfl
  obtain ⟨z5, x5, w5⟩ := int_cell Try.underlying3 h_2_3
  replace x5 := part_cell x5
  obtain ⟨_, _, h_2_4⟩ := field_of Try.underlying24 h_2 4 _ rfl
  obtain ⟨z6, x6, w6⟩ := int_cell Try.underlying22 h_2_4
  replace x6 := part_cell x6
  obtain ⟨_, _, h_2_5⟩ := field_of Try.underlying24 h_2 5 _ rfl
  obtain ⟨z7, x7, w7⟩ := int_cell Try.underlying5 h_2_5
  replace x7 := part_cell x7
  obtain ⟨_, _, h_2_6⟩ := field_of Try.underlying24 h_2 6 _ rfl
  obtain ⟨z8, x8⟩ := str_cell Try.underlying9 h_2_6
  replace x8 := part_cell x8
  obtain ⟨_, _, h_3⟩ := field_of Try.underlying34 h 3 _ rfl
  obtain ⟨z9, x9, w9⟩ := int_cell Try.underlying3 h_3
  obtain ⟨_, _, h_4⟩ := field_of Try.underlying34 h 4 _ rfl
  obtain ⟨z10, x10, w10⟩ := int_cell Try.underlying3 h_4
  obtain ⟨_, _, h_5⟩ := field_of Try.underlying34 h 5 _ rfl
  obtain ⟨z11, x11, w11⟩ := int_cell Try.underlying3 h_5
  obtain ⟨_, _, h_6⟩ := field_of Try.underlying34 h 6 _ rfl
  obtain ⟨z12, x12, w12⟩ := int_cell Try.underlying3 h_6
  obtain ⟨_, _, h_7⟩ := field_of Try.underlying34 h 7 _ rfl
  obtain ⟨z13, x13, w13⟩ := int_cell Try.underlying3 h_7
  obtain ⟨_, _, h_8⟩ := field_of Try.underlying34 h 8 _ rfl
  obtain ⟨_, _, h_8_0⟩ := field_of Try.underlying32 h_8 0 _ rfl
  obtain ⟨z14, x14, w14⟩ := int_cell Try.underlying25 h_8_0
  replace x14 := part_cell x14
  obtain ⟨_, _, h_8_1⟩ := field_of Try.underlying32 h_8 1 _ rfl
  obtain ⟨z15, x15, w15⟩ := int_cell Try.underlying3 h_8_1
  replace x15 := part_cell x15
  obtain ⟨_, _, h_8_2⟩ := field_of Try.underlying32 h_8 2 _ rfl
  obtain ⟨z16, x16, w16⟩ := int_cell Try.underlying3 h_8_2
  replace x16 := part_cell x16
  obtain ⟨_, _, h_8_3⟩ := field_of Try.underlying32 h_8 3 _ rfl
  obtain ⟨z17, x17, w17⟩ := int_cell Try.underlying3 h_8_3
  replace x17 := part_cell x17
  obtain ⟨_, _, h_8_4⟩ := field_of Try.underlying32 h_8 4 _ rfl
  obtain ⟨z18, x18, w18⟩ := int_cell Try.underlying5 h_8_4
  replace x18 := part_cell x18
  obtain ⟨_, _, h_8_5⟩ := field_of Try.underlying32 h_8 5 _ rfl
  obtain ⟨z19, x19⟩ := str_cell Try.underlying9 h_8_5
  replace x19 := part_cell x19
  obtain ⟨_, _, h_8_6⟩ := field_of Try.underlying32 h_8 6 _ rfl
  obtain ⟨_, _, h_8_6_0⟩ := field_of Try.underlying27 h_8_6 0 _ rfl
  obtain ⟨z20, x20, w20⟩ := int_cell Try.underlying3 h_8_6_0
  replace x20 := part_cell x20
  replace x20 := part_cell x20
  obtain ⟨_, _, h_8_6_1⟩ := field_of Try.underlying27 h_8_6 1 _ rfl
  obtain ⟨z21, x21, w21⟩ := int_cell Try.underlying3 h_8_6_1
  replace x21 := part_cell x21
  replace x21 := part_cell x21
  obtain ⟨_, _, h_8_6_2⟩ := field_of Try.underlying27 h_8_6 2 _ rfl
  obtain ⟨z22, x22, w22⟩ := int_cell Try.underlying3 h_8_6_2
  replace x22 := part_cell x22
  replace x22 := part_cell x22
  obtain ⟨_, _, h_8_7⟩ := field_of Try.underlying32 h_8 7 _ rfl
  obtain ⟨_, _, h_8_7_0⟩ := field_of Try.underlying30 h_8_7 0 _ rfl
  obtain ⟨z23, x23, w23⟩ := int_cell Try.underlying5 h_8_7_0
  replace x23 := part_cell x23
  replace x23 := part_cell x23
  obtain ⟨_, _, h_8_7_1⟩ := field_of Try.underlying30 h_8_7 1 _ rfl
  obtain ⟨z24, x24, w24⟩ := int_cell Try.underlying3 h_8_7_1
  replace x24 := part_cell x24
  replace x24 := part_cell x24
  obtain ⟨_, _, h_8_7_2⟩ := field_of Try.underlying30 h_8_7 2 _ rfl
  obtain ⟨z25, x25, w25⟩ := int_cell Try.underlying3 h_8_7_2
  replace x25 := part_cell x25
  replace x25 := part_cell x25
  obtain ⟨_, _, h_8_7_3⟩ := field_of Try.underlying30 h_8_7 3 _ rfl
  obtain ⟨da, ln, dc, ps, x26, hps, hraw⟩ := slc_open h_8_7_3
  replace x26 := part_cell x26
  replace x26 := part_cell x26
  refine ⟨{ thread := z0, index := z1, okind := z2, oslot := z3, oat := z4, on := z5, oid := z6, ograv := z7, otext := z8, invoked := z9, took := z10, rank := z11, answered := z12, steps := z13, err := z14, rev := z15, rslot := z16, rat := z17, rgrav := z18, rtext := z19, mb := z20, mr := z21, ml := z22, ik := z23, ifrom := z24, ito := z25, ps := ps, da := da, dc := dc }, ?_, ⟨(wf64 w9).1, (wf64 w9).2, (wf64 w12).1, (wf64 w12).2, (wf64 w13).1, (wf64 w13).2, (wf64 w10).1, (wf64 w10).2, (wf64 w11).1, (wf64 w11).2⟩, hraw⟩
  apply List.ext_getElem?
  intro j
  match j with
  | 0 => exact x0
  | 1 => exact x1
  | 2 => exact x2
  | 3 => exact x3
  | 4 => exact x4
  | 5 => exact x5
  | 6 => exact x6
  | 7 => exact x7
  | 8 => exact x8
  | 9 => exact x9
  | 10 => exact x10
  | 11 => exact x11
  | 12 => exact x12
  | 13 => exact x13
  | 14 => exact x14
  | 15 => exact x15
  | 16 => exact x16
  | 17 => exact x17
  | 18 => exact x18
  | 19 => exact x19
  | 20 => exact x20
  | 21 => exact x21
  | 22 => exact x22
  | 23 => exact x23
  | 24 => exact x24
  | 25 => exact x25
  | 26 =>
    refine x26.trans ?_
    rw [callL_26]
    rw [hps]
  | n + 27 => rw [List.getElem?_eq_none (by omega), List.getElem?_eq_none (by rw [callL_len]; omega)]
theorem open_calls {b0 : Nat} {v : Value} {d : DataW H} {ps : List MemPlace} (hval : Value.okWide Try.prog w .any b0 37 v) (hd : DataW.Trod enc Try.prog w base spare held 37 v d ps) : ∃ (p : Option Addr) (cap : Nat) (cs : List CallV), v = .slice p cs.length cap ∧ ArgRow w p cs := by
  obtain ⟨fuel, hf⟩ := hd
  obtain ⟨a0, n0, c0, rfl⟩ := okWide_slice Try.underlying37 hval
  rcases open_slice Try.underlying37 hf with ⟨h1, _⟩ | ⟨a, len, cap, q, n, D, Pl, h1, hb, hlc, hcap, hq, _, hel⟩
  · simp [Value.cells] at h1
    obtain ⟨rfl, rfl, rfl⟩ := h1
    exact ⟨none, 0, [], rfl, .inl rfl⟩
  · simp [Value.cells] at h1
    obtain ⟨rfl, rfl, rfl⟩ := h1
    have hc27 : Try.prog.cellsOf 34 = 27 := by kernel_rfl
    rw [hc27] at hel
    have hlq : n0 ≤ q := by rw [hq]; split <;> omega
    obtain ⟨cs, hl, hQ, hcell⟩ := rows_of (w := w) (base := base) callL 27 callL_len a (fun c => c.Ok ∧ DRaw w c) n0 (fun i hi => by
      obtain ⟨cs', h1, h2⟩ := hel i (by omega)
      obtain ⟨c, rfl, hc⟩ := call_open h2
      exact ⟨c, h1, hc⟩)
    refine ⟨_, _, cs, by rw [hl], ?_⟩
    by_cases h0 : cs = []
    · exact .inl h0
    · right
      obtain ⟨b, off, spot⟩ := a
      have hpos : 0 < cs.length := by
        rcases cs with _ | ⟨p, cs⟩
        · exact absurd rfl h0
        · simp
      obtain ⟨u, hu⟩ : ∃ u, (callsL cs)[0]? = some u := ⟨_, List.getElem?_eq_getElem (by rw [callsL_len]; omega)⟩
      have g0 := hcell 0 u hu
      have hspot : spot = none := by simpa [Addr.add] using World.cell?_spot g0
      subst hspot
      have hblk : b < w.heap.size := by
        have := cell_size g0
        simpa [Addr.add] using this
      have hml : maxLen < 9223372036854775808 := by unfold maxLen; omega
      exact ⟨b, off, rfl, hblk, fun j u hj => by have := hcell j u hj; rwa [add_plain] at this, by omega, hQ⟩
end
end Go.Proofs.Ytjinnlmmlbmodaa
