/- A call that an argument bears: its cells. -/
import Derived.Test.YtjinnlmmlbmodaaHisO
import Derived.Deep.Slices
namespace Go.Proofs.Ytjinnlmmlbmodaa
open Go.RowKit Go.WideShapes Go.ChangeShapes Go.Deep
section
variable {H : Type} {enc : TypeId × Value → H} {w : World} {base : Nat} {spare : Nat → Bool} {held : Bool}
theorem slc_cell {P : Program} {t e : TypeId} {fuel k m : Nat} {cs : List Value} {x : DataW H × List MemPlace} (ht : P.underlying t = some (.slice e)) (h : DataW.trod enc P w base spare held fuel t ((cs.drop k).take m) = some x) : ∃ a n c, cs[k]? = some (.slice a n c) := by
  rcases open_slice ht h with ⟨h1, _⟩ | ⟨a, len, cap, _, _, _, _, h1, _⟩
  · exact ⟨_, _, _, cell_of h1⟩
  · exact ⟨_, _, _, cell_of h1⟩
theorem call_cells {fuel : Nat} {cs : List Value} {x : DataW H × List MemPlace} (h : DataW.trod enc Try.prog w base spare held fuel 34 cs = some x) : ∃ c : CallV, cs = callL c := by
  have hlen : cs.length = 27 := by
    obtain ⟨_, _, _, _, hl, _⟩ := DataW.trod_struct Try.underlying34 h
    rw [hl]
    kernel_rfl
  obtain ⟨_, _, h_0⟩ := field_of Try.underlying34 h 0 _ rfl
  obtain ⟨z0, x0, w0⟩ := int_cell Try.underlying3 h_0
  obtain ⟨_, _, h_1⟩ := field_of Try.underlying34 h 1 _ rfl
  obtain ⟨z1, x1, w1⟩ := int_cell Try.underlying3 h_1
  obtain ⟨_, _, h_2⟩ := field_of Try.underlying34 h 2 _ rfl
  obtain ⟨_, _, h_2_0⟩ := field_of Try.underlying24 h_2 0 _ rfl
  obtain ⟨z2, x2, w2⟩ := int_cell Try.underlying5 h_2_0
  replace x2 := part_cell x2
  obtain ⟨_, _, h_2_1⟩ := field_of Try.underlying24 h_2 1 _ rfl
  obtain ⟨z3, x3, w3⟩ := int_cell Try.underlying3 h_2_1
  replace x3 := part_cell x3
  obtain ⟨_, _, h_2_2⟩ := field_of Try.underlying24 h_2 2 _ rfl
  obtain ⟨z4, x4, w4⟩ := int_cell Try.underlying3 h_2_2
  replace x4 := part_cell x4
  obtain ⟨_, _, h_2_3⟩ := field_of Try.underlying24 h_2 3 _ rfl
  obtain ⟨z5, x5, w5⟩ := int_cell Try.underlying3 h_2_3
  replace x5 := part_cell x5
  obtain ⟨_, _, h_2_4⟩ := field_of Try.underlying24 h_2 4 _ rfl
  obtain ⟨z6, x6, w6⟩ := int_cell Try.underlying22 h_2_4
  replace x6 := part_cell x6
  obtain ⟨_, _, h_2_5⟩ := field_of Try.underlying24 h_2 5 _ rfl
  obtain ⟨z7, x7, w7⟩ := int_cell Try.underlying5 h_2_5
  replace x7 := part_cell x7
  obtain ⟨_, _, h_2_6⟩ := field_of Try.underlying24 h_2 6 _ rfl
  obtain ⟨z8, x8⟩ := str_cell Try.underlying9 h_2_6
  replace x8 := part_cell x8
  obtain ⟨_, _, h_3⟩ := field_of Try.underlying34 h 3 _ rfl
  obtain ⟨z9, x9, w9⟩ := int_cell Try.underlying3 h_3
  obtain ⟨_, _, h_4⟩ := field_of Try.underlying34 h 4 _ rfl
  obtain ⟨z10, x10, w10⟩ := int_cell Try.underlying3 h_4
  obtain ⟨_, _, h_5⟩ := field_of Try.underlying34 h 5 _ rfl
  obtain ⟨z11, x11, w11⟩ := int_cell Try.underlying3 h_5
  obtain ⟨_, _, h_6⟩ := field_of Try.underlying34 h 6 _ rfl
  obtain ⟨z12, x12, w12⟩ := int_cell Try.underlying3 h_6
  obtain ⟨_, _, h_7⟩ := field_of Try.underlying34 h 7 _ rfl
  obtain ⟨z13, x13, w13⟩ := int_cell Try.underlying3 h_7
  obtain ⟨_, _, h_8⟩ := field_of Try.underlying34 h 8 _ rfl
  obtain ⟨_, _, h_8_0⟩ := field_of Try.underlying32 h_8 0 _ rfl
  obtain ⟨z14, x14, w14⟩ := int_cell Try.underlying25 h_8_0
  replace x14 := part_cell x14
  obtain ⟨_, _, h_8_1⟩ := field_of Try.underlying32 h_8 1 _ rfl
  obtain ⟨z15, x15, w15⟩ := int_cell Try.underlying3 h_8_1
  replace x15 := part_cell x15
  obtain ⟨_, _, h_8_2⟩ := field_of Try.underlying32 h_8 2 _ rfl
  obtain ⟨z16, x16, w16⟩ := int_cell Try.underlying3 h_8_2
  replace x16 := part_cell x16
  obtain ⟨_, _, h_8_3⟩ := field_of Try.underlying32 h_8 3 _ rfl
  obtain ⟨z17, x17, w17⟩ := int_cell Try.underlying3 h_8_3
  replace x17 := part_cell x17
  obtain ⟨_, _, h_8_4⟩ := field_of Try.underlying32 h_8 4 _ rfl
  obtain ⟨z18, x18, w18⟩ := int_cell Try.underlying5 h_8_4
  replace x18 := part_cell x18
  obtain ⟨_, _, h_8_5⟩ := field_of Try.underlying32 h_8 5 _ rfl
  obtain ⟨z19, x19⟩ := str_cell Try.underlying9 h_8_5
  replace x19 := part_cell x19
  obtain ⟨_, _, h_8_6⟩ := field_of Try.underlying32 h_8 6 _ rfl
  obtain ⟨_, _, h_8_6_0⟩ := field_of Try.underlying27 h_8_6 0 _ rfl
  obtain ⟨z20, x20, w20⟩ := int_cell Try.underlying3 h_8_6_0
  replace x20 := part_cell x20
  replace x20 := part_cell x20
  obtain ⟨_, _, h_8_6_1⟩ := field_of Try.underlying27 h_8_6 1 _ rfl
  obtain ⟨z21, x21, w21⟩ := int_cell Try.underlying3 h_8_6_1
  replace x21 := part_cell x21
  replace x21 := part_cell x21
  obtain ⟨_, _, h_8_6_2⟩ := field_of Try.underlying27 h_8_6 2 _ rfl
  obtain ⟨z22, x22, w22⟩ := int_cell Try.underlying3 h_8_6_2
  replace x22 := part_cell x22
  replace x22 := part_cell x22
  obtain ⟨_, _, h_8_7⟩ := field_of Try.underlying32 h_8 7 _ rfl
  obtain ⟨_, _, h_8_7_0⟩ := field_of Try.underlying30 h_8_7 0 _ rfl
  obtain ⟨z23, x23, w23⟩ := int_cell Try.underlying5 h_8_7_0
  replace x23 := part_cell x23
  replace x23 := part_cell x23
  obtain ⟨_, _, h_8_7_1⟩ := field_of Try.underlying30 h_8_7 1 _ rfl
  obtain ⟨z24, x24, w24⟩ := int_cell Try.underlying3 h_8_7_1
  replace x24 := part_cell x24
  replace x24 := part_cell x24
  obtain ⟨_, _, h_8_7_2⟩ := field_of Try.underlying30 h_8_7 2 _ rfl
  obtain ⟨z25, x25, w25⟩ := int_cell Try.underlying3 h_8_7_2
  replace x25 := part_cell x25
  replace x25 := part_cell x25
  obtain ⟨_, _, h_8_7_3⟩ := field_of Try.underlying30 h_8_7 3 _ rfl
  obtain ⟨da, ln, dc, x26⟩ := slc_cell Try.underlying28 h_8_7_3
  replace x26 := part_cell x26
  replace x26 := part_cell x26
  refine ⟨{ thread := z0, index := z1, okind := z2, oslot := z3, oat := z4, on := z5, oid := z6, ograv := z7, otext := z8, invoked := z9, took := z10, rank := z11, answered := z12, steps := z13, err := z14, rev := z15, rslot := z16, rat := z17, rgrav := z18, rtext := z19, mb := z20, mr := z21, ml := z22, ik := z23, ifrom := z24, ito := z25, ps := List.replicate ln default, da := da, dc := dc }, ?_⟩
  have hps : (List.replicate ln (default : PieceV)).length = ln := List.length_replicate
  apply List.ext_getElem?
  intro j
  match j with
  | 0 => exact x0
  | 1 => exact x1
  | 2 => exact x2
  | 3 => exact x3
  | 4 => exact x4
  | 5 => exact x5
  | 6 => exact x6
  | 7 => exact x7
  | 8 => exact x8
  | 9 => exact x9
  | 10 => exact x10
  | 11 => exact x11
  | 12 => exact x12
  | 13 => exact x13
  | 14 => exact x14
  | 15 => exact x15
  | 16 => exact x16
  | 17 => exact x17
  | 18 => exact x18
  | 19 => exact x19
  | 20 => exact x20
  | 21 => exact x21
  | 22 => exact x22
  | 23 => exact x23
  | 24 => exact x24
  | 25 => exact x25
  | 26 =>
    refine x26.trans ?_
    rw [callL_26]
    simp
  | n + 27 => rw [List.getElem?_eq_none (by omega), List.getElem?_eq_none (by rw [callL_len]; omega)]
end
end Go.Proofs.Ytjinnlmmlbmodaa
