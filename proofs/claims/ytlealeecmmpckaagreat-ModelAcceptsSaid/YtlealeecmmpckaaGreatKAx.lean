/- The texts MdBh Opn MdCa MdBj. -/
import Derived.Test.YtlealeecmmpckaaGreatKul
import Derived.Test.YtlealeecmmpckaaGreatKuf
import Derived.Test.YtlealeecmmpckaaGreatKui
import Derived.Test.YtlealeecmmpckaaGreatKua
import Derived.Test.YtlealeecmmpckaaGreatKum
import Derived.Test.YtlealeecmmpckaaGreatKug
import Derived.Deep.Slices
namespace Go.Proofs.YtlealeecmmpckaaGreat
set_option linter.unusedVariables false
set_option linter.unusedSimpArgs false
set_option maxRecDepth 100000
set_option maxHeartbeats 8000000
open Go.RowKit Go.Lib Go.Shelf
attribute [local go_sem, local simp] resF resL_len resL_ne mdF mdC_len mdC_ne
theorem same_0 (r s : ResV) (w : World) : Calls Tryz.prog 43 #[.agg (resL r).toArray, .agg (resL s).toArray] w fun e w' => e = .returned (.bool (sameB r {} s)) ∧ Below w.heap.size w w' := same_any r s 0 0 0 none 0 0 w (Nat.zero_le _)
theorem accept_stat (b : Nat) (c : Int) (M : MM) (q : OpV) (r : ResV) (i : ItV) (w : World) (h : MdAt w b M) (hok : MSok M.st 100000) (hi : OpIn q) (hin : i.dn ≤ maxLen) (hS : sameB r i (doS M.st c q).1 = false) (hz0 : statE M.st c q ≠ 0) :
    Calls Tryz.prog 17 #[.pointer (some ⟨b, 0, none⟩), .int .i64 c, .agg #[.int .u8 q.kind, .int .i64 q.slot, .int .i64 q.at_, .int .i64 q.n, .int .u32 q.id, .int .u8 q.grav, .string q.text], .agg #[.int .i64 r.err, .int .i64 r.rev, .int .i64 r.slot, .int .i64 r.at_, .int .u8 r.grav, .string r.text, .int .i64 r.m1, .int .i64 r.m2, .int .i64 r.m3, .int .u8 i.k, .int .i64 i.f, .int .i64 i.t, .slice i.da i.dn i.dc]] w (AccPost b w (accS M.st c q r i) M) := by
  have hB0 := ((Below.refl w.heap.size w).alloc (Nat.le_refl _) (.cells #[.int .u8 q.kind, .int .i64 q.slot, .int .i64 q.at_, .int .i64 q.n, .int .u32 q.id, .int .u8 q.grav, .string q.text] 28)).alloc (by simp) (.cells #[.int .i64 r.err, .int .i64 r.rev, .int .i64 r.slot, .int .i64 r.at_, .int .u8 r.grav, .string r.text, .int .i64 r.m1, .int .i64 r.m2, .int .i64 r.m3, .int .u8 i.k, .int .i64 i.f, .int .i64 i.t, .slice i.da i.dn i.dc] 36)
  have hq0 := (heap_alloc_old (w.alloc (.cells #[.int .u8 q.kind, .int .i64 q.slot, .int .i64 q.at_, .int .i64 q.n, .int .u32 q.id, .int .u8 q.grav, .string q.text] 28)) (.cells #[.int .i64 r.err, .int .i64 r.rev, .int .i64 r.slot, .int .i64 r.at_, .int .u8 r.grav, .string r.text, .int .i64 r.m1, .int .i64 r.m2, .int .i64 r.m3, .int .u8 i.k, .int .i64 i.f, .int .i64 i.t, .slice i.da i.dn i.dc] 36) (show w.heap.size < _ by simp)).trans (heap_alloc_new w _)
  have hr0 := heap_alloc_new (w.alloc (.cells #[.int .u8 q.kind, .int .i64 q.slot, .int .i64 q.at_, .int .i64 q.n, .int .u32 q.id, .int .u8 q.grav, .string q.text] 28)) (.cells #[.int .i64 r.err, .int .i64 r.rev, .int .i64 r.slot, .int .i64 r.at_, .int .u8 r.grav, .string r.text, .int .i64 r.m1, .int .i64 r.m2, .int .i64 r.m3, .int .u8 i.k, .int .i64 i.f, .int .i64 i.t, .slice i.da i.dn i.dc] 36)
  rw [World.size_alloc] at hr0
  have HOK := Lib.hid hok
  clear hok
  have hM0 := h.below hB0
  obtain ⟨R, hR⟩ : ∃ R, doS M.st c q = R := ⟨_, rfl⟩
  have hcl : M.seats.length ≤ 8 := by have := HOK.out.clients; have h2 : M.st.seats.length = M.seats.length := List.length_map ..; omega
  rw [hR] at hS
  have hA : accS M.st c q r i = (false, M.st) := by unfold accS accB; rw [hR, if_neg (by simp [hS]), if_pos hz0]
  rw [hA]
  obtain ⟨E, hz⟩ : ∃ E, statE M.st c q = E := ⟨_, rfl⟩
  rw [hz] at hz0
  have hd : (E == 0) = false := by simpa using hz0
  clear hA
  go_enter Tryz.func17, Tryz.ntmps17
  go_wp2_with (first | (go_at_call 15; refine (copy_any b M _ 100000 hM0 HOK.out).mono ?_; rintro e w2 ⟨b2, M2, rfl, hM2, hst2, hb2, hf2⟩; have hq2 := (hb2.block _ (by simp; omega)).trans hq0; have hr2 := (hb2.block _ (by simp)).trans hr0; have hB2 := hB0.trans (hb2.mono (by simp; omega)); have hf2' : ∀ k, M2.fp b2 k → w.heap.size + 1 + 1 ≤ k := (fun k hk => by have := hf2 k hk; simpa using this); obtain ⟨y0, y1, y2, y3, y4, y5, y6⟩ := blk7 hq2; have hdo := do_any b2 c M2 q _ hM2 (by rw [hst2]; exact HOK.out) hi; rw [hst2, hR] at hdo; clear hf2 hb2) | (go_at_call 16; refine hdo.mono ?_; rintro e w3 ⟨rfl, M3, hM3, hst3, hk3, hf3⟩; have hq3 := (hk3.block _ (Array.getElem?_eq_some_iff.1 hq2).1 (fun hk => absurd (hf2' _ hk) (by omega))).trans hq2; have hr3 := (hk3.block _ (Array.getElem?_eq_some_iff.1 hr2).1 (fun hk => absurd (hf2' _ hk) (by omega))).trans hr2; have hB3 : Below w.heap.size w w3 := ⟨hk3.os.trans hB2.os, hk3.tape.trans hB2.tape, hk3.output.trans hB2.output, Nat.le_trans hB2.size hk3.size, fun k hk => (hk3.block k (by have := hB2.size; omega) (fun hf => absurd (hf2' _ hf) (by omega))).trans (hB2.block k hk)⟩; obtain ⟨W4, hs4, hw4, hb4⟩ := rnew_pkg w3 R.1; have hB4 := hB3.trans (hb4.mono hB3.size); have hq4 := (hb4.block _ (Array.getElem?_eq_some_iff.1 hq3).1).trans hq3; have hr4 := (hb4.block _ (Array.getElem?_eq_some_iff.1 hr3).1).trans hr3; obtain ⟨a0, a1, a2, a3, a4, a5, a6, a7, a8, a9, a10, a11, a12⟩ := blk13 hr4; obtain ⟨d0, d1, d2, d3, d4, d5, d6, d7, d8, d9, d10, d11, d12⟩ := blk13 hw4; have hf3' : ∀ k, M3.fp b2 k → w.heap.size ≤ k := (fun k hk => (hf3 k hk).elim (fun h => by have := hf2' k h; omega) (fun h => by have := hB2.size; omega)); clear y0 y1 y2 y3 y4 y5 y6 hdo) | (go_at_call 43; refine (same_i r R.1 i _ hin).mono ?_; rw [hS]; rintro e w5 ⟨rfl, hb5⟩; have hB5 := hB4.trans (hb5.mono hB4.size); clear a0 a1 a2 a3 a4 a5 a6 a7 a8 a9 a10 a11 a12 d0 d1 d2 d3 d4 d5 d6 d7 d8 d9 d10 d11 d12; have hq5 := (hb5.block _ (Array.getElem?_eq_some_iff.1 hq4).1).trans hq4; have hr5 := (hb5.block _ (Array.getElem?_eq_some_iff.1 hr4).1).trans hr4; have hw5 := (hb5.block _ (Array.getElem?_eq_some_iff.1 hw4).1).trans hw4; have hM5 := h.below hB5; obtain ⟨y0, y1, y2, y3, y4, y5, y6⟩ := blk7 hq5; have hsta := static_any b M c q w5 hM5 hi hcl; rw [hz] at hsta; clear hb4 hs4 hb5 hk3 hM3 hf3 hf3' hf2') | (go_at_call 41; refine hsta.mono ?_; rintro e w6 ⟨rfl, hb6⟩; have hB6 := hB5.trans (hb6.mono hB5.size); have hq6 := (hb6.block _ (Array.getElem?_eq_some_iff.1 hq5).1).trans hq5; have hr6 := (hb6.block _ (Array.getElem?_eq_some_iff.1 hr5).1).trans hr5; have hw6 := (hb6.block _ (Array.getElem?_eq_some_iff.1 hw5).1).trans hw5; have k6 := (blk7 hq6).1; clear y0 y1 y2 y3 y4 y5 y6 hsta))
  go_returns
  exact ⟨rfl, M, h.below hB6, rfl, KeepF.of_below hB6, fun k hk => .inl hk⟩
end Go.Proofs.YtlealeecmmpckaaGreat
namespace Go.Proofs.YtlealeecmmpckaaGreat
set_option linter.unusedVariables false
set_option linter.unusedSimpArgs false
set_option maxRecDepth 100000
set_option maxHeartbeats 8000000
open Go.RowKit Go.WideShapes Go.ChangeShapes Go.Deep
section
variable {H : Type} {enc : TypeId × Value → H} {P : Program} {w : World} {base : Nat} {spare : Nat → Bool} {held : Bool}
theorem own_fin {P : Program} {t e : TypeId} {fuel k m : Nat} {cs : List Value} {x : DataW H × List MemPlace} (ht : P.underlying t = some (.slice e)) (h : DataW.trod enc P w base spare held fuel t ((cs.drop k).take m) = some x) : ∃ a n c, cs[k]? = some (.slice a n c) ∧ n ≤ maxLen := by
  rcases open_slice ht h with ⟨h1, _⟩ | ⟨a, len, cap, q, n, D, Pl, h1, hb, hlc, hcap, _⟩
  · exact ⟨_, _, _, cell_of h1, Nat.zero_le _⟩
  · exact ⟨_, _, _, cell_of h1, by omega⟩
end
end Go.Proofs.YtlealeecmmpckaaGreat
namespace Go.Proofs.YtlealeecmmpckaaGreat
set_option linter.unusedVariables false
set_option linter.unusedSimpArgs false
set_option maxRecDepth 100000
set_option maxHeartbeats 8000000
open Go.RowKit Go.WideShapes Go.ChangeShapes Go.Deep
structure TryV where
  client : Int
  q : OpV
  r : ResV
  i : ItV
def tryL (a : TryV) : List Value := [.int .i64 a.client, .int .u8 a.q.kind, .int .i64 a.q.slot, .int .i64 a.q.at_, .int .i64 a.q.n, .int .u32 a.q.id, .int .u8 a.q.grav, .string a.q.text, .int .i64 a.r.err, .int .i64 a.r.rev, .int .i64 a.r.slot, .int .i64 a.r.at_, .int .u8 a.r.grav, .string a.r.text, .int .i64 a.r.m1, .int .i64 a.r.m2, .int .i64 a.r.m3, .int .u8 a.i.k, .int .i64 a.i.f, .int .i64 a.i.t, .slice a.i.da a.i.dn a.i.dc]
def trysL (l : List TryV) : List Value := l.flatMap tryL
theorem tryL_len (a : TryV) : (tryL a).length = 21 := rfl
theorem trysL_len (l : List TryV) : (trysL l).length = l.length * 21 := by
  induction l with
  | nil => rfl
  | cons a l ih => unfold trysL at *; rw [List.flatMap_cons, List.length_append, ih, tryL_len, List.length_cons]; omega
def ArgTrys (w : World) (p : Option Addr) (l : List TryV) : Prop := l = [] ∨ ∃ b off, p = some ⟨b, off, none⟩ ∧ b < w.heap.size ∧ (∀ j u, (trysL l)[j]? = some u → w.cell? ⟨b, off + j, none⟩ = some u) ∧ l.length < 9223372036854775808 ∧ ∀ a ∈ l, OpIn a.q ∧ a.i.dn ≤ maxLen
section
variable {H : Type} {enc : TypeId × Value → H} {w : World} {base : Nat} {spare : Nat → Bool} {held : Bool}
theorem try_open {fuel : Nat} {cs : List Value} {x : DataW H × List MemPlace} (h : DataW.trod enc Tryz.prog w base spare held fuel 38 cs = some x) : ∃ a : TryV, cs = tryL a ∧ OpIn a.q ∧ a.i.dn ≤ maxLen := by
  have hlen : cs.length = 21 := by
    obtain ⟨_, _, _, _, hl, _⟩ := DataW.trod_struct Tryz.underlying38 h
    rw [hl]
    kernel_rfl
  obtain ⟨_, _, h_0⟩ := field_of Tryz.underlying38 h 0 _ rfl
  obtain ⟨z0, x0, w0⟩ := int_cell Tryz.underlying3 h_0
  obtain ⟨_, _, h_1⟩ := field_of Tryz.underlying38 h 1 _ rfl
  obtain ⟨_, _, h_1_0⟩ := field_of Tryz.underlying28 h_1 0 _ rfl
  obtain ⟨z1, x1, w1⟩ := int_cell Tryz.underlying5 h_1_0
  replace x1 := part_cell x1
  obtain ⟨_, _, h_1_1⟩ := field_of Tryz.underlying28 h_1 1 _ rfl
  obtain ⟨z2, x2, w2⟩ := int_cell Tryz.underlying3 h_1_1
  replace x2 := part_cell x2
  obtain ⟨_, _, h_1_2⟩ := field_of Tryz.underlying28 h_1 2 _ rfl
  obtain ⟨z3, x3, w3⟩ := int_cell Tryz.underlying3 h_1_2
  replace x3 := part_cell x3
  obtain ⟨_, _, h_1_3⟩ := field_of Tryz.underlying28 h_1 3 _ rfl
  obtain ⟨z4, x4, w4⟩ := int_cell Tryz.underlying3 h_1_3
  replace x4 := part_cell x4
  obtain ⟨_, _, h_1_4⟩ := field_of Tryz.underlying28 h_1 4 _ rfl
  obtain ⟨z5, x5, w5⟩ := int_cell Tryz.underlying26 h_1_4
  replace x5 := part_cell x5
  obtain ⟨_, _, h_1_5⟩ := field_of Tryz.underlying28 h_1 5 _ rfl
  obtain ⟨z6, x6, w6⟩ := int_cell Tryz.underlying5 h_1_5
  replace x6 := part_cell x6
  obtain ⟨_, _, h_1_6⟩ := field_of Tryz.underlying28 h_1 6 _ rfl
  obtain ⟨z7, x7⟩ := str_cell Tryz.underlying9 h_1_6
  replace x7 := part_cell x7
  obtain ⟨_, _, h_2⟩ := field_of Tryz.underlying38 h 2 _ rfl
  obtain ⟨_, _, h_2_0⟩ := field_of Tryz.underlying36 h_2 0 _ rfl
  obtain ⟨z8, x8, w8⟩ := int_cell Tryz.underlying29 h_2_0
  replace x8 := part_cell x8
  obtain ⟨_, _, h_2_1⟩ := field_of Tryz.underlying36 h_2 1 _ rfl
  obtain ⟨z9, x9, w9⟩ := int_cell Tryz.underlying3 h_2_1
  replace x9 := part_cell x9
  obtain ⟨_, _, h_2_2⟩ := field_of Tryz.underlying36 h_2 2 _ rfl
  obtain ⟨z10, x10, w10⟩ := int_cell Tryz.underlying3 h_2_2
  replace x10 := part_cell x10
  obtain ⟨_, _, h_2_3⟩ := field_of Tryz.underlying36 h_2 3 _ rfl
  obtain ⟨z11, x11, w11⟩ := int_cell Tryz.underlying3 h_2_3
  replace x11 := part_cell x11
  obtain ⟨_, _, h_2_4⟩ := field_of Tryz.underlying36 h_2 4 _ rfl
  obtain ⟨z12, x12, w12⟩ := int_cell Tryz.underlying5 h_2_4
  replace x12 := part_cell x12
  obtain ⟨_, _, h_2_5⟩ := field_of Tryz.underlying36 h_2 5 _ rfl
  obtain ⟨z13, x13⟩ := str_cell Tryz.underlying9 h_2_5
  replace x13 := part_cell x13
  obtain ⟨_, _, h_2_6⟩ := field_of Tryz.underlying36 h_2 6 _ rfl
  obtain ⟨_, _, h_2_6_0⟩ := field_of Tryz.underlying31 h_2_6 0 _ rfl
  obtain ⟨z14, x14, w14⟩ := int_cell Tryz.underlying3 h_2_6_0
  replace x14 := part_cell x14
  replace x14 := part_cell x14
  obtain ⟨_, _, h_2_6_1⟩ := field_of Tryz.underlying31 h_2_6 1 _ rfl
  obtain ⟨z15, x15, w15⟩ := int_cell Tryz.underlying3 h_2_6_1
  replace x15 := part_cell x15
  replace x15 := part_cell x15
  obtain ⟨_, _, h_2_6_2⟩ := field_of Tryz.underlying31 h_2_6 2 _ rfl
  obtain ⟨z16, x16, w16⟩ := int_cell Tryz.underlying3 h_2_6_2
  replace x16 := part_cell x16
  replace x16 := part_cell x16
  obtain ⟨_, _, h_2_7⟩ := field_of Tryz.underlying36 h_2 7 _ rfl
  obtain ⟨_, _, h_2_7_0⟩ := field_of Tryz.underlying34 h_2_7 0 _ rfl
  obtain ⟨z17, x17, w17⟩ := int_cell Tryz.underlying5 h_2_7_0
  replace x17 := part_cell x17
  replace x17 := part_cell x17
  obtain ⟨_, _, h_2_7_1⟩ := field_of Tryz.underlying34 h_2_7 1 _ rfl
  obtain ⟨z18, x18, w18⟩ := int_cell Tryz.underlying3 h_2_7_1
  replace x18 := part_cell x18
  replace x18 := part_cell x18
  obtain ⟨_, _, h_2_7_2⟩ := field_of Tryz.underlying34 h_2_7 2 _ rfl
  obtain ⟨z19, x19, w19⟩ := int_cell Tryz.underlying3 h_2_7_2
  replace x19 := part_cell x19
  replace x19 := part_cell x19
  obtain ⟨_, _, h_2_7_3⟩ := field_of Tryz.underlying34 h_2_7 3 _ rfl
  obtain ⟨da, dn, dc, x20, hdn⟩ := own_fin Tryz.underlying32 h_2_7_3
  replace x20 := part_cell x20
  replace x20 := part_cell x20
  refine ⟨⟨z0, ⟨z1, z2, z3, z4, z5, z6, z7⟩, ⟨z8, z9, z10, z11, z12, z13, z14, z15, z16⟩, ⟨z17, z18, z19, da, dn, dc⟩⟩, ?_, ⟨(wf8 w1).1, (wf8 w1).2, (wf32 w5).1, (wf32 w5).2, (wf8 w6).1, wf64 w2, wf64 w3, wf64 w4⟩, hdn⟩
  apply List.ext_getElem?
  intro j
  match j with
  | 0 => exact x0
  | 1 => exact x1
  | 2 => exact x2
  | 3 => exact x3
  | 4 => exact x4
  | 5 => exact x5
  | 6 => exact x6
  | 7 => exact x7
  | 8 => exact x8
  | 9 => exact x9
  | 10 => exact x10
  | 11 => exact x11
  | 12 => exact x12
  | 13 => exact x13
  | 14 => exact x14
  | 15 => exact x15
  | 16 => exact x16
  | 17 => exact x17
  | 18 => exact x18
  | 19 => exact x19
  | 20 => exact x20
  | n + 21 => rw [List.getElem?_eq_none (by omega), List.getElem?_eq_none (by rw [tryL_len]; omega)]
theorem open_trys {b0 : Nat} {v : Value} {d : DataW H} {ps : List MemPlace} (hval : Value.okWide Tryz.prog w .any b0 60 v) (hd : DataW.Trod enc Tryz.prog w base spare held 60 v d ps) : ∃ (p : Option Addr) (cap : Nat) (cs : List TryV), v = .slice p cs.length cap ∧ ArgTrys w p cs := by
  obtain ⟨fuel, hf⟩ := hd
  obtain ⟨a0, n0, c0, rfl⟩ := okWide_slice Tryz.underlying60 hval
  rcases open_slice Tryz.underlying60 hf with ⟨h1, _⟩ | ⟨a, len, cap, q, n, D, Pl, h1, hb, hlc, hcap, hq, _, hel⟩
  · simp [Value.cells] at h1
    obtain ⟨rfl, rfl, rfl⟩ := h1
    exact ⟨none, 0, [], rfl, .inl rfl⟩
  · simp [Value.cells] at h1
    obtain ⟨rfl, rfl, rfl⟩ := h1
    have hck : Tryz.prog.cellsOf 38 = 21 := by kernel_rfl
    rw [hck] at hel
    have hlq : n0 ≤ q := by rw [hq]; split <;> omega
    obtain ⟨cs, hl, hQ, hcell⟩ := rows_of (w := w) (base := base) tryL 21 tryL_len a (fun a => OpIn a.q ∧ a.i.dn ≤ maxLen) n0 (fun i hi => by
      obtain ⟨cs', h1, h2⟩ := hel i (by omega)
      obtain ⟨c, rfl, hc⟩ := try_open h2
      exact ⟨c, h1, hc⟩)
    refine ⟨_, _, cs, by rw [hl], ?_⟩
    by_cases h0 : cs = []
    · exact .inl h0
    · right
      obtain ⟨b, off, spot⟩ := a
      have hpos : 0 < cs.length := by
        rcases cs with _ | ⟨p, cs⟩
        · exact absurd rfl h0
        · simp
      obtain ⟨u, hu⟩ : ∃ u, (trysL cs)[0]? = some u := ⟨_, List.getElem?_eq_getElem (by rw [trysL_len]; omega)⟩
      have g0 := hcell 0 u hu
      have hspot : spot = none := by simpa [Addr.add] using World.cell?_spot g0
      subst hspot
      have hblk : b < w.heap.size := by
        have := cell_size g0
        simpa [Addr.add] using this
      have hml : maxLen < 9223372036854775808 := by unfold maxLen; omega
      exact ⟨b, off, rfl, hblk, fun j u hj => by have := hcell j u hj; rwa [add_plain] at this, by omega, hQ⟩
end
end Go.Proofs.YtlealeecmmpckaaGreat
namespace Go.Proofs.YtlealeecmmpckaaGreat
set_option linter.unusedVariables false
set_option linter.unusedSimpArgs false
set_option maxRecDepth 100000
set_option maxHeartbeats 8000000
open Go.RowKit Go.Lib Go.Shelf
attribute [local go_sem, local simp] resF resL_len resL_ne mdF mdC_len mdC_ne
theorem accept_mark (b : Nat) (c : Int) (M : MM) (q : OpV) (r : ResV) (i : ItV) (w : World) (h : MdAt w b M) (hok : MSok M.st 100000) (hi : OpIn q) (hin : i.dn ≤ maxLen) (hS : sameB r i (doS M.st c q).1 = false) (hz : statE M.st c q = 0) (hk : q.kind = 3 ∨ q.kind = 4) :
    Calls Tryz.prog 17 #[.pointer (some ⟨b, 0, none⟩), .int .i64 c, .agg #[.int .u8 q.kind, .int .i64 q.slot, .int .i64 q.at_, .int .i64 q.n, .int .u32 q.id, .int .u8 q.grav, .string q.text], .agg #[.int .i64 r.err, .int .i64 r.rev, .int .i64 r.slot, .int .i64 r.at_, .int .u8 r.grav, .string r.text, .int .i64 r.m1, .int .i64 r.m2, .int .i64 r.m3, .int .u8 i.k, .int .i64 i.f, .int .i64 i.t, .slice i.da i.dn i.dc]] w (AccPost b w (accS M.st c q r i) M) := by
  have hB0 := ((Below.refl w.heap.size w).alloc (Nat.le_refl _) (.cells #[.int .u8 q.kind, .int .i64 q.slot, .int .i64 q.at_, .int .i64 q.n, .int .u32 q.id, .int .u8 q.grav, .string q.text] 28)).alloc (by simp) (.cells #[.int .i64 r.err, .int .i64 r.rev, .int .i64 r.slot, .int .i64 r.at_, .int .u8 r.grav, .string r.text, .int .i64 r.m1, .int .i64 r.m2, .int .i64 r.m3, .int .u8 i.k, .int .i64 i.f, .int .i64 i.t, .slice i.da i.dn i.dc] 36)
  have hq0 := (heap_alloc_old (w.alloc (.cells #[.int .u8 q.kind, .int .i64 q.slot, .int .i64 q.at_, .int .i64 q.n, .int .u32 q.id, .int .u8 q.grav, .string q.text] 28)) (.cells #[.int .i64 r.err, .int .i64 r.rev, .int .i64 r.slot, .int .i64 r.at_, .int .u8 r.grav, .string r.text, .int .i64 r.m1, .int .i64 r.m2, .int .i64 r.m3, .int .u8 i.k, .int .i64 i.f, .int .i64 i.t, .slice i.da i.dn i.dc] 36) (show w.heap.size < _ by simp)).trans (heap_alloc_new w _)
  have hr0 := heap_alloc_new (w.alloc (.cells #[.int .u8 q.kind, .int .i64 q.slot, .int .i64 q.at_, .int .i64 q.n, .int .u32 q.id, .int .u8 q.grav, .string q.text] 28)) (.cells #[.int .i64 r.err, .int .i64 r.rev, .int .i64 r.slot, .int .i64 r.at_, .int .u8 r.grav, .string r.text, .int .i64 r.m1, .int .i64 r.m2, .int .i64 r.m3, .int .u8 i.k, .int .i64 i.f, .int .i64 i.t, .slice i.da i.dn i.dc] 36)
  rw [World.size_alloc] at hr0
  have HOK := Lib.hid hok
  clear hok
  have hM0 := h.below hB0
  obtain ⟨R, hR⟩ : ∃ R, doS M.st c q = R := ⟨_, rfl⟩
  have hcl : M.seats.length ≤ 8 := by have := HOK.out.clients; have h2 : M.st.seats.length = M.seats.length := List.length_map ..; omega
  rw [hR] at hS
  have hA : accS M.st c q r i = (sameB r i (failR 14) && !(R.1.err == 13), M.st) := by unfold accS accB; rw [hR, if_neg (by simp [hS]), if_neg (by simpa using hz), if_neg (by omega), if_neg (by omega), if_pos hk]
  rw [hA]
  have t15 : (q.kind == 15) = false := by simp; omega
  have t1 : (q.kind == 1) = false := by simp; omega
  have t2 : (q.kind == 2) = false := by simp; omega
  have t34 : ((q.kind == 3) = true) ∨ ((q.kind == 3) = false ∧ (q.kind == 4) = true) := by rcases hk with hk | hk <;> simp [hk]
  clear hA hk
  obtain ⟨s14, h14⟩ : ∃ x, sameB r i (failR 14) = x := ⟨_, rfl⟩
  rw [h14]
  obtain ⟨e13, he13⟩ : ∃ x, (R.1.err == 13) = x := ⟨_, rfl⟩
  rw [he13]
  rcases t34 with t3 | ⟨t3, t4⟩
  all_goals
    go_enter Tryz.func17, Tryz.ntmps17
    go_wp2_with (first | (go_at_call 15; refine (copy_any b M _ 100000 hM0 HOK.out).mono ?_; rintro e w2 ⟨b2, M2, rfl, hM2, hst2, hb2, hf2⟩; have hq2 := (hb2.block _ (by simp; omega)).trans hq0; have hr2 := (hb2.block _ (by simp)).trans hr0; have hB2 := hB0.trans (hb2.mono (by simp; omega)); have hf2' : ∀ k, M2.fp b2 k → w.heap.size + 1 + 1 ≤ k := (fun k hk => by have := hf2 k hk; simpa using this); obtain ⟨y0, y1, y2, y3, y4, y5, y6⟩ := blk7 hq2; have hdo := do_any b2 c M2 q _ hM2 (by rw [hst2]; exact HOK.out) hi; rw [hst2, hR] at hdo; clear hf2 hb2) | (go_at_call 16; refine hdo.mono ?_; rintro e w3 ⟨rfl, M3, hM3, hst3, hk3, hf3⟩; have hq3 := (hk3.block _ (Array.getElem?_eq_some_iff.1 hq2).1 (fun hk => absurd (hf2' _ hk) (by omega))).trans hq2; have hr3 := (hk3.block _ (Array.getElem?_eq_some_iff.1 hr2).1 (fun hk => absurd (hf2' _ hk) (by omega))).trans hr2; have hB3 : Below w.heap.size w w3 := ⟨hk3.os.trans hB2.os, hk3.tape.trans hB2.tape, hk3.output.trans hB2.output, Nat.le_trans hB2.size hk3.size, fun k hk => (hk3.block k (by have := hB2.size; omega) (fun hf => absurd (hf2' _ hf) (by omega))).trans (hB2.block k hk)⟩; obtain ⟨W4, hs4, hw4, hb4⟩ := rnew_pkg w3 R.1; have hB4 := hB3.trans (hb4.mono hB3.size); have hq4 := (hb4.block _ (Array.getElem?_eq_some_iff.1 hq3).1).trans hq3; have hr4 := (hb4.block _ (Array.getElem?_eq_some_iff.1 hr3).1).trans hr3; obtain ⟨a0, a1, a2, a3, a4, a5, a6, a7, a8, a9, a10, a11, a12⟩ := blk13 hr4; obtain ⟨d0, d1, d2, d3, d4, d5, d6, d7, d8, d9, d10, d11, d12⟩ := blk13 hw4; have hf3' : ∀ k, M3.fp b2 k → w.heap.size ≤ k := (fun k hk => (hf3 k hk).elim (fun h => by have := hf2' k h; omega) (fun h => by have := hB2.size; omega)); clear y0 y1 y2 y3 y4 y5 y6 hdo) | (go_at_call 43; refine (same_i r R.1 i _ hin).mono ?_; rw [hS]; rintro e w5 ⟨rfl, hb5⟩; have hB5 := hB4.trans (hb5.mono hB4.size); clear a0 a1 a2 a3 a4 a5 a6 a7 a8 a9 a10 a11 a12 d0 d1 d2 d3 d4 d5 d6 d7 d8 d9 d10 d11 d12; have hq5 := (hb5.block _ (Array.getElem?_eq_some_iff.1 hq4).1).trans hq4; have hr5 := (hb5.block _ (Array.getElem?_eq_some_iff.1 hr4).1).trans hr4; have hw5 := (hb5.block _ (Array.getElem?_eq_some_iff.1 hw4).1).trans hw4; have hM5 := h.below hB5; obtain ⟨y0, y1, y2, y3, y4, y5, y6⟩ := blk7 hq5; have hsta := static_any b M c q w5 hM5 hi hcl; rw [hz] at hsta; clear hb4 hs4 hb5 hk3 hM3 hf3 hf3' hf2') | (go_at_call 41; refine hsta.mono ?_; rintro e w6 ⟨rfl, hb6⟩; have hB6 := hB5.trans (hb6.mono hB5.size); have hq6 := (hb6.block _ (Array.getElem?_eq_some_iff.1 hq5).1).trans hq5; have hr6 := (hb6.block _ (Array.getElem?_eq_some_iff.1 hr5).1).trans hr5; have hw6 := (hb6.block _ (Array.getElem?_eq_some_iff.1 hw5).1).trans hw5; have k6 := (blk7 hq6).1; clear y0 y1 y2 y3 y4 y5 y6 hsta))
    have kx : ∀ W, Below w6.heap.size w6 W → W.cell? ⟨w.heap.size + 1, 0, none⟩ = some (.int .i64 r.err) ∧ W.cell? ⟨w.heap.size + 1, 1, none⟩ = some (.int .i64 r.rev) ∧ W.cell? ⟨w.heap.size + 1, 2, none⟩ = some (.int .i64 r.slot) ∧ W.cell? ⟨w.heap.size + 1, 3, none⟩ = some (.int .i64 r.at_) ∧ W.cell? ⟨w.heap.size + 1, 4, none⟩ = some (.int .u8 r.grav) ∧ W.cell? ⟨w.heap.size + 1, 5, none⟩ = some (.string r.text) ∧ W.cell? ⟨w.heap.size + 1, 6, none⟩ = some (.int .i64 r.m1) ∧ W.cell? ⟨w.heap.size + 1, 7, none⟩ = some (.int .i64 r.m2) ∧ W.cell? ⟨w.heap.size + 1, 8, none⟩ = some (.int .i64 r.m3) ∧ W.cell? ⟨w.heap.size + 1, 9, none⟩ = some (.int .u8 i.k) ∧ W.cell? ⟨w.heap.size + 1, 10, none⟩ = some (.int .i64 i.f) ∧ W.cell? ⟨w.heap.size + 1, 11, none⟩ = some (.int .i64 i.t) ∧ W.cell? ⟨w.heap.size + 1, 12, none⟩ = some (.slice i.da i.dn i.dc) ∧ W.cell? ⟨w3.heap.size, 0, none⟩ = some (.int .i64 R.1.err) := fun W hW => by
      have h1 := (hW.block _ (Array.getElem?_eq_some_iff.1 hr6).1).trans hr6
      have h2 := (hW.block _ (Array.getElem?_eq_some_iff.1 hw6).1).trans hw6
      obtain ⟨a0, a1, a2, a3, a4, a5, a6, a7, a8, a9, a10, a11, a12⟩ := blk13 h1
      exact ⟨a0, a1, a2, a3, a4, a5, a6, a7, a8, a9, a10, a11, a12, (blk13 h2).1⟩
    have Kx := Lib.hid kx
    clear kx
    cases s14 with
    | true =>
      cases e13 with
      | true =>
        have hx90 := (Below.refl w6.heap.size w6).drew
        refine wp_region_noPanic ?_
        refine wp_region_held_drew (S := fun W => W.cell? ⟨w.heap.size + 1, 0, none⟩ = some (.int .i64 r.err) ∧ W.cell? ⟨w.heap.size + 1, 1, none⟩ = some (.int .i64 r.rev) ∧ W.cell? ⟨w.heap.size + 1, 2, none⟩ = some (.int .i64 r.slot) ∧ W.cell? ⟨w.heap.size + 1, 3, none⟩ = some (.int .i64 r.at_) ∧ W.cell? ⟨w.heap.size + 1, 4, none⟩ = some (.int .u8 r.grav) ∧ W.cell? ⟨w.heap.size + 1, 5, none⟩ = some (.string r.text) ∧ W.cell? ⟨w.heap.size + 1, 6, none⟩ = some (.int .i64 r.m1) ∧ W.cell? ⟨w.heap.size + 1, 7, none⟩ = some (.int .i64 r.m2) ∧ W.cell? ⟨w.heap.size + 1, 8, none⟩ = some (.int .i64 r.m3) ∧ W.cell? ⟨w.heap.size + 1, 9, none⟩ = some (.int .u8 i.k) ∧ W.cell? ⟨w.heap.size + 1, 10, none⟩ = some (.int .i64 i.f) ∧ W.cell? ⟨w.heap.size + 1, 11, none⟩ = some (.int .i64 i.t) ∧ W.cell? ⟨w.heap.size + 1, 12, none⟩ = some (.slice i.da i.dn i.dc) ∧ W.cell? ⟨w3.heap.size, 0, none⟩ = some (.int .i64 R.1.err)) (by kernel_rfl) ?_ (fun hHeld => ?_)
        · first | exact Kx.out _ hx9 | exact Kx.out _ hx91 | exact Kx.out _ hx90
        first | (refine np_sn ?_; (try simp only [nSO])) | ((first | refine np_n ?_ ?_ ?_ | refine np_t 0 ?_ ?_ ?_); rotate_left 1; (· (intro w hSw; (try dsimp only at hSw); go_simp; all_goals with_reducible rfl)); (try simp only [nSO]))
        first | (refine np_s 1 ?_; (try simp only [nSO])) | (refine np_step (i := 1) rfl (by kernel_rfl) (fun K hK => ?_); rw [if_pos (by rfl)]; go_simp; ((go_at_call 40; refine (fail_any _ _).mono ?_; rintro e w9a ⟨rfl, hba⟩; have hx91 := hx90.trans (hba.mono hx90.size))); (try go_wp2_with fail); refine hK.out _ _ ?_ (fun hHeld => ?_); (· (first | exact Kx.out _ hx9 | exact Kx.out _ hx91 | exact Kx.out _ hx90)); clear hK K; (try simp only [nSO]))
        first | (refine np_s 2 ?_; (try simp only [nSO])) | (refine np_step (i := 2) rfl (by kernel_rfl) (fun K hK => ?_); rw [if_pos (by rfl)]; go_simp; ((go_at_call 43; refine (same_i r (failR 14) i _ hin).mono ?_; rw [h14]; rintro e w9 ⟨rfl, hbb⟩; have hx9 := hx91.trans (hbb.mono hx91.size))); (try go_wp2_with fail); refine hK.out _ _ ?_ (fun hHeld => ?_); (· (first | exact Kx.out _ hx9 | exact Kx.out _ hx91 | exact Kx.out _ hx90)); clear hK K; (try simp only [nSO]))
        iterate 6 (first | (refine np_sn ?_; (try simp only [nSO])) | (refine np_n ?_ ?_ ?_; rotate_left 1; (· (intro w hSw; (try dsimp only at hSw); go_simp; all_goals with_reducible rfl)); (try simp only [nSO])))
        refine wpAnyH_done (by kernel_rfl) ?_ _
        refine NoPanic.normal ?_
        go_wp2
        go_returns
        exact ⟨(by first | (simp; done) | (simpa using he13)), M, h.below (hB6.trans (hx9.mono hB6.size)), rfl, KeepF.of_below (hB6.trans (hx9.mono hB6.size)), fun k hk => .inl hk⟩
      | false =>
        have hx90 := (Below.refl w6.heap.size w6).drew
        refine wp_region_noPanic ?_
        refine wp_region_held_drew (S := fun W => W.cell? ⟨w.heap.size + 1, 0, none⟩ = some (.int .i64 r.err) ∧ W.cell? ⟨w.heap.size + 1, 1, none⟩ = some (.int .i64 r.rev) ∧ W.cell? ⟨w.heap.size + 1, 2, none⟩ = some (.int .i64 r.slot) ∧ W.cell? ⟨w.heap.size + 1, 3, none⟩ = some (.int .i64 r.at_) ∧ W.cell? ⟨w.heap.size + 1, 4, none⟩ = some (.int .u8 r.grav) ∧ W.cell? ⟨w.heap.size + 1, 5, none⟩ = some (.string r.text) ∧ W.cell? ⟨w.heap.size + 1, 6, none⟩ = some (.int .i64 r.m1) ∧ W.cell? ⟨w.heap.size + 1, 7, none⟩ = some (.int .i64 r.m2) ∧ W.cell? ⟨w.heap.size + 1, 8, none⟩ = some (.int .i64 r.m3) ∧ W.cell? ⟨w.heap.size + 1, 9, none⟩ = some (.int .u8 i.k) ∧ W.cell? ⟨w.heap.size + 1, 10, none⟩ = some (.int .i64 i.f) ∧ W.cell? ⟨w.heap.size + 1, 11, none⟩ = some (.int .i64 i.t) ∧ W.cell? ⟨w.heap.size + 1, 12, none⟩ = some (.slice i.da i.dn i.dc) ∧ W.cell? ⟨w3.heap.size, 0, none⟩ = some (.int .i64 R.1.err)) (by kernel_rfl) ?_ (fun hHeld => ?_)
        · first | exact Kx.out _ hx9 | exact Kx.out _ hx91 | exact Kx.out _ hx90
        first | (refine np_sn ?_; (try simp only [nSO])) | ((first | refine np_n ?_ ?_ ?_ | refine np_t 0 ?_ ?_ ?_); rotate_left 1; (· (intro w hSw; (try dsimp only at hSw); go_simp; all_goals with_reducible rfl)); (try simp only [nSO]))
        first | (refine np_s 1 ?_; (try simp only [nSO])) | (refine np_step (i := 1) rfl (by kernel_rfl) (fun K hK => ?_); rw [if_pos (by rfl)]; go_simp; ((go_at_call 40; refine (fail_any _ _).mono ?_; rintro e w9a ⟨rfl, hba⟩; have hx91 := hx90.trans (hba.mono hx90.size))); (try go_wp2_with fail); refine hK.out _ _ ?_ (fun hHeld => ?_); (· (first | exact Kx.out _ hx9 | exact Kx.out _ hx91 | exact Kx.out _ hx90)); clear hK K; (try simp only [nSO]))
        first | (refine np_s 2 ?_; (try simp only [nSO])) | (refine np_step (i := 2) rfl (by kernel_rfl) (fun K hK => ?_); rw [if_pos (by rfl)]; go_simp; ((go_at_call 43; refine (same_i r (failR 14) i _ hin).mono ?_; rw [h14]; rintro e w9 ⟨rfl, hbb⟩; have hx9 := hx91.trans (hbb.mono hx91.size))); (try go_wp2_with fail); refine hK.out _ _ ?_ (fun hHeld => ?_); (· (first | exact Kx.out _ hx9 | exact Kx.out _ hx91 | exact Kx.out _ hx90)); clear hK K; (try simp only [nSO]))
        iterate 6 (first | (refine np_sn ?_; (try simp only [nSO])) | (refine np_n ?_ ?_ ?_; rotate_left 1; (· (intro w hSw; (try dsimp only at hSw); go_simp; all_goals with_reducible rfl)); (try simp only [nSO])))
        refine wpAnyH_done (by kernel_rfl) ?_ _
        refine NoPanic.normal ?_
        go_wp2
        go_returns
        exact ⟨(by first | (simp; done) | (simpa using he13)), M, h.below (hB6.trans (hx9.mono hB6.size)), rfl, KeepF.of_below (hB6.trans (hx9.mono hB6.size)), fun k hk => .inl hk⟩
    | false =>
      have hx90 := (Below.refl w6.heap.size w6).drew
      refine wp_region_noPanic ?_
      refine wp_region_held_drew (S := fun W => W.cell? ⟨w.heap.size + 1, 0, none⟩ = some (.int .i64 r.err) ∧ W.cell? ⟨w.heap.size + 1, 1, none⟩ = some (.int .i64 r.rev) ∧ W.cell? ⟨w.heap.size + 1, 2, none⟩ = some (.int .i64 r.slot) ∧ W.cell? ⟨w.heap.size + 1, 3, none⟩ = some (.int .i64 r.at_) ∧ W.cell? ⟨w.heap.size + 1, 4, none⟩ = some (.int .u8 r.grav) ∧ W.cell? ⟨w.heap.size + 1, 5, none⟩ = some (.string r.text) ∧ W.cell? ⟨w.heap.size + 1, 6, none⟩ = some (.int .i64 r.m1) ∧ W.cell? ⟨w.heap.size + 1, 7, none⟩ = some (.int .i64 r.m2) ∧ W.cell? ⟨w.heap.size + 1, 8, none⟩ = some (.int .i64 r.m3) ∧ W.cell? ⟨w.heap.size + 1, 9, none⟩ = some (.int .u8 i.k) ∧ W.cell? ⟨w.heap.size + 1, 10, none⟩ = some (.int .i64 i.f) ∧ W.cell? ⟨w.heap.size + 1, 11, none⟩ = some (.int .i64 i.t) ∧ W.cell? ⟨w.heap.size + 1, 12, none⟩ = some (.slice i.da i.dn i.dc) ∧ W.cell? ⟨w3.heap.size, 0, none⟩ = some (.int .i64 R.1.err)) (by kernel_rfl) ?_ (fun hHeld => ?_)
      · first | exact Kx.out _ hx9 | exact Kx.out _ hx91 | exact Kx.out _ hx90
      first | (refine np_sn ?_; (try simp only [nSO])) | ((first | refine np_n ?_ ?_ ?_ | refine np_t 0 ?_ ?_ ?_); rotate_left 1; (· (intro w hSw; (try dsimp only at hSw); go_simp; all_goals with_reducible rfl)); (try simp only [nSO]))
      first | (refine np_s 1 ?_; (try simp only [nSO])) | (refine np_step (i := 1) rfl (by kernel_rfl) (fun K hK => ?_); rw [if_pos (by rfl)]; go_simp; ((go_at_call 40; refine (fail_any _ _).mono ?_; rintro e w9a ⟨rfl, hba⟩; have hx91 := hx90.trans (hba.mono hx90.size))); (try go_wp2_with fail); refine hK.out _ _ ?_ (fun hHeld => ?_); (· (first | exact Kx.out _ hx9 | exact Kx.out _ hx91 | exact Kx.out _ hx90)); clear hK K; (try simp only [nSO]))
      first | (refine np_s 2 ?_; (try simp only [nSO])) | (refine np_step (i := 2) rfl (by kernel_rfl) (fun K hK => ?_); rw [if_pos (by rfl)]; go_simp; ((go_at_call 43; refine (same_i r (failR 14) i _ hin).mono ?_; rw [h14]; rintro e w9 ⟨rfl, hbb⟩; have hx9 := hx91.trans (hbb.mono hx91.size))); (try go_wp2_with fail); refine hK.out _ _ ?_ (fun hHeld => ?_); (· (first | exact Kx.out _ hx9 | exact Kx.out _ hx91 | exact Kx.out _ hx90)); clear hK K; (try simp only [nSO]))
      iterate 6 (first | (refine np_sn ?_; (try simp only [nSO])) | (refine np_n ?_ ?_ ?_; rotate_left 1; (· (intro w hSw; (try dsimp only at hSw); go_simp; all_goals with_reducible rfl)); (try simp only [nSO])))
      refine wpAnyH_done (by kernel_rfl) ?_ _
      refine NoPanic.normal ?_
      go_wp2
      go_returns
      exact ⟨(by first | (simp; done) | (simpa using he13)), M, h.below (hB6.trans (hx9.mono hB6.size)), rfl, KeepF.of_below (hB6.trans (hx9.mono hB6.size)), fun k hk => .inl hk⟩
theorem accept_other (b : Nat) (c : Int) (M : MM) (q : OpV) (r : ResV) (i : ItV) (w : World) (h : MdAt w b M) (hok : MSok M.st 100000) (hi : OpIn q) (hin : i.dn ≤ maxLen) (hS : sameB r i (doS M.st c q).1 = false) (hz : statE M.st c q = 0) (hk : 5 ≤ q.kind ∧ q.kind ≠ 15) :
    Calls Tryz.prog 17 #[.pointer (some ⟨b, 0, none⟩), .int .i64 c, .agg #[.int .u8 q.kind, .int .i64 q.slot, .int .i64 q.at_, .int .i64 q.n, .int .u32 q.id, .int .u8 q.grav, .string q.text], .agg #[.int .i64 r.err, .int .i64 r.rev, .int .i64 r.slot, .int .i64 r.at_, .int .u8 r.grav, .string r.text, .int .i64 r.m1, .int .i64 r.m2, .int .i64 r.m3, .int .u8 i.k, .int .i64 i.f, .int .i64 i.t, .slice i.da i.dn i.dc]] w (AccPost b w (accS M.st c q r i) M) := by
  have hB0 := ((Below.refl w.heap.size w).alloc (Nat.le_refl _) (.cells #[.int .u8 q.kind, .int .i64 q.slot, .int .i64 q.at_, .int .i64 q.n, .int .u32 q.id, .int .u8 q.grav, .string q.text] 28)).alloc (by simp) (.cells #[.int .i64 r.err, .int .i64 r.rev, .int .i64 r.slot, .int .i64 r.at_, .int .u8 r.grav, .string r.text, .int .i64 r.m1, .int .i64 r.m2, .int .i64 r.m3, .int .u8 i.k, .int .i64 i.f, .int .i64 i.t, .slice i.da i.dn i.dc] 36)
  have hq0 := (heap_alloc_old (w.alloc (.cells #[.int .u8 q.kind, .int .i64 q.slot, .int .i64 q.at_, .int .i64 q.n, .int .u32 q.id, .int .u8 q.grav, .string q.text] 28)) (.cells #[.int .i64 r.err, .int .i64 r.rev, .int .i64 r.slot, .int .i64 r.at_, .int .u8 r.grav, .string r.text, .int .i64 r.m1, .int .i64 r.m2, .int .i64 r.m3, .int .u8 i.k, .int .i64 i.f, .int .i64 i.t, .slice i.da i.dn i.dc] 36) (show w.heap.size < _ by simp)).trans (heap_alloc_new w _)
  have hr0 := heap_alloc_new (w.alloc (.cells #[.int .u8 q.kind, .int .i64 q.slot, .int .i64 q.at_, .int .i64 q.n, .int .u32 q.id, .int .u8 q.grav, .string q.text] 28)) (.cells #[.int .i64 r.err, .int .i64 r.rev, .int .i64 r.slot, .int .i64 r.at_, .int .u8 r.grav, .string r.text, .int .i64 r.m1, .int .i64 r.m2, .int .i64 r.m3, .int .u8 i.k, .int .i64 i.f, .int .i64 i.t, .slice i.da i.dn i.dc] 36)
  rw [World.size_alloc] at hr0
  have HOK := Lib.hid hok
  clear hok
  have hM0 := h.below hB0
  obtain ⟨R, hR⟩ : ∃ R, doS M.st c q = R := ⟨_, rfl⟩
  have hcl : M.seats.length ≤ 8 := by have := HOK.out.clients; have h2 : M.st.seats.length = M.seats.length := List.length_map ..; omega
  rw [hR] at hS
  have hA : accS M.st c q r i = (false, M.st) := by unfold accS accB; rw [hR, if_neg (by simp [hS]), if_neg (by simpa using hz), if_neg (by omega), if_neg (by omega), if_neg (by omega)]
  rw [hA]
  have t15 : (q.kind == 15) = false := by simp; omega
  have t1 : (q.kind == 1) = false := by simp; omega
  have t2 : (q.kind == 2) = false := by simp; omega
  have t3 : (q.kind == 3) = false := by simp; omega
  have t4 : (q.kind == 4) = false := by simp; omega
  clear hA hk
  go_enter Tryz.func17, Tryz.ntmps17
  go_wp2_with (first | (go_at_call 15; refine (copy_any b M _ 100000 hM0 HOK.out).mono ?_; rintro e w2 ⟨b2, M2, rfl, hM2, hst2, hb2, hf2⟩; have hq2 := (hb2.block _ (by simp; omega)).trans hq0; have hr2 := (hb2.block _ (by simp)).trans hr0; have hB2 := hB0.trans (hb2.mono (by simp; omega)); have hf2' : ∀ k, M2.fp b2 k → w.heap.size + 1 + 1 ≤ k := (fun k hk => by have := hf2 k hk; simpa using this); obtain ⟨y0, y1, y2, y3, y4, y5, y6⟩ := blk7 hq2; have hdo := do_any b2 c M2 q _ hM2 (by rw [hst2]; exact HOK.out) hi; rw [hst2, hR] at hdo; clear hf2 hb2) | (go_at_call 16; refine hdo.mono ?_; rintro e w3 ⟨rfl, M3, hM3, hst3, hk3, hf3⟩; have hq3 := (hk3.block _ (Array.getElem?_eq_some_iff.1 hq2).1 (fun hk => absurd (hf2' _ hk) (by omega))).trans hq2; have hr3 := (hk3.block _ (Array.getElem?_eq_some_iff.1 hr2).1 (fun hk => absurd (hf2' _ hk) (by omega))).trans hr2; have hB3 : Below w.heap.size w w3 := ⟨hk3.os.trans hB2.os, hk3.tape.trans hB2.tape, hk3.output.trans hB2.output, Nat.le_trans hB2.size hk3.size, fun k hk => (hk3.block k (by have := hB2.size; omega) (fun hf => absurd (hf2' _ hf) (by omega))).trans (hB2.block k hk)⟩; obtain ⟨W4, hs4, hw4, hb4⟩ := rnew_pkg w3 R.1; have hB4 := hB3.trans (hb4.mono hB3.size); have hq4 := (hb4.block _ (Array.getElem?_eq_some_iff.1 hq3).1).trans hq3; have hr4 := (hb4.block _ (Array.getElem?_eq_some_iff.1 hr3).1).trans hr3; obtain ⟨a0, a1, a2, a3, a4, a5, a6, a7, a8, a9, a10, a11, a12⟩ := blk13 hr4; obtain ⟨d0, d1, d2, d3, d4, d5, d6, d7, d8, d9, d10, d11, d12⟩ := blk13 hw4; have hf3' : ∀ k, M3.fp b2 k → w.heap.size ≤ k := (fun k hk => (hf3 k hk).elim (fun h => by have := hf2' k h; omega) (fun h => by have := hB2.size; omega)); clear y0 y1 y2 y3 y4 y5 y6 hdo) | (go_at_call 43; refine (same_i r R.1 i _ hin).mono ?_; rw [hS]; rintro e w5 ⟨rfl, hb5⟩; have hB5 := hB4.trans (hb5.mono hB4.size); clear a0 a1 a2 a3 a4 a5 a6 a7 a8 a9 a10 a11 a12 d0 d1 d2 d3 d4 d5 d6 d7 d8 d9 d10 d11 d12; have hq5 := (hb5.block _ (Array.getElem?_eq_some_iff.1 hq4).1).trans hq4; have hr5 := (hb5.block _ (Array.getElem?_eq_some_iff.1 hr4).1).trans hr4; have hw5 := (hb5.block _ (Array.getElem?_eq_some_iff.1 hw4).1).trans hw4; have hM5 := h.below hB5; obtain ⟨y0, y1, y2, y3, y4, y5, y6⟩ := blk7 hq5; have hsta := static_any b M c q w5 hM5 hi hcl; rw [hz] at hsta; clear hb4 hs4 hb5 hk3 hM3 hf3 hf3' hf2') | (go_at_call 41; refine hsta.mono ?_; rintro e w6 ⟨rfl, hb6⟩; have hB6 := hB5.trans (hb6.mono hB5.size); have hq6 := (hb6.block _ (Array.getElem?_eq_some_iff.1 hq5).1).trans hq5; have hr6 := (hb6.block _ (Array.getElem?_eq_some_iff.1 hr5).1).trans hr5; have hw6 := (hb6.block _ (Array.getElem?_eq_some_iff.1 hw5).1).trans hw5; have k6 := (blk7 hq6).1; clear y0 y1 y2 y3 y4 y5 y6 hsta))
  go_returns
  exact ⟨rfl, M, h.below hB6, rfl, KeepF.of_below hB6, fun k hk => .inl hk⟩
end Go.Proofs.YtlealeecmmpckaaGreat
