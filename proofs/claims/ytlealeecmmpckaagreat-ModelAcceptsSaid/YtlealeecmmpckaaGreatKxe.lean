/- The texts RaJ RaL RaM RaO RaP. -/
import Derived.Test.YtlealeecmmpckaaGreatKud
import Derived.Test.YtlealeecmmpckaaGreatKuc
import Derived.Test.YtlealeecmmpckaaGreatKua
import Derived.Test.YtlealeecmmpckaaGreatKue
import Derived.Test.YtlealeecmmpckaaGreatKuh
import Derived.Test.YtlealeecmmpckaaGreatKug
import Derived.Deep.RegionLaw
namespace Go.Proofs.YtlealeecmmpckaaGreat
set_option linter.unusedVariables false
set_option linter.unusedSimpArgs false
set_option maxRecDepth 100000
set_option maxHeartbeats 8000000
open Go.RowKit Go.Lib Go.Shelf
theorem refCount_cnt (s : ByteArray) (w : World) (hs : s.size ≤ 1000000) : Calls Tryz.prog 128 #[.string s] w fun e w' => e = .returned (.int .i64 (cntB begB s.data.toList)) ∧ w = w' := by
  go_enter Tryz.func128, Tryz.ntmps128
  go_wp2
  go_loop [3, 4] (fun n i => ∃ k : Nat, i = .int .i64 k ∧ k ≤ s.size ∧ n = .int .i64 (cntB begB (s.data.toList.take k))) (fun n i => s.size - (intOf i).toNat)
  case atStart => exact ⟨0, rfl, by omega, rfl⟩
  case round =>
    obtain ⟨k, rfl, hk, rfl⟩ := hrel
    have hl : s.data.toList.length = s.size := by simp
    have Hl := Lib.hid hl; clear hl
    have hcl := cntB_le begB (s.data.toList.take k)
    have hcl2 : (s.data.toList.take k).length ≤ k := List.length_take_le _ _
    by_cases hlt : k < s.size
    · have hsn := cntB_snoc begB s.data.toList k (by rw [Hl.out]; exact hlt)
      have Hs := Lib.hid hsn; clear hsn
      have hb := byt_mk s k hlt
      obtain ⟨x, hx⟩ : ∃ x, contB (byt s.data.toList k) = x := ⟨_, rfl⟩
      have hbx : begB (byt s.data.toList k) = !x := by unfold begB; rw [hx]
      have HX := Lib.hid hbx
      have hcx := refCont_any (byt s.data.toList k) w
      rw [hx] at hcx
      clear hbx hx
      cases x
      all_goals
        go_wp2_with (go_at_call 129; refine hcx.mono ?_; rintro e w' ⟨rfl, rfl⟩)
        go_round
        case rel => exact ⟨k + 1, by go_num, by omega, by rw [Hs.out, HX.out]; first | rfl | (simp)⟩
        case measure => simp [intOf]; omega
    · go_wp2
      go_ret
      exact ⟨ret_int (by rw [List.take_of_length_le (by rw [Hl.out]; omega)]), rfl⟩
def Meas (w : World) (n a b : Int) (k : Nat) (l : List UInt8) (wr : World) : Prop :=
  wr.heap[w.heap.size + 1]? = some (.cells #[.int .i64 n, .int .i64 a, .int .i64 b] 31 (0, 0)) ∧ wr.heap[w.heap.size]? = some (.cells #[.int .i64 0, .int .i64 0, .int .i64 0] 31 (0, 0)) ∧ b = cntB feedB (l.take k) ∧ Below w.heap.size w wr
theorem set3c {w : World} {b : Nat} {u v x x' : Value} {T : TypeId} (h : w.heap[b]? = some (.cells #[u, v, x] T (0, 0))) : (w.setCell ⟨b, 2, none⟩ x').heap[b]? = some (.cells #[u, v, x'] T (0, 0)) := by
  simp [World.setCell, Array.getElem?_modify, h]
theorem refOf_any (s : ByteArray) (w : World) (hs : s.size ≤ 1000000) : Calls Tryz.prog 93 #[.string s] w fun e w' => e = .returned (.agg #[.int .i64 s.size, .int .i64 (cntB begB s.data.toList), .int .i64 (cntB feedB s.data.toList)]) ∧ Below w.heap.size w w' := by
  have hl : s.data.toList.length = s.size := by simp
  have Hl := Lib.hid hl; clear hl
  have hct := fun W => refCount_cnt s W hs
  have hcl := cntB_le feedB s.data.toList
  have hM0 : Meas w s.size (cntB begB s.data.toList) 0 0 s.data.toList ((w.alloc (.cells #[.int .i64 0, .int .i64 0, .int .i64 0] 31)).alloc (.cells #[.int .i64 s.size, .int .i64 (cntB begB s.data.toList), .int .i64 0] 31)) := by
    refine ⟨?_, ?_, by simp [cntB], ((Below.refl _ w).alloc (Nat.le_refl _) _).alloc (by simp) _⟩
    · have := heap_alloc_new (w.alloc (.cells #[.int .i64 0, .int .i64 0, .int .i64 0] 31)) (.cells #[.int .i64 s.size, .int .i64 (cntB begB s.data.toList), .int .i64 0] 31)
      rwa [World.size_alloc] at this
    · exact (heap_alloc_old _ _ (by simp)).trans (heap_alloc_new w _)
  obtain ⟨cb, hcb⟩ : ∃ cb : Nat, cntB begB s.data.toList = cb := ⟨_, rfl⟩
  rw [hcb] at hM0 hct
  have HCB := Lib.hid hcb
  have HCT := Lib.hid hct
  clear hcb hct
  go_enter Tryz.func93, Tryz.ntmps93
  go_wp2_with (go_at_call 128; refine (HCT.out _).mono ?_; rintro e w1 ⟨rfl, rfl⟩)
  go_loopw [4, 10, 11, 12, 13, 14, 15, 16, 17, 18, 19, 20, 21, 22, 23] (fun i x10 x11 x12 x13 x14 x15 x16 x17 x18 x19 x20 x21 x22 x23 wr => ∃ (k : Nat) (b : Int), i = .int .i64 k ∧ k ≤ s.size ∧ Meas w s.size cb b k s.data.toList wr) (fun i x10 x11 x12 x13 x14 x15 x16 x17 x18 x19 x20 x21 x22 x23 wr => s.size - (intOf i).toNat)
  case atStart => exact ⟨0, 0, rfl, by omega, hM0⟩
  case round =>
    clear hM0
    obtain ⟨k, b, rfl, hk, hz, hz0, hb, hB⟩ := hrel
    have hcl2 := cntB_le feedB (s.data.toList.take k)
    have hcl3 : (s.data.toList.take k).length ≤ k := List.length_take_le _ _
    have hb0 : 0 ≤ b ∧ b ≤ 1000000 := by rw [hb]; omega
    obtain ⟨b0, b1⟩ := hb0
    obtain ⟨z0, z1, z2⟩ := blk3' hz
    obtain ⟨y0, y1, y2⟩ := blk3f hz
    have HB := Lib.hid hb
    clear hb hcl2 hcl3
    by_cases hlt : k < s.size
    · have hsn := cntB_snoc feedB s.data.toList k (by rw [Hl.out]; exact hlt)
      have hbt := byt_mk s k hlt
      by_cases e : byt s.data.toList k = 10
      · have d1 : (byt s.data.toList k == 10) = true := by simpa using e
        rw [show feedB (byt s.data.toList k) = true from d1, if_pos rfl] at hsn
        have Hs := Lib.hid hsn
        have hz3 := set3c (x' := .int .i64 (b + 1)) hz
        have hz03 : (wr.setCell ⟨w.heap.size + 1, 2, none⟩ (.int .i64 (b + 1))).heap[w.heap.size]? = _ := (setCell_ne _ _ _ _ (show w.heap.size ≠ w.heap.size + 1 by omega)).trans hz0
        clear hsn e
        go_wp2
        go_roundw
        case rel => exact ⟨k + 1, b + 1, by go_num, by omega, hz3, hz03, by rw [Hs.out, HB.out]; rfl, hB.setCell (p := ⟨w.heap.size + 1, 2, none⟩) (by show w.heap.size ≤ w.heap.size + 1; omega) _⟩
        case measure => simp [intOf]; omega
      · have d1 : (byt s.data.toList k == 10) = false := by simpa using e
        rw [show feedB (byt s.data.toList k) = false from d1, if_neg (by simp)] at hsn
        have Hs := Lib.hid hsn
        clear hsn e
        go_wp2
        go_roundw
        case rel => exact ⟨k + 1, b, by go_num, by omega, hz, hz0, by rw [Hs.out]; exact HB.out, hB⟩
        case measure => simp [intOf]; omega
    · have hke : k = s.size := by omega
      have hbe : b = cntB feedB s.data.toList := by rw [HB.out, hke, ← Hl.out, List.take_length]
      have HBE := Lib.hid hbe
      obtain ⟨x0, x1, x2⟩ := blk3' hz0
      obtain ⟨v0, v1, v2⟩ := blk3f hz0
      clear hke hbe
      go_wp2
      obtain ⟨r0, r1, r2⟩ := blk3' (set3 (u' := .int .i64 s.size) (v' := .int .i64 cb) (x' := .int .i64 b) hz0)
      have hBz := below_set3 hB (Nat.le_refl _) (.int .i64 s.size) (.int .i64 cb) (.int .i64 b)
      refine bodyPost_ret (v := .agg #[.int .i64 s.size, .int .i64 cb, .int .i64 b]) ?_ rfl ⟨by rw [HCB.out, HBE.out], hBz⟩
      simp [results, Tryz.f93, go_sem, r0, r1, r2]
def LeftB (p : Int → Bool) (l : List UInt8) (n : Int) (k : Nat) (m : Int) : Prop := nthB p l n = (nthB p (l.drop k) m).map (fun j => k + j)
theorem leftB_0 (p : Int → Bool) (l : List UInt8) (n : Int) : LeftB p l n 0 n := by unfold LeftB; simp
theorem leftB_no {p : Int → Bool} {l : List UInt8} {n m : Int} {k : Nat} (h : LeftB p l n k m) (hk : k < l.length) (hp : p (byt l k) = false) : LeftB p l n (k + 1) m := by
  unfold LeftB at *
  rw [h, nthB_drop p l k m hk, hp, if_neg (by simp), Option.map_map]
  congr 1; funext j; simp; omega
theorem leftB_yes {p : Int → Bool} {l : List UInt8} {n m : Int} {k : Nat} (h : LeftB p l n k m) (hk : k < l.length) (hp : p (byt l k) = true) (hm : m ≠ 0) : LeftB p l n (k + 1) (m - 1) := by
  unfold LeftB at *
  rw [h, nthB_drop p l k m hk, hp, if_pos rfl, if_neg hm, Option.map_map]
  congr 1; funext j; simp; omega
theorem leftB_hit {p : Int → Bool} {l : List UInt8} {n : Int} {k : Nat} (h : LeftB p l n k 0) (hk : k < l.length) (hp : p (byt l k) = true) : nthB p l n = some k := by
  unfold LeftB at h
  rw [h, nthB_drop p l k 0 hk, hp, if_pos rfl, if_pos rfl]; rfl
theorem refRuneAt_any (s : ByteArray) (n : Int) (w : World) (hs : s.size ≤ 1000000) : Calls Tryz.prog 94 #[.string s, .int .i64 n] w fun e w' => e = .returned (.tuple #[.int .i64 (runeS s.data.toList n).1, .int .i64 (runeS s.data.toList n).2]) ∧ w = w' := by
  have hl : s.data.toList.length = s.size := by simp
  have Hl := Lib.hid hl; clear hl
  have hct := fun W => refCount_cnt s W hs
  have hcl := cntB_le begB s.data.toList
  have hno : 0 ≤ n → (nthB begB s.data.toList n = none ↔ (cntB begB s.data.toList : Int) ≤ n) := fun h => nthB_none begB s.data.toList n h
  have HNO := Lib.hid hno
  obtain ⟨cb, hcb⟩ : ∃ cb : Nat, cntB begB s.data.toList = cb := ⟨_, rfl⟩
  rw [hcb] at hct
  have HCB := Lib.hid hcb
  have HCT := Lib.hid hct
  have hcb2 : cb ≤ 1000000 := by rw [hcb, Hl.out] at hcl; omega
  clear hcb hct hno hcl
  by_cases h0 : n < 0
  · have d1 : decide (n < 0) = true := by simpa using h0
    have hr : runeS s.data.toList n = (0, 3) := by unfold runeS; rw [if_pos h0]
    have HR := Lib.hid hr
    clear hr h0
    go_enter Tryz.func94, Tryz.ntmps94
    go_wp2
    go_returns
    exact ⟨by rw [HR.out]; rfl, rfl⟩
  · have d1 : decide (n < 0) = false := by simpa using h0
    by_cases h1 : (cb : Int) < n
    · have d2 : decide ((cb : Int) < n) = true := by simpa using h1
      have hr : runeS s.data.toList n = (0, 3) := by
        unfold runeS; rw [if_neg h0, (HNO.out (by omega)).2 (by rw [HCB.out]; omega)]
        dsimp only; rw [if_neg (by rw [HCB.out]; omega)]
      have HR := Lib.hid hr
      clear hr h0 h1
      go_enter Tryz.func94, Tryz.ntmps94
      go_wp2_with (go_at_call 128; refine (HCT.out _).mono ?_; rintro e w1 ⟨rfl, rfl⟩)
      go_returns
      exact ⟨by rw [HR.out]; rfl, rfl⟩
    · have d2 : decide ((cb : Int) < n) = false := by simpa using h1
      have hn0 : 0 ≤ n := by omega
      have hncb : n ≤ cb := by omega
      go_enter Tryz.func94, Tryz.ntmps94
      go_wp2_with (go_at_call 128; refine (HCT.out _).mono ?_; rintro e w1 ⟨rfl, rfl⟩)
      go_loop [1, 6] (fun nn i => ∃ (k : Nat) (m : Int), i = .int .i64 k ∧ k ≤ s.size ∧ nn = .int .i64 m ∧ 0 ≤ m ∧ m ≤ n ∧ LeftB begB s.data.toList n k m) (fun nn i => s.size - (intOf i).toNat)
      case atStart => exact ⟨0, n, rfl, by omega, rfl, hn0, by omega, leftB_0 _ _ _⟩
      case round =>
        obtain ⟨k, m, rfl, hk, rfl, hm0, hmn, hL⟩ := hrel
        have HL := Lib.hid hL
        clear hL
        by_cases hlt : k < s.size
        · have hbt := byt_mk s k hlt
          have hkl : k < s.data.toList.length := by rw [Hl.out]; exact hlt
          have HKL := Lib.hid hkl
          clear hkl
          cases hx : contB (byt s.data.toList k) with
          | true =>
            have hbx : begB (byt s.data.toList k) = false := by unfold begB; rw [hx]; rfl
            have HX := Lib.hid hbx
            have hcx := refCont_any (byt s.data.toList k) w
            rw [hx] at hcx
            clear hbx hx
            go_wp2_with (go_at_call 129; refine hcx.mono ?_; rintro e w' ⟨rfl, rfl⟩)
            go_round
            case rel => exact ⟨k + 1, m, by go_num, by omega, rfl, hm0, hmn, leftB_no HL.out HKL.out HX.out⟩
            case measure => simp [intOf]; omega
          | false =>
            have hbx : begB (byt s.data.toList k) = true := by unfold begB; rw [hx]; rfl
            have HX := Lib.hid hbx
            have hcx := refCont_any (byt s.data.toList k) w
            rw [hx] at hcx
            clear hbx hx
            by_cases hm : m = 0
            · subst hm
              have hr : runeS s.data.toList n = ((k : Int), (0 : Int)) := by unfold runeS; rw [if_neg (by omega), leftB_hit HL.out HKL.out HX.out]
              have HR := Lib.hid hr
              clear hr h0 h1
              go_wp2_with (go_at_call 129; refine hcx.mono ?_; rintro e w' ⟨rfl, rfl⟩)
              go_returns
              exact ⟨by rw [HR.out]; rfl, rfl⟩
            · have d3 : (m == 0) = false := by simpa using hm
              have hl2 := leftB_yes HL.out HKL.out HX.out hm
              have HL2 := Lib.hid hl2
              have HM := Lib.hid (show (0 ≤ m - 1 ∧ m - 1 ≤ n) ∧ m - 1 ≤ 1000000 by omega)
              clear hl2 hm
              go_wp2_with (go_at_call 129; refine hcx.mono ?_; rintro e w' ⟨rfl, rfl⟩)
              go_round
              case rel => exact ⟨k + 1, m - 1, by go_num, by omega, by (have hm1 := HM.out; first | go_num | (simp only [wrap_i64_of]; omega)), HM.out.1.1, HM.out.1.2, HL2.out⟩
              case measure => simp [intOf]; omega
        · have hr : runeS s.data.toList n = ((s.size : Int), (0 : Int)) := by
            have h := HL.out
            unfold LeftB at h
            rw [nthB_end begB _ k m (by rw [Hl.out]; omega)] at h
            have h2 : nthB begB s.data.toList n = none := h
            have h3 := (HNO.out hn0).1 h2
            rw [HCB.out] at h3
            unfold runeS
            rw [if_neg (by omega), h2]
            dsimp only
            rw [if_pos (by rw [HCB.out]; omega), Hl.out]
          have HR := Lib.hid hr
          clear hr h0 h1
          go_wp2
          go_returns
          exact ⟨by rw [HR.out]; rfl, rfl⟩
def LineL (l : List UInt8) (n : Int) (k : Nat) (m : Int) : Prop := lineS l n = if m = 0 then ((k : Int), (0 : Int)) else match nthB feedB (l.drop k) (m - 1) with | some j => ((k : Int) + j + 1, (0 : Int)) | none => ((0 : Int), (3 : Int))
theorem lineL_0 (l : List UInt8) (n : Int) (h0 : 0 ≤ n) : LineL l n 0 n := by
  unfold LineL lineS
  by_cases h : n = 0
  · rw [if_pos h, if_pos h]; rfl
  · rw [if_neg h, if_neg h, if_neg (by omega), List.drop_zero]
    cases nthB feedB l (n - 1) <;> simp
theorem lineL_no {l : List UInt8} {n m : Int} {k : Nat} (h : LineL l n k m) (hk : k < l.length) (hm : m ≠ 0) (hp : feedB (byt l k) = false) : LineL l n (k + 1) m := by
  unfold LineL at *
  rw [h, if_neg hm, if_neg hm, nthB_drop feedB l k (m - 1) hk, hp, if_neg (by simp)]
  cases nthB feedB (l.drop (k + 1)) (m - 1) <;> simp; omega
theorem lineL_yes {l : List UInt8} {n m : Int} {k : Nat} (h : LineL l n k m) (hk : k < l.length) (hm : m ≠ 0) (hp : feedB (byt l k) = true) : LineL l n (k + 1) (m - 1) := by
  unfold LineL at *
  rw [h, if_neg hm, nthB_drop feedB l k (m - 1) hk, hp, if_pos rfl]
  by_cases h1 : m - 1 = 0
  · rw [if_pos h1, if_pos h1]; simp
  · rw [if_neg h1, if_neg h1]
    cases nthB feedB (l.drop (k + 1)) (m - 1 - 1) <;> simp; omega
theorem lineL_end {l : List UInt8} {n : Int} {k : Nat} (h : LineL l n k 0) : lineS l n = ((k : Int), (0 : Int)) := by unfold LineL at h; rw [h, if_pos rfl]
theorem fldLines (a b c : Value) (W : World) : (Instr.field 31 (.agg #[a, b, c]) 2).run Tryz.prog W = .ok c W := by kernel_rfl
attribute [local go_sem] fldLines
theorem lineL_in {l : List UInt8} {n m : Int} {k : Nat} (h : LineL l n k m) (hm : m ≠ 0) (hn : n = 0 ∨ (lineS l n).2 = 0) (hn2 : n ≠ 0) : k < l.length := by
  unfold LineL at h
  rw [if_neg hm] at h
  by_cases hk : k < l.length
  · exact hk
  · rw [nthB_end feedB l k _ (by omega)] at h
    rcases hn with h1 | h1
    · exact absurd h1 hn2
    · rw [h] at h1; simp at h1
theorem refLine_any (s : ByteArray) (n : Int) (w : World) (hs : s.size ≤ 1000000) : Calls Tryz.prog 95 #[.string s, .int .i64 n] w fun e w' => e = .returned (.tuple #[.int .i64 (lineS s.data.toList n).1, .int .i64 (lineS s.data.toList n).2]) ∧ Below w.heap.size w w' := by
  have hl : s.data.toList.length = s.size := by simp
  have Hl := Lib.hid hl; clear hl
  have hof := refOf_any s
  have hcl := cntB_le feedB s.data.toList
  have hsz : 0 ≤ n - 1 → (nthB feedB s.data.toList (n - 1) = none ↔ (cntB feedB s.data.toList : Int) ≤ n - 1) := fun h => nthB_none feedB s.data.toList (n - 1) h
  obtain ⟨cb, hcb⟩ : ∃ cb : Nat, cntB feedB s.data.toList = cb := ⟨_, rfl⟩
  rw [hcb] at hof hsz
  have hcb2 : cb ≤ 1000000 := by rw [hcb, Hl.out] at hcl; omega
  have HOF := Lib.hid hof
  have HNO := Lib.hid hsz
  clear hof hcb hcl hsz
  by_cases h0 : n < 0
  · have d1 : decide (n < 0) = true := by simpa using h0
    have hr : lineS s.data.toList n = (0, 3) := by unfold lineS; rw [if_neg (by omega), if_pos h0]
    have HR := Lib.hid hr
    clear hr h0
    go_enter Tryz.func95, Tryz.ntmps95
    go_wp2
    go_returns
    exact ⟨by rw [HR.out]; rfl, Below.refl _ _⟩
  · have d1 : decide (n < 0) = false := by simpa using h0
    by_cases h1 : (cb : Int) < n
    · have d2 : decide ((cb : Int) < n) = true := by simpa using h1
      have hr : lineS s.data.toList n = (0, 3) := by
        unfold lineS; rw [if_neg (by omega), if_neg h0, (HNO.out (by omega)).2 (by omega)]
      have HR := Lib.hid hr
      clear hr h0 h1
      go_enter Tryz.func95, Tryz.ntmps95
      go_wp2_with (go_at_call 93; refine (HOF.out _ hs).mono ?_; rintro e w1 ⟨rfl, hB1⟩)
      go_returns
      exact ⟨by rw [HR.out]; rfl, by first | exact hB1 | exact hB1.raise (by omega)⟩
    · have d2 : decide ((cb : Int) < n) = false := by simpa using h1
      have hn0 : 0 ≤ n := by omega
      have hns : n = 0 ∨ (lineS s.data.toList n).2 = 0 := by
        by_cases hz : n = 0
        · exact .inl hz
        · right
          unfold lineS
          rw [if_neg hz, if_neg h0]
          cases hx : nthB feedB s.data.toList (n - 1) with
          | none => exact absurd ((HNO.out (by omega)).1 hx) (by omega)
          | some k => rfl
      have HNS := Lib.hid hns
      have hncb : n ≤ cb := by omega
      clear hns h0 h1
      go_enter Tryz.func95, Tryz.ntmps95
      go_wp2_with (go_at_call 93; refine (HOF.out _ hs).mono ?_; rintro e w1 ⟨rfl, hB1⟩)
      go_loop [1, 6] (fun nn i => ∃ (k : Nat) (m : Int), i = .int .i64 k ∧ k ≤ s.size ∧ nn = .int .i64 m ∧ 0 ≤ m ∧ m ≤ n ∧ LineL s.data.toList n k m) (fun nn i => s.size - (intOf i).toNat)
      case atStart => exact ⟨0, n, rfl, by omega, rfl, hn0, by omega, lineL_0 _ _ hn0⟩
      case round =>
        obtain ⟨k, m, rfl, hk, rfl, hm0, hmn, hL⟩ := hrel
        have HL := Lib.hid hL
        clear hL
        by_cases hm : m = 0
        · subst hm
          have hr := lineL_end HL.out
          have HR := Lib.hid hr
          clear hr
          go_wp2
          go_returns
          exact ⟨by rw [HR.out]; rfl, by first | exact hB1 | exact hB1.raise (by omega)⟩
        · have hkl := lineL_in HL.out hm HNS.out (by omega)
          have hlt : k < s.size := by rw [Hl.out] at hkl; exact hkl
          have HKL := Lib.hid hkl
          clear hkl
          have hbt := byt_mk s k hlt
          have d3 : decide (0 < m) = true := by rw [decide_eq_true_eq]; omega
          by_cases e : byt s.data.toList k = 10
          · have d4 : (byt s.data.toList k == 10) = true := by simpa using e
            have hl2 := lineL_yes HL.out HKL.out hm d4
            have HL2 := Lib.hid hl2
            have HM := Lib.hid (show (0 ≤ m - 1 ∧ m - 1 ≤ n) ∧ m - 1 ≤ 1000000 by omega)
            clear hl2 hm e
            go_wp2
            go_round
            case rel => exact ⟨k + 1, m - 1, by go_num, by omega, by (have hm1 := HM.out; first | go_num | (simp only [wrap_i64_of]; omega)), HM.out.1.1, HM.out.1.2, HL2.out⟩
            case measure => simp [intOf]; omega
          · have d4 : (byt s.data.toList k == 10) = false := by simpa using e
            have hl2 := lineL_no HL.out HKL.out hm d4
            have HL2 := Lib.hid hl2
            clear hl2 hm e
            go_wp2
            go_round
            case rel => exact ⟨k + 1, m, by go_num, by omega, rfl, hm0, hmn, HL2.out⟩
            case measure => simp [intOf]; omega
end Go.Proofs.YtlealeecmmpckaaGreat
namespace Go.Proofs.YtlealeecmmpckaaGreat
set_option linter.unusedVariables false
set_option linter.unusedSimpArgs false
set_option maxRecDepth 100000
set_option maxHeartbeats 8000000
open Go.RowKit Go.Lib Go.Shelf
structure RM where
  text : ByteArray
  mv : Value
  marks : List MkV
  number : Int
  closed : Bool
  readers : Nat
  bv : Value
  sv : Value
  seats : List SeM
def RM.st (M : RM) : MS := ⟨M.text, M.marks, M.number, M.closed, M.readers, M.seats.map (·.st)⟩
def rdL (M : RM) : List Value := [.int .i64 M.seats.length, .int .i64 M.readers, .string M.text, M.mv, .int .i64 M.number, .bool M.closed, M.bv, M.sv]
def subL (l : List SeM) : List Value := l.map (fun S => .bool S.sub)
def rowL (l : List SeM) : List Value := l.map (·.v)
structure RdAt (W : World) (b : Nat) (M : RM) : Prop where
  blk : W.heap[b]? = some (.cells (rdL M).toArray 108 (0, 0))
  marks : MOwn W 0 M.mv M.marks
  subs : W.ownsRow 0 4 1 M.bv M.seats.length (subL M.seats)
  snaps : W.ownsRow 0 109 1 M.sv M.seats.length (rowL M.seats)
  slots : ∀ S ∈ M.seats, W.ownsRow 0 114 4 S.v S.sl.length (slL S.sl)
  smarks : ∀ S ∈ M.seats, ∀ x ∈ S.sl, MOwn W 0 x.mv x.s.marks
  some_ : M.bv.ownBlock ≠ none ∧ ∀ S ∈ M.seats, S.v.ownBlock ≠ none
  nodup : (M.seats.map (·.v.ownBlock)).Nodup
def RM.fp (M : RM) (b : Nat) (k : Nat) : Prop := k = b ∨ M.bv.ownBlock = some k ∨ ∃ S ∈ M.seats, S.v.ownBlock = some k
theorem RdAt.below {W W' : World} {b : Nat} {M : RM} (h : RdAt W b M) (hb : Below W.heap.size W W') : RdAt W' b M :=
  ⟨(hb.block b (Array.getElem?_eq_some_iff.1 h.blk).1).trans h.blk, own_below6 h.marks hb, own_below6 h.subs hb, own_below6 h.snaps hb, fun S hS => own_below6 (h.slots S hS) hb, fun S hS x hx => own_below6 (h.smarks S hS x hx) hb, h.some_, h.nodup⟩
theorem RdAt.upd {W W' : World} {b : Nat} {M M' : RM} (h : RdAt W b M) (hb : W'.heap[b]? = some (.cells (rdL M').toArray 108 (0, 0))) (hk : ∀ k, k < W.heap.size → k ≠ b → W'.heap[k]? = W.heap[k]?)
    (hm : MOwn W' 0 M'.mv M'.marks) (hbv : M'.bv = M.bv) (hsv : M'.sv = M.sv) (hse : M'.seats = M.seats) : RdAt W' b M' :=
  ⟨hb, hm, by rw [hbv, hse]; exact own_keep h.subs h.blk (by decide) hk, by rw [hsv, hse]; exact own_keep h.snaps h.blk (by decide) hk, fun S hS => own_keep (h.slots S (hse ▸ hS)) h.blk (by decide) hk,
    fun S hS x hx => own_keep (h.smarks S (hse ▸ hS) x hx) h.blk (by decide) hk, by rw [hbv, hse]; exact h.some_, by rw [hse]; exact h.nodup⟩
attribute [local go_sem, local simp] resF resL_len resL_ne rset0 rset1 rset2 rset3 rset4 rset5
theorem rfail_any (e : Int) (w : World) : Calls Tryz.prog 56 #[.int .i64 e] w fun r w' => r = .returned (.agg (resL (failR e)).toArray) ∧ Below w.heap.size w w' := by
  have hz := heap_alloc_new w (.cells (resL {}).toArray 36)
  have hst := res_st hz rfl
  go_enter Tryz.func56, Tryz.ntmps56
  go_wp2
  exact ⟨rfl, _, results_cell_row rfl _ _ _ _ _ _ _ rfl (setRow_heap _ _ _ _ _ _ hz) Tryz.underlying36 rfl (by kernel_rfl), rfl, below_row ((Below.refl _ w).alloc (Nat.le_refl _) _) (Nat.le_refl _) _⟩
end Go.Proofs.YtlealeecmmpckaaGreat
namespace Go.Proofs.YtlealeecmmpckaaGreat
set_option linter.unusedVariables false
set_option linter.unusedSimpArgs false
set_option maxRecDepth 100000
set_option maxHeartbeats 8000000
open Go.RowKit Go.Lib Go.Shelf
theorem infoSnp : (Tryz.prog.info? 114).map (fun i => (i.zero, i.size, i.bytes)) = some (some (.agg #[.bool false, .string ⟨#[]⟩, .slice none 0 0, .int .i64 0]), 4, 56) := by kernel_rfl
theorem infoBo : (Tryz.prog.info? 4).map (fun i => (i.zero, i.size, i.bytes)) = some (some (.bool false), 1, 1) := by kernel_rfl
theorem infoRw : (Tryz.prog.info? 109).map (fun i => (i.zero, i.size, i.bytes)) = some (some (.slice none 0 0), 1, 24) := by kernel_rfl
@[irreducible] def mkRns (w : World) (n : Nat) : World := w.alloc (.cells (slL (List.replicate n zSn)).toArray 114)
@[irreducible] def mkBos (w : World) (n : Nat) : World := w.alloc (.cells (List.replicate n (Value.bool false)).toArray 4)
theorem mkRns_eq (w : World) (n : Nat) : mkRns w n = w.alloc (.cells (slL (List.replicate n zSn)).toArray 114) := by unfold mkRns; rfl
theorem mkBos_eq (w : World) (n : Nat) : mkBos w n = w.alloc (.cells (List.replicate n (Value.bool false)).toArray 4) := by unfold mkBos; rfl
theorem made_bos (n : Nat) : (madeCells (Value.cells (.bool false)) (n * 1)).toList = List.replicate n (Value.bool false) := by
  rw [Nat.mul_one]
  apply List.ext_getElem?
  intro i
  simp [madeCells, Value.cells, Nat.mod_one]
  by_cases h : i < n
  · simp [h]
  · simp [h]
theorem run_rns (w : World) (n : Nat) (hn : n ≤ 1000) : (Instr.makeSlice 109 (.int .i64 n) (.int .i64 n)).run Tryz.prog w = .ok (.slice (some ⟨w.heap.size, 0, none⟩) n n) (mkRns w n) := by
  obtain ⟨i0, hi0, hz0, hz1, hz2⟩ := info_parts infoSnp
  have := run_make (P := Tryz.prog) w 109 114 i0 _ Tryz.underlying109 hi0 hz0 .i64 .i64 n n (by omega) (Int.le_refl _) (by rw [hz2]; omega) (by omega)
  have e : madeCells (Value.cells (.agg #[.bool false, .string ⟨#[]⟩, .slice none 0 0, .int .i64 0])) ((n : Int).toNat * i0.size) = (slL (List.replicate n zSn)).toArray := by rw [hz1, Int.toNat_natCast]; exact Array.toList_inj.1 (made_slots n)
  rw [this, e, mkRns_eq, Int.toNat_natCast]
theorem run_bos (w : World) (n : Nat) (hn : n ≤ 1000) : (Instr.makeSlice 105 (.int .i64 n) (.int .i64 n)).run Tryz.prog w = .ok (.slice (some ⟨w.heap.size, 0, none⟩) n n) (mkBos w n) := by
  obtain ⟨i0, hi0, hz0, hz1, hz2⟩ := info_parts infoBo
  have := run_make (P := Tryz.prog) w 105 4 i0 _ Tryz.underlying105 hi0 hz0 .i64 .i64 n n (by omega) (Int.le_refl _) (by rw [hz2]; omega) (by omega)
  have e : madeCells (Value.cells (.bool false)) ((n : Int).toNat * i0.size) = (List.replicate n (Value.bool false)).toArray := by rw [hz1, Int.toNat_natCast]; exact Array.toList_inj.1 (made_bos n)
  rw [this, e, mkBos_eq, Int.toNat_natCast]
theorem make_rns (w : World) (n : Nat) (hn : n ≤ 1000) : ∃ V, (Instr.makeSlice 109 (.int .i64 n) (.int .i64 n)).run Tryz.prog w = .ok (.slice (some ⟨w.heap.size, 0, none⟩) n n) V ∧ V.heap.size = w.heap.size + 1 ∧ V.heap[w.heap.size]? = some (.cells (slL (List.replicate n zSn)).toArray 114 (0, 0)) ∧ Below w.heap.size w V :=
  ⟨_, run_rns w n hn, by rw [mkRns_eq, World.size_alloc], by rw [mkRns_eq]; exact heap_alloc_new _ _, by rw [mkRns_eq]; exact (Below.refl _ w).alloc (Nat.le_refl _) _⟩
theorem make_bos (w : World) (n : Nat) (hn : n ≤ 1000) : ∃ V, (Instr.makeSlice 105 (.int .i64 n) (.int .i64 n)).run Tryz.prog w = .ok (.slice (some ⟨w.heap.size, 0, none⟩) n n) V ∧ V.heap.size = w.heap.size + 1 ∧ V.heap[w.heap.size]? = some (.cells (List.replicate n (Value.bool false)).toArray 4 (0, 0)) ∧ Below w.heap.size w V :=
  ⟨_, run_bos w n hn, by rw [mkBos_eq, World.size_alloc], by rw [mkBos_eq]; exact heap_alloc_new _ _, by rw [mkBos_eq]; exact (Below.refl _ w).alloc (Nat.le_refl _) _⟩
theorem rns_own {W : World} {g n : Nat} (h : W.heap[g]? = some (.cells (slL (List.replicate n zSn)).toArray 114 (0, 0))) (hn : n ≤ 1000) : W.ownsRow g 114 4 (.slice (some ⟨g, 0, none⟩) n n) (List.replicate n zSn).length (slL (List.replicate n zSn)) := by
  have e : (List.replicate n zSn).length = n := List.length_replicate ..
  refine ⟨slL_len _, .inr ⟨g, n, _, by rw [e], Nat.le_refl _, h, by omega, by unfold maxLen; omega, by show (slL _).length = _; rw [slL_len, e], ?_⟩⟩
  show (slL _).take _ = _
  rw [List.take_of_length_le (by rw [slL_len]; exact Nat.le_refl _)]
theorem bos_own {W : World} {g n : Nat} (h : W.heap[g]? = some (.cells (List.replicate n (Value.bool false)).toArray 4 (0, 0))) (hn : n ≤ 1000) : W.ownsRow g 4 1 (.slice (some ⟨g, 0, none⟩) n n) n (List.replicate n (Value.bool false)) := by
  refine ⟨by simp, .inr ⟨g, n, _, rfl, Nat.le_refl _, h, by omega, by unfold maxLen; omega, by simp, ?_⟩⟩
  rw [List.take_of_length_le (by simp)]
def rdC (n : Nat) (M : RM) : List Value := [.int .i64 n, .int .i64 M.readers, .string M.text, M.mv, .int .i64 M.number, .bool M.closed, M.bv, M.sv]
structure RBld (s : Nat) (W : World) (b n : Nat) (M : RM) : Prop where
  blk : W.heap[b]? = some (.cells (rdC n M).toArray 108 (0, 0))
  marks : MOwn W 0 M.mv M.marks
  subs : W.ownsRow s 4 1 M.bv n (List.replicate n (Value.bool false))
  snaps : W.ownsRow s 109 1 M.sv M.seats.length (rowL M.seats)
  slots : ∀ S ∈ M.seats, W.ownsRow s 114 4 S.v S.sl.length (slL S.sl)
  smarks : ∀ S ∈ M.seats, ∀ x ∈ S.sl, MOwn W 0 x.mv x.s.marks
  some_ : M.bv.ownBlock ≠ none ∧ ∀ S ∈ M.seats, S.v.ownBlock ≠ none
  nosub : ∀ S ∈ M.seats, S.sub = false
  nodup : (M.seats.map (·.v.ownBlock)).Nodup
theorem RBld.below {s : Nat} {W W' : World} {b n : Nat} {M : RM} (h : RBld s W b n M) (hb : Below W.heap.size W W') : RBld s W' b n M :=
  ⟨(hb.block b (Array.getElem?_eq_some_iff.1 h.blk).1).trans h.blk, own_below6 h.marks hb, own_below6 h.subs hb, own_below6 h.snaps hb, fun S hS => own_below6 (h.slots S hS) hb, fun S hS x hx => own_below6 (h.smarks S hS x hx) hb, h.some_, h.nosub, h.nodup⟩
theorem subL_false : ∀ (D : List SeM), (∀ S ∈ D, S.sub = false) → subL D = List.replicate D.length (Value.bool false)
  | [], _ => rfl
  | S :: D, h => by
    show Value.bool S.sub :: subL D = _
    rw [h S (by simp), subL_false D (fun x hx => h x (List.mem_cons_of_mem _ hx))]; rfl
theorem RBld.rdAt {s : Nat} {W : World} {b n : Nat} {M : RM} (h : RBld s W b n M) (hn : M.seats.length = n) : RdAt W b M := by
  subst hn
  refine ⟨h.blk, h.marks, ?_, own_mono (Nat.zero_le _) h.snaps, fun S hS => own_mono (Nat.zero_le _) (h.slots S hS), h.smarks, h.some_, h.nodup⟩
  rw [subL_false _ h.nosub]
  exact own_mono (Nat.zero_le _) h.subs
end Go.Proofs.YtlealeecmmpckaaGreat
namespace Go.Proofs.YtlealeecmmpckaaGreat
set_option linter.unusedVariables false
set_option linter.unusedSimpArgs false
set_option maxRecDepth 100000
set_option maxHeartbeats 8000000
open Go.RowKit Go.Lib Go.Shelf
theorem own_type {w : World} {B s n : Nat} {e : TypeId} {v : Value} {xs : List Value} (h : w.ownsRow B e s v n xs) : ∀ g, v.ownBlock = some g → ∃ cs, w.heap[g]? = some (.cells cs e (0, 0)) := by
  intro g hg
  rcases h.2 with ⟨e1, _⟩ | ⟨g', _, cu, e1, _, hg', _⟩
  · rw [e1] at hg; cases hg
  · rw [e1] at hg; injection hg with hg; have hg2 : g' = g := hg; subst hg2; exact ⟨cu, hg'⟩
theorem own_keepT {w w' : World} {B s n : Nat} {e : TypeId} {v : Value} {xs : List Value} (h : w.ownsRow B e s v n xs) (hk : ∀ (k : Nat) (cs : Array Value), w.heap[k]? = some (Obj.cells cs e (0, 0)) → w'.heap[k]? = w.heap[k]?) : w'.ownsRow B e s v n xs := by
  refine ⟨h.1, ?_⟩
  rcases h.2 with hn | ⟨g, cap, cur, rfl, hB, hg, rest⟩
  · exact .inl hn
  · exact .inr ⟨g, cap, cur, rfl, hB, (hk g _ hg).trans hg, rest⟩
theorem RBld.push {s : Nat} {W w6 : World} {b n : Nat} {M : RM} (h : RBld s W b n M) (S : SeM) (v6 : Value) (o : Obj) (hsz : s ≤ W.heap.size - 1)
    (hg6 : (W.alloc o).grownBy w6 M.sv.ownBlock) (hn6 : w6.ownsRow s 109 1 v6 (M.seats.length + 1) (rowL M.seats ++ [S.v]))
    (hslot : W.ownsRow (W.heap.size - 1) 114 4 S.v S.sl.length (slL S.sl)) (hold : ∀ S' ∈ M.seats, ∀ g, S'.v.ownBlock = some g → g < W.heap.size - 1)
    (hsome : S.v.ownBlock ≠ none) (hsub : S.sub = false) (hsm : ∀ x ∈ S.sl, MOwn W 0 x.mv x.s.marks) :
    RBld s (w6.setCell ⟨b, 7, none⟩ v6) b n { M with sv := v6, seats := M.seats ++ [S] } := by
  have hlt : ∀ (k : Nat) (cs : Array Value) (e : TypeId), W.heap[k]? = some (Obj.cells cs e (0, 0)) → k < W.heap.size := fun k cs e h => (Array.getElem?_eq_some_iff.1 h).1
  have hk6 : ∀ (k : Nat) (cs : Array Value) (e : TypeId), e ≠ 109 → W.heap[k]? = some (Obj.cells cs e (0, 0)) → w6.heap[k]? = W.heap[k]? := fun k cs e he hk => by
    refine (hg6.block k (by have := hlt _ _ _ hk; simp; omega) (fun hc => ?_)).trans (heap_alloc_old _ _ (hlt _ _ _ hk))
    obtain ⟨cs2, h2⟩ := own_type h.snaps k hc.symm
    rw [hk] at h2; injection h2 with h2; injection h2 with _ h2 _; exact he h2
  have hb6 := (hk6 b _ _ (by decide) h.blk).trans h.blk
  have hkf : ∀ (e : TypeId), e ≠ 109 → e ≠ 108 → ∀ (k : Nat) (cs : Array Value), W.heap[k]? = some (Obj.cells cs e (0, 0)) → (w6.setCell ⟨b, 7, none⟩ v6).heap[k]? = W.heap[k]? := fun e he he2 k cs hk =>
    (setCell_ne _ _ _ _ (fun hkb => by have hkb : k = b := hkb; subst hkb; rw [h.blk] at hk; injection hk with hk; injection hk with _ h2 _; exact he2 h2.symm)).trans (hk6 k cs e he hk)
  refine ⟨?_, own_keepT h.marks (hkf _ (by decide) (by decide)), own_keepT h.subs (hkf _ (by decide) (by decide)), ?_, ?_, ?_, ⟨h.some_.1, ?_⟩, ?_, ?_⟩
  · exact blk_set hb6 7 v6
  · show World.ownsRow _ s _ 1 v6 (M.seats ++ [S]).length (rowL (M.seats ++ [S]))
    rw [List.length_append, show rowL (M.seats ++ [S]) = rowL M.seats ++ [S.v] from by simp [rowL]]
    exact own_keep hn6 hb6 (by decide) (fun k _ hk => setCell_ne _ _ _ _ hk)
  · intro S' hS'
    rcases List.mem_append.1 hS' with h1 | h1
    · exact own_keepT (h.slots S' h1) (hkf _ (by decide) (by decide))
    · rw [List.mem_singleton.1 h1]; exact own_keepT (own_mono hsz hslot) (hkf _ (by decide) (by decide))
  · intro S' hS' x hx
    rcases List.mem_append.1 hS' with h1 | h1
    · exact own_keepT (h.smarks S' h1 x hx) (hkf _ (by decide) (by decide))
    · rw [List.mem_singleton.1 h1] at hx; exact own_keepT (hsm x hx) (hkf _ (by decide) (by decide))
  · intro S' hS'
    rcases List.mem_append.1 hS' with h1 | h1
    · exact h.some_.2 S' h1
    · rw [List.mem_singleton.1 h1]; exact hsome
  · intro S' hS'
    rcases List.mem_append.1 hS' with h1 | h1
    · exact h.nosub S' h1
    · rw [List.mem_singleton.1 h1]; exact hsub
  · show ((M.seats ++ [S]).map (·.v.ownBlock)).Nodup
    rw [List.map_append, List.nodup_append]
    refine ⟨h.nodup, by simp, fun a ha c hc e => ?_⟩
    obtain ⟨S', hS', rfl⟩ := List.mem_map.1 ha
    have hc2 : c = S.v.ownBlock := by simpa using hc
    rw [hc2] at e
    cases ho : S.v.ownBlock with
    | none => exact hsome ho
    | some g =>
      rw [ho] at e
      have h1 := hold S' hS' g e
      have h2 := (World.ownsRow.lt hslot g ho).1
      omega
end Go.Proofs.YtlealeecmmpckaaGreat
namespace Go.Proofs.YtlealeecmmpckaaGreat
set_option linter.unusedVariables false
set_option linter.unusedSimpArgs false
set_option maxRecDepth 100000
set_option maxHeartbeats 8000000
open Go.RowKit Go.Lib Go.Shelf
theorem RBld.keep6 {s : Nat} {W w6 : World} {b n : Nat} {M : RM} (h : RBld s W b n M) {o : Obj} (hg6 : (W.alloc o).grownBy w6 M.sv.ownBlock) {k : Nat} {cs : Array Value} {e : TypeId} (he : e ≠ 109) (hk : W.heap[k]? = some (Obj.cells cs e (0, 0))) : w6.heap[k]? = some (Obj.cells cs e (0, 0)) := by
  have hlt := (Array.getElem?_eq_some_iff.1 hk).1
  refine ((hg6.block k (by simp; omega) (fun hc => ?_)).trans (heap_alloc_old _ _ hlt)).trans hk
  obtain ⟨cs2, h2⟩ := own_type h.snaps k hc.symm
  rw [hk] at h2; injection h2 with h2; injection h2 with _ h2 _; exact he h2
theorem rblk7 {W : World} {b n : Nat} {M : RM} (h : W.heap[b]? = some (Obj.cells (rdC n M).toArray 108 (0, 0))) : W.cell? ⟨b, 7, none⟩ = some M.sv ∧ W.frozen? ⟨b, 7, none⟩ = false := by
  constructor <;> simp [World.cell?, World.frozen?, h, rdC]
theorem rnewS_st {c : CfgV} {n r : Nat} {D : List SeM} (hn : c.clients = n) (hr : c.readers = r) (hD : D.map (·.st) = List.replicate n ⟨false, List.replicate r zeroSn⟩) (bv sv : Value) : (⟨c.text, .slice none 0 0, [], 0, false, r, bv, sv, D⟩ : RM).st = newS c := by
  show (⟨c.text, [], 0, false, r, D.map (·.st)⟩ : MS) = _
  rw [hD]
  unfold newS
  rw [hn, hr]
  rfl
theorem rnew_any (c : CfgV) (w : World) : Calls Tryz.prog 21 #[c.v] w fun e w' => (cfgE c ≠ 0 ∧ e = .returned (.tuple #[.pointer none, .int .i64 (cfgE c)]) ∧ Below w.heap.size w w') ∨
    (cfgE c = 0 ∧ ∃ b M, e = .returned (.tuple #[.pointer (some ⟨b, 0, none⟩), .int .i64 0]) ∧ RdAt w' b M ∧ M.st = newS c ∧ Below w.heap.size w w' ∧ ∀ k, M.fp b k → w.heap.size ≤ k) := by
  obtain ⟨i0, hi, iz0, iz1, iz2⟩ := info_parts infoRw
  have hB0 := (Below.refl w.heap.size w).alloc (Nat.le_refl _) (.cells #[.int .i64 c.slots, .int .u64 c.gens, .int .i64 c.clients, .int .i64 c.readers, .int .i64 c.queue, .int .i64 c.batch, .int .i64 c.feed, .string c.text] 24)
  have hz0 := heap_alloc_new w (.cells #[.int .i64 c.slots, .int .u64 c.gens, .int .i64 c.clients, .int .i64 c.readers, .int .i64 c.queue, .int .i64 c.batch, .int .i64 c.feed, .string c.text] 24)
  have hck := fun W => refConfig_any c W
  unfold CfgV.v at hck ⊢
  by_cases he : cfgE c = 0
  · rw [he] at hck
    have hcl : 0 ≤ c.clients ∧ c.clients ≤ 8 ∧ 0 ≤ c.readers ∧ c.readers ≤ 8 := by
      unfold cfgE at he
      split at he
      · rename_i hb
        simp [cfgB, inB] at hb
        omega
      · cases he
    obtain ⟨n, hn⟩ : ∃ n : Nat, c.clients = n := ⟨c.clients.toNat, by omega⟩
    obtain ⟨r, hr⟩ : ∃ n : Nat, c.readers = n := ⟨c.readers.toNat, by omega⟩
    have hn8 : n ≤ 8 := by omega
    have hr8 : r ≤ 8 := by omega
    refine Calls.mono (R := fun e w' => ∃ b M, e = .returned (.tuple #[.pointer (some ⟨b, 0, none⟩), .int .i64 0]) ∧ RdAt w' b M ∧ M.st = newS c ∧ Below w.heap.size w w' ∧ ∀ k, M.fp b k → w.heap.size ≤ k) ?_ (fun e w' h => .inr ⟨he, h⟩)
    clear he hcl
    rw [hn, hr] at hck hz0 hB0
    have Hn := Lib.hid hn
    have Hr := Lib.hid hr
    rw [hn, hr]
    clear hn hr
    go_enter Tryz.func21, Tryz.ntmps21
    go_wp2_with (go_at_call 49; refine (hck _).mono ?_; rintro e w1 ⟨rfl, hb1⟩; have hB1 := hB0.trans (hb1.mono (by simp)); have hz1 := (hb1.block _ (by simp)).trans hz0; clear hck hz0 hb1 hB0)
    have kx : ∀ W, Below w1.heap.size w1 W → W.cell? ⟨w.heap.size, 7, none⟩ = some (.string c.text) ∧ W.cell? ⟨w.heap.size, 3, none⟩ = some (.int .i64 r) ∧ W.cell? ⟨w.heap.size, 2, none⟩ = some (.int .i64 n) := fun W hW => by
      have hz := (hW.block _ (Array.getElem?_eq_some_iff.1 hz1).1).trans hz1
      refine ⟨?_, ?_, ?_⟩ <;> simp [World.cell?, hz]
    have Kx := Lib.hid kx
    clear kx
    have hx0 := (Below.refl w1.heap.size w1).drew
    obtain ⟨V1, hmk, hs1, hg1, hbV⟩ := make_bos w1.drew n (by omega)
    have hx6 := hx0.trans hbV
    have hx8 := hx6.alloc hx6.size (.cells (rdC n ⟨c.text, .slice none 0 0, [], 0, false, r, .slice (some ⟨w1.heap.size, 0, none⟩) n n, .slice none 0 0, []⟩).toArray 108)
    have hs1' : V1.heap.size = w1.heap.size + 1 := hs1
    clear hs1
    refine wp_region_noPanic ?_
    refine wp_region_held_drew (S := fun W => W.cell? ⟨w.heap.size, 7, none⟩ = some (.string c.text) ∧ W.cell? ⟨w.heap.size, 3, none⟩ = some (.int .i64 r) ∧ W.cell? ⟨w.heap.size, 2, none⟩ = some (.int .i64 n)) (by kernel_rfl) ?_ (fun hHeld => ?_)
    · first | exact Kx.out _ hx8' | exact Kx.out _ hx6' | exact Kx.out _ hx0
    iterate 8 (((first | refine np_n ?_ ?_ ?_ | refine np_t 0 ?_ ?_ ?_); rotate_left 1; (· (intro w hSw; (try dsimp only at hSw); go_simp; all_goals with_reducible rfl)); (try simp only [nSO])))
    (refine np_step (i := 8) rfl (by kernel_rfl) (fun K hK => ?_); rw [if_pos (by rfl)]; go_simp; ((have hx6' := hx6)); (try go_wp2_with fail); refine hK.out _ _ ?_ (fun hHeld => ?_); (· (first | exact Kx.out _ hx8' | exact Kx.out _ hx6' | exact Kx.out _ hx0)); clear hK K; (try simp only [nSO]))
    (refine np_n ?_ ?_ ?_; rotate_left 1; (· (intro w hSw; (try dsimp only at hSw); go_simp; all_goals with_reducible rfl)); (try simp only [nSO]))
    (refine np_step (i := 10) rfl (by kernel_rfl) (fun K hK => ?_); rw [if_pos (by rfl)]; go_simp; ((have hx8' := hx8)); (try go_wp2_with fail); refine hK.out _ _ ?_ (fun hHeld => ?_); (· (first | exact Kx.out _ hx8' | exact Kx.out _ hx6' | exact Kx.out _ hx0)); clear hK K; (try simp only [nSO]))
    (refine np_n ?_ ?_ ?_; rotate_left 1; (· (intro w hSw; (try dsimp only at hSw); go_simp; all_goals with_reducible rfl)); (try simp only [nSO]))
    refine wpAnyH_done (by kernel_rfl) ?_ _
    refine NoPanic.normal ?_
    obtain ⟨M0, hM0⟩ : ∃ M0 : RM, M0 = ⟨c.text, .slice none 0 0, [], 0, false, r, .slice (some ⟨w1.heap.size, 0, none⟩) n n, .slice none 0 0, []⟩ := ⟨_, rfl⟩
    have hBd : RBld w.heap.size (V1.alloc (.cells (rdC n M0).toArray 108)) (w1.heap.size + 1) n M0 := by
      subst hM0
      have hw1 := hB1.size
      have hg1' := (heap_alloc_old V1 (.cells (rdC n ⟨c.text, .slice none 0 0, [], 0, false, r, .slice (some ⟨w1.heap.size, 0, none⟩) n n, .slice none 0 0, []⟩).toArray 108) (Array.getElem?_eq_some_iff.1 hg1).1).trans hg1
      refine ⟨?_, ⟨rfl, .inl ⟨rfl, rfl⟩⟩, own_mono hw1 (bos_own hg1' (by omega)), ⟨rfl, .inl ⟨rfl, rfl⟩⟩, (fun S hS => by cases hS), (fun S hS => by cases hS), ⟨by simp [Value.ownBlock], fun S hS => by cases hS⟩, (fun S hS => by cases hS), by simp⟩
      rw [← hs1']; exact heap_alloc_new V1 _
    have hBV : Below w.heap.size w (V1.alloc (.cells (rdC n M0).toArray 108)) := by subst hM0; exact hB1.trans (hx8.mono hB1.size)
    have hcz : (V1.alloc (.cells (rdC n M0).toArray 108)).heap[w.heap.size]? = some (.cells #[.int .i64 c.slots, .int .u64 c.gens, .int .i64 n, .int .i64 r, .int .i64 c.queue, .int .i64 c.batch, .int .i64 c.feed, .string c.text] 24 (0, 0)) := by
      subst hM0; exact (hx8.block _ (Array.getElem?_eq_some_iff.1 hz1).1).trans hz1
    have hV : V1.alloc (.cells (rdC n M0).toArray 108) = V1.alloc (.cells #[.int .i64 n, .int .i64 r, .string c.text, .slice none 0 0, .int .i64 0, .bool false, .slice (some ⟨w1.heap.size, 0, none⟩) n n, .slice none 0 0] 108) := by subst hM0; rfl
    rw [hV] at hBd hBV hcz
    have hwg : w.heap.size < w1.heap.size := (Array.getElem?_eq_some_iff.1 hz1).1
    have hbs : M0.seats = [] := by subst hM0; rfl
    have hfb : ∀ k, M0.bv.ownBlock = some k → w.heap.size ≤ k := by
      subst hM0; intro k hk; injection hk with hk; have : w1.heap.size = k := hk; omega
    have HFB := Lib.hid hfb
    have HM0 := Lib.hid hM0
    clear hV hx0 hx6 hx8 hHeld Kx hmk hbV hg1 hz1 hfb hM0
    generalize V1.alloc (.cells #[.int .i64 n, .int .i64 r, .string c.text, .slice none 0 0, .int .i64 0, .bool false, .slice (some ⟨w1.heap.size, 0, none⟩) n n, .slice none 0 0] 108) = V at *
    have cx : ∀ W : World, W.heap[w.heap.size]? = some (.cells #[.int .i64 c.slots, .int .u64 c.gens, .int .i64 n, .int .i64 r, .int .i64 c.queue, .int .i64 c.batch, .int .i64 c.feed, .string c.text] 24 (0, 0)) → W.cell? ⟨w.heap.size, 2, none⟩ = some (.int .i64 n) ∧ W.cell? ⟨w.heap.size, 3, none⟩ = some (.int .i64 r) := fun W h => by constructor <;> simp [World.cell?, h]
    have CX := Lib.hid cx
    clear cx
    go_wp2
    go_loopw [6, 23, 24, 25, 26, 27, 28, 29, 30, 31, 32, 33, 34, 35, 36, 37, 38, 39, 40] (fun i x23 x24 x25 x26 x27 x28 x29 x30 x31 x32 x33 x34 x35 x36 x37 x38 x39 x40 wr => ∃ (k : Nat) (sv : Value) (D : List SeM), i = .int .i64 k ∧ k ≤ n ∧ D.length = k ∧ D.map (·.st) = List.replicate k ⟨false, List.replicate r zeroSn⟩ ∧ RBld w.heap.size wr (w1.heap.size + 1) n { M0 with sv := sv, seats := D } ∧ Below w.heap.size w wr ∧ wr.heap[w.heap.size]? = some (.cells #[.int .i64 c.slots, .int .u64 c.gens, .int .i64 n, .int .i64 r, .int .i64 c.queue, .int .i64 c.batch, .int .i64 c.feed, .string c.text] 24 (0, 0))) (fun i x23 x24 x25 x26 x27 x28 x29 x30 x31 x32 x33 x34 x35 x36 x37 x38 x39 x40 wr => n - (intOf i).toNat)
    case atStart => exact ⟨0, M0.sv, [], rfl, by omega, rfl, rfl, by rw [← hbs]; exact hBd, hBV, hcz⟩
    case round =>
      obtain ⟨k, sv, D, rfl, hk, hD, hDs, hBd, hBV, hcz⟩ := hrel
      subst hD
      obtain ⟨q2, q3⟩ := CX.out _ hcz
      have hDs' := Lib.hid hDs
      clear hDs
      by_cases hlt : D.length < n
      · obtain ⟨V2, hmk, hs2, hg2, hb2⟩ := make_rns wr.drew r (by omega)
        have hb2' : Below wr.heap.size wr V2 := (Below.refl _ _).drew.trans hb2
        have hBd2 := hBd.below hb2'
        have hs2' : V2.heap.size = wr.heap.size + 1 := hs2
        have hBV2 := hBV.trans (hb2'.mono hBV.size)
        have hcz2 := (hb2'.block _ (Array.getElem?_eq_some_iff.1 hcz).1).trans hcz
        have hwz := hBV.size
        have c7 : wr.cell? ⟨w1.heap.size + 1, 7, none⟩ = some sv := by simp [World.cell?, hBd.blk, rdC]
        have c72 : V2.cell? ⟨w1.heap.size + 1, 7, none⟩ = some sv := by simp [World.cell?, hBd2.blk, rdC]
        obtain ⟨O, hO⟩ : ∃ O : Obj, O = .cells #[.slice (some ⟨wr.heap.size, 0, none⟩) r r] 109 := ⟨_, rfl⟩
        have c73 : (V2.alloc O).cell? ⟨w1.heap.size + 1, 7, none⟩ = some sv := Lib.cell?_alloc_some O c72
        have hown := hBd2.snaps.alloc O
        have hown' : (V2.alloc O).ownsRow w.heap.size 109 1 sv D.length (rowL D) := hown
        clear hown
        subst hO
        have hnew := pieces_new V2 [.slice (some ⟨wr.heap.size, 0, none⟩) r r] 109
        rw [hs2'] at hnew
        have HBd2 := Lib.hid hBd2
        have Hown := Lib.hid hown'
        have Hnew := Lib.hid hnew
        have HG2 := Lib.hid hg2
        clear hown' hnew hBd2 hb2 hs2 hg2
        go_wp2
        go_region_law (rw [if_pos (by rfl)]; refine wp_append_own _ _ _ 106 rfl w.heap.size 109 i0 (.slice none 0 0) 1 24 Tryz.underlying106 hi iz0 iz1 iz2 rfl (by decide) sv D.length (rowL D) rfl Hown.out _ _ _ [.slice (some ⟨wr.heap.size, 0, none⟩) r r] rfl rfl Hnew.out (by simp [Value.oneCell']) (by unfold maxLen; omega) (by omega) (by have := hBV2.size; simp; omega) ?_; intro v6 w6 hn6 hg6 _; obtain ⟨a6, cc6, rfl⟩ := own_slice hn6; obtain ⟨c76, f76⟩ := rblk7 (HBd2.out.keep6 hg6 (by decide) HBd2.out.blk))
        all_goals
          have hkw := (HBd2.out.keep6 hg6 (by decide) hcz2)
          have hcz6 := (setCell_ne w6 ⟨w1.heap.size + 1, 7, none⟩ (.slice a6 (D.length + 1) cc6) w.heap.size (show w.heap.size ≠ w1.heap.size + 1 by omega)).trans hkw
          have hB6 := ((hBV2.alloc hBV2.size (.cells #[.slice (some ⟨wr.heap.size, 0, none⟩) r r] 109)).grown hg6 (by have := hBV2.size; simp; omega) (fun q hq => (Hown.out.lt q hq).1)).setCell (p := ⟨w1.heap.size + 1, 7, none⟩) (by show w.heap.size ≤ w1.heap.size + 1; omega) (.slice a6 (D.length + 1) cc6)
          have hBd6 : RBld w.heap.size (w6.setCell ⟨w1.heap.size + 1, 7, none⟩ (.slice a6 (D.length + 1) cc6)) (w1.heap.size + 1) n { M0 with sv := .slice a6 (D.length + 1) cc6, seats := D ++ [⟨false, .slice (some ⟨wr.heap.size, 0, none⟩) r r, List.replicate r zSn⟩] } := HBd2.out.push ⟨false, .slice (some ⟨wr.heap.size, 0, none⟩) r r, List.replicate r zSn⟩ _ _ (by omega) hg6 hn6 (by rw [hs2', Nat.add_sub_cancel]; exact rns_own HG2.out (by omega)) (fun S' hS' g hg => by rw [hs2', Nat.add_sub_cancel]; exact own_blk (hBd.slots S' hS') hg) (by simp [Value.ownBlock]) rfl (fun x hx => by rw [(List.mem_replicate.1 hx).2]; exact ⟨rfl, .inl ⟨rfl, rfl⟩⟩)
          go_wp2
          go_roundw
          case rel => exact ⟨D.length + 1, _, _, by go_num, by omega, by rw [List.length_append]; rfl, by rw [List.map_append, hDs'.out, List.replicate_succ']; congr 1; show [SeM.st ⟨false, _, List.replicate r zSn⟩] = _; simp [SeM.st, zSn], hBd6, hB6, hcz6⟩
          case measure => simp [intOf]; omega
      · have hkn : D.length = n := by omega
        go_wp2
        go_returns
        have hDn := hkn
        have hDs2 := hDs'.out
        rw [hkn] at hDs2
        refine ⟨_, _, rfl, hBd.rdAt hDn, ?_, hBV, ?_⟩
        · rw [HM0.out]; exact rnewS_st Hn.out Hr.out hDs2 _ _
        · rintro j (h | h | ⟨S, hS, h⟩)
          · omega
          · exact HFB.out j h
          · exact (World.ownsRow.lt (hBd.slots S hS) j h).1
  · refine Calls.mono (R := fun e w' => e = .returned (.tuple #[.pointer none, .int .i64 (cfgE c)]) ∧ Below w.heap.size w w') ?_ (fun e w' h => .inl ⟨he, h⟩)
    have hd : (cfgE c == 0) = false := by simpa using he
    generalize cfgE c = E at *
    go_enter Tryz.func21, Tryz.ntmps21
    go_wp2_with (go_at_call 49; refine (hck _).mono ?_; rintro e w1 ⟨rfl, hb1⟩; have hB1 := hB0.trans (hb1.mono (by simp)))
    go_returns
    exact ⟨rfl, hB1⟩
end Go.Proofs.YtlealeecmmpckaaGreat
