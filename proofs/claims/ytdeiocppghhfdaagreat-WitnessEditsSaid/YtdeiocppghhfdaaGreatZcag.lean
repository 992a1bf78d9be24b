/- Texts, one behind another. -/
import Derived.Test.YtdeiocppghhfdaaGreatZcaf
import Derived.Test.YtdeiocppghhfdaaGreatShelfA
import Derived.BigRegion
import Derived.Deep.QuietTactic
import Derived.BigQuiet
import Derived.Laws.AppendOwn
import Derived.Shelf.Strings.BuilderK
import Derived.OwnWalk
set_option linter.unusedVariables false
set_option linter.unusedSimpArgs false
set_option maxRecDepth 100000
set_option maxHeartbeats 8000000
namespace Go.Proofs.YtdeiocppghhfdaaGreat
open Go.RowKit
theorem te1 (t : ByteArray) : (t.toList = []) = (t.size = 0) := by
 rw [Lib.toList_data]
 apply propext
 constructor
 ·intro h; have := congrArg List.length h; simpa using this
 ·intro h; apply List.eq_nil_of_length_eq_zero; simpa using h
theorem te2 (t : ByteArray) : (t.toList.isEmpty = true) = (t.size = 0) := by rw [List.isEmpty_iff, te1]
theorem te3 (t : ByteArray) : (t.toList.isEmpty = false) = ¬(t.size = 0) := by rw [← te2]; simp
def opP (o : OpV) : Prop := 1 ≤ o.kind ∧ o.kind ≤ 16 ∧ 0 ≤ o.at_ ∧ 0 ≤ o.n ∧ 0 ≤ o.slot ∧ (6 ≤ o.kind ∧ o.kind ≤ 13 ∨ o.slot = 0) ∧ (o.kind = 1 ∨ o.kind = 2 ∨ o.kind = 3 ∨ o.kind = 7 ∨ o.kind = 11 ∨ o.at_ = 0) ∧
 (o.kind = 2 ∨ o.kind = 7 ∨ o.kind = 8 ∨ o.kind = 9 ∨ o.kind = 12 ∨ o.n = 0) ∧ ((o.kind = 3 ∨ o.kind = 4 ∨ o.kind = 10) ∧ o.id ≠ 0 ∨ ¬(o.kind = 3 ∨ o.kind = 4 ∨ o.kind = 10) ∧ o.id = 0) ∧
 (o.kind = 3 ∨ o.grav = 0) ∧ o.grav ≤ 1 ∧ (o.kind = 1 ∧ o.text.size ≠ 0 ∨ o.kind ≠ 1 ∧ o.text.size = 0) ∧ (o.kind = 2 → o.n ≠ 0)
instance (o : OpV) : Decidable (opP o) := by unfold opP; infer_instance
def opE (o : OpV) : Int := if opP o then (if o.text.size > 256 then 5 else if validL o.text.data.toList then 0 else 11) else 2
theorem opE_2 {o : OpV} (h : ¬opP o) : 2 = opE o := by unfold opE; rw [if_neg h]
theorem opE_5 {o : OpV} (h : opP o) (h2 : 256 < o.text.size) : 5 = opE o := by unfold opE; rw [if_pos h, if_pos h2]
theorem opE_11 {o : OpV} (h : opP o) (h2 : o.text.size ≤ 256) (h3 : (!validL o.text.data.toList) = true) : 11 = opE o := by unfold opE; rw [if_pos h, if_neg (by omega), if_neg (by simpa using h3)]
theorem opE_0 {o : OpV} (h : opP o) (h2 : o.text.size ≤ 256) (h3 : (!validL o.text.data.toList) = false) : 0 = opE o := by unfold opE; rw [if_pos h, if_neg (by omega), if_pos (by simpa using h3)]
theorem clientCheck_0 (o : OpV) (w : World) (hk : o.kind = 1 ∨ o.kind = 2 ∨ o.kind = 3) : Calls Tryz.prog 136 #[o.v] w fun e w' => e = .returned (.int .i64 (opE o)) ∧ Below w.heap.size w w' := by
 have hb := fun (o1 o2 : Obj) => ((Below.refl w.heap.size w).alloc (Nat.le_refl _) o1).alloc (by simp) o2
 obtain ⟨k, s, a, n, i, g, t⟩ := o
 unfold OpV.v
 rcases hk with hk | hk | hk
 all_goals (replace hk : k = _ := hk; subst hk)
 all_goals
  go_enter Tryz.func136, Tryz.ntmps136
  go_wp2_with fail
  try go_region
  all_goals go_wp2_with (go_at_call 135; refine (valid_any _ _).mono ?_; rintro e w' ⟨rfl, rfl⟩)
  all_goals (go_ret; refine ⟨ret_errno ?_, by first | exact hb _ _ | exact (hb _ _).drew⟩)
  all_goals ((try simp only [te1, te2, te3, beq_iff_eq] at *); first | exact opE_5 (by unfold opP; dsimp only; omega) (by dsimp only; omega) | exact opE_11 (by unfold opP; dsimp only; omega) (by dsimp only; omega) (by assumption) | exact opE_0 (by unfold opP; dsimp only; omega) (by dsimp only; omega) (by assumption) | exact opE_2 (by unfold opP; dsimp only; omega))
theorem clientCheck_1 (o : OpV) (w : World) (hk : o.kind = 4 ∨ o.kind = 5 ∨ o.kind = 6) : Calls Tryz.prog 136 #[o.v] w fun e w' => e = .returned (.int .i64 (opE o)) ∧ Below w.heap.size w w' := by
 have hb := fun (o1 o2 : Obj) => ((Below.refl w.heap.size w).alloc (Nat.le_refl _) o1).alloc (by simp) o2
 obtain ⟨k, s, a, n, i, g, t⟩ := o
 unfold OpV.v
 rcases hk with hk | hk | hk
 all_goals (replace hk : k = _ := hk; subst hk)
 all_goals
  go_enter Tryz.func136, Tryz.ntmps136
  go_wp2_with fail
  try go_region
  all_goals go_wp2_with (go_at_call 135; refine (valid_any _ _).mono ?_; rintro e w' ⟨rfl, rfl⟩)
  all_goals (go_ret; refine ⟨ret_errno ?_, by first | exact hb _ _ | exact (hb _ _).drew⟩)
  all_goals ((try simp only [te1, te2, te3, beq_iff_eq] at *); first | exact opE_5 (by unfold opP; dsimp only; omega) (by dsimp only; omega) | exact opE_11 (by unfold opP; dsimp only; omega) (by dsimp only; omega) (by assumption) | exact opE_0 (by unfold opP; dsimp only; omega) (by dsimp only; omega) (by assumption) | exact opE_2 (by unfold opP; dsimp only; omega))
theorem clientCheck_2 (o : OpV) (w : World) (hk : o.kind = 7 ∨ o.kind = 8 ∨ o.kind = 9) : Calls Tryz.prog 136 #[o.v] w fun e w' => e = .returned (.int .i64 (opE o)) ∧ Below w.heap.size w w' := by
 have hb := fun (o1 o2 : Obj) => ((Below.refl w.heap.size w).alloc (Nat.le_refl _) o1).alloc (by simp) o2
 obtain ⟨k, s, a, n, i, g, t⟩ := o
 unfold OpV.v
 rcases hk with hk | hk | hk
 all_goals (replace hk : k = _ := hk; subst hk)
 all_goals
  go_enter Tryz.func136, Tryz.ntmps136
  go_wp2_with fail
  try go_region
  all_goals go_wp2_with (go_at_call 135; refine (valid_any _ _).mono ?_; rintro e w' ⟨rfl, rfl⟩)
  all_goals (go_ret; refine ⟨ret_errno ?_, by first | exact hb _ _ | exact (hb _ _).drew⟩)
  all_goals ((try simp only [te1, te2, te3, beq_iff_eq] at *); first | exact opE_5 (by unfold opP; dsimp only; omega) (by dsimp only; omega) | exact opE_11 (by unfold opP; dsimp only; omega) (by dsimp only; omega) (by assumption) | exact opE_0 (by unfold opP; dsimp only; omega) (by dsimp only; omega) (by assumption) | exact opE_2 (by unfold opP; dsimp only; omega))
theorem clientCheck_3 (o : OpV) (w : World) (hk : o.kind = 10 ∨ o.kind = 11 ∨ o.kind = 12) : Calls Tryz.prog 136 #[o.v] w fun e w' => e = .returned (.int .i64 (opE o)) ∧ Below w.heap.size w w' := by
 have hb := fun (o1 o2 : Obj) => ((Below.refl w.heap.size w).alloc (Nat.le_refl _) o1).alloc (by simp) o2
 obtain ⟨k, s, a, n, i, g, t⟩ := o
 unfold OpV.v
 rcases hk with hk | hk | hk
 all_goals (replace hk : k = _ := hk; subst hk)
 all_goals
  go_enter Tryz.func136, Tryz.ntmps136
  go_wp2_with fail
  try go_region
  all_goals go_wp2_with (go_at_call 135; refine (valid_any _ _).mono ?_; rintro e w' ⟨rfl, rfl⟩)
  all_goals (go_ret; refine ⟨ret_errno ?_, by first | exact hb _ _ | exact (hb _ _).drew⟩)
  all_goals ((try simp only [te1, te2, te3, beq_iff_eq] at *); first | exact opE_5 (by unfold opP; dsimp only; omega) (by dsimp only; omega) | exact opE_11 (by unfold opP; dsimp only; omega) (by dsimp only; omega) (by assumption) | exact opE_0 (by unfold opP; dsimp only; omega) (by dsimp only; omega) (by assumption) | exact opE_2 (by unfold opP; dsimp only; omega))
theorem clientCheck_4 (o : OpV) (w : World) (hk : o.kind = 13 ∨ o.kind = 14 ∨ o.kind = 15 ∨ o.kind = 16) : Calls Tryz.prog 136 #[o.v] w fun e w' => e = .returned (.int .i64 (opE o)) ∧ Below w.heap.size w w' := by
 have hb := fun (o1 o2 : Obj) => ((Below.refl w.heap.size w).alloc (Nat.le_refl _) o1).alloc (by simp) o2
 obtain ⟨k, s, a, n, i, g, t⟩ := o
 unfold OpV.v
 rcases hk with hk | hk | hk | hk
 all_goals (replace hk : k = _ := hk; subst hk)
 all_goals
  go_enter Tryz.func136, Tryz.ntmps136
  go_wp2_with fail
  try go_region
  all_goals go_wp2_with (go_at_call 135; refine (valid_any _ _).mono ?_; rintro e w' ⟨rfl, rfl⟩)
  all_goals (go_ret; refine ⟨ret_errno ?_, by first | exact hb _ _ | exact (hb _ _).drew⟩)
  all_goals ((try simp only [te1, te2, te3, beq_iff_eq] at *); first | exact opE_5 (by unfold opP; dsimp only; omega) (by dsimp only; omega) | exact opE_11 (by unfold opP; dsimp only; omega) (by dsimp only; omega) (by assumption) | exact opE_0 (by unfold opP; dsimp only; omega) (by dsimp only; omega) (by assumption) | exact opE_2 (by unfold opP; dsimp only; omega))
theorem clientCheck_o (o : OpV) (w : World) (hk : ¬(1 ≤ o.kind ∧ o.kind ≤ 16)) : Calls Tryz.prog 136 #[o.v] w fun e w' => e = .returned (.int .i64 (opE o)) ∧ Below w.heap.size w w' := by
 have hb := fun (o1 o2 : Obj) => ((Below.refl w.heap.size w).alloc (Nat.le_refl _) o1).alloc (by simp) o2
 obtain ⟨k, s, a, n, i, g, t⟩ := o
 replace hk : ¬(1 ≤ k ∧ k ≤ 16) := hk
 have hne : ∀ j : Int, 1 ≤ j → j ≤ 16 → (k == j) = false := fun j h1 h2 => by simp; omega
 have n1 := hne 1 (by decide) (by decide)
 have n2 := hne 2 (by decide) (by decide)
 have n3 := hne 3 (by decide) (by decide)
 have n4 := hne 4 (by decide) (by decide)
 have n5 := hne 5 (by decide) (by decide)
 have n6 := hne 6 (by decide) (by decide)
 have n7 := hne 7 (by decide) (by decide)
 have n8 := hne 8 (by decide) (by decide)
 have n9 := hne 9 (by decide) (by decide)
 have n10 := hne 10 (by decide) (by decide)
 have n11 := hne 11 (by decide) (by decide)
 have n12 := hne 12 (by decide) (by decide)
 have n13 := hne 13 (by decide) (by decide)
 have n14 := hne 14 (by decide) (by decide)
 have n15 := hne 15 (by decide) (by decide)
 have n16 := hne 16 (by decide) (by decide)
 clear hne
 have hk := Lib.hid hk
 unfold OpV.v
 all_goals
  go_enter Tryz.func136, Tryz.ntmps136
  go_wp2_with fail
  try go_region
  all_goals go_wp2_with (go_at_call 135; refine (valid_any _ _).mono ?_; rintro e w' ⟨rfl, rfl⟩)
  all_goals (go_ret; refine ⟨ret_errno ?_, by first | exact hb _ _ | exact (hb _ _).drew⟩)
  all_goals (have hk := hk.out; (try simp only [te1, te2, te3, beq_iff_eq] at *); first | exact opE_5 (by unfold opP; dsimp only; omega) (by dsimp only; omega) | exact opE_11 (by unfold opP; dsimp only; omega) (by dsimp only; omega) (by assumption) | exact opE_0 (by unfold opP; dsimp only; omega) (by dsimp only; omega) (by assumption) | exact opE_2 (by unfold opP; dsimp only; omega))
theorem clientCheck_any (o : OpV) (w : World) : Calls Tryz.prog 136 #[o.v] w fun e w' => e = .returned (.int .i64 (opE o)) ∧ Below w.heap.size w w' := by
 by_cases h : 1 ≤ o.kind ∧ o.kind ≤ 16
 ·by_cases h0 : o.kind ≤ 3
  ·exact clientCheck_0 o w (by omega)
  by_cases h1 : o.kind ≤ 6
  ·exact clientCheck_1 o w (by omega)
  by_cases h2 : o.kind ≤ 9
  ·exact clientCheck_2 o w (by omega)
  by_cases h3 : o.kind ≤ 12
  ·exact clientCheck_3 o w (by omega)
  ·exact clientCheck_4 o w (by omega)
 ·exact clientCheck_o o w h
end Go.Proofs.YtdeiocppghhfdaaGreat
namespace Go.Proofs.YtdeiocppghhfdaaGreat
structure PcV where
 kind : Int
 n : Int
 text : ByteArray
deriving DecidableEq, Inhabited
def pcP (p : PcV) : Prop := ((p.kind = 1 ∨ p.kind = 3) ∧ 1 ≤ p.n ∧ p.text.size = 0) ∨ (p.kind = 2 ∧ p.n = 0 ∧ p.text.size ≠ 0)
instance (p : PcV) : Decidable (pcP p) := by unfold pcP; infer_instance
def pcB (p : PcV) : Bool := decide (pcP p)
def pcIn (p : PcV) : Int := if p.kind = 1 ∨ p.kind = 3 then p.n else 0
def pcOut (p : PcV) : Int := if p.kind = 1 then p.n else if p.kind = 3 then 0 else p.text.size
def lenF : List PcV → Int → Int → Int × Int × Int
 | [], i, o => (i, o, 0)
 | p :: ps, i, o => if pcB p then (if 1048576 - i < pcIn p ∨ 1048576 - o < pcOut p then (0, 0, 5) else lenF ps (i + pcIn p) (o + pcOut p)) else (0, 0, 2)
def lenS (ps : List PcV) : Int × Int × Int := if 4096 < ps.length then (0, 0, 5) else lenF ps 0 0
theorem pcIn_pos {p : PcV} (h : pcP p) : 0 ≤ pcIn p := by unfold pcP at h; unfold pcIn; split <;> omega
theorem pcOut_pos {p : PcV} (h : pcP p) : 0 ≤ pcOut p := by unfold pcP at h; unfold pcOut; (repeat' split) <;> omega
def flushT (out : List PcV) (text : List UInt8) : List PcV := if text = [] then out else out ++ [⟨2, 0, ⟨text.toArray⟩⟩]
def flushG (out : List PcV) (gone : Int) : List PcV := if 0 < gone then out ++ [⟨3, gone, ⟨#[]⟩⟩] else out
def flushS (out : List PcV) (text : List UInt8) (gone : Int) : List PcV := flushG (flushT out text) gone
def repD (n at_ k : Int) (t : ByteArray) : List PcV :=
 (if 0 < at_ then [⟨1, at_, ⟨#[]⟩⟩] else []) ++ (if t.size ≠ 0 then [⟨2, 0, t⟩] else []) ++ (if 0 < k then [⟨3, k, ⟨#[]⟩⟩] else []) ++ (if 0 < n - at_ - k then [⟨1, n - at_ - k, ⟨#[]⟩⟩] else [])
end Go.Proofs.YtdeiocppghhfdaaGreat
namespace Go.Proofs.YtdeiocppghhfdaaGreat
open Go.RowKit
def pcL (p : PcV) : List Value := [.int .u8 p.kind, .int .i64 p.n, .string p.text]
def pcsL (ps : List PcV) : List Value := ps.flatMap pcL
theorem pcL_len (p : PcV) : (pcL p).length = 3 := rfl
theorem pcsL_get (ps : List PcV) : ∀ (k i : Nat), i < 3 → (pcsL ps)[k * 3 + i]? = (ps[k]?).bind fun p => (pcL p)[i]? := by
 induction ps with
 | nil => intro k i _; simp [pcsL]
 | cons p ps ih =>
  intro k i hi
  show (pcL p ++ pcsL ps)[k * 3 + i]? = _
  cases k with
  | zero => rw [List.getElem?_append_left (by rw [pcL_len]; omega)]; simp
  | succ k => rw [List.getElem?_append_right (by rw [pcL_len]; omega), pcL_len, show (k + 1) * 3 + i - 3 = k * 3 + i by omega, ih k i hi]; simp
def PRow (W : World) (a : Option Addr) (ps : List PcV) : Prop := (a = none ∧ ps = []) ∨ ∃ b off, a = some ⟨b, off, none⟩ ∧ b < W.heap.size ∧ ∀ (k : Nat) (p : PcV), ps[k]? = some p → ∀ (i : Nat) (u : Value), (pcL p)[i]? = some u → W.cell? ⟨b, off + (k * 3 + i), none⟩ = some u
theorem PRow.on {W W' : World} {a : Option Addr} {ps : List PcV} (h : PRow W a ps) (hb : Below W.heap.size W W') : PRow W' a ps := by
 rcases h with h | ⟨b, off, h1, h2, h3⟩
 ·exact .inl h
 ·exact .inr ⟨b, off, h1, Nat.lt_of_lt_of_le h2 hb.size, fun k p hp i u hu => by rw [hb.cell (p := ⟨b, off + (k * 3 + i), none⟩) h2]; exact h3 k p hp i u hu⟩
theorem dvalid_any (p : PcV) (w : World) : Calls Tryz.prog 160 #[.agg #[.int .u8 p.kind, .int .i64 p.n, .string p.text]] w fun e w' => e = .returned (.bool (pcB p)) ∧ Below w.heap.size w w' := by
 obtain ⟨k, n, t⟩ := p
 go_enter Tryz.func160, Tryz.ntmps160
 go_wp2
 all_goals (go_ret; refine ⟨ret_bool ?_, below1 _ _⟩)
 all_goals (rw [Bool.eq_iff_iff]; simp only [pcB, decide_eq_true_eq, Bool.not_eq_true', Bool.false_eq_true, te2, te3, beq_iff_eq, beq_eq_false_iff_ne, ne_eq] at *; unfold pcP; dsimp only; constructor <;> intro h0 <;> first | omega | exact h0.elim)
theorem ret_two' {a b c d : Int} (h1 : a = c) (h2 : b = d) : Ending.returned (.tuple #[.int .i64 a, .int .i64 b]) = .returned (.tuple #[.int .i64 c, .int .i64 d]) := by rw [h1, h2]
theorem dsizes_any (p : PcV) (w : World) : Calls Tryz.prog 161 #[.agg #[.int .u8 p.kind, .int .i64 p.n, .string p.text]] w fun e w' => e = .returned (.tuple #[.int .i64 (pcIn p), .int .i64 (pcOut p)]) ∧ Below w.heap.size w w' := by
 obtain ⟨k, n, t⟩ := p
 go_enter Tryz.func161, Tryz.ntmps161
 go_wp2
 all_goals (try (go_region; go_wp2))
 all_goals go_returns
 all_goals (simp only [beq_iff_eq, beq_eq_false_iff_ne, ne_eq] at *)
 all_goals (refine ⟨ret_two' ?_ ?_, by first | exact (below1 _ _).drew | exact below1 _ _⟩ <;> simp [pcIn, pcOut, *])
theorem lenF_drop (ps : List PcV) (k : Nat) (p : PcV) (h : ps[k]? = some p) (i o : Int) : lenF (ps.drop k) i o = if pcB p then (if 1048576 - i < pcIn p ∨ 1048576 - o < pcOut p then (0, 0, 5) else lenF (ps.drop (k + 1)) (i + pcIn p) (o + pcOut p)) else (0, 0, 2) := by
 obtain ⟨hk, h⟩ := List.getElem?_eq_some_iff.1 h
 rw [List.drop_eq_getElem_cons hk, lenF, h]
theorem pcB_iff {p : PcV} : pcB p = true ↔ pcP p := by unfold pcB; simp
theorem blk3 {T : TypeId} {W : World} (X : World) (g : Nat) (hg : g = W.heap.size) (u v x : Value) (hb : Below (g + 1) (W.alloc (.cells #[u, v, x] T)) X) : X.cell? ⟨g, 0, none⟩ = some u ∧ X.cell? ⟨g, 1, none⟩ = some v ∧ X.cell? ⟨g, 2, none⟩ = some x := by
 subst hg
 have h := (hb.block W.heap.size (by omega)).trans (heap_alloc_new W (.cells #[u, v, x] T))
 exact ⟨by simp [World.cell?, h], by simp [World.cell?, h], by simp [World.cell?, h]⟩
theorem lengths_any0 (a : Option Addr) (c : Nat) (ps : List PcV) (w : World) (hr : PRow w a ps) (hs : ps.length ≤ 1000000) :
  Calls Tryz.prog 111 #[.slice a ps.length c] w fun e w' => e = .returned (.tuple #[.int .i64 (lenS ps).1, .int .i64 (lenS ps).2.1, .int .i64 (lenS ps).2.2]) ∧ Below w.heap.size w w' := by
 by_cases hl : 4096 < ps.length
 ·have hR : lenS ps = (0, 0, 5) := by unfold lenS; rw [if_pos hl]
  have HR := Lib.hid hR; clear hR hr
  have hd : decide ((4096 : Int) < (ps.length : Int)) = true := by simp; omega
  go_enter Tryz.func111, Tryz.ntmps111
  go_wp2
  go_returns
  rw [HR.out]; exact ⟨rfl, Below.refl _ _⟩
 have hR : lenS ps = lenF ps 0 0 := by unfold lenS; rw [if_neg hl]
 have HR := Lib.hid hR; clear hR
 have hd : decide ((4096 : Int) < (ps.length : Int)) = false := by simp; omega
 have HRow := Lib.hid hr; clear hr
 go_enter Tryz.func111, Tryz.ntmps111
 go_wp2
 go_loopw [2, 3, 4, 6, 7, 8, 14, 15, 16, 17, 18, 19, 20, 21, 22, 23, 24, 25, 26, 27, 28, 29, 30, 31, 32, 33, 34, 35, 36, 37, 38, 39, 40, 41, 42] (fun i o x4 x6 x7 x8 k x15 x16 x17 x18 x19 x20 x21 x22 x23 x24 x25 x26 x27 x28 x29 x30 x31 x32 x33 x34 x35 x36 x37 x38 x39 x40 x41 x42 wr => ∃ (k' : Nat) (i' o' : Int), k = .int .i64 k' ∧ i = .int .i64 i' ∧ o = .int .i64 o' ∧ k' ≤ ps.length ∧ 0 ≤ i' ∧ i' ≤ 1048576 ∧ 0 ≤ o' ∧ o' ≤ 1048576 ∧ lenF (ps.drop k') i' o' = lenF ps 0 0 ∧ Below w.heap.size w wr) (fun i o x4 x6 x7 x8 k x15 x16 x17 x18 x19 x20 x21 x22 x23 x24 x25 x26 x27 x28 x29 x30 x31 x32 x33 x34 x35 x36 x37 x38 x39 x40 x41 x42 wr => ps.length - (intOf k).toNat)
 case atStart => exact ⟨0, 0, 0, rfl, rfl, rfl, by omega, by omega, by omega, by omega, by omega, rfl, Below.refl _ _⟩
 case round =>
  obtain ⟨k, i, o, rfl, rfl, rfl, hk, hi0, hi1, ho0, ho1, hL, hB⟩ := hrel
  have HL := Lib.hid hL; clear hL
  by_cases hlt : k < ps.length
  ·have hp : ps[k]? = some ps[k] := List.getElem?_eq_getElem hlt
   generalize ps[k] = p at hp
   have hD := lenF_drop ps k p hp i o
   have HD := Lib.hid hD; clear hD
   rcases HRow.out with ⟨_, h⟩ | ⟨b, off, rfl, hb, hcell⟩
   ·rw [h] at hlt; simp at hlt
   have hbz : b ≠ wr.heap.size := by have := hB.size; omega
   have c0 : wr.cell? ⟨b, off + (k * 3 + 0), none⟩ = some (.int .u8 p.kind) := by rw [hB.cell (p := ⟨b, off + (k * 3 + 0), none⟩) hb]; exact hcell k p hp 0 _ rfl
   have c1 : wr.cell? ⟨b, off + (k * 3 + 1), none⟩ = some (.int .i64 p.n) := by rw [hB.cell (p := ⟨b, off + (k * 3 + 1), none⟩) hb]; exact hcell k p hp 1 _ rfl
   have c2 : wr.cell? ⟨b, off + (k * 3 + 2), none⟩ = some (.string p.text) := by rw [hB.cell (p := ⟨b, off + (k * 3 + 2), none⟩) hb]; exact hcell k p hp 2 _ rfl
   simp only [Nat.add_zero, ← Nat.add_assoc] at c0 c1 c2
   clear hcell
   cases hv : pcB p with
   | false =>
    rw [hv, if_neg (by simp)] at HD
    go_wp2_with (go_at_call 160; refine (dvalid_any _ _).mono ?_; rw [hv]; rintro e w1 ⟨rfl, hB1⟩)
    go_returns
    refine ⟨?_, (hB.alloc hB.size _).trans (hB1.mono (by simp; have := hB.size; omega))⟩
    rw [HR.out, ← HL.out, HD.out]; rfl
   | true =>
    have hp0 := pcIn_pos (pcB_iff.1 hv)
    have hp1 := pcOut_pos (pcB_iff.1 hv)
    rw [hv, if_pos rfl] at HD
    go_wp2_with (first | (go_at_call 160; refine (dvalid_any _ _).mono ?_; rw [hv]; rintro e w1 ⟨rfl, hB1⟩; obtain ⟨z0, z1, z2⟩ := blk3 w1 _ rfl _ _ _ (hB1.mono (by simp))) | (go_at_call 161; refine (dsizes_any _ _).mono ?_; rintro e w2 ⟨rfl, hB2⟩))
    all_goals have hBx := (hB.alloc hB.size (.cells #[.int .u8 p.kind, .int .i64 p.n, .string p.text] 94)).trans ((hB1.trans (hB2.mono hB1.size)).mono (by simp; have := hB.size; omega))
    all_goals first
     | (go_returns; refine ⟨?_, hBx⟩; rw [HR.out, ← HL.out, HD.out, if_pos (by omega)]; rfl)
     | exact ⟨⟨k + 1, i + pcIn p, o + pcOut p, by go_num, rfl, rfl, by omega, by omega, by omega, by omega, by omega, by rw [← HL.out, HD.out, if_neg (by omega)], hBx⟩, by simp [intOf]; omega⟩
  ·go_wp2
   go_returns
   refine ⟨?_, hB⟩
   rw [HR.out, ← HL.out, List.drop_eq_nil_of_le (by omega)]
   rfl
theorem lengths_any (a : Option Addr) (c : Nat) (ps : List PcV) (w : World) (hr : PRow w a ps) (hs : ps.length ≤ 1000000) (_ : ps.length ≤ c) :
  Calls Tryz.prog 111 #[.slice a ps.length c] w fun e w' => e = .returned (.tuple #[.int .i64 (lenS ps).1, .int .i64 (lenS ps).2.1, .int .i64 (lenS ps).2.2]) ∧ Below w.heap.size w w' := lengths_any0 a c ps w hr hs
theorem dcheck_any (a : Option Addr) (c : Nat) (ps : List PcV) (w : World) (hr : PRow w a ps) (hs : ps.length ≤ 1000000) (hc : ps.length ≤ c) :
  Calls Tryz.prog 213 #[.slice a ps.length c] w fun e w' => e = .returned (.int .i64 (lenS ps).2.2) ∧ Below w.heap.size w w' := by
 have h := lengths_any a c ps w hr hs hc
 clear hr
 go_enter Tryz.func213, Tryz.ntmps213
 go_wp2_with (go_at_call 111; refine h.mono ?_; rintro e w' ⟨rfl, hB⟩)
 go_ret
 exact ⟨rfl, hB⟩
end Go.Proofs.YtdeiocppghhfdaaGreat
namespace Go.Proofs.YtdeiocppghhfdaaGreat
open Go.RowKit Go.Lib Go.Shelf
theorem sizeBu : (Tryz.prog.info? 205).map (·.size) = some 2 := by kernel_rfl
theorem liesBu : liesAt Tryz.prog Tryz.prog.depth 205 (2 / Tryz.prog.cellsOf 205) 0 205 1 = true := by kernel_rfl
theorem infoBy : (Tryz.prog.info? 5).map (fun i => (i.zero, i.size, i.bytes)) = some (some (.int .u8 0), 1, 1) := by kernel_rfl
theorem bcc_used (b : Nat) (w : World) (h0 : w.cell? ⟨b, 0, none⟩ = some (.pointer (some ⟨b, 0, none⟩))) :
  Calls Tryz.prog 217 #[.pointer (some ⟨b, 0, none⟩)] w fun e w' => e = .returned (.tuple #[]) ∧ w' = w := by
 obtain ⟨j, hj, _⟩ := Option.map_eq_some_iff.1 sizeBu
 go_enter Tryz.func217, Tryz.ntmps217
 go_wp2
 rw [Lib.run_neq_ptr_same w _ Tryz.underlying203 hj]
 go_wp2
 go_end0
 exact ⟨rfl, rfl⟩
theorem bcc_fresh (b : Nat) (w : World) (h0 : w.cell? ⟨b, 0, none⟩ = some (.pointer none)) (hsh : w.shape? b = some (205, 2)) (hfz : w.frozen? ⟨b, 0, none⟩ = false) :
  Calls Tryz.prog 217 #[.pointer (some ⟨b, 0, none⟩)] w fun e w' => e = .returned (.tuple #[]) ∧ w' = w.setCell ⟨b, 0, none⟩ (.pointer (some ⟨b, 0, none⟩)) := by
 obtain ⟨j, hj, hjs⟩ := Option.map_eq_some_iff.1 sizeBu
 go_enter Tryz.func217, Tryz.ntmps217
 go_wp2
 rw [Lib.run_to_unsafe w ⟨b, 0, none⟩ Tryz.underlying203 Tryz.underlying281 hj (by rw [hjs]; decide) hsh (Nat.zero_lt_succ 1)]
 simp only [Result.andThen]
 rw [Oper.upon_value]
 go_wp2
 rw [run_callFunc_extern Tryz.func262 (by kernel_rfl) (by kernel_rfl) (by kernel_rfl) (e := Extern.AbiNoEscape.same) (by kernel_rfl)]
 rw [Lib.run_noEscape]
 simp only [Result.andThen]
 rw [Oper.upon_value]
 go_wp2
 rw [Lib.run_from_unsafe w ⟨b, 0, none⟩ Tryz.underlying281 Tryz.underlying203 hj hsh liesBu]
 simp only [Result.andThen]
 rw [Oper.upon_value]
 go_wp2
 go_end0
 exact ⟨rfl, rfl⟩
abbrev BuF (B b : Nat) (bs : List Value) (w : World) : Prop := Lib.IsBuilderF 205 5 B b bs w
abbrev KeptB (b : Nat) (w w' : World) : Prop := Lib.OthersKept 5 (some b) w w'
theorem bcc_k (B b : Nat) (bs : List Value) (w : World) (h : BuF B b bs w) :
  Calls Tryz.prog 217 #[.pointer (some ⟨b, 0, none⟩)] w fun e w' => e = .returned (.tuple #[]) ∧ (Lib.BuilderAtF 205 5 B b (.pointer (some ⟨b, 0, none⟩)) bs w' ∧ Below B w w' ∧ KeptB b w w') := by
 rcases h with h | h
 ·refine (bcc_fresh b w h.cell0 h.shape h.frozen0).mono ?_
  rintro e w' ⟨rfl, rfl⟩
  exact ⟨rfl, h.used _, (Below.refl B w).setCell (p := ⟨b, 0, none⟩) h.1 _, (Lib.OthersKept.refl _ _ w).setCell ⟨b, 0, none⟩ rfl _⟩
 ·refine (bcc_used b w h.cell0).mono ?_
  rintro e w' ⟨rfl, rfl⟩
  exact ⟨rfl, h, Below.refl B _, Lib.OthersKept.refl _ _ _⟩
theorem bws_k (B b : Nat) (bs : List Value) (s : ByteArray) (w : World) (h : BuF B b bs w) (hlen : bs.length + s.size ≤ 140737488355328) (hBw : B ≤ w.heap.size) :
  Calls Tryz.prog 171 #[.pointer (some ⟨b, 0, none⟩), .string s] w fun e w' => e = .returned (.tuple #[.int .i64 s.size, .nilIface]) ∧ (BuF B b (bs ++ Lib.strCells s) w' ∧ Below B w w' ∧ KeptB b w w') := by
 obtain ⟨i0, hi, hz0, hz1, hz2⟩ := info_parts infoBy
 go_enter Tryz.func171, Tryz.ntmps171
 go_wp2_with (go_at_call 217; refine (bcc_k B b bs _ h).mono ?_)
 rintro e w1 ⟨rfl, h1, hb1, hk1⟩
 obtain ⟨hB, v, hbk, hown, hne⟩ := h1
 have c0 : w1.cell? ⟨b, 0, none⟩ = some (.pointer (some ⟨b, 0, none⟩)) := by rw [Lib.cell_of_heap hbk]; rfl
 have c1 : w1.cell? ⟨b, 1, none⟩ = some v := by rw [Lib.cell_of_heap hbk]; rfl
 go_wp2_with (at_builtin; refine Lib.wpList_append_own_stringF _ rfl _ _ 162 9 rfl B 5 i0 Tryz.underlying162 Tryz.underlying9 hi hz0 hz1 hz2 _ _ _ rfl hown s rfl ?c3 ?c4 ?c5 ?_)
 case c3 => unfold maxLen; omega
 case c4 => omega
 case c5 => have := hb1.size; omega
 intro v' w2 hown' hgrow _
 have hlt : b < w1.heap.size := by
  rcases Nat.lt_or_ge b w1.heap.size with h' | h'
  ·exact h'
  ·simp [Array.getElem?_eq_none h'] at hbk
 have hb2 : w2.heap[b]? = some (.cells #[.pointer (some ⟨b, 0, none⟩), v] 205 (0, 0)) := by
  rw [hgrow.block b hlt (fun e => hne e.symm)]
  exact hbk
 have d0 : w2.cell? ⟨b, 0, none⟩ = some (.pointer (some ⟨b, 0, none⟩)) := by rw [Lib.cell_of_heap hb2]; rfl
 have d1 : w2.cell? ⟨b, 1, none⟩ = some v := by rw [Lib.cell_of_heap hb2]; rfl
 have f1 : w2.frozen? ⟨b, 1, none⟩ = false := Lib.frozen_of_heap hb2 1
 obtain ⟨ao, n', cap, rfl⟩ : ∃ ao n' cap, v' = .slice ao n' cap := by
  rcases hown'.2 with ⟨hv, _⟩ | ⟨g, cap, cur, fz, hv, _⟩
  ·exact ⟨_, _, _, hv⟩
  ·exact ⟨_, _, _, hv⟩
 go_wp2
 go_ret2
 refine ⟨rfl, .inr ?_, ?_, (hk1.grown hgrow (Lib.ownsRowF_kind hown)).setCell ⟨b, 1, none⟩ rfl _⟩
 ·exact Lib.BuilderAtF.put (T := 205) (e := 5) hB hb2 (bs' := bs ++ Lib.strCells s) (by simpa [Lib.strCells_length] using hown') (by decide)
 ·exact (hb1.grown hgrow (by have := hb1.size; omega) (fun k hk => (hown.lt k hk).1)).setCell (p := ⟨b, 1, none⟩) hB _
theorem cell_blk2 {w : World} {b : Nat} {p q : Value} {T : TypeId} (h : w.heap[b]? = some (.cells #[p, q] T (0, 0))) : w.cell? ⟨b, 0, none⟩ = some p ∧ w.cell? ⟨b, 1, none⟩ = some q ∧ w.frozen? ⟨b, 0, none⟩ = false ∧ w.frozen? ⟨b, 1, none⟩ = false := by
 refine ⟨by rw [Lib.cell_of_heap h]; rfl, by rw [Lib.cell_of_heap h]; rfl, Lib.frozen_of_heap h 0, Lib.frozen_of_heap h 1⟩
theorem breset_k (B b : Nat) (bs : List Value) (w : World) (h : BuF B b bs w) :
  Calls Tryz.prog 260 #[.pointer (some ⟨b, 0, none⟩)] w fun e w' => e = .returned (.tuple #[]) ∧ BuF B b [] w' ∧ Below B w w' ∧ KeptB b w w' := by
 obtain ⟨p, hB, v, hbk, hown, hne⟩ : ∃ p, Lib.BuilderAtF 205 5 B b p bs w := by
  rcases h with h | h
  ·exact ⟨_, h⟩
  ·exact ⟨_, h⟩
 obtain ⟨c0, c1, f0, f1⟩ := cell_blk2 hbk
 have hlt : b < w.heap.size := (Array.getElem?_eq_some_iff.1 hbk).1
 go_enter Tryz.func260, Tryz.ntmps260
 go_wp2
 go_end0
 refine ⟨rfl, .inl ⟨hB, .slice none 0 0, by simp [World.setCell, Array.getElem?_modify, hbk], ⟨by simp, .inl ⟨rfl, rfl⟩⟩, by simp [Value.ownBlock]⟩, ((Below.refl B w).setCell (p := ⟨b, 0, none⟩) hB _).setCell (p := ⟨b, 1, none⟩) hB _, ((Lib.OthersKept.refl _ _ w).setCell ⟨b, 0, none⟩ rfl _).setCell ⟨b, 1, none⟩ rfl _⟩
end Go.Proofs.YtdeiocppghhfdaaGreat
