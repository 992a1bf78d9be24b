/- The texts DeP MoK BuS MoL MoM MkP MoN MoO MeP. -/
import Derived.Test.YtdeiocppghhfdaaGreatPua
import Derived.Test.YtdeiocppghhfdaaGreatPub
import Derived.Test.YtdeiocppghhfdaaGreatShelf2
import Derived.BigRegion
import Derived.Deep.QuietTactic
import Derived.BigQuiet
import Derived.Laws.AppendOwn
import Derived.Shelf.Strings.BuilderK
import Derived.OwnWalk
import Derived.Deep.RegionLaw
import Derived.Shelf.SlicesQ.IndexFunc
import Derived.Shelf.SlSorted.Search
import Derived.Lib.AppendZerosOnto
import Derived.Lib.Overlaps
import Derived.Laws.Externs
import Derived.Laws.CopyRow
import Derived.ArgAppend
namespace Go.Proofs.YtdeiocppghhfdaaGreat
set_option linter.unusedVariables false
set_option linter.unusedSimpArgs false
set_option maxRecDepth 100000
set_option maxHeartbeats 8000000
structure PcV where
  kind : Int
  n : Int
  text : ByteArray
deriving DecidableEq, Inhabited
def pcP (p : PcV) : Prop := ((p.kind = 1 ∨ p.kind = 3) ∧ 1 ≤ p.n ∧ p.text.size = 0) ∨ (p.kind = 2 ∧ p.n = 0 ∧ p.text.size ≠ 0)
instance (p : PcV) : Decidable (pcP p) := by unfold pcP; infer_instance
def pcB (p : PcV) : Bool := decide (pcP p)
def pcIn (p : PcV) : Int := if p.kind = 1 ∨ p.kind = 3 then p.n else 0
def pcOut (p : PcV) : Int := if p.kind = 1 then p.n else if p.kind = 3 then 0 else p.text.size
def lenF : List PcV → Int → Int → Int × Int × Int
  | [], i, o => (i, o, 0)
  | p :: ps, i, o => if pcB p then (if 1048576 - i < pcIn p ∨ 1048576 - o < pcOut p then (0, 0, 5) else lenF ps (i + pcIn p) (o + pcOut p)) else (0, 0, 2)
def lenS (ps : List PcV) : Int × Int × Int := if 4096 < ps.length then (0, 0, 5) else lenF ps 0 0
theorem pcIn_pos {p : PcV} (h : pcP p) : 0 ≤ pcIn p := by unfold pcP at h; unfold pcIn; split <;> omega
theorem pcOut_pos {p : PcV} (h : pcP p) : 0 ≤ pcOut p := by unfold pcP at h; unfold pcOut; (repeat' split) <;> omega
def flushT (out : List PcV) (text : List UInt8) : List PcV := if text = [] then out else out ++ [⟨2, 0, ⟨text.toArray⟩⟩]
def flushG (out : List PcV) (gone : Int) : List PcV := if 0 < gone then out ++ [⟨3, gone, ⟨#[]⟩⟩] else out
def flushS (out : List PcV) (text : List UInt8) (gone : Int) : List PcV := flushG (flushT out text) gone
def repD (n at_ k : Int) (t : ByteArray) : List PcV :=
  (if 0 < at_ then [⟨1, at_, ⟨#[]⟩⟩] else []) ++ (if t.size ≠ 0 then [⟨2, 0, t⟩] else []) ++ (if 0 < k then [⟨3, k, ⟨#[]⟩⟩] else []) ++ (if 0 < n - at_ - k then [⟨1, n - at_ - k, ⟨#[]⟩⟩] else [])
end Go.Proofs.YtdeiocppghhfdaaGreat
namespace Go.Proofs.YtdeiocppghhfdaaGreat
set_option linter.unusedVariables false
set_option linter.unusedSimpArgs false
set_option maxRecDepth 100000
set_option maxHeartbeats 8000000
open Go.RowKit
def pcL (p : PcV) : List Value := [.int .u8 p.kind, .int .i64 p.n, .string p.text]
def pcsL (ps : List PcV) : List Value := ps.flatMap pcL
theorem pcL_len (p : PcV) : (pcL p).length = 3 := rfl
theorem pcsL_get (ps : List PcV) : ∀ (k i : Nat), i < 3 → (pcsL ps)[k * 3 + i]? = (ps[k]?).bind fun p => (pcL p)[i]? := by
  induction ps with
  | nil => intro k i _; simp [pcsL]
  | cons p ps ih =>
    intro k i hi
    show (pcL p ++ pcsL ps)[k * 3 + i]? = _
    cases k with
    | zero => rw [List.getElem?_append_left (by rw [pcL_len]; omega)]; simp
    | succ k => rw [List.getElem?_append_right (by rw [pcL_len]; omega), pcL_len, show (k + 1) * 3 + i - 3 = k * 3 + i by omega, ih k i hi]; simp
def PRow (W : World) (a : Option Addr) (ps : List PcV) : Prop := (a = none ∧ ps = []) ∨ ∃ b off, a = some ⟨b, off, none⟩ ∧ b < W.heap.size ∧ ∀ (k : Nat) (p : PcV), ps[k]? = some p → ∀ (i : Nat) (u : Value), (pcL p)[i]? = some u → W.cell? ⟨b, off + (k * 3 + i), none⟩ = some u
theorem PRow.on {W W' : World} {a : Option Addr} {ps : List PcV} (h : PRow W a ps) (hb : Below W.heap.size W W') : PRow W' a ps := by
  rcases h with h | ⟨b, off, h1, h2, h3⟩
  · exact .inl h
  · exact .inr ⟨b, off, h1, Nat.lt_of_lt_of_le h2 hb.size, fun k p hp i u hu => by rw [hb.cell (p := ⟨b, off + (k * 3 + i), none⟩) h2]; exact h3 k p hp i u hu⟩
theorem dvalid_any (p : PcV) (w : World) : Calls Tryz.prog 160 #[.agg #[.int .u8 p.kind, .int .i64 p.n, .string p.text]] w fun e w' => e = .returned (.bool (pcB p)) ∧ Below w.heap.size w w' := by
  obtain ⟨k, n, t⟩ := p
  go_enter Tryz.func160, Tryz.ntmps160
  go_wp2
  all_goals (go_ret; refine ⟨ret_bool ?_, below1 _ _⟩)
  all_goals (rw [Bool.eq_iff_iff]; simp only [pcB, decide_eq_true_eq, Bool.not_eq_true', Bool.false_eq_true, te2, te3, beq_iff_eq, beq_eq_false_iff_ne, ne_eq] at *; unfold pcP; dsimp only; constructor <;> intro h0 <;> first | omega | exact h0.elim)
theorem ret_two' {a b c d : Int} (h1 : a = c) (h2 : b = d) : Ending.returned (.tuple #[.int .i64 a, .int .i64 b]) = .returned (.tuple #[.int .i64 c, .int .i64 d]) := by rw [h1, h2]
theorem dsizes_any (p : PcV) (w : World) : Calls Tryz.prog 161 #[.agg #[.int .u8 p.kind, .int .i64 p.n, .string p.text]] w fun e w' => e = .returned (.tuple #[.int .i64 (pcIn p), .int .i64 (pcOut p)]) ∧ Below w.heap.size w w' := by
  obtain ⟨k, n, t⟩ := p
  go_enter Tryz.func161, Tryz.ntmps161
  go_wp2
  all_goals (try (go_region; go_wp2))
  all_goals go_returns
  all_goals (simp only [beq_iff_eq, beq_eq_false_iff_ne, ne_eq] at *)
  all_goals (refine ⟨ret_two' ?_ ?_, by first | exact (below1 _ _).drew | exact below1 _ _⟩ <;> simp [pcIn, pcOut, *])
theorem lenF_drop (ps : List PcV) (k : Nat) (p : PcV) (h : ps[k]? = some p) (i o : Int) : lenF (ps.drop k) i o = if pcB p then (if 1048576 - i < pcIn p ∨ 1048576 - o < pcOut p then (0, 0, 5) else lenF (ps.drop (k + 1)) (i + pcIn p) (o + pcOut p)) else (0, 0, 2) := by
  obtain ⟨hk, h⟩ := List.getElem?_eq_some_iff.1 h
  rw [List.drop_eq_getElem_cons hk, lenF, h]
theorem pcB_iff {p : PcV} : pcB p = true ↔ pcP p := by unfold pcB; simp
theorem blk3 {T : TypeId} {W : World} (X : World) (g : Nat) (hg : g = W.heap.size) (u v x : Value) (hb : Below (g + 1) (W.alloc (.cells #[u, v, x] T)) X) : X.cell? ⟨g, 0, none⟩ = some u ∧ X.cell? ⟨g, 1, none⟩ = some v ∧ X.cell? ⟨g, 2, none⟩ = some x := by
  subst hg
  have h := (hb.block W.heap.size (by omega)).trans (heap_alloc_new W (.cells #[u, v, x] T))
  exact ⟨by simp [World.cell?, h], by simp [World.cell?, h], by simp [World.cell?, h]⟩
theorem lengths_any (a : Option Addr) (c : Nat) (ps : List PcV) (w : World) (hr : PRow w a ps) (hs : ps.length ≤ 1000000) (hc : ps.length ≤ c) :
    Calls Tryz.prog 111 #[.slice a ps.length c] w fun e w' => e = .returned (.tuple #[.int .i64 (lenS ps).1, .int .i64 (lenS ps).2.1, .int .i64 (lenS ps).2.2]) ∧ Below w.heap.size w w' := by
  by_cases hl : 4096 < ps.length
  · have hR : lenS ps = (0, 0, 5) := by unfold lenS; rw [if_pos hl]
    have HR := Lib.hid hR; clear hR hr
    have hd : decide ((4096 : Int) < (ps.length : Int)) = true := by simp; omega
    go_enter Tryz.func111, Tryz.ntmps111
    go_wp2
    go_returns
    rw [HR.out]; exact ⟨rfl, Below.refl _ _⟩
  have hR : lenS ps = lenF ps 0 0 := by unfold lenS; rw [if_neg hl]
  have HR := Lib.hid hR; clear hR
  have hd : decide ((4096 : Int) < (ps.length : Int)) = false := by simp; omega
  have HRow := Lib.hid hr; clear hr
  go_enter Tryz.func111, Tryz.ntmps111
  go_wp2
  go_loopw [2, 3, 4, 6, 7, 8, 14, 15, 16, 17, 18, 19, 20, 21, 22, 23, 24, 25, 26, 27, 28, 29, 30, 31, 32, 33, 34, 35, 36, 37, 38, 39, 40, 41, 42] (fun i o x4 x6 x7 x8 k x15 x16 x17 x18 x19 x20 x21 x22 x23 x24 x25 x26 x27 x28 x29 x30 x31 x32 x33 x34 x35 x36 x37 x38 x39 x40 x41 x42 wr => ∃ (k' : Nat) (i' o' : Int), k = .int .i64 k' ∧ i = .int .i64 i' ∧ o = .int .i64 o' ∧ k' ≤ ps.length ∧ 0 ≤ i' ∧ i' ≤ 1048576 ∧ 0 ≤ o' ∧ o' ≤ 1048576 ∧ lenF (ps.drop k') i' o' = lenF ps 0 0 ∧ Below w.heap.size w wr) (fun i o x4 x6 x7 x8 k x15 x16 x17 x18 x19 x20 x21 x22 x23 x24 x25 x26 x27 x28 x29 x30 x31 x32 x33 x34 x35 x36 x37 x38 x39 x40 x41 x42 wr => ps.length - (intOf k).toNat)
  case atStart => exact ⟨0, 0, 0, rfl, rfl, rfl, by omega, by omega, by omega, by omega, by omega, rfl, Below.refl _ _⟩
  case round =>
    obtain ⟨k, i, o, rfl, rfl, rfl, hk, hi0, hi1, ho0, ho1, hL, hB⟩ := hrel
    have HL := Lib.hid hL; clear hL
    by_cases hlt : k < ps.length
    · have hp : ps[k]? = some ps[k] := List.getElem?_eq_getElem hlt
      generalize ps[k] = p at hp
      have hD := lenF_drop ps k p hp i o
      have HD := Lib.hid hD; clear hD
      rcases HRow.out with ⟨_, h⟩ | ⟨b, off, rfl, hb, hcell⟩
      · rw [h] at hlt; simp at hlt
      have hbz : b ≠ wr.heap.size := by have := hB.size; omega
      have c0 : wr.cell? ⟨b, off + (k * 3 + 0), none⟩ = some (.int .u8 p.kind) := by rw [hB.cell (p := ⟨b, off + (k * 3 + 0), none⟩) hb]; exact hcell k p hp 0 _ rfl
      have c1 : wr.cell? ⟨b, off + (k * 3 + 1), none⟩ = some (.int .i64 p.n) := by rw [hB.cell (p := ⟨b, off + (k * 3 + 1), none⟩) hb]; exact hcell k p hp 1 _ rfl
      have c2 : wr.cell? ⟨b, off + (k * 3 + 2), none⟩ = some (.string p.text) := by rw [hB.cell (p := ⟨b, off + (k * 3 + 2), none⟩) hb]; exact hcell k p hp 2 _ rfl
      simp only [Nat.add_zero, ← Nat.add_assoc] at c0 c1 c2
      clear hcell
      cases hv : pcB p with
      | false =>
        rw [hv, if_neg (by simp)] at HD
        go_wp2_with (go_at_call 160; refine (dvalid_any _ _).mono ?_; rw [hv]; rintro e w1 ⟨rfl, hB1⟩)
        go_returns
        refine ⟨?_, (hB.alloc hB.size _).trans (hB1.mono (by simp; have := hB.size; omega))⟩
        rw [HR.out, ← HL.out, HD.out]; rfl
      | true =>
        have hp0 := pcIn_pos (pcB_iff.1 hv)
        have hp1 := pcOut_pos (pcB_iff.1 hv)
        rw [hv, if_pos rfl] at HD
        go_wp2_with (first | (go_at_call 160; refine (dvalid_any _ _).mono ?_; rw [hv]; rintro e w1 ⟨rfl, hB1⟩; obtain ⟨z0, z1, z2⟩ := blk3 w1 _ rfl _ _ _ (hB1.mono (by simp))) | (go_at_call 161; refine (dsizes_any _ _).mono ?_; rintro e w2 ⟨rfl, hB2⟩))
        all_goals have hBx := (hB.alloc hB.size (.cells #[.int .u8 p.kind, .int .i64 p.n, .string p.text] 94)).trans ((hB1.trans (hB2.mono hB1.size)).mono (by simp; have := hB.size; omega))
        all_goals first
          | (go_returns; refine ⟨?_, hBx⟩; rw [HR.out, ← HL.out, HD.out, if_pos (by omega)]; rfl)
          | exact ⟨⟨k + 1, i + pcIn p, o + pcOut p, by go_num, rfl, rfl, by omega, by omega, by omega, by omega, by omega, by rw [← HL.out, HD.out, if_neg (by omega)], hBx⟩, by simp [intOf]; omega⟩
    · go_wp2
      go_returns
      refine ⟨?_, hB⟩
      rw [HR.out, ← HL.out, List.drop_eq_nil_of_le (by omega)]
      rfl
theorem dcheck_any (a : Option Addr) (c : Nat) (ps : List PcV) (w : World) (hr : PRow w a ps) (hs : ps.length ≤ 1000000) (hc : ps.length ≤ c) :
    Calls Tryz.prog 213 #[.slice a ps.length c] w fun e w' => e = .returned (.int .i64 (lenS ps).2.2) ∧ Below w.heap.size w w' := by
  have h := lengths_any a c ps w hr hs hc
  clear hr
  go_enter Tryz.func213, Tryz.ntmps213
  go_wp2_with (go_at_call 111; refine h.mono ?_; rintro e w' ⟨rfl, hB⟩)
  go_ret
  exact ⟨rfl, hB⟩
end Go.Proofs.YtdeiocppghhfdaaGreat
namespace Go.Proofs.YtdeiocppghhfdaaGreat
set_option linter.unusedVariables false
set_option linter.unusedSimpArgs false
set_option maxRecDepth 100000
set_option maxHeartbeats 8000000
open Go.RowKit Go.Lib Go.Shelf
theorem sizeBu : (Tryz.prog.info? 205).map (·.size) = some 2 := by kernel_rfl
theorem liesBu : liesAt Tryz.prog Tryz.prog.depth 205 (2 / Tryz.prog.cellsOf 205) 0 205 1 = true := by kernel_rfl
theorem infoBy : (Tryz.prog.info? 5).map (fun i => (i.zero, i.size, i.bytes)) = some (some (.int .u8 0), 1, 1) := by kernel_rfl
theorem bcc_used (b : Nat) (w : World) (h0 : w.cell? ⟨b, 0, none⟩ = some (.pointer (some ⟨b, 0, none⟩))) :
    Calls Tryz.prog 217 #[.pointer (some ⟨b, 0, none⟩)] w fun e w' => e = .returned (.tuple #[]) ∧ w' = w := by
  obtain ⟨j, hj, _⟩ := Option.map_eq_some_iff.1 sizeBu
  go_enter Tryz.func217, Tryz.ntmps217
  go_wp2
  rw [Lib.run_neq_ptr_same w _ Tryz.underlying203 hj]
  go_wp2
  go_end0
  exact ⟨rfl, rfl⟩
theorem bcc_fresh (b : Nat) (w : World) (h0 : w.cell? ⟨b, 0, none⟩ = some (.pointer none)) (hsh : w.shape? b = some (205, 2)) (hfz : w.frozen? ⟨b, 0, none⟩ = false) :
    Calls Tryz.prog 217 #[.pointer (some ⟨b, 0, none⟩)] w fun e w' => e = .returned (.tuple #[]) ∧ w' = w.setCell ⟨b, 0, none⟩ (.pointer (some ⟨b, 0, none⟩)) := by
  obtain ⟨j, hj, hjs⟩ := Option.map_eq_some_iff.1 sizeBu
  go_enter Tryz.func217, Tryz.ntmps217
  go_wp2
  rw [Lib.run_to_unsafe w ⟨b, 0, none⟩ Tryz.underlying203 Tryz.underlying281 hj (by rw [hjs]; decide) hsh (Nat.zero_lt_succ 1)]
  simp only [Result.andThen]
  rw [Oper.upon_value]
  go_wp2
  rw [run_callFunc_extern Tryz.func262 (by kernel_rfl) (by kernel_rfl) (by kernel_rfl) (e := Extern.AbiNoEscape.same) (by kernel_rfl)]
  rw [Lib.run_noEscape]
  simp only [Result.andThen]
  rw [Oper.upon_value]
  go_wp2
  rw [Lib.run_from_unsafe w ⟨b, 0, none⟩ Tryz.underlying281 Tryz.underlying203 hj hsh liesBu]
  simp only [Result.andThen]
  rw [Oper.upon_value]
  go_wp2
  go_end0
  exact ⟨rfl, rfl⟩
abbrev BuF (B b : Nat) (bs : List Value) (w : World) : Prop := Lib.IsBuilderF 205 5 B b bs w
abbrev KeptB (b : Nat) (w w' : World) : Prop := Lib.OthersKept 5 (some b) w w'
theorem bcc_k (B b : Nat) (bs : List Value) (w : World) (h : BuF B b bs w) :
    Calls Tryz.prog 217 #[.pointer (some ⟨b, 0, none⟩)] w fun e w' => e = .returned (.tuple #[]) ∧ (Lib.BuilderAtF 205 5 B b (.pointer (some ⟨b, 0, none⟩)) bs w' ∧ Below B w w' ∧ KeptB b w w') := by
  rcases h with h | h
  · refine (bcc_fresh b w h.cell0 h.shape h.frozen0).mono ?_
    rintro e w' ⟨rfl, rfl⟩
    exact ⟨rfl, h.used _, (Below.refl B w).setCell (p := ⟨b, 0, none⟩) h.1 _, (Lib.OthersKept.refl _ _ w).setCell ⟨b, 0, none⟩ rfl _⟩
  · refine (bcc_used b w h.cell0).mono ?_
    rintro e w' ⟨rfl, rfl⟩
    exact ⟨rfl, h, Below.refl B _, Lib.OthersKept.refl _ _ _⟩
theorem bws_k (B b : Nat) (bs : List Value) (s : ByteArray) (w : World) (h : BuF B b bs w) (hlen : bs.length + s.size ≤ 140737488355328) (hBw : B ≤ w.heap.size) :
    Calls Tryz.prog 171 #[.pointer (some ⟨b, 0, none⟩), .string s] w fun e w' => e = .returned (.tuple #[.int .i64 s.size, .nilIface]) ∧ (BuF B b (bs ++ Lib.strCells s) w' ∧ Below B w w' ∧ KeptB b w w') := by
  obtain ⟨i0, hi, hz0, hz1, hz2⟩ := info_parts infoBy
  go_enter Tryz.func171, Tryz.ntmps171
  go_wp2_with (go_at_call 217; refine (bcc_k B b bs _ h).mono ?_)
  rintro e w1 ⟨rfl, h1, hb1, hk1⟩
  obtain ⟨hB, v, hbk, hown, hne⟩ := h1
  have c0 : w1.cell? ⟨b, 0, none⟩ = some (.pointer (some ⟨b, 0, none⟩)) := by rw [Lib.cell_of_heap hbk]; rfl
  have c1 : w1.cell? ⟨b, 1, none⟩ = some v := by rw [Lib.cell_of_heap hbk]; rfl
  go_wp2_with (at_builtin; refine Lib.wpList_append_own_stringF _ rfl _ _ 162 9 rfl B 5 i0 Tryz.underlying162 Tryz.underlying9 hi hz0 hz1 hz2 _ _ _ rfl hown s rfl ?c3 ?c4 ?c5 ?_)
  case c3 => unfold maxLen; omega
  case c4 => omega
  case c5 => have := hb1.size; omega
  intro v' w2 hown' hgrow _
  have hlt : b < w1.heap.size := by
    rcases Nat.lt_or_ge b w1.heap.size with h' | h'
    · exact h'
    · simp [Array.getElem?_eq_none h'] at hbk
  have hb2 : w2.heap[b]? = some (.cells #[.pointer (some ⟨b, 0, none⟩), v] 205 (0, 0)) := by
    rw [hgrow.block b hlt (fun e => hne e.symm)]
    exact hbk
  have d0 : w2.cell? ⟨b, 0, none⟩ = some (.pointer (some ⟨b, 0, none⟩)) := by rw [Lib.cell_of_heap hb2]; rfl
  have d1 : w2.cell? ⟨b, 1, none⟩ = some v := by rw [Lib.cell_of_heap hb2]; rfl
  have f1 : w2.frozen? ⟨b, 1, none⟩ = false := Lib.frozen_of_heap hb2 1
  obtain ⟨ao, n', cap, rfl⟩ : ∃ ao n' cap, v' = .slice ao n' cap := by
    rcases hown'.2 with ⟨hv, _⟩ | ⟨g, cap, cur, fz, hv, _⟩
    · exact ⟨_, _, _, hv⟩
    · exact ⟨_, _, _, hv⟩
  go_wp2
  go_ret2
  refine ⟨rfl, .inr ?_, ?_, (hk1.grown hgrow (Lib.ownsRowF_kind hown)).setCell ⟨b, 1, none⟩ rfl _⟩
  · exact Lib.BuilderAtF.put (T := 205) (e := 5) hB hb2 (bs' := bs ++ Lib.strCells s) (by simpa [Lib.strCells_length] using hown') (by decide)
  · exact (hb1.grown hgrow (by have := hb1.size; omega) (fun k hk => (hown.lt k hk).1)).setCell (p := ⟨b, 1, none⟩) hB _
theorem cell_blk2 {w : World} {b : Nat} {p q : Value} {T : TypeId} (h : w.heap[b]? = some (.cells #[p, q] T (0, 0))) : w.cell? ⟨b, 0, none⟩ = some p ∧ w.cell? ⟨b, 1, none⟩ = some q ∧ w.frozen? ⟨b, 0, none⟩ = false ∧ w.frozen? ⟨b, 1, none⟩ = false := by
  refine ⟨by rw [Lib.cell_of_heap h]; rfl, by rw [Lib.cell_of_heap h]; rfl, Lib.frozen_of_heap h 0, Lib.frozen_of_heap h 1⟩
theorem breset_k (B b : Nat) (bs : List Value) (w : World) (h : BuF B b bs w) :
    Calls Tryz.prog 260 #[.pointer (some ⟨b, 0, none⟩)] w fun e w' => e = .returned (.tuple #[]) ∧ BuF B b [] w' ∧ Below B w w' ∧ KeptB b w w' := by
  obtain ⟨p, hB, v, hbk, hown, hne⟩ : ∃ p, Lib.BuilderAtF 205 5 B b p bs w := by
    rcases h with h | h
    · exact ⟨_, h⟩
    · exact ⟨_, h⟩
  obtain ⟨c0, c1, f0, f1⟩ := cell_blk2 hbk
  have hlt : b < w.heap.size := (Array.getElem?_eq_some_iff.1 hbk).1
  go_enter Tryz.func260, Tryz.ntmps260
  go_wp2
  go_end0
  refine ⟨rfl, .inl ⟨hB, .slice none 0 0, by simp [World.setCell, Array.getElem?_modify, hbk], ⟨by simp, .inl ⟨rfl, rfl⟩⟩, by simp [Value.ownBlock]⟩, ((Below.refl B w).setCell (p := ⟨b, 0, none⟩) hB _).setCell (p := ⟨b, 1, none⟩) hB _, ((Lib.OthersKept.refl _ _ w).setCell ⟨b, 0, none⟩ rfl _).setCell ⟨b, 1, none⟩ rfl _⟩
end Go.Proofs.YtdeiocppghhfdaaGreat
namespace Go.Proofs.YtdeiocppghhfdaaGreat
set_option linter.unusedVariables false
set_option linter.unusedSimpArgs false
set_option maxRecDepth 100000
set_option maxHeartbeats 8000000
open Go.RowKit Go.Lib Go.Shelf
theorem infoP : (Tryz.prog.info? 94).map (fun i => (i.zero, i.size, i.bytes)) = some (some (.agg #[.int .u8 0, .int .i64 0, .string ⟨#[]⟩]), 3, 32) := by kernel_rfl
theorem pcL_ones (p : PcV) : ∀ u ∈ pcL p, u.oneCell' = true := by
  intro u hu
  unfold pcL at hu
  simp only [List.mem_cons, List.not_mem_nil, or_false] at hu
  rcases hu with rfl | rfl | rfl <;> rfl
theorem pieces_new (W : World) (L : List Value) (T : TypeId) : ∀ (j : Nat) (u : Value), L[j]? = some u → (W.alloc (.cells L.toArray T)).cell? ((⟨W.heap.size, 0, none⟩ : Addr).add j) = some u := by
  intro j u h
  have h2 := heap_alloc_new W (.cells L.toArray T)
  rw [Addr.add_lit, Nat.zero_add]
  have : (W.alloc (.cells L.toArray T)).cell? ⟨W.heap.size, j, none⟩ = (L.toArray)[j]? := by unfold World.cell?; rw [h2]; rfl
  rw [this]; simpa using h
theorem pieces_new1 (W : World) (o : Obj) (L : List Value) (T : TypeId) : ∀ (j : Nat) (u : Value), L[j]? = some u → ((W.alloc o).alloc (.cells L.toArray T)).cell? ((⟨W.heap.size + 1, 0, none⟩ : Addr).add j) = some u := by
  have h := pieces_new (W.alloc o) L T
  rwa [World.size_alloc] at h
def putS (d : List PcV) (p : PcV) : List PcV := if 0 < p.n ∨ p.text.size ≠ 0 then d ++ [p] else d
def DVar (w : World) (B bd : Nat) (d : List PcV) : Prop := ∃ v, w.heap[bd]? = some (.cells #[v] 47 (0, 0)) ∧ w.ownsRow B 94 3 v d.length (pcsL d)
theorem own_ne {w : World} {B s n bd : Nat} {e t : TypeId} {v : Value} {xs : List Value} {cs : Array Value} (h : w.ownsRow B e s v n xs) (hb : w.heap[bd]? = some (.cells cs t (0, 0))) (ht : t ≠ e) : some bd ≠ v.ownBlock := by
  intro he
  rcases h.2 with ⟨rfl, _⟩ | ⟨g, cap, cur, rfl, _, hg, _⟩
  · simp [Value.ownBlock] at he
  · simp [Value.ownBlock] at he
    subst he
    rw [hb] at hg
    injection hg with hg; injection hg with _ h2 _
    exact ht h2
theorem own_slice {w : World} {B s n : Nat} {e : TypeId} {v : Value} {xs : List Value} (h : w.ownsRow B e s v n xs) : ∃ ao c, v = .slice ao n c := by
  rcases h.2 with ⟨rfl, rfl⟩ | ⟨g, cap, cur, rfl, _⟩
  · exact ⟨_, _, rfl⟩
  · exact ⟨_, _, rfl⟩
theorem box1 {w : World} {b : Nat} {v : Value} {T : TypeId} (h : w.heap[b]? = some (.cells #[v] T (0, 0))) : w.cell? ⟨b, 0, none⟩ = some v ∧ w.frozen? ⟨b, 0, none⟩ = false := by
  constructor <;> simp [World.cell?, World.frozen?, h]
theorem box_set {w : World} {b : Nat} {v u : Value} {T : TypeId} (h : w.heap[b]? = some (.cells #[v] T (0, 0))) : (w.setCell ⟨b, 0, none⟩ u).heap[b]? = some (.cells #[u] T (0, 0)) := by
  simp [World.setCell, Array.getElem?_modify, h]
theorem rv_put {w : World} {B bd s n : Nat} {e T : TypeId} {v v' : Value} {xs : List Value} (hb : w.heap[bd]? = some (.cells #[v] T (0, 0))) (hown : w.ownsRow B e s v' n xs) (hT : T ≠ e) :
    (w.setCell ⟨bd, 0, none⟩ v').heap[bd]? = some (.cells #[v'] T (0, 0)) ∧ (w.setCell ⟨bd, 0, none⟩ v').ownsRow B e s v' n xs :=
  ⟨box_set hb, hown.kept (row := some bd) ⟨rfl, rfl, rfl, by simp [World.setCell], fun k _ hk => Below.heap_setCell _ _ _ _ (fun e => hk (by simp [e]))⟩ (Or.inr (fun e => own_ne hown hb hT e.symm))⟩
theorem own_set {w : World} {B b s n : Nat} {e T : TypeId} {v : Value} {xs : List Value} {cs : Array Value} (h : w.ownsRow B e s v n xs) (hb : w.heap[b]? = some (.cells cs T (0, 0))) (hT : T ≠ e) (u : Value) : (w.setCell ⟨b, 0, none⟩ u).ownsRow B e s v n xs :=
  h.kept (row := some b) ⟨rfl, rfl, rfl, by simp [World.setCell], fun k _ hk => Below.heap_setCell _ _ _ _ (fun e => hk (by simp [e]))⟩ (Or.inr (fun e => own_ne h hb hT e.symm))
theorem pcsL_snoc (d : List PcV) (p : PcV) : pcsL (d ++ [p]) = pcsL d ++ pcL p := by unfold pcsL; simp
theorem put_any (p : PcV) (B bd : Nat) (d : List PcV) (w : World) (hd : DVar w B bd d) (hl : d.length ≤ 100000) (hbB : B ≤ bd) :
    Calls Tryz.prog 276 #[.agg #[.int .u8 p.kind, .int .i64 p.n, .string p.text], .pointer (some ⟨bd, 0, none⟩)] w fun e w' => e = .returned (.tuple #[]) ∧ DVar w' B bd (putS d p) ∧ Below B w w' := by
  obtain ⟨i0, hi, hz0, hz1, hz2⟩ := info_parts infoP
  obtain ⟨v, hv, hown⟩ := hd
  have hlt : bd < w.heap.size := (Array.getElem?_eq_some_iff.1 hv).1
  have hc : w.cell? ⟨bd, 0, none⟩ = some v := by simp [World.cell?, hv]
  have hne : some bd ≠ v.ownBlock := own_ne hown hv (by decide)
  obtain ⟨k, n, t⟩ := p
  by_cases hp : 0 < n ∨ t.size ≠ 0
  · have hR : putS d ⟨k, n, t⟩ = d ++ [⟨k, n, t⟩] := if_pos hp
    have HR := Lib.hid hR; clear hR
    have hp0 : (decide (0 < n) = true) ∨ (decide (0 < n) = false ∧ t.toList.isEmpty = false) := by
      by_cases h : 0 < n
      · exact .inl (by simpa using h)
      · exact .inr ⟨by simpa using h, by rw [te3]; omega⟩
    clear hp
    rcases hp0 with hp0 | ⟨hp0, hp1⟩
    all_goals
      go_enter Tryz.func276, Tryz.ntmps276
      go_wp2_with (at_builtin; refine wpList_append_own _ rfl _ _ 47 rfl B 94 i0 _ 3 32 Tryz.underlying47 hi hz0 hz1 hz2 rfl (by decide) _ _ _ rfl ((hown.alloc _).alloc _) ⟨_, 0, none⟩ 1 1 (pcL ⟨k, n, t⟩) rfl rfl (pieces_new1 _ _ _ _) (pcL_ones _) (by unfold maxLen; omega) (by omega) (by simp; omega) ?_; intro v' w3 hown' hgrow _; obtain ⟨ao, cap', rfl⟩ := own_slice hown'; have hb3 := (hgrow.block bd (by simp; omega) hne).trans ((heap_alloc_old _ _ (by simp; omega)).trans ((heap_alloc_old _ _ hlt).trans hv)); have hc3 := box1 hb3; obtain ⟨hc3, hf3⟩ := hc3; have hb5 := ((((Below.refl B w).alloc (by omega) (.cells #[.int .u8 k, .int .i64 n, .string t] 94)).alloc (by simp; omega) (.cells (pcL ⟨k, n, t⟩).toArray 94)).grown hgrow (by simp; omega) (fun k hk => (hown.lt k hk).1)).setCell (p := ⟨bd, 0, none⟩) hbB (.slice ao (d.length + 1) cap'))
      all_goals go_end0
      all_goals (refine ⟨rfl, ?_, hb5⟩; rw [HR.out]; refine ⟨.slice ao (d.length + 1) cap', ?_⟩; have := rv_put hb3 hown' (by decide); rw [List.length_append, pcsL_snoc]; exact this)
  · have hR : putS d ⟨k, n, t⟩ = d := if_neg hp
    have hp0 : decide (0 < n) = false := by simp; omega
    have hp1 : t.size = 0 := by omega
    have hp2 : t.toList.isEmpty = true := by rw [te2]; exact hp1
    have HR := Lib.hid hR; clear hR hp
    go_enter Tryz.func276, Tryz.ntmps276
    go_wp2
    go_end0
    rw [HR.out]
    exact ⟨rfl, ⟨v, (heap_alloc_old _ _ hlt).trans hv, hown.alloc _⟩, (Below.refl B w).alloc (by omega) _⟩
def FSt (w : World) (B bt bo bg : Nat) (out : List PcV) (tx : List UInt8) (gone : Int) : Prop :=
  BuF B bt (Lib.byteCells tx) w ∧ DVar w B bo out ∧ w.heap[bg]? = some (.cells #[.int .i64 gone] 3 (0, 0))
theorem BuF.blk {B b : Nat} {bs : List Value} {w : World} (h : BuF B b bs w) : ∃ cs, w.heap[b]? = some (.cells cs 205 (0, 0)) := by
  rcases h with ⟨_, v, h, _⟩ | ⟨_, v, h, _⟩ <;> exact ⟨_, h⟩
theorem kept_box {w w' : World} {b k : Nat} {cs : Array Value} {T : TypeId} {bs : Array Value} (hk : KeptB b w w') (hb : w.heap[b]? = some (.cells bs 205 (0, 0))) (h : w.heap[k]? = some (.cells cs T (0, 0))) (h1 : T ≠ 205) (h2 : T ≠ 5) : w'.heap[k]? = some (.cells cs T (0, 0)) := by
  refine hk k _ h ?_ ?_
  · intro e
    injection e with e; subst e
    rw [hb] at h; injection h with h; injection h with _ h; exact h1 h.symm
  · intro c fz e; injection e with _ e; exact h2 e
theorem kept_own {w w' : World} {B b s n : Nat} {e : TypeId} {v : Value} {xs : List Value} {bs : Array Value} (hk : KeptB b w w') (hb : w.heap[b]? = some (.cells bs 205 (0, 0))) (h : w.ownsRow B e s v n xs) (h1 : e ≠ 205) (h2 : e ≠ 5) : w'.ownsRow B e s v n xs := by
  refine ⟨h.1, ?_⟩
  rcases h.2 with hn | ⟨g, cap, cur, rfl, hB, hg, rest⟩
  · exact .inl hn
  · exact .inr ⟨g, cap, cur, rfl, hB, kept_box hk hb hg h1 h2, rest⟩
theorem DVar.kept {w w' : World} {B b bo : Nat} {d : List PcV} {bs : Array Value} (h : DVar w B bo d) (hk : KeptB b w w') (hb : w.heap[b]? = some (.cells bs 205 (0, 0))) : DVar w' B bo d := by
  obtain ⟨v, hv, ho⟩ := h
  exact ⟨v, kept_box hk hb hv (by decide) (by decide), kept_own hk hb ho (by decide) (by decide)⟩
theorem BuF.alloc {B b : Nat} {bs : List Value} {w : World} (h : BuF B b bs w) (o : Obj) : BuF B b bs (w.alloc o) := h.elim (fun x => .inl (x.alloc o)) (fun x => .inr (x.alloc o))
def SameBy (w w' : World) : Prop := ∀ (k : Nat) (cs : Array Value) (T : TypeId) (fz : Nat × Nat), w.heap[k]? = some (.cells cs T fz) → T = 205 ∨ T = 5 → w'.heap[k]? = w.heap[k]?
theorem BuF.same {B b : Nat} {bs : List Value} {w w' : World} (h : BuF B b bs w) (hs : SameBy w w') : BuF B b bs w' := by
  have key : ∀ p, Lib.BuilderAtF 205 5 B b p bs w → Lib.BuilderAtF 205 5 B b p bs w' := by
    rintro p ⟨hB, v, hb, ⟨hl, ho⟩, hne⟩
    refine ⟨hB, v, (hs _ _ _ _ hb (.inl rfl)).trans hb, ⟨hl, ?_⟩, hne⟩
    rcases ho with hn | ⟨g, cap, cur, fz, rfl, h1, hg, rest⟩
    · exact .inl hn
    · exact .inr ⟨g, cap, cur, fz, rfl, h1, (hs _ _ _ _ hg (.inr rfl)).trans hg, rest⟩
  exact h.elim (fun x => .inl (key _ x)) (fun x => .inr (key _ x))
theorem SameBy.trans {a b c : World} (h : SameBy a b) (k : SameBy b c) : SameBy a c := fun i cs T fz hi ht => by
  have h1 := h i cs T fz hi ht
  exact (k i cs T fz (h1.trans hi) ht).trans h1
theorem SameBy.alloc (w : World) (o : Obj) : SameBy w (w.alloc o) := fun k _ _ _ hk _ => heap_alloc_old _ _ (Array.getElem?_eq_some_iff.1 hk).1
theorem SameBy.grown {w w' : World} {B s n : Nat} {e : TypeId} {v : Value} {xs : List Value} (hg : w.grownBy w' v.ownBlock) (ho : w.ownsRow B e s v n xs) (h1 : e ≠ 205) (h2 : e ≠ 5) : SameBy w w' := fun k cs T fz hk ht => by
  refine hg.block k (Array.getElem?_eq_some_iff.1 hk).1 (fun he => ?_)
  rcases ho.2 with ⟨rfl, _⟩ | ⟨g, cap, cur, rfl, _, hg, _⟩
  · simp [Value.ownBlock] at he
  · simp [Value.ownBlock] at he
    subst he
    rw [hk] at hg; injection hg with hg; injection hg with _ h3 _
    rcases ht with h | h
    · exact h1 (h3.symm.trans h)
    · exact h2 (h3.symm.trans h)
theorem SameBy.set {w : World} {b : Nat} {cs : Array Value} {T : TypeId} (h : w.heap[b]? = some (.cells cs T (0, 0))) (h1 : T ≠ 205) (h2 : T ≠ 5) (u : Value) : SameBy w (w.setCell ⟨b, 0, none⟩ u) := fun k cs T fz hk ht => by
  refine Below.heap_setCell _ _ _ _ (fun he => ?_)
  subst he
  rw [hk] at h; injection h with h; injection h with _ h3 _
  rcases ht with h | h
  · exact h1 (h3.symm.trans h)
  · exact h2 (h3.symm.trans h)
def PKept (bo : Nat) (w w' : World) : Prop := ∀ (k : Nat) (cs : Array Value) (v : Value), w.heap[k]? = some (.cells cs 94 (0, 0)) → w.heap[bo]? = some (.cells #[v] 47 (0, 0)) → some k ≠ v.ownBlock → w'.heap[k]? = w.heap[k]?
theorem set_keep {w : World} {b k : Nat} {cs cs' : Array Value} {T T' : TypeId} (h : w.heap[b]? = some (.cells cs T (0, 0))) (hk : w.heap[k]? = some (.cells cs' T' (0, 0))) (hT : T ≠ T') (u : Value) : (w.setCell ⟨b, 0, none⟩ u).heap[k]? = w.heap[k]? := by
  refine Below.heap_setCell _ _ _ _ (fun he => ?_)
  subst he
  rw [hk] at h; injection h with h; injection h with _ h3 _
  exact hT h3.symm
theorem flushg_any (B bt bo bg : Nat) (out : List PcV) (gone : Int) (w : World) (h : FSt w B bt bo bg out [] gone) (hl : out.length ≤ 100000) (hg : 0 ≤ gone) (h1 : B ≤ bo) (h2 : B ≤ bg) (hB : B ≤ w.heap.size) :
    Calls Tryz.prog 258 #[.pointer (some ⟨bt, 0, none⟩), .pointer (some ⟨bo, 0, none⟩), .pointer (some ⟨bg, 0, none⟩)] w fun e w' => e = .returned (.tuple #[]) ∧ FSt w' B bt bo bg (flushG out gone) [] 0 ∧ Below B w w' ∧ PKept bo w w' := by
  obtain ⟨i0, hi, hz0, hz1, hz2⟩ := info_parts infoP
  obtain ⟨hb, ⟨v, hv, hown⟩, hgb⟩ := h
  obtain ⟨hc, hcf⟩ := box1 hv
  obtain ⟨hcg, hcgf⟩ := box1 hgb
  have hlt := (Array.getElem?_eq_some_iff.1 hv).1
  have hlg := (Array.getElem?_eq_some_iff.1 hgb).1
  have hne : some bo ≠ v.ownBlock := own_ne hown hv (by decide)
  have hne2 : some bg ≠ v.ownBlock := own_ne hown hgb (by decide)
  by_cases hgg : 0 < gone
  · have hd : decide (0 < gone) = true := by simpa using hgg
    go_enter Tryz.func258, Tryz.ntmps258
    go_wp2_with (first | (go_at_call 259; refine (Tryz.Builder_Len_f B bt _ _ hb).mono ?_; rintro e w' ⟨rfl, rfl⟩) | (at_builtin; refine wpList_append_own _ rfl _ _ 47 rfl B 94 i0 _ 3 32 Tryz.underlying47 hi hz0 hz1 hz2 rfl (by decide) _ _ _ rfl (hown.alloc _) ⟨_, 0, none⟩ 1 1 (pcL ⟨3, gone, ⟨#[]⟩⟩) rfl rfl (pieces_new _ _ _) (pcL_ones _) (by unfold maxLen; omega) (by omega) (by simp; omega) ?_; intro v' w3 hown' hgrow _; obtain ⟨ao, cap', rfl⟩ := own_slice hown'; have hb3 := (hgrow.block bo (by simp; omega) hne).trans ((heap_alloc_old _ _ hlt).trans hv); obtain ⟨hc3, hf3⟩ := box1 hb3; have hg3 := (hgrow.block bg (by simp; omega) hne2).trans ((heap_alloc_old _ _ hlg).trans hgb); have hbg : bg ≠ bo := (fun e => by subst e; rw [hg3] at hb3; injection hb3 with hb3; injection hb3 with _ h _; exact absurd h (by decide)); have hg4 := (Below.heap_setCell w3 ⟨bo, 0, none⟩ (.slice ao (out.length + 1) cap') bg hbg).trans hg3; obtain ⟨hcg4, hfg4⟩ := box1 hg4))
    go_end0
    have hs := ((SameBy.alloc _ _).trans (SameBy.grown hgrow (hown.alloc _) (by decide) (by decide))).trans ((SameBy.set hb3 (by decide) (by decide) (.slice ao (out.length + 1) cap')).trans (SameBy.set hg4 (by decide) (by decide) (.int .i64 0)))
    have hrv := rv_put hb3 hown' (by decide)
    have hB5 := ((((Below.refl B w').alloc (by omega) (.cells (pcL ⟨3, gone, ⟨#[]⟩⟩).toArray 94)).grown hgrow (by simp; omega) (fun k hk => (hown.lt k hk).1)).setCell (p := ⟨bo, 0, none⟩) h1 (.slice ao (out.length + 1) cap')).setCell (p := ⟨bg, 0, none⟩) h2 (.int .i64 0)
    refine ⟨rfl, ⟨hb.same hs, ?_, box_set hg4⟩, hB5, fun k cs v0 hk hv0 hn => ?_⟩
    rotate_left
    · rw [hv] at hv0; injection hv0 with hv0; injection hv0 with hv0 _ _
      have hv0 : v = v0 := by injection hv0 with h0; injection h0
      subst hv0
      have hkl := (Array.getElem?_eq_some_iff.1 hk).1
      have e1 := (hgrow.block k (by simp; omega) hn).trans (heap_alloc_old _ _ hkl)
      have e2 := (set_keep hb3 (e1.trans hk) (by decide) (.slice ao (out.length + 1) cap')).trans e1
      exact (set_keep hg4 (e2.trans hk) (by decide) (.int .i64 0)).trans e2
    unfold flushG
    rw [if_pos hgg]
    refine ⟨.slice ao (out.length + 1) cap', (Below.heap_setCell _ ⟨bg, 0, none⟩ _ bo (Ne.symm hbg)).trans hrv.1, ?_⟩
    rw [List.length_append, pcsL_snoc]
    exact hrv.2.kept (row := some bg) ⟨rfl, rfl, rfl, by simp [World.setCell], fun k _ hk => Below.heap_setCell _ _ _ _ (fun e => hk (by simp [e]))⟩ (Or.inr (fun e => own_ne hrv.2 hg4 (by decide) e.symm))
  · have hd : decide (0 < gone) = false := by simpa using hgg
    have hz : gone = 0 := by omega
    subst hz
    go_enter Tryz.func258, Tryz.ntmps258
    go_wp2_with (first | (go_at_call 259; refine (Tryz.Builder_Len_f B bt _ _ hb).mono ?_; rintro e w' ⟨rfl, rfl⟩))
    go_end0
    exact ⟨rfl, ⟨hb, ⟨v, hv, hown⟩, hgb⟩, Below.refl _ _, fun _ _ _ _ _ _ => rfl⟩
theorem KeptB.own {w w' : World} {b : Nat} (_ : KeptB b w w') : True := trivial
theorem flusht_any (B bt bo bg : Nat) (out : List PcV) (tx : List UInt8) (w : World) (h : FSt w B bt bo bg out tx 0) (hx : tx ≠ []) (hl : out.length ≤ 100000) (h1 : B ≤ bo) (h2 : B ≤ bg) (hB : B ≤ w.heap.size) :
    Calls Tryz.prog 258 #[.pointer (some ⟨bt, 0, none⟩), .pointer (some ⟨bo, 0, none⟩), .pointer (some ⟨bg, 0, none⟩)] w fun e w' => e = .returned (.tuple #[]) ∧ FSt w' B bt bo bg (flushT out tx) [] 0 ∧ Below B w w' ∧ PKept bo w w' := by
  obtain ⟨i0, hi, hz0, hz1, hz2⟩ := info_parts infoP
  obtain ⟨hb, ⟨v, hv, hown⟩, hgb⟩ := h
  obtain ⟨hc, hcf⟩ := box1 hv
  obtain ⟨hcg, hcgf⟩ := box1 hgb
  have hlt := (Array.getElem?_eq_some_iff.1 hv).1
  have hlg := (Array.getElem?_eq_some_iff.1 hgb).1
  have hne : some bo ≠ v.ownBlock := own_ne hown hv (by decide)
  have hne2 : some bg ≠ v.ownBlock := own_ne hown hgb (by decide)
  have hlen : decide ((0 : Int) < ((Lib.byteCells tx).length : Int)) = true := by
    rw [Lib.byteCells_length]
    have : tx.length ≠ 0 := fun h => hx (List.eq_nil_of_length_eq_zero h)
    simp; omega
  have hx := Lib.hid hx
  go_enter Tryz.func258, Tryz.ntmps258
  have hlen0 : 0 < (Lib.byteCells tx).length := by simpa using hlen
  go_wp2_with (first | (go_at_call 259; refine (Tryz.Builder_Len_f B bt _ _ hb).mono ?_; rintro e w' ⟨rfl, rfl⟩))
  all_goals try omega
  have hbD : BuF B bt (Lib.byteCells tx) w'.drew := hb
  have hBD : B ≤ w'.drew.heap.size := hB
  have hvD : w'.drew.heap[bo]? = _ := hv
  have hgD : w'.drew.heap[bg]? = _ := hgb
  have hoD : w'.drew.ownsRow _ _ _ _ _ _ := hown
  go_region_law (first | (rw [if_pos (by rfl)]; refine wp_append_own _ _ _ 47 rfl B 94 i0 _ 3 32 Tryz.underlying47 hi hz0 hz1 hz2 rfl (by decide) _ _ _ rfl (hown1.alloc _) ⟨_, 0, none⟩ 1 1 (pcL ⟨2, 0, ⟨tx.toArray⟩⟩) rfl rfl (pieces_new _ _ _) (pcL_ones _) (by unfold maxLen; omega) (by omega) (by have := hB1.size; simp; omega) ?_; intro v' w3 hown' hgrow _; obtain ⟨ao, cap', rfl⟩ := own_slice hown'; have hb3 := (hgrow.block bo (by have := (Array.getElem?_eq_some_iff.1 hv1).1; simp; omega) hne).trans ((heap_alloc_old _ _ (Array.getElem?_eq_some_iff.1 hv1).1).trans hv1); obtain ⟨hc3, hf3⟩ := box1 hb3; have hg3 := (hgrow.block bg (by have := (Array.getElem?_eq_some_iff.1 hg1).1; simp; omega) hne2).trans ((heap_alloc_old _ _ (Array.getElem?_eq_some_iff.1 hg1).1).trans hg1); have hbg : bg ≠ bo := (fun e => by subst e; rw [hg3] at hb3; injection hb3 with hb3; injection hb3 with _ h _; exact absurd h (by decide)); have hg4 := (Below.heap_setCell w3 ⟨bo, 0, none⟩ (.slice ao (out.length + 1) cap') bg hbg).trans hg3; obtain ⟨hcg4, hfg4⟩ := box1 hg4) | (rw [if_pos (by rfl)]; go_simp; go_at_call 174; refine (Tryz.Builder_String_any_k B bt tx _ hbD hBD).mono ?_; rintro e w1 ⟨rfl, hb1, hB1, hk1⟩; obtain ⟨cbs, hbb⟩ := BuF.blk hbD; have hv1 := kept_box hk1 hbb hvD (by decide) (by decide); have hg1 := kept_box hk1 hbb hgD (by decide) (by decide); have hown1 := kept_own hk1 hbb hoD (by decide) (by decide); obtain ⟨hc1, hcf1⟩ := box1 hv1; obtain ⟨hcg1, hcgf1⟩ := box1 hg1; have hlt1 := (Array.getElem?_eq_some_iff.1 hv1).1; have hca := fun o => Lib.cell?_alloc_some o hc1))
  all_goals
    have hs := ((SameBy.alloc w1 _).trans (SameBy.grown hgrow (hown1.alloc _) (by decide) (by decide))).trans (SameBy.set hb3 (by decide) (by decide) (.slice ao (out.length + 1) cap'))
    have hb4 := BuF.same hb1 hs
    obtain ⟨cbs4, hbb4⟩ := BuF.blk hb4
    have hrv := rv_put hb3 hown' (by decide)
    have hB4 := ((((Below.refl B w').drew.trans hB1).alloc (by have := hB1.size; simp at *; omega) (.cells (pcL ⟨2, 0, ⟨tx.toArray⟩⟩).toArray 94)).grown hgrow (by have := hB1.size; simp at *; omega) (fun k hk => (hown1.lt k hk).1)).setCell (p := ⟨bo, 0, none⟩) h1 (.slice ao (out.length + 1) cap')
    have hw4 : (w3.setCell ⟨bo, 0, none⟩ (.slice ao (out.length + 1) cap')).heap.size = w3.heap.size := by simp [World.setCell]
    go_wp2_with (go_at_call 260; refine (breset_k B bt _ _ hb4).mono ?_; rintro e w5 ⟨rfl, hb5, hB5, hk5⟩; have hg5 := kept_box hk5 hbb4 hg4 (by decide) (by decide); obtain ⟨hcg5, hcgf5⟩ := box1 hg5)
    go_end0
    refine ⟨rfl, ⟨hb5, ?_, hg5⟩, hB4.trans hB5, fun k cs v0 hk hv0 hn => ?_⟩
    rotate_left
    · rw [hv] at hv0; injection hv0 with hv0; injection hv0 with hv0 _ _
      have hv0 : v = v0 := by injection hv0 with h0; injection h0
      subst hv0
      have e0 := kept_box hk1 hbb (show w'.drew.heap[k]? = _ from hk) (by decide) (by decide)
      have hkl := (Array.getElem?_eq_some_iff.1 e0).1
      have e1 := (hgrow.block k (by simp; omega) hn).trans ((heap_alloc_old _ _ hkl).trans e0)
      have e2 := (set_keep hb3 e1 (by decide) (.slice ao (out.length + 1) cap')).trans e1
      exact (kept_box hk5 hbb4 e2 (by decide) (by decide)).trans hk.symm
    unfold flushT
    rw [if_neg hx.out]
    refine DVar.kept ⟨.slice ao (out.length + 1) cap', hrv.1, ?_⟩ hk5 hbb4
    rw [List.length_append, pcsL_snoc]
    exact hrv.2
theorem flush_two (B bt bo bg : Nat) (out : List PcV) (tx : List UInt8) (gone : Int) (w : World) (h : FSt w B bt bo bg out tx gone) (hx : tx = [] ∨ gone = 0) (hg : 0 ≤ gone) (hl : out.length ≤ 100000) (h1 : B ≤ bo) (h2 : B ≤ bg) (hB : B ≤ w.heap.size) :
    Calls Tryz.prog 258 #[.pointer (some ⟨bt, 0, none⟩), .pointer (some ⟨bo, 0, none⟩), .pointer (some ⟨bg, 0, none⟩)] w fun e w' => e = .returned (.tuple #[]) ∧ FSt w' B bt bo bg (flushS out tx gone) [] 0 ∧ Below B w w' ∧ PKept bo w w' := by
  by_cases h0 : tx = []
  · subst h0
    exact flushg_any B bt bo bg out gone w h hl hg h1 h2 hB
  · have hz : gone = 0 := hx.resolve_left h0
    subst hz
    exact flusht_any B bt bo bg out tx w h h0 hl h1 h2 hB
end Go.Proofs.YtdeiocppghhfdaaGreat
namespace Go.Proofs.YtdeiocppghhfdaaGreat
set_option linter.unusedVariables false
set_option linter.unusedSimpArgs false
set_option maxRecDepth 100000
set_option maxHeartbeats 8000000
open Go.RowKit Go.Lib Go.Shelf
structure FS where
  out : List PcV
  tx : List UInt8
  gone : Int
def fStep (s : FS) (p : PcV) : FS := if p.kind = 2 then { s with tx := s.tx ++ p.text.data.toList } else if p.kind = 3 then { s with gone := s.gone + p.n } else ⟨flushS s.out s.tx s.gone ++ [p], [], 0⟩
def finF : List PcV → FS → List PcV
  | [], s => flushS s.out s.tx s.gone
  | p :: ps, s => finF ps (fStep s p)
def okF : List PcV → FS → Prop
  | [], s => s.tx = [] ∨ s.gone = 0
  | p :: ps, s => (p.kind ≠ 2 → p.kind ≠ 3 → (s.tx = [] ∨ s.gone = 0) ∧ ∀ q, (flushS s.out s.tx s.gone).getLast? = some q → q.kind ≠ 1) ∧ okF ps (fStep s p)
theorem flushS_len (out : List PcV) (tx : List UInt8) (gone : Int) : (flushS out tx gone).length ≤ out.length + 2 := by
  unfold flushS flushG flushT; (repeat' split) <;> simp
theorem own_mono {w : World} {B B' s n : Nat} {e : TypeId} {v : Value} {xs : List Value} (h : B ≤ B') (ho : w.ownsRow B' e s v n xs) : w.ownsRow B e s v n xs := by
  refine ⟨ho.1, ?_⟩
  rcases ho.2 with hn | ⟨g, cap, cur, rfl, hB, rest⟩
  · exact .inl hn
  · exact .inr ⟨g, cap, cur, rfl, Nat.le_trans h hB, rest⟩
theorem blk3' {w : World} {b : Nat} {u v x : Value} {T : TypeId} (h : w.heap[b]? = some (.cells #[u, v, x] T (0, 0))) : w.cell? ⟨b, 0, none⟩ = some u ∧ w.cell? ⟨b, 1, none⟩ = some v ∧ w.cell? ⟨b, 2, none⟩ = some x := by
  refine ⟨?_, ?_, ?_⟩ <;> simp [World.cell?, h]
theorem own_last {w : World} {B : Nat} {v : Value} {F : List PcV} {q : PcV} (h : w.ownsRow B 94 3 v F.length (pcsL F)) (hq : F[F.length - 1]? = some q) : ∃ g cp, v = .slice (some ⟨g, 0, none⟩) F.length cp ∧ w.cell? ⟨g, (F.length - 1) * 3, none⟩ = some (.int .u8 q.kind) := by
  have hpos : 0 < F.length := by have := (List.getElem?_eq_some_iff.1 hq).1; omega
  rcases h.2 with ⟨_, h0⟩ | ⟨g, cap, cur, rfl, hB, hg, h1, h2, h3, h4⟩
  · omega
  · refine ⟨g, cap, rfl, ?_⟩
    have h5 := pcsL_get F (F.length - 1) 0 (by omega)
    rw [hq] at h5
    have h6 : (pcsL F)[(F.length - 1) * 3 + 0]? = some (.int .u8 q.kind) := h5
    rw [← h4, List.getElem?_take, if_pos (by omega), Nat.add_zero] at h6
    simp only [World.cell?, hg]
    simpa using h6
def FoI (w : World) (ps : List PcV) (i : Value) (wr : World) : Prop :=
  ∃ (k : Nat) (s : FS), i = .int .i64 k ∧ k ≤ ps.length ∧ okF (ps.drop k) s ∧ finF (ps.drop k) s = finF ps ⟨[], [], 0⟩ ∧ FSt wr w.heap.size (w.heap.size + 1) w.heap.size (w.heap.size + 1 + 1) s.out s.tx s.gone ∧ 0 ≤ s.gone ∧ s.gone ≤ k * 1048576 ∧ s.tx.length ≤ k * 1048576 ∧ s.out.length ≤ k * 3 ∧ Below w.heap.size w wr
theorem form_any (a : Option Addr) (c : Nat) (ps : List PcV) (w : World) (hr : PRow w a ps) (hs : ps.length ≤ 4096) (hc : ps.length ≤ c) (hok : okF ps ⟨[], [], 0⟩) (hn : ∀ p ∈ ps, 0 ≤ p.n ∧ p.n ≤ 1048576 ∧ p.text.size ≤ 1048576) :
    Calls Tryz.prog 214 #[.slice a ps.length c] w fun e w' => ∃ v, e = .returned v ∧ w'.ownsRow w.heap.size 94 3 v (finF ps ⟨[], [], 0⟩).length (pcsL (finF ps ⟨[], [], 0⟩)) ∧ Below w.heap.size w w' := by
  obtain ⟨i0, hi, hz0, hz1, hz2⟩ := info_parts infoP
  have HRow := Lib.hid hr; clear hr
  have HN := Lib.hid hn; clear hn
  have HO := Lib.hid hok; clear hok
  go_enter Tryz.func214, Tryz.ntmps214
  go_wp2
  go_loopw [8, 9, 13, 14, 15, 16, 17, 18, 19, 20, 21, 22, 23, 24, 25, 26, 27, 28, 29, 30, 31, 32, 33, 34, 35, 36, 37, 38, 39, 40, 41, 42, 43, 44, 45, 46, 47, 48, 49, 50, 51, 52, 53, 54, 55, 56, 57, 58, 59, 60] (fun x8 x9 i x14 x15 x16 x17 x18 x19 x20 x21 x22 x23 x24 x25 x26 x27 x28 x29 x30 x31 x32 x33 x34 x35 x36 x37 x38 x39 x40 x41 x42 x43 x44 x45 x46 x47 x48 x49 x50 x51 x52 x53 x54 x55 x56 x57 x58 x59 x60 wr => FoI w ps i wr) (fun x8 x9 i x14 x15 x16 x17 x18 x19 x20 x21 x22 x23 x24 x25 x26 x27 x28 x29 x30 x31 x32 x33 x34 x35 x36 x37 x38 x39 x40 x41 x42 x43 x44 x45 x46 x47 x48 x49 x50 x51 x52 x53 x54 x55 x56 x57 x58 x59 x60 wr => ps.length - (intOf i).toNat)
  case atStart =>
    refine ⟨0, ⟨[], [], 0⟩, rfl, by omega, HO.out, rfl, ⟨.inl ⟨by omega, .slice none 0 0, ?_, ⟨by simp [Lib.byteCells], .inl ⟨rfl, by simp [Lib.byteCells]⟩⟩, by simp [Value.ownBlock]⟩, ⟨.slice none 0 0, ?_, World.ownsRow_nil _ _ _ _⟩, ?_⟩, by simp, by simp, by simp, by simp, (((Below.refl _ w).alloc (Nat.le_refl _) _).alloc (by simp) _).alloc (by simp; omega) _⟩
    · have := heap_alloc_new (w.alloc (.cells #[.slice none 0 0] 47)) (.cells #[.pointer none, .slice none 0 0] 205)
      rw [World.size_alloc] at this
      exact (heap_alloc_old _ _ (by simp)).trans this
    · exact (heap_alloc_old _ _ (by simp; omega)).trans ((heap_alloc_old _ _ (by simp)).trans (heap_alloc_new w _))
    · have := heap_alloc_new ((w.alloc (.cells #[.slice none 0 0] 47)).alloc (.cells #[.pointer none, .slice none 0 0] 205)) (.cells #[.int .i64 0] 3)
      simpa using this
  case round =>
    obtain ⟨k, s, rfl, hk, hok, hfin, hF, hg0, hg1, htx, hol, hB⟩ := hrel
    have HOK := Lib.hid hok; clear hok
    have HFIN := Lib.hid hfin; clear hfin
    by_cases hlt : k < ps.length
    · have hp : ps[k]? = some ps[k] := List.getElem?_eq_getElem hlt
      have hmem : ps[k] ∈ ps := List.getElem_mem hlt
      have hdr : ps.drop k = ps[k] :: ps.drop (k + 1) := List.drop_eq_getElem_cons hlt
      generalize ps[k] = p at hp hmem hdr
      obtain ⟨hn0, hn1, hn2⟩ := HN.out p hmem
      have hok' := HOK.out
      have hfin' := HFIN.out
      rw [hdr] at hok' hfin'
      obtain ⟨hcond, hok'⟩ := hok'
      have Hok' := Lib.hid hok'; have Hfin' := Lib.hid hfin'; have Hcond := Lib.hid hcond
      clear hok' hfin' hcond hdr hmem
      rcases HRow.out with ⟨_, h⟩ | ⟨b, off, rfl, hb, hcell⟩
      · rw [h] at hlt; simp at hlt
      have c0 : wr.cell? ⟨b, off + (k * 3 + 0), none⟩ = some (.int .u8 p.kind) := by rw [hB.cell (p := ⟨b, off + (k * 3 + 0), none⟩) hb]; exact hcell k p hp 0 _ rfl
      have c1 : wr.cell? ⟨b, off + (k * 3 + 1), none⟩ = some (.int .i64 p.n) := by rw [hB.cell (p := ⟨b, off + (k * 3 + 1), none⟩) hb]; exact hcell k p hp 1 _ rfl
      have c2 : wr.cell? ⟨b, off + (k * 3 + 2), none⟩ = some (.string p.text) := by rw [hB.cell (p := ⟨b, off + (k * 3 + 2), none⟩) hb]; exact hcell k p hp 2 _ rfl
      simp only [Nat.add_zero, ← Nat.add_assoc] at c0 c1 c2
      clear hcell
      obtain ⟨hb0, hd0, hgb⟩ := hF
      have hpn := heap_alloc_new wr (.cells #[.int .u8 p.kind, .int .i64 p.n, .string p.text] 94)
      have hBp := hB.alloc hB.size (.cells #[.int .u8 p.kind, .int .i64 p.n, .string p.text] 94)
      have hgl := (Array.getElem?_eq_some_iff.1 hgb).1
      have hFp : FSt (wr.alloc (.cells #[.int .u8 p.kind, .int .i64 p.n, .string p.text] 94)) w.heap.size (w.heap.size + 1) w.heap.size (w.heap.size + 1 + 1) s.out s.tx s.gone := by
        obtain ⟨v, hv, ho⟩ := hd0
        exact ⟨hb0.alloc _, ⟨v, (heap_alloc_old _ _ (Array.getElem?_eq_some_iff.1 hv).1).trans hv, ho.alloc _⟩, (heap_alloc_old _ _ hgl).trans hgb⟩
      by_cases hk2 : p.kind = 2
      · have hst : fStep s p = { s with tx := s.tx ++ p.text.data.toList } := if_pos hk2
        have Hst := Lib.hid hst; clear hst
        have e2 : (p.kind == 2) = true := by simpa using hk2
        rw [hk2] at hpn hBp hFp
        obtain ⟨cbs, hbb⟩ := BuF.blk hFp.1
        go_wp2_with (go_at_call 171; refine (bws_k w.heap.size _ _ p.text _ hFp.1 (by rw [Lib.byteCells_length]; omega) (by have := hB.size; simp; omega)).mono ?_; rintro e w1 ⟨rfl, hb1, hB1, hk1⟩)
        go_roundw
        case rel =>
          refine ⟨k + 1, fStep s p, by go_num, by omega, Hok'.out, Hfin'.out, ?_⟩
          rw [Hst.out]
          refine ⟨⟨?_, hFp.2.1.kept hk1 hbb, kept_box hk1 hbb hFp.2.2 (by decide) (by decide)⟩, hg0, by dsimp only; omega, by simp; omega, by dsimp only; omega, hBp.trans hB1⟩
          rw [Lib.strCells_eq] at hb1
          rw [Lib.byteCells_append]
          exact hb1
        case measure => simp [intOf]; omega
      · by_cases hk3 : p.kind = 3
        · have hst : fStep s p = { s with gone := s.gone + p.n } := by unfold fStep; rw [if_neg hk2, if_pos hk3]
          have Hst := Lib.hid hst; clear hst
          have e2 : (p.kind == 2) = false := by simpa using hk2
          have e3 : (p.kind == 3) = true := by simpa using hk3
          rw [hk3] at hBp
          obtain ⟨cg0, fg0⟩ := box1 hgb
          have hz : IntKind.i64.wrap (s.gone + p.n) = s.gone + p.n := IntWalk.i64_in _ (by omega)
          go_wp2
          go_roundw
          case rel =>
            refine ⟨k + 1, fStep s p, by go_num, by omega, Hok'.out, Hfin'.out, ?_⟩
            rw [Hst.out]
            obtain ⟨v, hv, ho⟩ := hd0
            have hsz : (wr.setCell ⟨w.heap.size + 1 + 1, 0, none⟩ (.int .i64 (s.gone + p.n))).heap.size = wr.heap.size := by simp [World.setCell]
            have hlv := (Array.getElem?_eq_some_iff.1 hv).1
            have h2 : (wr.setCell ⟨w.heap.size + 1 + 1, 0, none⟩ (.int .i64 (s.gone + p.n))).heap[w.heap.size]? = some (.cells #[v] 47 (0, 0)) := (set_keep hgb hv (by decide) _).trans hv
            have h3 := box_set (u := .int .i64 (s.gone + p.n)) hgb
            have h4 : (wr.setCell ⟨w.heap.size + 1 + 1, 0, none⟩ (.int .i64 (s.gone + p.n))).ownsRow w.heap.size 94 3 v s.out.length (pcsL s.out) := own_set ho hgb (by decide) _
            refine ⟨⟨(hb0.same (SameBy.set hgb (by decide) (by decide) _)).alloc _, ⟨v, (heap_alloc_old _ _ (by rw [hsz]; exact hlv)).trans h2, h4.alloc _⟩, (heap_alloc_old _ _ (by rw [hsz]; exact hgl)).trans h3⟩, by show 0 ≤ s.gone + p.n; omega, by show s.gone + p.n ≤ ((k + 1 : Nat) : Int) * 1048576; omega, Nat.le_trans htx (Nat.mul_le_mul_right _ (Nat.le_succ k)), Nat.le_trans hol (Nat.mul_le_mul_right _ (Nat.le_succ k)), (hB.setCell (p := ⟨w.heap.size + 1 + 1, 0, none⟩) (show w.heap.size ≤ w.heap.size + 1 + 1 by omega) _).alloc (by rw [hsz]; exact hB.size) _⟩
          case measure => simp [intOf]; omega
        · have hst : fStep s p = ⟨flushS s.out s.tx s.gone ++ [p], [], 0⟩ := by unfold fStep; rw [if_neg hk2, if_neg hk3]
          have Hst := Lib.hid hst; clear hst
          have e2 : (p.kind == 2) = false := by simpa using hk2
          have e3 : (p.kind == 3) = false := by simpa using hk3
          obtain ⟨hc1, hc2⟩ := Hcond.out hk2 hk3
          have hfl := flushS_len s.out s.tx s.gone
          have fl := flush_two w.heap.size (w.heap.size + 1) w.heap.size (w.heap.size + 1 + 1) s.out s.tx s.gone _ hFp hc1 hg0 (by omega) (by omega) (by omega) hBp.size
          generalize flushS s.out s.tx s.gone = F at *
          obtain ⟨v0, hv0, ho0⟩ := hFp.2.1
          have hpne : some wr.heap.size ≠ v0.ownBlock := by
            obtain ⟨v, hv, ho⟩ := hd0
            rw [heap_alloc_old _ _ (Array.getElem?_eq_some_iff.1 hv).1, hv] at hv0
            have hv0 : v = v0 := by injection hv0 with hv0; injection hv0 with hv0 _ _; injection hv0 with h0; injection h0
            subst hv0
            intro h
            have := (ho.lt _ h.symm).2
            omega
          rcases hlast : F.getLast? with _ | q
          · have hF0 : F = [] := List.getLast?_eq_none_iff.1 hlast
            subst hF0
            go_wp2_with (first | (go_at_call 258; refine fl.mono ?_; rintro e w1 ⟨rfl, hF1, hB1, hP1⟩; have hp1 := (hP1 _ _ _ hpn hv0 hpne).trans hpn; obtain ⟨hb1, ⟨v1, hv1, ho1⟩, hg1'⟩ := hF1; obtain ⟨ao, cp, rfl⟩ := own_slice ho1; obtain ⟨hcv1, hfv1⟩ := box1 hv1; obtain ⟨q0, q1, q2⟩ := blk3' hp1; have hl1 := (Array.getElem?_eq_some_iff.1 hv1).1; have hlg1 := (Array.getElem?_eq_some_iff.1 hg1').1) | (at_builtin; refine wpList_append_own _ rfl _ _ 47 rfl w.heap.size 94 i0 _ 3 32 Tryz.underlying47 hi hz0 hz1 hz2 rfl (by decide) _ _ _ rfl (ho1.alloc _) ⟨_, 0, none⟩ 1 1 (pcL p) rfl rfl (pieces_new _ _ _) (pcL_ones _) (by unfold maxLen; simp) (by simp) (by have := (hBp.trans hB1).size; simp; omega) ?_; intro v' w3 hown' hgrow _; obtain ⟨ao', cp', rfl⟩ := own_slice hown'; have hb3 := (hgrow.block w.heap.size (by simp; omega) (own_ne ho1 hv1 (by decide))).trans ((heap_alloc_old _ _ hl1).trans hv1); obtain ⟨hc3, hf3⟩ := box1 hb3; have hg3 := (hgrow.block (w.heap.size + 1 + 1) (by simp; omega) (own_ne ho1 hg1' (by decide))).trans ((heap_alloc_old _ _ hlg1).trans hg1')))
            go_roundw
            case rel =>
              refine ⟨k + 1, fStep s p, by go_num, by omega, Hok'.out, Hfin'.out, ?_⟩
              rw [Hst.out]
              have hbx := (hBp.trans hB1).size
              have hrv := rv_put hb3 hown' (by decide)
              have hs := ((SameBy.alloc w1 _).trans (SameBy.grown hgrow (ho1.alloc _) (by decide) (by decide))).trans (SameBy.set hb3 (by decide) (by decide) (.slice ao' (([] : List PcV).length + 1) cp'))
              have hB4 := (((hBp.trans hB1).alloc hbx (.cells (pcL p).toArray 94)).grown hgrow (by simp; omega) (fun k hk => (ho1.lt k hk).1)).setCell (p := ⟨w.heap.size, 0, none⟩) (Nat.le_refl _) (.slice ao' (([] : List PcV).length + 1) cp')
              refine ⟨⟨BuF.same hb1 hs, ⟨.slice ao' (([] : List PcV).length + 1) cp', hrv.1, ?_⟩, (set_keep hb3 hg3 (by decide) _).trans hg3⟩, by simp, by dsimp only; omega, by simp, by simp at *; omega, hB4⟩
              rw [List.length_append, pcsL_snoc]
              exact hrv.2
            case measure => simp [intOf]; omega
          · have hq := hc2 q hlast
            have hne0 : F ≠ [] := fun h => by rw [h] at hlast; simp at hlast
            have hF0 : 0 < F.length := List.length_pos_iff.2 hne0
            have hgl2 : F[F.length - 1]? = some q := by rw [← hlast, List.getLast?_eq_getElem?]
            have d1 : decide ((0 : Int) < (F.length : Int)) = true := by simp; omega
            have d2 : (q.kind == 1) = false := by simpa using hq
            have d3 : (F.length : Int) - 1 = ((F.length - 1 : Nat) : Int) := by omega
            have Hlast := Lib.hid hlast; clear hlast
            go_wp2_with (first | (go_at_call 258; refine fl.mono ?_; rintro e w1 ⟨rfl, hF1, hB1, hP1⟩; have hp1 := (hP1 _ _ _ hpn hv0 hpne).trans hpn; obtain ⟨hb1, ⟨v1, hv1, ho1⟩, hg1'⟩ := hF1; obtain ⟨g, cp, rfl, hq0⟩ := own_last ho1 hgl2; obtain ⟨hcv1, hfv1⟩ := box1 hv1; obtain ⟨q0, q1, q2⟩ := blk3' hp1; have hl1 := (Array.getElem?_eq_some_iff.1 hv1).1; have hlg1 := (Array.getElem?_eq_some_iff.1 hg1').1) | (at_builtin; refine wpList_append_own _ rfl _ _ 47 rfl w.heap.size 94 i0 _ 3 32 Tryz.underlying47 hi hz0 hz1 hz2 rfl (by decide) _ _ _ rfl (ho1.alloc _) ⟨_, 0, none⟩ 1 1 (pcL p) rfl rfl (pieces_new _ _ _) (pcL_ones _) (by unfold maxLen; omega) (by omega) (by have := (hBp.trans hB1).size; simp; omega) ?_; intro v' w3 hown' hgrow _; obtain ⟨ao', cp', rfl⟩ := own_slice hown'; have hb3 := (hgrow.block w.heap.size (by simp; omega) (own_ne ho1 hv1 (by decide))).trans ((heap_alloc_old _ _ hl1).trans hv1); obtain ⟨hc3, hf3⟩ := box1 hb3; have hg3 := (hgrow.block (w.heap.size + 1 + 1) (by simp; omega) (own_ne ho1 hg1' (by decide))).trans ((heap_alloc_old _ _ hlg1).trans hg1')))
            go_roundw
            case rel =>
              refine ⟨k + 1, fStep s p, by go_num, by omega, Hok'.out, Hfin'.out, ?_⟩
              rw [Hst.out]
              have hbx := (hBp.trans hB1).size
              have hrv := rv_put hb3 hown' (by decide)
              have hs := ((SameBy.alloc w1 _).trans (SameBy.grown hgrow (ho1.alloc _) (by decide) (by decide))).trans (SameBy.set hb3 (by decide) (by decide) (.slice ao' (F.length + 1) cp'))
              have hB4 := (((hBp.trans hB1).alloc hbx (.cells (pcL p).toArray 94)).grown hgrow (by simp; omega) (fun k hk => (ho1.lt k hk).1)).setCell (p := ⟨w.heap.size, 0, none⟩) (Nat.le_refl _) (.slice ao' (F.length + 1) cp')
              refine ⟨⟨BuF.same hb1 hs, ⟨.slice ao' (F.length + 1) cp', hrv.1, ?_⟩, (set_keep hb3 hg3 (by decide) _).trans hg3⟩, by simp, by dsimp only; omega, by simp, by simp at *; omega, hB4⟩
              rw [List.length_append, pcsL_snoc]
              exact hrv.2
            case measure => simp [intOf]; omega
    · have hdn : ps.drop k = [] := List.drop_eq_nil_of_le (by omega)
      have hok' := HOK.out
      have hfin' := HFIN.out
      rw [hdn] at hok' hfin'
      have hfin' := Lib.hid (show flushS s.out s.tx s.gone = finF ps ⟨[], [], 0⟩ from hfin')
      have hok' := Lib.hid (show s.tx = [] ∨ s.gone = 0 from hok')
      go_wp2_with (go_at_call 258; refine (flush_two w.heap.size _ _ _ s.out s.tx s.gone _ hF hok'.out hg0 (by omega) (by omega) (by omega) hB.size).mono ?_; rintro e w1 ⟨rfl, hF1, hB1, _⟩; obtain ⟨hb1, ⟨v1, hv1, ho1⟩, hg1'⟩ := hF1; obtain ⟨ao, cp, rfl⟩ := own_slice ho1; obtain ⟨hcv1, hfv1⟩ := box1 hv1)
      go_returns
      rw [← hfin'.out]
      exact ⟨_, rfl, ho1, hB.trans hB1⟩
theorem normalize_any (a : Option Addr) (c : Nat) (ps : List PcV) (w : World) (hr : PRow w a ps) (hs : ps.length ≤ 4096) (hc : ps.length ≤ c) (hok : okF ps ⟨[], [], 0⟩) (hn : ∀ p ∈ ps, 0 ≤ p.n ∧ p.n ≤ 1048576 ∧ p.text.size ≤ 1048576) (hl : (lenS ps).2.2 = 0) :
    Calls Tryz.prog 277 #[.slice a ps.length c] w fun e w' => ∃ v, e = .returned (.tuple #[v, .int .i64 0]) ∧ w'.ownsRow w.heap.size 94 3 v (finF ps ⟨[], [], 0⟩).length (pcsL (finF ps ⟨[], [], 0⟩)) ∧ Below w.heap.size w w' := by
  have h1 := dcheck_any a c ps w hr (by omega) hc
  rw [hl] at h1
  have h2 := fun w2 (hB : Below w.heap.size w w2) => form_any a c ps w2 (hr.on hB) hs hc hok hn
  have hl := Lib.hid hl; have hok := Lib.hid hok; have hn := Lib.hid hn; have hr := Lib.hid hr
  go_enter Tryz.func277, Tryz.ntmps277
  go_wp2_with (first | (go_at_call 213; refine h1.mono ?_; rintro e w1 ⟨rfl, hB1⟩) | (go_at_call 214; refine (h2 _ hB1).mono ?_; rintro e w2 ⟨v, rfl, ho, hB2⟩; obtain ⟨ao, cp, rfl⟩ := own_slice ho))
  go_returns
  exact ⟨_, rfl, own_mono hB1.size ho, hB1.trans (hB2.mono hB1.size)⟩
theorem repD_eq (n at_ k : Int) (t : ByteArray) : putS (putS (putS (putS [] ⟨1, at_, ⟨#[]⟩⟩) ⟨2, 0, t⟩) ⟨3, k, ⟨#[]⟩⟩) ⟨1, n - at_ - k, ⟨#[]⟩⟩ = repD n at_ k t := by
  have e0 : (⟨#[]⟩ : ByteArray).size = 0 := rfl
  unfold putS repD
  simp only [e0, ne_eq, not_true, or_false, Int.lt_irrefl, false_or]
  (repeat' split) <;> simp
theorem repD_len (n at_ k : Int) (t : ByteArray) : (repD n at_ k t).length ≤ 4 := by
  unfold repD; (repeat' split) <;> simp
theorem putS_len (d : List PcV) (p : PcV) : (putS d p).length ≤ d.length + 1 := by unfold putS; split <;> simp
def RepOK (n at_ k : Int) (t : ByteArray) : Prop := 0 ≤ at_ ∧ 0 ≤ k ∧ at_ + k ≤ n ∧ n ≤ 100000 ∧ t.size ≤ 100000 ∧ ((k = 0 ∧ t.size ≠ 0) ∨ (0 < k ∧ t.size = 0))
theorem rep_ok {n at_ k : Int} {t : ByteArray} (h : RepOK n at_ k t) : okF (repD n at_ k t) ⟨[], [], 0⟩ ∧ finF (repD n at_ k t) ⟨[], [], 0⟩ = repD n at_ k t ∧ (∀ p ∈ repD n at_ k t, 0 ≤ p.n ∧ p.n ≤ 1048576 ∧ p.text.size ≤ 1048576) ∧ lenS (repD n at_ k t) = (n, n - k + t.size, 0) := by
  obtain ⟨h1, h2, h3, h4, h5, h6⟩ := h
  have e0 : (⟨#[]⟩ : ByteArray).size = 0 := rfl
  rcases h6 with ⟨hk, ht⟩ | ⟨hk, ht⟩
  · subst hk
    have htl : t.data.toList ≠ [] := by intro h; apply ht; have := congrArg List.length h; simpa using this
    by_cases ha : 0 < at_ <;> by_cases hr : at_ < n <;> refine ⟨?_, ?_, ?_, ?_⟩ <;> simp [repD, ha, hr, ht, okF, finF, fStep, flushS, flushT, flushG, htl, lenS, lenF, pcB, pcP, pcIn, pcOut, e0] <;> (try omega) <;> (try (repeat' split) <;> simp <;> omega)
  · have htt : t.data.toList = [] := List.eq_nil_of_length_eq_zero (by simpa using ht)
    by_cases ha : 0 < at_ <;> by_cases hr : k < n - at_ <;> refine ⟨?_, ?_, ?_, ?_⟩ <;> simp [repD, ha, hr, ht, hk, okF, finF, fStep, flushS, flushT, flushG, lenS, lenF, pcB, pcP, pcIn, pcOut, e0] <;> (try omega) <;> (try (repeat' split) <;> simp <;> omega)
theorem prow_own {w : World} {B : Nat} {ao : Option Addr} {n cp : Nat} {d : List PcV} (hn : n = d.length) (h : w.ownsRow B 94 3 (.slice ao n cp) n (pcsL d)) : PRow w ao d ∧ n ≤ cp := by
  rcases h.2 with ⟨h1, h2⟩ | ⟨g, cap, cur, h1, hB, hg, h2, h3, h4, h5⟩
  · injection h1 with h1 h6 h7
    subst h1
    refine ⟨.inl ⟨rfl, List.eq_nil_of_length_eq_zero (by omega)⟩, by omega⟩
  · injection h1 with h1 h6 h7
    subst h1; subst h7
    refine ⟨.inr ⟨g, 0, rfl, (Array.getElem?_eq_some_iff.1 hg).1, fun k p hk i u hu => ?_⟩, h2⟩
    have hi : i < 3 := by have := (List.getElem?_eq_some_iff.1 hu).1; rwa [pcL_len] at this
    have h6 := pcsL_get d k i hi
    rw [hk] at h6
    have h7 : (pcsL d)[k * 3 + i]? = some u := h6.trans hu
    have hlt := (List.getElem?_eq_some_iff.1 h7).1
    rw [← h5, List.getElem?_take] at h7
    rw [← h5, List.length_take] at hlt
    rw [if_pos (by omega)] at h7
    simp only [World.cell?, hg, Nat.zero_add]
    simpa using h7
theorem replace_any (n at_ k : Int) (t : ByteArray) (w : World) (h : RepOK n at_ k t) :
    Calls Tryz.prog 239 #[.int .i64 n, .int .i64 at_, .int .i64 k, .string t] w fun e w' => ∃ v, e = .returned (.tuple #[v, .int .i64 0]) ∧ w'.ownsRow w.heap.size 94 3 v (repD n at_ k t).length (pcsL (repD n at_ k t)) ∧ Below w.heap.size w w' := by
  obtain ⟨hok, hfin, hsm, hlen⟩ := rep_ok h
  obtain ⟨h1, h2, h3, h4, h5, h6⟩ := h
  have hr4 := repD_len n at_ k t
  have hrd := repD_eq n at_ k t
  have l1 := putS_len [] ⟨1, at_, ⟨#[]⟩⟩
  have l2 := putS_len (putS [] ⟨1, at_, ⟨#[]⟩⟩) ⟨2, 0, t⟩
  have l3 := putS_len (putS (putS [] ⟨1, at_, ⟨#[]⟩⟩) ⟨2, 0, t⟩) ⟨3, k, ⟨#[]⟩⟩
  have HR := Lib.hid hrd; clear hrd
  have w1 : IntKind.i64.wrap (n - at_) = n - at_ := IntWalk.i64_in _ (by omega)
  have w2 : IntKind.i64.wrap (n - k) = n - k := IntWalk.i64_in _ (by omega)
  have w3 : IntKind.i64.wrap (1048576 - (n - k)) = 1048576 - (n - k) := IntWalk.i64_in _ (by omega)
  have w4 : IntKind.i64.wrap (n - at_ - k) = n - at_ - k := IntWalk.i64_in _ (by omega)
  have b1 : decide (at_ < 0) = false := by simp; omega
  have b2 : decide (n < at_) = false := by simp; omega
  have b3 : decide (k < 0) = false := by simp; omega
  have b4 : decide (n - at_ < k) = false := by simp; omega
  have b5 : decide (1048576 < n) = false := by simp; omega
  have b6 : decide (1048576 - (n - k) < (t.size : Int)) = false := by simp; omega
  have hd0 : DVar (w.alloc (.cells #[.slice none 0 0] 47)) w.heap.size w.heap.size [] := ⟨_, heap_alloc_new w _, World.ownsRow_nil _ _ _ _⟩
  have hB0 := (Below.refl w.heap.size w).alloc (Nat.le_refl _) (.cells #[.slice none 0 0] 47)
  clear h1 h2 h3 h4 h5 h6
  go_enter Tryz.func239, Tryz.ntmps239
  go_wp2_with (first | (go_at_call 277; refine (normalize_any ao cp _ _ hp4 (by omega) hcp4 hok hsm (by rw [hlen])).mono ?_; rw [hfin]; rintro e x5 ⟨v5, rfl, ho5, hB5⟩; obtain ⟨ao5, cp5, rfl⟩ := own_slice ho5) | (go_at_call 276; refine (put_any ⟨1, n - at_ - k, ⟨#[]⟩⟩ w.heap.size _ _ _ hd3 (by simp at l1 l2 l3 ⊢; omega) (Nat.le_refl _)).mono ?_; rintro e x4 ⟨rfl, hd4, hC4⟩; have hB4 := hB3.trans hC4; rw [HR.out] at hd4; obtain ⟨v4, hv4, ho4⟩ := hd4; obtain ⟨ao, cp, rfl⟩ := own_slice ho4; obtain ⟨hc4, hf4⟩ := box1 hv4; obtain ⟨hp4, hcp4⟩ := prow_own rfl ho4) | (go_at_call 276; refine (put_any ⟨3, k, ⟨#[]⟩⟩ w.heap.size _ _ _ hd2 (by simp at l1 l2 ⊢; omega) (Nat.le_refl _)).mono ?_; rintro e x3 ⟨rfl, hd3, hC3⟩; have hB3 := hB2.trans hC3) | (go_at_call 276; refine (put_any ⟨2, 0, t⟩ w.heap.size _ _ _ hd1 (by simp at l1 ⊢; omega) (Nat.le_refl _)).mono ?_; rintro e x2 ⟨rfl, hd2, hC2⟩; have hB2 := hB1.trans hC2) | (go_at_call 276; refine (put_any ⟨1, at_, ⟨#[]⟩⟩ w.heap.size _ _ _ hd0 (by simp) (Nat.le_refl _)).mono ?_; rintro e x1 ⟨rfl, hd1, hC1⟩; have hB1 := hB0.trans hC1))
  go_returns
  exact ⟨_, rfl, own_mono hB4.size ho5, hB4.trans (hB5.mono hB4.size)⟩
end Go.Proofs.YtdeiocppghhfdaaGreat
namespace Go.Proofs.YtdeiocppghhfdaaGreat
set_option linter.unusedVariables false
set_option linter.unusedSimpArgs false
set_option maxRecDepth 100000
set_option maxHeartbeats 8000000
structure MkV where
  id : Int
  at_ : Int
  grav : Int
deriving DecidableEq, Inhabited
def MkIn (n : Int) (m : MkV) : Prop := 1 ≤ m.id ∧ m.id ≤ 4294967295 ∧ (m.grav = 0 ∨ m.grav = 1) ∧ 0 ≤ m.at_ ∧ m.at_ ≤ n
def MkOK (n : Int) (l : List MkV) : Prop := l.length ≤ 64 ∧ l.Pairwise (fun a b => a.id < b.id) ∧ ∀ m ∈ l, MkIn n m
def idxM (id : Int) (l : List MkV) : Nat := l.countP fun m => decide (m.id < id)
def hasM (id : Int) (l : List MkV) : Bool := l.any fun m => m.id == id
def loM (id : Int) (l : List MkV) : List MkV := l.filter fun m => decide (m.id < id)
def hiM (id : Int) (l : List MkV) : List MkV := l.filter fun m => decide (id < m.id)
def setM (m : MkV) (l : List MkV) : List MkV := loM m.id l ++ m :: hiM m.id l
def dropM (id : Int) (l : List MkV) : List MkV := l.filter fun m => m.id != id
def findM (id : Int) (l : List MkV) : Option MkV := l.find? fun m => m.id == id
theorem idxM_le (id : Int) (l : List MkV) : idxM id l ≤ l.length := List.countP_le_length
theorem sp_take (id : Int) : ∀ {l : List MkV}, l.Pairwise (fun a b => a.id < b.id) → l.take (idxM id l) = loM id l ∧ l.drop (idxM id l) = (if hasM id l then l.filter (fun m => m.id == id) ++ hiM id l else hiM id l) ∧ (l.filter (fun m => m.id == id)).length = if hasM id l then 1 else 0
  | [], _ => by simp [idxM, loM, hiM, hasM]
  | x :: l, h => by
    rw [List.pairwise_cons] at h
    obtain ⟨h1, h2⟩ := h
    have ih := sp_take id h2
    by_cases hx : x.id < id
    · have e1 : idxM id (x :: l) = idxM id l + 1 := by simp [idxM, hx]
      have e2 : loM id (x :: l) = x :: loM id l := by simp [loM, hx]
      have e3 : hiM id (x :: l) = hiM id l := by simp only [hiM, List.filter_cons]; rw [if_neg (by simp; omega)]
      have e4 : (x.id == id) = false := by simp; omega
      have e5 : hasM id (x :: l) = hasM id l := by simp [hasM, e4]
      rw [e1, e2, e3, e5, List.filter_cons, e4]
      simp only [List.take_succ_cons, List.drop_succ_cons, Bool.false_eq_true, if_false]
      exact ⟨by rw [ih.1], ih.2.1, ih.2.2⟩
    · have e1 : idxM id (x :: l) = 0 := by
        unfold idxM; rw [List.countP_eq_zero]; intro m hm; rcases List.mem_cons.1 hm with rfl | hm
        · simpa using hx
        · have := h1 m hm; simp; omega
      have e2 : loM id (x :: l) = [] := by
        unfold loM; rw [List.filter_eq_nil_iff]; intro m hm; rcases List.mem_cons.1 hm with rfl | hm
        · simpa using hx
        · have := h1 m hm; simp; omega
      have e3 : hiM id l = l := by unfold hiM; rw [List.filter_eq_self]; intro m hm; have := h1 m hm; simp; omega
      have e6 : l.filter (fun m => m.id == id) = [] := by rw [List.filter_eq_nil_iff]; intro m hm; have := h1 m hm; simp; omega
      have e7 : hasM id l = false := by unfold hasM; rw [List.any_eq_false]; intro m hm; have := h1 m hm; simp; omega
      rw [e1, e2]
      refine ⟨rfl, ?_, ?_⟩
      · by_cases he : x.id = id
        · have : hasM id (x :: l) = true := by simp [hasM, he]
          rw [this, if_pos rfl, List.filter_cons, if_pos (by simpa using he), e6]
          have : hiM id (x :: l) = l := by rw [hiM, List.filter_cons, if_neg (by simp; omega)]; exact e3
          rw [this]; rfl
        · have : hasM id (x :: l) = false := by unfold hasM; rw [List.any_cons]; have : hasM id l = false := e7; unfold hasM at this; rw [this]; simpa using he
          rw [this, if_neg (by simp)]
          have : hiM id (x :: l) = x :: l := by rw [hiM, List.filter_cons, if_pos (by simp; omega)]; exact congrArg _ e3
          rw [this]; rfl
      · by_cases he : x.id = id
        · have : hasM id (x :: l) = true := by simp [hasM, he]
          rw [this, if_pos rfl, List.filter_cons, if_pos (by simpa using he), e6]; rfl
        · have : hasM id (x :: l) = false := by unfold hasM; rw [List.any_cons]; have : hasM id l = false := e7; unfold hasM at this; rw [this]; simpa using he
          rw [this, List.filter_cons, if_neg (by simpa using he), e6]; rfl
theorem sp_is {id : Int} {l : List MkV} (h : l.Pairwise (fun a b => a.id < b.id)) (hs : hasM id l = true) : ∃ m, l[idxM id l]? = some m ∧ m.id = id ∧ l.drop (idxM id l + 1) = hiM id l ∧ findM id l = some m ∧ m ∈ l := by
  obtain ⟨h1, h2, h3⟩ := sp_take id h
  rw [hs, if_pos rfl] at h2 h3
  obtain ⟨m, hm⟩ := List.length_eq_one_iff.1 h3
  have hmem : m ∈ l.filter (fun m => m.id == id) := by rw [hm]; simp
  have hid : m.id = id := by have := (List.mem_filter.1 hmem).2; simpa using this
  refine ⟨m, ?_, hid, ?_, ?_, (List.mem_filter.1 hmem).1⟩
  · have : (l.drop (idxM id l))[0]? = some m := by rw [h2, hm]; rfl
    rwa [List.getElem?_drop, Nat.add_zero] at this
  · have : (l.drop (idxM id l)).drop 1 = hiM id l := by rw [h2, hm]; rfl
    rwa [List.drop_drop] at this
  · unfold findM; rw [← List.head?_filter, hm]; rfl
theorem sp_no {id : Int} {l : List MkV} (h : l.Pairwise (fun a b => a.id < b.id)) (hs : hasM id l = false) : l.drop (idxM id l) = hiM id l ∧ (∀ m, l[idxM id l]? = some m → m.id ≠ id) ∧ findM id l = none ∧ dropM id l = l := by
  obtain ⟨h1, h2, h3⟩ := sp_take id h
  rw [hs] at h2
  have hall : ∀ m ∈ l, (m.id == id) = false := fun m hm => by unfold hasM at hs; rw [List.any_eq_false] at hs; simpa using hs m hm
  refine ⟨by simpa using h2, ?_, ?_, ?_⟩
  · intro m hm he
    have := hall m (List.mem_of_getElem? hm)
    simp [he] at this
  · unfold findM; rw [List.find?_eq_none]; intro m hm; rw [hall m hm]; simp
  · unfold dropM; rw [List.filter_eq_self]; intro m hm; simp [bne, hall m hm]
theorem drop_eq {id : Int} {l : List MkV} (h : l.Pairwise (fun a b => a.id < b.id)) : dropM id l = loM id l ++ hiM id l := by
  obtain ⟨h1, h2, h3⟩ := sp_take id h
  have : l = loM id l ++ l.drop (idxM id l) := by rw [← h1]; exact (List.take_append_drop _ _).symm
  have hf : dropM id l = dropM id (loM id l ++ l.drop (idxM id l)) := by rw [← this]
  rw [hf]
  have a1 : dropM id (loM id l) = loM id l := by unfold dropM; rw [List.filter_eq_self]; intro m hm; have := (List.mem_filter.1 hm).2; simp at this; simp; omega
  have a2 : dropM id (hiM id l) = hiM id l := by unfold dropM; rw [List.filter_eq_self]; intro m hm; have := (List.mem_filter.1 hm).2; simp at this; simp; omega
  have hap : ∀ a b, dropM id (a ++ b) = dropM id a ++ dropM id b := fun a b => by unfold dropM; rw [List.filter_append]
  rw [hap, a1, h2]
  split
  · rw [hap, a2]
    have : dropM id (l.filter fun m => m.id == id) = [] := by unfold dropM; rw [List.filter_eq_nil_iff]; intro m hm; have := (List.mem_filter.1 hm).2; simpa using this
    rw [this]; rfl
  · rw [a2]
theorem setM_pw {m : MkV} {l : List MkV} (h : l.Pairwise (fun a b => a.id < b.id)) : (setM m l).Pairwise (fun a b => a.id < b.id) := by
  unfold setM
  rw [List.pairwise_append]
  refine ⟨h.filter _, ?_, ?_⟩
  · rw [List.pairwise_cons]
    exact ⟨fun x hx => by have := (List.mem_filter.1 hx).2; simpa using this, h.filter _⟩
  · intro a ha b hb
    have := (List.mem_filter.1 ha).2
    simp at this
    rcases List.mem_cons.1 hb with rfl | hb
    · exact this
    · have := (List.mem_filter.1 hb).2; simp at this; omega
theorem setM_len {m : MkV} {l : List MkV} (h : l.Pairwise (fun a b => a.id < b.id)) : (setM m l).length = if hasM m.id l then l.length else l.length + 1 := by
  obtain ⟨h1, h2, h3⟩ := sp_take m.id h
  have e : l.length = (loM m.id l).length + (l.drop (idxM m.id l)).length := by rw [← h1, ← List.length_append, List.take_append_drop]
  unfold setM
  rw [List.length_append, List.length_cons]
  rw [h2] at e
  cases hs : hasM m.id l <;> rw [hs] at e h3 <;> simp at e h3 ⊢ <;> omega
theorem setM_ok {n : Int} {m : MkV} {l : List MkV} (h : MkOK n l) (hm : MkIn n m) (hl : hasM m.id l = true ∨ l.length < 64) : MkOK n (setM m l) := by
  refine ⟨?_, setM_pw h.2.1, ?_⟩
  · rw [setM_len h.2.1]; have := h.1; split
    · exact this
    · rcases hl with hl | hl
      · simp_all
      · omega
  · intro x hx
    rcases List.mem_append.1 hx with hx | hx
    · exact h.2.2 x (List.mem_filter.1 hx).1
    · rcases List.mem_cons.1 hx with rfl | hx
      · exact hm
      · exact h.2.2 x (List.mem_filter.1 hx).1
theorem dropM_ok {n id : Int} {l : List MkV} (h : MkOK n l) : MkOK n (dropM id l) :=
  ⟨Nat.le_trans (List.length_filter_le _ _) h.1, h.2.1.filter _, fun x hx => h.2.2 x (List.mem_filter.1 hx).1⟩
def leftF (p : Int) : List PcV → Int → Int → Int → Int
  | [], _, _, r => r
  | c :: d, a, t, r => if c.kind = 2 then leftF p d a (t + c.text.size) r else if c.kind = 3 then leftF p d (a + c.n) t r else if p ≤ a then r else leftF p d (a + c.n) (t + c.n) (t + min c.n (p - a))
def rightF (p : Int) : List PcV → Int → Int → Int → Int
  | [], _, _, e => e
  | c :: d, a, t, e => if c.kind = 2 then rightF p d a (t + c.text.size) e else if c.kind = 3 then rightF p d (a + c.n) t e else if p < a + c.n then t + max 0 (p - a) else rightF p d (a + c.n) (t + c.n) e
def posS (d : List PcV) (p g : Int) : Int := if g = 0 then leftF p d 0 0 0 else rightF p d 0 0 (lenS d).2.1
def shiftM (d : List PcV) (l : List MkV) : List MkV := l.map fun m => { m with at_ := posS d m.at_ m.grav }
end Go.Proofs.YtdeiocppghhfdaaGreat
namespace Go.Proofs.YtdeiocppghhfdaaGreat
set_option linter.unusedVariables false
set_option linter.unusedSimpArgs false
set_option maxRecDepth 100000
set_option maxHeartbeats 8000000
open Go.RowKit Go.Lib Go.Shelf
def mkL (m : MkV) : List Value := [.int .u32 m.id, .int .i64 m.at_, .int .u8 m.grav]
def mksL (l : List MkV) : List Value := l.flatMap mkL
theorem mkL_len (m : MkV) : (mkL m).length = 3 := rfl
theorem mksL_len (l : List MkV) : (mksL l).length = l.length * 3 := by
  induction l with
  | nil => rfl
  | cons p ps ih => show (mkL p ++ mksL ps).length = _; rw [List.length_append, ih, mkL_len, List.length_cons]; omega
theorem mksL_app (a b : List MkV) : mksL (a ++ b) = mksL a ++ mksL b := by unfold mksL; simp
theorem mksL_one (m : MkV) : mksL [m] = mkL m := by unfold mksL; simp
theorem mksL_take (l : List MkV) (k : Nat) (hk : k ≤ l.length) : (mksL l).take (k * 3) = mksL (l.take k) := by
  have e : mksL l = mksL (l.take k) ++ mksL (l.drop k) := by rw [← mksL_app, List.take_append_drop]
  rw [e, List.take_left' (by rw [mksL_len, List.length_take, Nat.min_eq_left hk])]
theorem mksL_drop (l : List MkV) (k : Nat) (hk : k ≤ l.length) : (mksL l).drop (k * 3) = mksL (l.drop k) := by
  have e : mksL l = mksL (l.take k) ++ mksL (l.drop k) := by rw [← mksL_app, List.take_append_drop]
  rw [e, List.drop_left' (by rw [mksL_len, List.length_take, Nat.min_eq_left hk])]
theorem mksL_get (l : List MkV) : ∀ (k i : Nat), i < 3 → (mksL l)[k * 3 + i]? = (l[k]?).bind fun p => (mkL p)[i]? := by
  induction l with
  | nil => intro k i _; simp [mksL]
  | cons p ps ih =>
    intro k i hi
    show (mkL p ++ mksL ps)[k * 3 + i]? = _
    cases k with
    | zero => rw [List.getElem?_append_left (by rw [mkL_len]; omega)]; simp
    | succ k => rw [List.getElem?_append_right (by rw [mkL_len]; omega), mkL_len, show (k + 1) * 3 + i - 3 = k * 3 + i by omega, ih k i hi]; simp
theorem mkL_ones (m : MkV) : ∀ u ∈ mkL m, u.oneCell' = true := by
  intro u hu
  unfold mkL at hu
  simp only [List.mem_cons, List.not_mem_nil, or_false] at hu
  rcases hu with rfl | rfl | rfl <;> rfl
theorem mksL_ones (l : List MkV) : ∀ u ∈ mksL l, u.oneCell' = true := by
  intro u hu
  obtain ⟨m, _, h⟩ := List.mem_flatMap.1 hu
  exact mkL_ones m u h
theorem infoMk : (Tryz.prog.info? 74).map (fun i => (i.zero, i.size, i.bytes)) = some (some (.agg #[.int .u32 0, .int .i64 0, .int .u8 0]), 3, 24) := by kernel_rfl
def MRow (W : World) (a : Option Addr) (l : List MkV) : Prop := (a = none ∧ l = []) ∨ ∃ b off, a = some ⟨b, off, none⟩ ∧ b < W.heap.size ∧ ∀ (k : Nat) (p : MkV), l[k]? = some p → ∀ (i : Nat) (u : Value), (mkL p)[i]? = some u → W.cell? ⟨b, off + (k * 3 + i), none⟩ = some u
theorem MRow.on {W W' : World} {a : Option Addr} {l : List MkV} (h : MRow W a l) (hb : Below W.heap.size W W') : MRow W' a l := by
  rcases h with h | ⟨b, off, h1, h2, h3⟩
  · exact .inl h
  · exact .inr ⟨b, off, h1, Nat.lt_of_lt_of_le h2 hb.size, fun k p hp i u hu => by rw [hb.cell (p := ⟨b, off + (k * 3 + i), none⟩) h2]; exact h3 k p hp i u hu⟩
abbrev MOwn (W : World) (B : Nat) (v : Value) (l : List MkV) : Prop := W.ownsRow B 74 3 v l.length (mksL l)
theorem mrow_own {w : World} {B n : Nat} {ao : Option Addr} {cp : Nat} {d : List MkV} (hn : n = d.length) (h : w.ownsRow B 74 3 (.slice ao n cp) n (mksL d)) : MRow w ao d ∧ n ≤ cp := by
  rcases h.2 with ⟨h1, h2⟩ | ⟨g, cap, cur, h1, hB, hg, h2, h3, h4, h5⟩
  · injection h1 with h1 h6 h7
    subst h1
    refine ⟨.inl ⟨rfl, List.eq_nil_of_length_eq_zero (by omega)⟩, by omega⟩
  · injection h1 with h1 h6 h7
    subst h1; subst h7
    refine ⟨.inr ⟨g, 0, rfl, (Array.getElem?_eq_some_iff.1 hg).1, fun k p hk i u hu => ?_⟩, h2⟩
    have hi : i < 3 := by have := (List.getElem?_eq_some_iff.1 hu).1; rwa [mkL_len] at this
    have h6 := mksL_get d k i hi
    rw [hk] at h6
    have h7 : (mksL d)[k * 3 + i]? = some u := h6.trans hu
    have hlt := (List.getElem?_eq_some_iff.1 h7).1
    rw [← h5, List.getElem?_take] at h7
    rw [← h5, List.length_take] at hlt
    rw [if_pos (by omega)] at h7
    simp only [World.cell?, hg, Nat.zero_add]
    simpa using h7
theorem MkOK.get {n : Int} {l : List MkV} (h : MkOK n l) {k : Nat} {m : MkV} (hm : l[k]? = some m) : MkIn n m ∧ (∀ q, (l.take k).getLast? = some q → q.id < m.id) := by
  refine ⟨h.2.2 m (List.mem_of_getElem? hm), fun q hq => ?_⟩
  rw [List.getLast?_eq_getElem?, List.getElem?_take] at hq
  split at hq
  · rename_i hlt
    obtain ⟨h1, h2⟩ := List.getElem?_eq_some_iff.1 hm
    obtain ⟨h3, h4⟩ := List.getElem?_eq_some_iff.1 hq
    have hlen : (l.take k).length = k := by rw [List.length_take]; omega
    have := (List.pairwise_iff_getElem.1 h.2.1) _ _ h3 h1 (by omega)
    rw [h4, h2] at this
    exact this
  · cases hq
def lastId (l : List MkV) : Int := (l.getLast?.map (·.id)).getD 0
theorem lastId_lt {n : Int} {l : List MkV} (h : MkOK n l) {k : Nat} {m : MkV} (hm : l[k]? = some m) : lastId (l.take k) < m.id := by
  obtain ⟨h1, h2⟩ := h.get hm
  unfold lastId
  cases hq : (l.take k).getLast? with
  | none => simp; unfold MkIn at h1; omega
  | some q => simpa using h2 q hq
theorem lastId_take {l : List MkV} {k : Nat} {m : MkV} (hm : l[k]? = some m) : lastId (l.take (k + 1)) = m.id := by
  unfold lastId
  rw [List.take_add_one, hm]
  simp
theorem mcheck_any (a : Option Addr) (c : Nat) (n : Int) (l : List MkV) (w : World) (hr : MRow w a l) (hok : MkOK n l) (hn : 0 ≤ n) :
    Calls Tryz.prog 241 #[.int .i64 n, .slice a l.length c] w fun e w' => e = .returned (.int .i64 0) ∧ Below w.heap.size w w' := by
  have h64 := hok.1
  have d0 : decide (n < 0) = false := by simp; omega
  have d1 : decide ((64 : Int) < (l.length : Int)) = false := by simp; omega
  have HR := Lib.hid hr; have HO := Lib.hid hok; clear hr hok
  go_enter Tryz.func241, Tryz.ntmps241
  go_wp2
  go_loopw [5, 7, 15, 16, 17, 18, 19, 20, 21, 22, 23, 24, 25, 26, 27, 28, 29, 30, 31, 32, 33, 34, 35, 36, 37, 38, 39, 40, 41, 42, 43, 44] (fun last x7 i x16 x17 x18 x19 x20 x21 x22 x23 x24 x25 x26 x27 x28 x29 x30 x31 x32 x33 x34 x35 x36 x37 x38 x39 x40 x41 x42 x43 x44 wr => ∃ k : Nat, i = .int .i64 k ∧ k ≤ l.length ∧ last = .int .u32 (lastId (l.take k)) ∧ Below w.heap.size w wr) (fun last x7 i x16 x17 x18 x19 x20 x21 x22 x23 x24 x25 x26 x27 x28 x29 x30 x31 x32 x33 x34 x35 x36 x37 x38 x39 x40 x41 x42 x43 x44 wr => l.length - (intOf i).toNat)
  case atStart => exact ⟨0, rfl, by omega, rfl, Below.refl _ _⟩
  case round =>
    obtain ⟨k, rfl, hk, rfl, hB⟩ := hrel
    by_cases hlt : k < l.length
    · have hp : l[k]? = some l[k] := List.getElem?_eq_getElem hlt
      generalize l[k] = m at hp
      have h1 := lastId_lt HO.out hp
      obtain ⟨hin, _⟩ := HO.out.get hp
      obtain ⟨i1, i2, i3, i4, i5⟩ := hin
      have hst := lastId_take hp
      have Hst := Lib.hid hst; clear hst
      generalize lastId (l.take k) = lid at *
      rcases HR.out with ⟨_, h⟩ | ⟨b, off, rfl, hb, hcell⟩
      · rw [h] at hlt; simp at hlt
      have c0 : wr.cell? ⟨b, off + (k * 3 + 0), none⟩ = some (.int .u32 m.id) := by rw [hB.cell (p := ⟨b, off + (k * 3 + 0), none⟩) hb]; exact hcell k m hp 0 _ rfl
      have c1 : wr.cell? ⟨b, off + (k * 3 + 1), none⟩ = some (.int .i64 m.at_) := by rw [hB.cell (p := ⟨b, off + (k * 3 + 1), none⟩) hb]; exact hcell k m hp 1 _ rfl
      have c2 : wr.cell? ⟨b, off + (k * 3 + 2), none⟩ = some (.int .u8 m.grav) := by rw [hB.cell (p := ⟨b, off + (k * 3 + 2), none⟩) hb]; exact hcell k m hp 2 _ rfl
      simp only [Nat.add_zero, ← Nat.add_assoc] at c0 c1 c2
      clear hcell
      have d2 : decide (m.id ≤ lid) = false := by simp; omega
      have d3 : decide (m.at_ < 0) = false := by simp; omega
      have d4 : decide (n < m.at_) = false := by simp; omega
      have hBp := hB.alloc hB.size (.cells (mkL m).toArray 74)
      unfold mkL at hBp
      have hg : (m.grav == 0) = true ∨ ((m.grav == 0) = false ∧ (m.grav == 1) = true) := by rcases i3 with h | h <;> simp [h]
      rcases hg with hg | ⟨hg, hg1⟩
      · have hg0 : m.grav = 0 := by simpa using hg
        rw [hg0] at c2 hBp
        clear hg hp i1 i2 i3 i4 i5 h1 hg0
        go_wp2
        go_roundw
        case rel => exact ⟨k + 1, by go_num, by omega, by rw [Hst.out], hBp⟩
        case measure => simp [intOf]; omega
      · have hg0 : m.grav = 1 := by simpa using hg1
        rw [hg0] at c2 hBp
        clear hg hg1 hp i1 i2 i3 i4 i5 h1 hg0
        go_wp2
        go_roundw
        case rel => exact ⟨k + 1, by go_num, by omega, by rw [Hst.out], hBp⟩
        case measure => simp [intOf]; omega
    · go_wp2
      go_returns
      exact ⟨rfl, hB⟩
theorem place1_any (ba bx b off c : Nat) (l : List MkV) (id : Int) (i : Nat) (W : World) (hi : i < l.length)
    (ha : W.cell? ⟨ba, 0, none⟩ = some (.slice (some ⟨b, off, none⟩) l.length c)) (hx : W.cell? ⟨bx, 0, none⟩ = some (.int .u32 id)) (m : MkV) (hm : W.cell? ⟨b, off + i * 3, none⟩ = some (.int .u32 m.id)) :
    Calls Tryz.prog 280 #[.int .i64 i, .pointer (some ⟨ba, 0, none⟩), .pointer (some ⟨bx, 0, none⟩)] W fun e w' => e = .returned (.bool (decide (id ≤ m.id))) ∧ ∃ q, w' = W.drewN q := by
  have hiz : (i : Int) < (l.length : Int) := by omega
  go_enter Tryz.func280, Tryz.ntmps280
  go_wp2
  go_region
  all_goals go_wp2
  all_goals (go_returns; exact ⟨rfl, ⟨1, rfl⟩⟩)
theorem grow_nil' (W : World) : Sort.grow W #[] = W := by cases W; simp [Sort.grow]
theorem idx_count (l : List MkV) (id : Int) : (List.range l.length).countP (fun i => !decide (id ≤ (l.getD i default).id)) = idxM id l := by
  have h : l = (List.range l.length).map (fun i => l.getD i default) := by
    apply List.ext_getElem
    · simp
    · intro i h1 h2
      simp [List.getD, List.getElem?_eq_getElem h1]
  unfold idxM
  conv => rhs; rw [h]
  rw [List.countP_map]
  congr 1
  funext i
  simp [Function.comp]
  by_cases hd : id ≤ (l[i]?.getD default).id
  · simp [hd]
  · simp [hd]; omega
theorem place_any (a : Option Addr) (c : Nat) (l : List MkV) (id : Int) (w : World) (hr : MRow w a l) (hpw : l.Pairwise (fun a b => a.id < b.id)) (hs : l.length ≤ 1000) (hc : l.length ≤ c) :
    Calls Tryz.prog 242 #[.slice a l.length c, .int .u32 id] w fun e w' => e = .returned (.tuple #[.int .i64 (idxM id l), .bool (hasM id l)]) ∧ Below w.heap.size w w' := by
  obtain ⟨W0, hW0⟩ : ∃ W0, W0 = (w.alloc (.cells #[.slice a l.length c] 65)).alloc (.cells #[.int .u32 id] 52) := ⟨_, rfl⟩
  have hB0 : Below w.heap.size w W0 := by rw [hW0]; exact ((Below.refl _ w).alloc (Nat.le_refl _) _).alloc (by simp) _
  have ca : W0.heap[w.heap.size]? = some (.cells #[.slice a l.length c] 65 (0, 0)) := by rw [hW0]; exact (heap_alloc_old _ _ (by simp)).trans (heap_alloc_new w _)
  have cx : W0.heap[w.heap.size + 1]? = some (.cells #[.int .u32 id] 52 (0, 0)) := by rw [hW0]; have := heap_alloc_new (w.alloc (.cells #[.slice a l.length c] 65)) (.cells #[.int .u32 id] 52); rwa [World.size_alloc] at this
  have hsz : W0.heap.size = w.heap.size + 1 + 1 := by rw [hW0]; simp
  have hr0 := hr.on hB0
  have eg : ∀ args w, (callFunc 280 args).run Tryz.prog w = .ok (.enter 280 args) w := enters_of Tryz.func280 (by kernel_rfl) rfl
  have hS : Calls Tryz.prog 279 #[.int .i64 l.length, .func (.func 280) #[] #[.pointer (some ⟨w.heap.size, 0, none⟩), .pointer (some ⟨w.heap.size + 1, 0, none⟩)]] W0 fun e w' => e = .returned (.int .i64 (idxM id l)) ∧ ∃ q os, w' = Sort.grow (W0.drewN q) os := by
    have h := Any.sort_Search (P := Tryz.prog) Tryz.searchL 280 #[.pointer (some ⟨w.heap.size, 0, none⟩), .pointer (some ⟨w.heap.size + 1, 0, none⟩)] l.length (fun i => decide (id ≤ (l.getD i default).id)) W0 eg (by omega) ?_ ?_
    · rw [idx_count] at h; exact h
    · intro mm os i hi
      have hbel : Below W0.heap.size W0 (Sort.grow (W0.drewN mm) os) := below_grown_sl _ _ _ _ (Nat.le_refl _)
      rcases hr0.on hbel with ⟨_, h⟩ | ⟨b, off, h1, h2, h3⟩
      · rw [h] at hi; simp at hi
      · subst h1
        have hm : l[i]? = some (l.getD i default) := by simp [List.getD, List.getElem?_eq_getElem hi]
        refine (place1_any w.heap.size (w.heap.size + 1) b off c l id i _ hi ?_ ?_ (l.getD i default) (h3 i _ hm 0 _ rfl)).mono ?_
        · exact (box1 ((hbel.block _ (by omega)).trans ca)).1
        · exact (box1 ((hbel.block _ (by omega)).trans cx)).1
        · rintro e w' ⟨rfl, q, rfl⟩
          exact ⟨rfl, q, #[], (grow_nil' _).symm⟩
    · intro i j hij hj hp
      simp only [decide_eq_true_eq] at hp ⊢
      by_cases h : i = j
      · subst h; exact hp
      · have := (List.pairwise_iff_getElem.1 hpw) i j (by omega) hj (by omega)
        simp [List.getD, List.getElem?_eq_getElem hj, List.getElem?_eq_getElem (show i < l.length by omega)] at hp ⊢
        omega
  have hil := idxM_le id l
  have hbS : ∀ q os, Below W0.heap.size W0 (Sort.grow (W0.drewN q) os) := fun q os => below_grown_sl _ _ _ _ (Nat.le_refl _)
  by_cases hlt : idxM id l < l.length
  · have hm : l[idxM id l]? = some l[idxM id l] := List.getElem?_eq_getElem hlt
    have hres : (l[idxM id l].id == id) = hasM id l := by
      cases hs : hasM id l with
      | true => obtain ⟨m, h1, h2, _⟩ := sp_is hpw hs; rw [h1] at hm; injection hm with hm; rw [← hm]; simpa using h2
      | false => have := (sp_no hpw hs).2.1 _ hm; simpa using this
    generalize l[idxM id l] = m at hm hres
    have d1 : decide ((idxM id l : Int) < (l.length : Int)) = true := by simp; omega
    clear hpw
    generalize hasM id l = res at *
    generalize idxM id l = ix at *
    rcases hr0 with ⟨_, h⟩ | ⟨b, off, rfl, hb, hcell⟩
    · rw [h] at hlt; simp at hlt
    have cc : ∀ q os, (Sort.grow (W0.drewN q) os).cell? ⟨b, off + ix * 3, none⟩ = some (.int .u32 m.id) := fun q os => by
      rw [(hbS q os).cell (p := ⟨b, off + ix * 3, none⟩) hb]
      exact hcell ix m hm 0 _ rfl
    subst hW0
    go_enter Tryz.func242, Tryz.ntmps242
    go_wp2_with (go_at_call 279; refine hS.mono ?_; rintro e w1 ⟨rfl, q, os, rfl⟩; have c1 := cc q os; have k1 := (box1 (((hbS q os).block _ (by omega)).trans ca)).1; have k2 := (box1 (((hbS q os).block _ (by omega)).trans cx)).1; have hbx := hbS q os; generalize Sort.grow _ os = w1 at *)
    go_region
    all_goals go_wp2
    all_goals (go_returns; refine ⟨rfl, ?_⟩; exact hB0.trans (hbx.drew.mono (by simp; omega)))
  · have d1 : decide ((idxM id l : Int) < (l.length : Int)) = false := by simp; omega
    have hres : hasM id l = false := by
      cases hs : hasM id l with
      | true => obtain ⟨m, h1, _⟩ := sp_is hpw hs; have := (List.getElem?_eq_some_iff.1 h1).1; omega
      | false => rfl
    clear hpw
    rw [hres]
    generalize idxM id l = ix at *
    subst hW0
    go_enter Tryz.func242, Tryz.ntmps242
    go_wp2_with (go_at_call 279; refine hS.mono ?_; rintro e w1 ⟨rfl, q, os, rfl⟩; have k1 := (box1 (((hbS q os).block _ (by omega)).trans ca)).1; have k2 := (box1 (((hbS q os).block _ (by omega)).trans cx)).1; have hbx := hbS q os; generalize Sort.grow _ os = w1 at *)
    go_region
    all_goals go_wp2
    all_goals (go_returns; refine ⟨rfl, ?_⟩; exact hB0.trans (hbx.drew.mono (by simp; omega)))
theorem find1_any (bx : Nat) (id : Int) (m : MkV) (W : World) (hx : W.cell? ⟨bx, 0, none⟩ = some (.int .u32 id)) (hb : bx < W.heap.size) :
    Calls Tryz.prog 252 #[.agg #[.int .u32 m.id, .int .i64 m.at_, .int .u8 m.grav], .pointer (some ⟨bx, 0, none⟩)] W fun e w' => e = .returned (.bool (m.id == id)) ∧ Below W.heap.size W w' := by
  have hc := fun o => Lib.cell?_alloc_some (W := W) o hx
  have hb2 := fun o => (Below.refl W.heap.size W).alloc (Nat.le_refl _) o
  go_enter Tryz.func252, Tryz.ntmps252
  go_wp2
  try go_region
  all_goals go_wp2
  all_goals (go_returns; exact ⟨rfl, by first | exact hb2 _ | exact (hb2 _).drew⟩)
end Go.Proofs.YtdeiocppghhfdaaGreat
namespace Go.Proofs.YtdeiocppghhfdaaGreat
set_option linter.unusedVariables false
set_option linter.unusedSimpArgs false
set_option maxRecDepth 100000
set_option maxHeartbeats 8000000
open Go.RowKit Go.Lib Go.Shelf
theorem blk3f {w : World} {b : Nat} {u v x : Value} {T : TypeId} (h : w.heap[b]? = some (.cells #[u, v, x] T (0, 0))) : w.frozen? ⟨b, 0, none⟩ = false ∧ w.frozen? ⟨b, 1, none⟩ = false ∧ w.frozen? ⟨b, 2, none⟩ = false := by
  refine ⟨?_, ?_, ?_⟩ <;> simp [World.frozen?, h]
theorem set3 {w : World} {b : Nat} {u v x u' v' x' : Value} {T : TypeId} (h : w.heap[b]? = some (.cells #[u, v, x] T (0, 0))) : (((w.setCell ⟨b, 0, none⟩ u').setCell ⟨b, 1, none⟩ v').setCell ⟨b, 2, none⟩ x').heap[b]? = some (.cells #[u', v', x'] T (0, 0)) := by
  simp [World.setCell, Array.getElem?_modify, h]
theorem below_set3 {B b : Nat} {w0 w : World} (h : Below B w0 w) (hb : B ≤ b) (u v x : Value) : Below B w0 (((w.setCell ⟨b, 0, none⟩ u).setCell ⟨b, 1, none⟩ v).setCell ⟨b, 2, none⟩ x) :=
  ((h.setCell (p := ⟨b, 0, none⟩) hb _).setCell (p := ⟨b, 1, none⟩) hb _).setCell (p := ⟨b, 2, none⟩) hb _
def zeroM : MkV := ⟨0, 0, 0⟩
def foundV (id : Int) (l : List MkV) : Value := .tuple #[.agg (mkL ((findM id l).getD zeroM)).toArray, .bool (hasM id l)]
theorem loM_get {id : Int} {l : List MkV} (h : l.Pairwise (fun a b => a.id < b.id)) {j : Nat} (hj : j < idxM id l) {m : MkV} (hm : l[j]? = some m) : m.id < id := by
  have h1 := (sp_take id h).1
  have : (l.take (idxM id l))[j]? = some m := by rw [List.getElem?_take, if_pos hj, hm]
  rw [h1] at this
  have := (List.mem_filter.1 (List.mem_of_getElem? this)).2
  simpa using this
theorem idx_empty (a : Option Addr) (c : Nat) (v : Value) (w : World) : Calls Tryz.prog 251 #[.slice a 0 c, v] w fun e w' => e = .returned (.int .i64 (-1)) ∧ Below w.heap.size w w' := by
  go_enter Tryz.func251, Tryz.ntmps251
  go_wp2
  refine wp_loop_rounds 1 ?_
  rw [rounds_succ]
  go_wp2
  go_returns
  exact ⟨rfl, Below.refl _ _⟩
theorem find_any (a : Option Addr) (c : Nat) (l : List MkV) (id : Int) (w : World) (hr : MRow w a l) (hpw : l.Pairwise (fun a b => a.id < b.id)) (hs : l.length ≤ 1000) (hc : l.length ≤ c) :
    Calls Tryz.prog 202 #[.slice a l.length c, .int .u32 id] w fun e w' => e = .returned (foundV id l) ∧ Below w.heap.size w w' := by
  obtain ⟨W0, hW0⟩ : ∃ W0, W0 = (w.alloc (.cells #[.int .u32 id] 52)).alloc (.cells #[.int .u32 0, .int .i64 0, .int .u8 0] 74) := ⟨_, rfl⟩
  have hsz : W0.heap.size = w.heap.size + 1 + 1 := by rw [hW0]; simp
  have hB0 : Below w.heap.size w W0 := by rw [hW0]; exact ((Below.refl _ w).alloc (Nat.le_refl _) _).alloc (by simp) _
  have cx : W0.cell? ⟨w.heap.size, 0, none⟩ = some (.int .u32 id) := by rw [hW0]; exact Lib.cell?_alloc_some _ (box1 (heap_alloc_new w (.cells #[.int .u32 id] 52))).1
  have hres : W0.heap[w.heap.size + 1]? = some (.cells #[.int .u32 0, .int .i64 0, .int .u8 0] 74 (0, 0)) := by rw [hW0]; have := heap_alloc_new (w.alloc (.cells #[.int .u32 id] 52)) (.cells #[.int .u32 0, .int .i64 0, .int .u8 0] 74); rwa [World.size_alloc] at this
  have eg : ∀ args w, (callFunc 252 args).run Tryz.prog w = .ok (.enter 252 args) w := enters_of Tryz.func252 (by kernel_rfl) rfl
  have hP : PredBelow Tryz.prog 252 #[.pointer (some ⟨w.heap.size, 0, none⟩)] (fun x => .agg (mkL x).toArray) (fun m => m.id == id) W0 := by
    intro W x hW
    refine (find1_any w.heap.size id x W ((hW.cell (p := ⟨w.heap.size, 0, none⟩) (show w.heap.size < W0.heap.size by omega)).trans cx) (by have := hW.size; omega)).mono ?_
    rintro e w' ⟨rfl, hB⟩
    exact ⟨rfl, hW.trans (hB.mono hW.size)⟩
  have hr0 := hr.on hB0
  have hIdx : Calls Tryz.prog 251 #[.slice a l.length c, .func (.func 252) #[] #[.pointer (some ⟨w.heap.size, 0, none⟩)]] W0 fun e w' => e = .returned (.int .i64 (if hasM id l then (idxM id l : Int) else -1)) ∧ Below W0.heap.size W0 w' := by
    rcases hr0 with ⟨h1, h2⟩ | ⟨b, off, h1, h2, h3⟩
    · subst h2
      refine (idx_empty a c _ _).mono ?_
      rintro e w' ⟨rfl, hB⟩
      exact ⟨rfl, hB⟩
    · subst h1
      have h := AnyQ.slices_IndexFunc (P := Tryz.prog) Tryz.idxM 3 (fun w => Tryz.isAgg74 w) (fun w => Tryz.sizeOf74 w) mkL mkL_len (fun m => m.id == id) 252 #[.pointer (some ⟨w.heap.size, 0, none⟩)] eg b off l.length c l _ hP (Nat.le_refl _) (by omega) h2 (fun j hj i v hv => by
        rw [Nat.add_assoc]
        rw [getElem!_pos l j hj] at hv
        exact h3 j l[j] (List.getElem?_eq_getElem hj) i v hv)
      refine h.mono ?_
      rintro e w' ⟨rfl, hB⟩
      refine ⟨?_, hB⟩
      congr 2
      cases hs2 : hasM id l with
      | true =>
        obtain ⟨m, g1, g2, _⟩ := sp_is hpw hs2
        have hlt := (List.getElem?_eq_some_iff.1 g1).1
        rw [if_pos rfl]
        refine idxBy_hit _ l l.length (idxM id l) default hlt (Nat.le_refl _) ?_ ?_
        · rw [getElem!_pos l _ hlt]; have := (List.getElem?_eq_some_iff.1 g1).2; rw [this]; simpa using g2
        · intro j hj
          have hjl : j < l.length := by omega
          rw [getElem!_pos l j hjl]
          have := loM_get hpw hj (List.getElem?_eq_getElem hjl)
          simp; omega
      | false =>
        rw [if_neg (by simp)]
        refine idxBy_miss _ l l.length default ?_
        intro j hj
        rw [getElem!_pos l j hj]
        unfold hasM at hs2
        rw [List.any_eq_false] at hs2
        simpa using hs2 l[j] (List.getElem_mem hj)
  clear hP
  cases hs2 : hasM id l with
  | true =>
    obtain ⟨m, g1, g2, _, g3, _⟩ := sp_is hpw hs2
    rw [hs2, if_pos rfl] at hIdx
    have hF : foundV id l = .tuple #[.agg (mkL m).toArray, .bool true] := by unfold foundV; rw [g3, hs2]; rfl
    have HF := Lib.hid hF
    have hlt := (List.getElem?_eq_some_iff.1 g1).1
    have hd : decide ((idxM id l : Int) < 0) = false := by simp
    rcases hr0 with ⟨h1, h2⟩ | ⟨b, off, rfl, hb, h3⟩
    · rw [h2] at hlt; simp at hlt
    generalize idxM id l = ix at *
    clear hpw hF g3 hs2
    subst hW0
    go_enter Tryz.func202, Tryz.ntmps202
    go_wp2_with (go_at_call 251; refine hIdx.mono ?_; rintro e w1 ⟨rfl, hB1⟩; have c0 : w1.cell? ⟨b, off + ix * 3, none⟩ = some (.int .u32 m.id) := (hB1.cell (p := ⟨b, off + ix * 3, none⟩) hb).trans (h3 ix m g1 0 _ rfl); have c1 : w1.cell? ⟨b, off + ix * 3 + 1, none⟩ = some (.int .i64 m.at_) := (hB1.cell (p := ⟨b, off + ix * 3 + 1, none⟩) hb).trans (h3 ix m g1 1 _ rfl); have c2 : w1.cell? ⟨b, off + ix * 3 + 2, none⟩ = some (.int .u8 m.grav) := (hB1.cell (p := ⟨b, off + ix * 3 + 2, none⟩) hb).trans (h3 ix m g1 2 _ rfl); have hz := (hB1.block _ (by omega)).trans hres; obtain ⟨z0, z1, z2⟩ := blk3' hz; obtain ⟨y0, y1, y2⟩ := blk3f hz)
    obtain ⟨r0, r1, r2⟩ := blk3' (set3 (u' := .int .u32 id) (v' := .int .i64 m.at_) (x' := .int .u8 m.grav) hz)
    have hBz := below_set3 (hB0.trans (hB1.mono (by omega))) (show w.heap.size ≤ w.heap.size + 1 by omega) (.int .u32 id) (.int .i64 m.at_) (.int .u8 m.grav)
    generalize ((w1.setCell ⟨w.heap.size + 1, 0, none⟩ (.int .u32 id)).setCell ⟨w.heap.size + 1, 1, none⟩ (.int .i64 m.at_)).setCell ⟨w.heap.size + 1, 2, none⟩ (.int .u8 m.grav) = W3 at *
    refine bodyPost_ret (v := foundV id l) ?_ rfl ⟨rfl, hBz⟩
    rw [HF.out]
    simp [results, Tryz.f202, go_sem, r0, r1, r2, mkL, g2]
  | false =>
    rw [hs2, if_neg (by simp)] at hIdx
    have hF : foundV id l = .tuple #[.agg (mkL zeroM).toArray, .bool false] := by unfold foundV; rw [(sp_no hpw hs2).2.2.1, hs2]; rfl
    have HF := Lib.hid hF
    clear hpw hF hs2
    subst hW0
    go_enter Tryz.func202, Tryz.ntmps202
    go_wp2_with (go_at_call 251; refine hIdx.mono ?_; rintro e w1 ⟨rfl, hB1⟩; have hz := (hB1.block _ (by omega)).trans hres; obtain ⟨z0, z1, z2⟩ := blk3' hz; obtain ⟨y0, y1, y2⟩ := blk3f hz)
    obtain ⟨r0, r1, r2⟩ := blk3' (set3 (u' := .int .u32 0) (v' := .int .i64 0) (x' := .int .u8 0) hz)
    have hBz := below_set3 (hB0.trans (hB1.mono (by omega))) (show w.heap.size ≤ w.heap.size + 1 by omega) (.int .u32 0) (.int .i64 0) (.int .u8 0)
    generalize ((w1.setCell ⟨w.heap.size + 1, 0, none⟩ (.int .u32 0)).setCell ⟨w.heap.size + 1, 1, none⟩ (.int .i64 0)).setCell ⟨w.heap.size + 1, 2, none⟩ (.int .u8 0) = W3 at *
    refine bodyPost_ret (v := foundV id l) ?_ rfl ⟨rfl, hBz⟩
    rw [HF.out]
    simp [results, Tryz.f202, go_sem, r0, r1, r2, mkL, zeroM]
end Go.Proofs.YtdeiocppghhfdaaGreat
namespace Go.Proofs.YtdeiocppghhfdaaGreat
set_option linter.unusedVariables false
set_option linter.unusedSimpArgs false
set_option maxRecDepth 100000
set_option maxHeartbeats 8000000
def cntB (p : Int → Bool) (l : List UInt8) : Nat := (l.filter fun b => p (b.toNat : Int)).length
def nthB (p : Int → Bool) : List UInt8 → Int → Option Nat
  | [], _ => none
  | b :: l, n => if p (b.toNat : Int) then (if n = 0 then some 0 else (nthB p l (n - 1)).map (· + 1)) else (nthB p l n).map (· + 1)
theorem cntB_le (p : Int → Bool) (l : List UInt8) : cntB p l ≤ l.length := List.length_filter_le _ _
theorem cntB_snoc (p : Int → Bool) (l : List UInt8) (k : Nat) (h : k < l.length) : cntB p (l.take (k + 1)) = cntB p (l.take k) + if p (byt l k) then 1 else 0 := by
  unfold cntB byt
  rw [List.take_add_one, List.getElem?_eq_getElem h, Option.toList_some, List.filter_append, List.length_append, List.getD_eq_getElem?_getD, List.getElem?_eq_getElem h, Option.getD_some]
  by_cases hp : p ((l[k]).toNat : Int) = true
  · simp [hp]
  · simp [hp]
theorem nthB_drop (p : Int → Bool) (l : List UInt8) (k : Nat) (n : Int) (h : k < l.length) : nthB p (l.drop k) n = if p (byt l k) then (if n = 0 then some 0 else (nthB p (l.drop (k + 1)) (n - 1)).map (· + 1)) else (nthB p (l.drop (k + 1)) n).map (· + 1) := by
  rw [List.drop_eq_getElem_cons h, nthB]
  have : ((l[k]).toNat : Int) = byt l k := by unfold byt; rw [List.getD_eq_getElem?_getD, List.getElem?_eq_getElem h, Option.getD_some]
  rw [this]
theorem nthB_end (p : Int → Bool) (l : List UInt8) (k : Nat) (n : Int) (h : l.length ≤ k) : nthB p (l.drop k) n = none := by rw [List.drop_of_length_le h]; rfl
theorem nthB_lt (p : Int → Bool) : ∀ (l : List UInt8) (n : Int) (k : Nat), nthB p l n = some k → k < l.length
  | [], _, _, h => by cases h
  | b :: l, n, k, h => by
    rw [nthB] at h
    split at h
    · split at h
      · cases h; simp
      · cases hq : nthB p l (n - 1) with
        | none => rw [hq] at h; cases h
        | some q => rw [hq] at h; cases h; have := nthB_lt p l _ q hq; simp; omega
    · cases hq : nthB p l n with
      | none => rw [hq] at h; cases h
      | some q => rw [hq] at h; cases h; have := nthB_lt p l _ q hq; simp; omega
def begB (b : Int) : Bool := !contB b
def feedB (b : Int) : Bool := b == 10
def runeS (l : List UInt8) (n : Int) : Int × Int := if n < 0 then (0, 3) else match nthB begB l n with | some k => (k, 0) | none => if n = cntB begB l then (l.length, 0) else (0, 3)
def lineS (l : List UInt8) (n : Int) : Int × Int := if n = 0 then (0, 0) else if n < 0 then (0, 3) else match nthB feedB l (n - 1) with | some k => (k + 1, 0) | none => (0, 3)
end Go.Proofs.YtdeiocppghhfdaaGreat
