/- The texts MdEa MdEb MdEc MdEf MdEh RaA RaB. -/
import Derived.Test.YtlealeecmmpckaaGreatKug
import Derived.Test.YtlealeecmmpckaaGreatKuh
import Derived.Laws.EntriesVeiled
import Derived.Laws.BytesArg
import Derived.Lib.LazyBuf
import Derived.Lib.BufferRead
namespace Go.Proofs.YtlealeecmmpckaaGreat
set_option linter.unusedVariables false
set_option linter.unusedSimpArgs false
set_option maxRecDepth 100000
set_option maxHeartbeats 8000000
structure PaS where
  out : List UInt8
  gone : List UInt8
  ins : List UInt8
  rest : List UInt8
def paStep (s : PaS) (p : PcV) : PaS :=
  if p.kind = 1 then { s with out := s.out ++ s.rest.take p.n.toNat, rest := s.rest.drop p.n.toNat }
  else if p.kind = 2 then { s with out := s.out ++ p.text.data.toList, ins := s.ins ++ p.text.data.toList }
  else { s with gone := s.gone ++ s.rest.take p.n.toNat, rest := s.rest.drop p.n.toNat }
def paF (s : List UInt8) (d : List PcV) : PaS := d.foldl paStep ⟨[], [], [], s⟩
theorem paF_take {s : List UInt8} {d : List PcV} {k : Nat} {p : PcV} (h : d[k]? = some p) : paF s (d.take (k + 1)) = paStep (paF s (d.take k)) p := by
  unfold paF; rw [List.take_add_one, h, Option.toList_some, List.foldl_append]; rfl
def paOne (s : PaS) (p : PcV) (last : Bool) : Bool :=
  decide (0 ≤ p.n) && decide (p.n ≤ 100000) && decide (p.text.size ≤ 100000) && decide (s.out.length ≤ 300000) && decide (s.gone.length ≤ 300000) && decide (s.ins.length ≤ 300000) &&
  ((p.kind == 2) || ((p.kind == 1) || (p.kind == 3)) && decide (p.n.toNat ≤ s.rest.length)) && ((last && (p.kind == 1)) || (s.gone.isEmpty && s.ins.isEmpty))
def paAll : List PcV → PaS → Bool
  | [], _ => true
  | p :: d, s => paOne s p d.isEmpty && paAll d (paStep s p)
theorem rep_pa (t : ByteArray) (a n : Int) (x : ByteArray) (h : RepOK t.size a n x) : paAll (repD t.size a n x) ⟨[], [], [], t.data.toList⟩ = true ∧ (paF t.data.toList (repD t.size a n x)).out = (repT t a n x).data.toList := by
  obtain ⟨h1, h2, h3, h4, h5, h6⟩ := h
  have e0 : (⟨#[]⟩ : ByteArray).size = 0 := rfl
  have el : t.data.toList.length = t.size := by simp
  have ex : x.data.toList.length = x.size := by simp
  obtain ⟨T, hT⟩ : ∃ T, t.data.toList = T := ⟨_, rfl⟩
  obtain ⟨X, hX⟩ : ∃ X, x.data.toList = X := ⟨_, rfl⟩
  have er : (repT t a n x).data.toList = T.take a.toNat ++ X ++ T.drop (a + n).toNat := by unfold repT; rw [hT, hX]
  rw [er, hT]
  rw [hT] at el; rw [hX] at ex
  generalize hm : (t.size : Int) = m at *
  have hm2 : t.size = T.length := el.symm
  unfold repD
  rcases h6 with ⟨rfl, hx⟩ | ⟨hn, hx⟩
  · by_cases ha : 0 < a <;> by_cases hr : 0 < m - a - 0
    · rw [if_pos ha, if_pos hx, if_neg (by omega), if_pos hr]
      constructor
      · simp [paAll, paOne, paStep, e0, hX]; omega
      · have e : List.take (m - a - 0).toNat (List.drop a.toNat T) = T.drop (a + 0).toNat := by rw [Int.add_zero, List.take_of_length_le (by rw [List.length_drop]; omega)]
        simp [paF, paStep, hX] at e ⊢; exact e
    · rw [if_pos ha, if_pos hx, if_neg (by omega), if_neg hr]
      constructor
      · simp [paAll, paOne, paStep, e0, hX]; omega
      · have e : T.drop (a + 0).toNat = [] := by rw [List.drop_eq_nil_iff]; omega
        simp [paF, paStep, hX] at e ⊢; omega
    · rw [if_neg ha, if_pos hx, if_neg (by omega), if_pos hr]
      obtain rfl : a = 0 := by omega
      constructor
      · simp [paAll, paOne, paStep, e0, hX]; omega
      · have e : List.take (m - 0 - 0).toNat T = T := by rw [List.take_of_length_le (by omega)]
        simp [paF, paStep, hX] at e ⊢; exact e
    · rw [if_neg ha, if_pos hx, if_neg (by omega), if_neg hr]
      obtain rfl : a = 0 := by omega
      constructor
      · simp [paAll, paOne, paStep, e0, hX]; omega
      · have e : T = [] := List.eq_nil_of_length_eq_zero (by omega)
        simp [paF, paStep, hX, e]
  · have hX0 : X = [] := List.eq_nil_of_length_eq_zero (by omega)
    by_cases ha : 0 < a <;> by_cases hr : 0 < m - a - n
    · rw [if_pos ha, if_neg (by omega), if_pos hn, if_pos hr]
      constructor
      · simp [paAll, paOne, paStep, e0]; omega
      · have e : List.take (m - a - n).toNat (List.drop n.toNat (List.drop a.toNat T)) = T.drop (a + n).toNat := by rw [List.drop_drop, List.take_of_length_le (by rw [List.length_drop]; omega)]; congr 1; omega
        simp [paF, paStep, hX0] at e ⊢; exact e
    · rw [if_pos ha, if_neg (by omega), if_pos hn, if_neg hr]
      constructor
      · simp [paAll, paOne, paStep, e0]; omega
      · have e : T.drop (a + n).toNat = [] := by rw [List.drop_eq_nil_iff]; omega
        simp [paF, paStep, hX0, e]
    · rw [if_neg ha, if_neg (by omega), if_pos hn, if_pos hr]
      obtain rfl : a = 0 := by omega
      constructor
      · simp [paAll, paOne, paStep, e0]; omega
      · have e : List.take (m - 0 - n).toNat (List.drop n.toNat T) = T.drop (0 + n).toNat := by rw [Int.zero_add, List.take_of_length_le (by rw [List.length_drop]; omega)]
        simp [paF, paStep, hX0] at e ⊢; exact e
    · rw [if_neg ha, if_neg (by omega), if_pos hn, if_neg hr]
      obtain rfl : a = 0 := by omega
      constructor
      · simp [paAll, paOne, paStep, e0]; omega
      · have e : T.drop (0 + n).toNat = [] := by rw [List.drop_eq_nil_iff]; omega
        simp [paF, paStep, hX0, e]; omega
end Go.Proofs.YtlealeecmmpckaaGreat
namespace Go.Proofs.YtlealeecmmpckaaGreat
set_option linter.unusedVariables false
set_option linter.unusedSimpArgs false
set_option maxRecDepth 100000
set_option maxHeartbeats 8000000
open Go.RowKit Go.Lib Go.Shelf
structure Bv (w : World) (b : Nat) (v : Value) (lo : Nat) (bs : List Value) : Prop where
  blk : w.heap[b]? = some (.cells #[.pointer none, v] 175 (0, 0)) ∨ w.heap[b]? = some (.cells #[.pointer (some ⟨b, 0, none⟩), v] 175 (0, 0))
  own : w.ownsRowF lo 5 1 v bs.length bs
  nil_ : bs = [] → v = .slice none 0 0
theorem Bv.ne {w : World} {b lo : Nat} {v : Value} {bs : List Value} (h : Bv w b v lo bs) : v.ownBlock ≠ some b := by
  rcases h.blk with h1 | h1
  · exact Lib.ownBlock_neF h.own h1 (by decide)
  · exact Lib.ownBlock_neF h.own h1 (by decide)
theorem Bv.lt {w : World} {b lo : Nat} {v : Value} {bs : List Value} (h : Bv w b v lo bs) : b < w.heap.size := by
  rcases h.blk with h1 | h1 <;> exact (Array.getElem?_eq_some_iff.1 h1).1
theorem rowF_keep {w w' : World} {lo n : Nat} {e : TypeId} {v : Value} {xs : List Value} (h : w.ownsRowF lo e 1 v n xs) (hk : ∀ k, k < w.heap.size → v.ownBlock = some k → w'.heap[k]? = w.heap[k]?) : w'.ownsRowF lo e 1 v n xs := by
  refine ⟨h.1, ?_⟩
  rcases h.2 with hn | ⟨g, cap, cur, fz, rfl, hb, hg, rest⟩
  · exact .inl hn
  · exact .inr ⟨g, cap, cur, fz, rfl, hb, (hk g (Array.getElem?_eq_some_iff.1 hg).1 rfl).trans hg, rest⟩
theorem rowF_mono {w : World} {lo lo' n : Nat} {e : TypeId} {v : Value} {xs : List Value} (h : w.ownsRowF lo e 1 v n xs) (hl : lo' ≤ lo) : w.ownsRowF lo' e 1 v n xs := by
  refine ⟨h.1, ?_⟩
  rcases h.2 with hn | ⟨g, cap, cur, fz, rfl, hb, rest⟩
  · exact .inl hn
  · exact .inr ⟨g, cap, cur, fz, rfl, Nat.le_trans hl hb, rest⟩
theorem Bv.keep {F : Nat → Prop} {w w' : World} {b lo : Nat} {v : Value} {bs : List Value} (h : Bv w b v lo bs) (hk : KeepF F w w') (hb : ¬ F b) (hv : ∀ k, v.ownBlock = some k → ¬ F k) : Bv w' b v lo bs := by
  have e := hk.block b h.lt hb
  exact ⟨by rw [e]; exact h.blk, rowF_keep h.own (fun k hk1 hk2 => hk.block k hk1 (hv k hk2)), h.nil_⟩
theorem Bv.lo {w : World} {b lo lo' : Nat} {v : Value} {bs : List Value} (h : Bv w b v lo bs) (hl : lo' ≤ lo) : Bv w b v lo' bs := ⟨h.blk, rowF_mono h.own hl, h.nil_⟩
theorem Bv.fresh {w : World} {b lo : Nat} {v : Value} {bs : List Value} (h : Bv w b v lo bs) (hb : bs = []) (lo' : Nat) : Bv w b v lo' bs := by
  have hv := h.nil_ hb
  subst hv; subst hb
  exact ⟨h.blk, World.ownsRowF_nil _ _ _ _, fun _ => rfl⟩
end Go.Proofs.YtlealeecmmpckaaGreat
namespace Go.Proofs.YtlealeecmmpckaaGreat
set_option linter.unusedVariables false
set_option linter.unusedSimpArgs false
set_option maxRecDepth 100000
set_option maxHeartbeats 8000000
open Go.RowKit Go.Lib Go.Shelf
abbrev Txt (w : World) (b : Nat) (r : ByteArray) : Prop := w.heap[b]? = some (.cells #[.string r] 9 (0, 0))
abbrev Tak (w : World) (B : Nat) : Prop := w.heap[B + 4]? = some (.cells #[.func (.func 140) #[] #[.pointer (some ⟨B, 0, none⟩)]] 176 (0, 0))
end Go.Proofs.YtlealeecmmpckaaGreat
namespace Go.Proofs.YtlealeecmmpckaaGreat
set_option linter.unusedVariables false
set_option linter.unusedSimpArgs false
set_option maxRecDepth 100000
set_option maxHeartbeats 8000000
open Go.RowKit Go.Lib Go.Shelf
def paE (B : Nat) : Array MapEntry := #[⟨.int .u8 1, .func (.func 141) #[] #[.pointer (some ⟨B + 1, 0, none⟩), .pointer (some ⟨B + 4, 0, none⟩)], 0⟩, ⟨.int .u8 3, .func (.func 143) #[] #[.pointer (some ⟨B + 2, 0, none⟩), .pointer (some ⟨B + 4, 0, none⟩)], 1⟩, ⟨.int .u8 2, .func (.func 144) #[] #[.pointer (some ⟨B + 1, 0, none⟩), .pointer (some ⟨B + 3, 0, none⟩)], 2⟩]
structure PaW (w : World) (B : Nat) (s : PaS) (r : ByteArray) (vo vg vi : Value) : Prop where
  rest : r.data.toList = s.rest
  text : Txt w B r
  out : Bv w (B + 1) vo B (Lib.byteCells s.out)
  gone : Bv w (B + 2) vg B (Lib.byteCells s.gone)
  ins : Bv w (B + 3) vi B (Lib.byteCells s.ins)
  take : Tak w B
  map : w.heap[B + 5]? = some (.map (paE B) 3)
theorem Bv.below {w w' : World} {b lo : Nat} {v : Value} {bs : List Value} (h : Bv w b v lo bs) (hb : Below w.heap.size w w') : Bv w' b v lo bs := h.keep (F := fun _ => False) (KeepF.of_below hb) (fun h => h) (fun _ _ h => h)
theorem PaW.below {w w' : World} {B : Nat} {s : PaS} {r : ByteArray} {vo vg vi : Value} (h : PaW w B s r vo vg vi) (hb : Below w.heap.size w w') : PaW w' B s r vo vg vi :=
  ⟨h.rest, (hb.block _ (Array.getElem?_eq_some_iff.1 h.text).1).trans h.text, h.out.below hb, h.gone.below hb, h.ins.below hb, (hb.block _ (Array.getElem?_eq_some_iff.1 h.take).1).trans h.take, (hb.block _ (Array.getElem?_eq_some_iff.1 h.map).1).trans h.map⟩
end Go.Proofs.YtlealeecmmpckaaGreat
namespace Go.Proofs.YtlealeecmmpckaaGreat
set_option linter.unusedVariables false
set_option linter.unusedSimpArgs false
set_option maxRecDepth 100000
set_option maxHeartbeats 8000000
open Go.RowKit Go.Lib Go.Shelf
def Rb (w : World) (lo b : Nat) (l : List UInt8) : Prop :=
  ∃ p v, w.heap[b]? = some (.cells #[p, v] 175 (0, 0)) ∧ ((l = [] ∧ v = .slice none 0 0) ∨ (l ≠ [] ∧ ∃ g cap m, v = .slice (some ⟨g, 0, none⟩) l.length cap ∧ lo ≤ g ∧ l.length ≤ cap ∧ w.shape? g = some (5, m) ∧ l.length ≤ m ∧ ∀ (j : Nat) (x : UInt8), l[j]? = some x → w.cell? ((⟨g, 0, none⟩ : Addr).add j) = some (.int .u8 x.toNat)))
theorem Bv.rb {w : World} {b lo : Nat} {v : Value} {l : List UInt8} (h : Bv w b v lo (Lib.byteCells l)) : Rb w lo b l := by
  obtain ⟨p, hp⟩ : ∃ p, w.heap[b]? = some (.cells #[p, v] 175 (0, 0)) := h.blk.elim (fun h => ⟨_, h⟩) (fun h => ⟨_, h⟩)
  refine ⟨p, v, hp, ?_⟩
  by_cases hl : l = []
  · exact .inl ⟨hl, h.nil_ (by rw [hl]; rfl)⟩
  · have ho := h.own
    rw [Lib.byteCells_length] at ho
    refine .inr ⟨hl, ?_⟩
    have ho2 := ho.2
    rcases ho2 with ⟨_, h0⟩ | ⟨g, cap, cur, fz, rfl, hb, hg, hf, hc, hm, hs, ht⟩
    · exact absurd (List.eq_nil_of_length_eq_zero h0) hl
    · exact ⟨g, cap, cur.size, rfl, hb, hc, by simp [World.shape?, hg], by omega, fun j x hx => ho.cells (g := g) rfl j (.int .u8 x.toNat) (by simp [Lib.byteCells, hx])⟩
theorem Rb.drew {w : World} {lo b : Nat} {l : List UInt8} (h : Rb w lo b l) : Rb w.drew lo b l := h
end Go.Proofs.YtlealeecmmpckaaGreat
namespace Go.Proofs.YtlealeecmmpckaaGreat
set_option linter.unusedVariables false
set_option linter.unusedSimpArgs false
set_option maxRecDepth 100000
set_option maxHeartbeats 8000000
open Go.RowKit Go.Lib Go.Shelf
def DOK (d : List PcV) : Prop := d.length ≤ 4 ∧ ∀ p ∈ d, pcP p ∧ p.n ≤ 100000 ∧ p.text.size ≤ 100000
def sumN (d : List PcV) : Int := d.foldl (fun s p => s + p.n) 0
def sumO (d : List PcV) : Int := d.foldl (fun s p => s + p.text.size + if p.kind = 1 then p.n else 0) 0
theorem sumN_take {d : List PcV} {k : Nat} {p : PcV} (h : d[k]? = some p) : sumN (d.take (k + 1)) = sumN (d.take k) + p.n := by
  unfold sumN; rw [List.take_add_one, h, Option.toList_some, List.foldl_append]; rfl
theorem sumO_take {d : List PcV} {k : Nat} {p : PcV} (h : d[k]? = some p) : sumO (d.take (k + 1)) = sumO (d.take k) + p.text.size + if p.kind = 1 then p.n else 0 := by
  unfold sumO; rw [List.take_add_one, h, Option.toList_some, List.foldl_append]; rfl
theorem pc_bounds {p : PcV} (h : pcP p) : 0 ≤ p.n ∧ (p.kind = 1 ∨ p.kind = 2 ∨ p.kind = 3) := by unfold pcP at h; omega
theorem sum_bounds {d : List PcV} (h : DOK d) : ∀ k, k ≤ d.length → (0 ≤ sumN (d.take k) ∧ sumN (d.take k) ≤ k * 100000) ∧ (0 ≤ sumO (d.take k) ∧ sumO (d.take k) ≤ k * 200000)
  | 0, _ => by simp [sumN, sumO]
  | k + 1, hk => by
    have hx := List.getElem?_eq_getElem (show k < d.length by omega)
    generalize d[k] = p at hx
    obtain ⟨h1, h2, h3⟩ := h.2 p (List.mem_of_getElem? hx)
    obtain ⟨h4, h5⟩ := pc_bounds h1
    have ih := sum_bounds h k (by omega)
    rw [sumN_take hx, sumO_take hx]
    split <;> omega
theorem pc_at {w : World} {b off k : Nat} {d : List PcV} {p : PcV} (h : ∀ (k : Nat) (p : PcV), d[k]? = some p → ∀ (i : Nat) (u : Value), (pcL p)[i]? = some u → w.cell? ⟨b, off + (k * 3 + i), none⟩ = some u) (hx : d[k]? = some p) :
    w.cell? ⟨b, off + k * 3, none⟩ = some (.int .u8 p.kind) ∧ w.cell? ⟨b, off + k * 3 + 1, none⟩ = some (.int .i64 p.n) ∧ w.cell? ⟨b, off + k * 3 + 2, none⟩ = some (.string p.text) :=
  ⟨h k p hx 0 _ rfl, h k p hx 1 _ rfl, h k p hx 2 _ rfl⟩
theorem refPiece_ok (p : PcV) (w : World) (h : pcP p) : Calls Tryz.prog 176 #[.agg #[.int .u8 p.kind, .int .i64 p.n, .string p.text]] w fun e w' => e = .returned (.bool true) ∧ Below w.heap.size w w' := by
  obtain ⟨k, n, t⟩ := p
  have hB0 := (Below.refl w.heap.size w).alloc (Nat.le_refl _) (.cells #[.int .u8 k, .int .i64 n, .string t] 132)
  unfold pcP at h
  dsimp only at h ⊢
  rcases h with ⟨hk, hn, ht⟩ | ⟨hk, hn, ht⟩
  · have e1 : t.toList.isEmpty = true := by rw [te2]; exact ht
    have d1 : decide (1 ≤ n) = true := by simpa using hn
    have d2 : t.toList = [] := List.isEmpty_iff.1 e1
    rcases hk with rfl | rfl
    · go_enter Tryz.func176, Tryz.ntmps176
      go_wp2
      go_returns
      exact ⟨rfl, hB0⟩
    · go_enter Tryz.func176, Tryz.ntmps176
      go_wp2
      go_returns
      exact ⟨rfl, hB0⟩
  · subst hk; subst hn
    have e1 : t.toList.isEmpty = false := by rw [te3]; omega
    go_enter Tryz.func176, Tryz.ntmps176
    go_wp2
    go_returns
    exact ⟨rfl, hB0⟩
def RcI (w : World) (ad : Option Addr) (len c : Nat) (a : Act) (wr : World) : Prop :=
  ∃ (k : Nat) (x y : Int) (u : Nat → Value), a = { tmps := #[.slice ad len c, u 1, u 2, .int .i64 x, .int .i64 y, .int .i64 k, u 6, u 7, u 8, u 9, u 10, u 11, u 12, u 13, u 14, u 15, u 16, u 17, u 18, u 19, u 20, u 21, u 22, u 23, u 24, u 25, u 26, u 27, u 28, u 29, u 30, u 31, u 32, u 33, u 34, u 35, u 36, u 37, u 38, u 39, u 40, u 41, u 42, u 43, u 44, u 45, u 46, u 47, u 48, u 49, u 50, u 51, u 52, u 53, u 54, u 55, u 56, u 57, u 58, u 59, u 60, u 61, u 62, u 63, u 64], defers := [] } ∧ k ≤ len ∧ (0 ≤ x ∧ x ≤ k * 100000) ∧ (0 ≤ y ∧ y ≤ k * 200000) ∧ Below w.heap.size w wr
theorem RcI.intro {w : World} {ad : Option Addr} {len c : Nat} {a : Act} {wr : World} (k : Nat) (x y : Int) (h : a = { tmps := #[.slice ad len c, a.tmps.getD 1 undef, a.tmps.getD 2 undef, .int .i64 x, .int .i64 y, .int .i64 k, a.tmps.getD 6 undef, a.tmps.getD 7 undef, a.tmps.getD 8 undef, a.tmps.getD 9 undef, a.tmps.getD 10 undef, a.tmps.getD 11 undef, a.tmps.getD 12 undef, a.tmps.getD 13 undef, a.tmps.getD 14 undef, a.tmps.getD 15 undef, a.tmps.getD 16 undef, a.tmps.getD 17 undef, a.tmps.getD 18 undef, a.tmps.getD 19 undef, a.tmps.getD 20 undef, a.tmps.getD 21 undef, a.tmps.getD 22 undef, a.tmps.getD 23 undef, a.tmps.getD 24 undef, a.tmps.getD 25 undef, a.tmps.getD 26 undef, a.tmps.getD 27 undef, a.tmps.getD 28 undef, a.tmps.getD 29 undef, a.tmps.getD 30 undef, a.tmps.getD 31 undef, a.tmps.getD 32 undef, a.tmps.getD 33 undef, a.tmps.getD 34 undef, a.tmps.getD 35 undef, a.tmps.getD 36 undef, a.tmps.getD 37 undef, a.tmps.getD 38 undef, a.tmps.getD 39 undef, a.tmps.getD 40 undef, a.tmps.getD 41 undef, a.tmps.getD 42 undef, a.tmps.getD 43 undef, a.tmps.getD 44 undef, a.tmps.getD 45 undef, a.tmps.getD 46 undef, a.tmps.getD 47 undef, a.tmps.getD 48 undef, a.tmps.getD 49 undef, a.tmps.getD 50 undef, a.tmps.getD 51 undef, a.tmps.getD 52 undef, a.tmps.getD 53 undef, a.tmps.getD 54 undef, a.tmps.getD 55 undef, a.tmps.getD 56 undef, a.tmps.getD 57 undef, a.tmps.getD 58 undef, a.tmps.getD 59 undef, a.tmps.getD 60 undef, a.tmps.getD 61 undef, a.tmps.getD 62 undef, a.tmps.getD 63 undef, a.tmps.getD 64 undef], defers := [] }) (hk : k ≤ len) (hx : 0 ≤ x ∧ x ≤ k * 100000) (hy : 0 ≤ y ∧ y ≤ k * 200000) (hB : Below w.heap.size w wr) : RcI w ad len c a wr := ⟨k, x, y, fun i => a.tmps.getD i undef, h, hk, hx, hy, hB⟩
theorem refDCheck_ok (a : Option Addr) (c : Nat) (d : List PcV) (w : World) (hr : PRow w a d) (hd : DOK d) (hc : d.length ≤ c) : Calls Tryz.prog 163 #[.slice a d.length c] w fun e w' => e = .returned (.int .i64 0) ∧ Below w.heap.size w w' := by
  have h4 := hd.1
  go_enter Tryz.func163, Tryz.ntmps163
  go_wp2
  refine wp_loop (RcI w a d.length c) (fun ac _ => d.length - (intOf (ac.tmps.getD 5 undef)).toNat) ?_ ?_
  · exact RcI.intro 0 0 0 rfl (by omega) (by omega) (by omega) (Below.refl _ _)
  · rintro ac wr ⟨k, x, y, u, rfl, hk, hx, hy, hB⟩
    by_cases hlt : k < d.length
    · have hg := List.getElem?_eq_getElem hlt
      generalize d[k] = p at hg
      obtain ⟨hp1, hp2, hp3⟩ := hd.2 p (List.mem_of_getElem? hg)
      obtain ⟨hn0, hkd⟩ := pc_bounds hp1
      rcases hr.on hB with ⟨_, h2⟩ | ⟨b, off, rfl, hb, hcell⟩
      · rw [h2] at hlt; simp at hlt
      obtain ⟨c0, c1, c2⟩ := pc_at hcell hg
      have pk := fun W => refPiece_ok p W hp1
      have PK := Lib.hid pk
      have hB1 := hB.alloc hB.size (.cells #[.int .u8 p.kind, .int .i64 p.n, .string p.text] 132)
      have hz := heap_alloc_new wr (.cells #[.int .u8 p.kind, .int .i64 p.n, .string p.text] 132)
      have w1 : IntKind.i64.wrap (1048576 - x) = 1048576 - x := IntWalk.i64_in _ (by omega)
      have w2 : IntKind.i64.wrap (1048576 - y) = 1048576 - y := IntWalk.i64_in _ (by omega)
      have d1 : decide (1048576 - x < p.n) = false := by simp; omega
      have d2 : decide (1048576 - y < p.n) = false := by simp; omega
      have d3 : decide (1048576 - y < (p.text.size : Int)) = false := by simp; omega
      have hts : (p.text.size : Int) ≤ 100000 := by omega
      clear pk hp1 hcell hg hr
      rcases hkd with e | e | e
      all_goals
        rw [e] at c0 hz hB1
        have PKe := PK.out
        rw [e] at PKe
        have PK2 := Lib.hid PKe
        clear PKe PK
        have k1 : (p.kind != 2) = (p.kind != 2) := rfl
        clear k1 e
        go_wp2_with (go_at_call 176; refine (PK2.out _).mono ?_; rintro e w3 ⟨rfl, hb3⟩; have hB3 := hB1.trans (hb3.mono hB1.size); have hz3 := (hb3.block _ (by simp)).trans hz; obtain ⟨z0, z1, z2⟩ := blk3' hz3)
        exact ⟨RcI.intro (k + 1) _ _ rfl (by omega) (by omega) (by omega) hB3, by simp [intOf]; omega⟩
    · go_wp2
      go_returns
      exact ⟨rfl, hB⟩
def RsI (w : World) (ad : Option Addr) (d : List PcV) (c : Nat) (a : Act) (wr : World) : Prop :=
  ∃ (k : Nat) (u : Nat → Value), a = { tmps := #[.slice ad d.length c, u 1, u 2, u 3, .int .i64 (sumN (d.take k)), .int .i64 (sumO (d.take k)), .int .i64 k, u 7, u 8, u 9, u 10, u 11, u 12, u 13, u 14, u 15, u 16, u 17, u 18, u 19, u 20, u 21, u 22, u 23, u 24, u 25, u 26, u 27, u 28, u 29, u 30, u 31, u 32, u 33, u 34, u 35, u 36, u 37, u 38, u 39, u 40, u 41, u 42], defers := [] } ∧ k ≤ d.length ∧ wr = w
theorem RsI.intro {w : World} {ad : Option Addr} {d : List PcV} {c : Nat} {a : Act} {wr : World} (k : Nat) (h : a = { tmps := #[.slice ad d.length c, a.tmps.getD 1 undef, a.tmps.getD 2 undef, a.tmps.getD 3 undef, .int .i64 (sumN (d.take k)), .int .i64 (sumO (d.take k)), .int .i64 k, a.tmps.getD 7 undef, a.tmps.getD 8 undef, a.tmps.getD 9 undef, a.tmps.getD 10 undef, a.tmps.getD 11 undef, a.tmps.getD 12 undef, a.tmps.getD 13 undef, a.tmps.getD 14 undef, a.tmps.getD 15 undef, a.tmps.getD 16 undef, a.tmps.getD 17 undef, a.tmps.getD 18 undef, a.tmps.getD 19 undef, a.tmps.getD 20 undef, a.tmps.getD 21 undef, a.tmps.getD 22 undef, a.tmps.getD 23 undef, a.tmps.getD 24 undef, a.tmps.getD 25 undef, a.tmps.getD 26 undef, a.tmps.getD 27 undef, a.tmps.getD 28 undef, a.tmps.getD 29 undef, a.tmps.getD 30 undef, a.tmps.getD 31 undef, a.tmps.getD 32 undef, a.tmps.getD 33 undef, a.tmps.getD 34 undef, a.tmps.getD 35 undef, a.tmps.getD 36 undef, a.tmps.getD 37 undef, a.tmps.getD 38 undef, a.tmps.getD 39 undef, a.tmps.getD 40 undef, a.tmps.getD 41 undef, a.tmps.getD 42 undef], defers := [] }) (hk : k ≤ d.length) (hw : wr = w) : RsI w ad d c a wr := ⟨k, fun i => a.tmps.getD i undef, h, hk, hw⟩
theorem refSizes_ok (a : Option Addr) (c : Nat) (d : List PcV) (w : World) (hr : PRow w a d) (hd : DOK d) (hc : d.length ≤ c) : Calls Tryz.prog 164 #[.slice a d.length c] w fun e w' => e = .returned (.tuple #[.int .i64 (sumN d), .int .i64 (sumO d)]) ∧ w = w' := by
  have h4 := hd.1
  go_enter Tryz.func164, Tryz.ntmps164
  go_wp2
  refine wp_loop (RsI w a d c) (fun ac _ => d.length - (intOf (ac.tmps.getD 6 undef)).toNat) ?_ ?_
  · exact RsI.intro 0 rfl (by omega) rfl
  · rintro ac wr ⟨k, u, rfl, hk, rfl⟩
    obtain ⟨⟨x0, x1⟩, y0, y1⟩ := sum_bounds hd k hk
    by_cases hlt : k < d.length
    · have hg := List.getElem?_eq_getElem hlt
      generalize d[k] = p at hg
      obtain ⟨hp1, hp2, hp3⟩ := hd.2 p (List.mem_of_getElem? hg)
      obtain ⟨hn0, hkd⟩ := pc_bounds hp1
      rcases hr with ⟨_, h2⟩ | ⟨b, off, rfl, hb, hcell⟩
      · rw [h2] at hlt; simp at hlt
      obtain ⟨c0, c1, c2⟩ := pc_at hcell hg
      have hts : (p.text.size : Int) ≤ 100000 := by omega
      have sN := sumN_take hg
      have sO := sumO_take hg
      have HN := Lib.hid sN
      have HO := Lib.hid sO
      clear sN sO hcell hg hp1
      rcases hkd with e | e | e
      all_goals
        rw [e] at c0
        have HE := Lib.hid e
        clear e
        go_wp2
        exact ⟨RsI.intro (k + 1) (by rw [HN.out, HO.out, HE.out]; first | rfl | (rw [if_neg (by decide), Int.add_zero]; rfl)) (by omega) rfl, by simp [intOf]; omega⟩
    · obtain rfl : k = d.length := by omega
      rw [List.take_length]
      go_wp2
      go_returns
      exact ⟨rfl, rfl⟩
theorem refLengths_ok (a : Option Addr) (c : Nat) (d : List PcV) (w : World) (hr : PRow w a d) (hd : DOK d) (hc : d.length ≤ c) : Calls Tryz.prog 131 #[.slice a d.length c] w fun e w' => e = .returned (.tuple #[.int .i64 (sumN d), .int .i64 (sumO d), .int .i64 0]) ∧ Below w.heap.size w w' := by
  have h1 := refDCheck_ok a c d w hr hd hc
  have h2 := fun W (hB : Below w.heap.size w W) => refSizes_ok a c d W (hr.on hB) hd hc
  have H1 := Lib.hid h1; have H2 := Lib.hid h2
  clear h1 h2
  go_enter Tryz.func131, Tryz.ntmps131
  go_wp2_with (first | (go_at_call 163; refine H1.out.mono ?_; rintro e w1 ⟨rfl, hB1⟩) | (go_at_call 164; refine (H2.out _ hB1).mono ?_; rintro e w2 ⟨rfl, rfl⟩))
  go_returns
  exact ⟨rfl, hB1⟩
theorem rep_dok {n at_ k : Int} {t : ByteArray} (h : RepOK n at_ k t) : DOK (repD n at_ k t) ∧ sumN (repD n at_ k t) = n ∧ sumO (repD n at_ k t) = n - k + t.size := by
  obtain ⟨h1, h2, h3, h4, h5, h6⟩ := h
  have e0 : (⟨#[]⟩ : ByteArray).size = 0 := rfl
  refine ⟨⟨repD_len _ _ _ _, fun p hp => ?_⟩, ?_, ?_⟩
  · unfold repD at hp
    simp only [List.mem_append] at hp
    rcases hp with ((hp | hp) | hp) | hp
    all_goals
      split at hp
      · rw [List.mem_singleton] at hp
        subst hp
        refine ⟨?_, ?_, ?_⟩
        · unfold pcP; dsimp only; first | exact .inl ⟨by omega, by omega, e0⟩ | exact .inr ⟨rfl, rfl, by assumption⟩
        · dsimp only; omega
        · dsimp only; first | omega | (rw [e0]; omega)
      · cases hp
  · unfold repD sumN
    (repeat' split) <;> simp <;> omega
  · unfold repD sumO
    (repeat' split) <;> simp [e0] <;> omega
end Go.Proofs.YtlealeecmmpckaaGreat
namespace Go.Proofs.YtlealeecmmpckaaGreat
set_option linter.unusedVariables false
set_option linter.unusedSimpArgs false
set_option maxRecDepth 100000
set_option maxHeartbeats 8000000
open Go.RowKit Go.Lib Go.Shelf
def Alt (d : List PcV) : Prop := (∀ (k : Nat) (p q : PcV), d[k]? = some p → d[k + 1]? = some q → (p.kind = 1 ↔ q.kind ≠ 1)) ∧ ∀ (k : Nat) (p : PcV), d[k]? = some p → p.kind ≠ 1 → d.length ≤ k + 2
def PCs (w : World) (b off : Nat) (d : List PcV) : Prop := ∀ (k : Nat) (p : PcV), d[k]? = some p → ∀ (i : Nat) (u : Value), (pcL p)[i]? = some u → w.cell? ⟨b, off + (k * 3 + i), none⟩ = some u
theorem PCs.on {W W' : World} {b off : Nat} {d : List PcV} (h : PCs W b off d) (hB : Below W.heap.size W W') (hb : b < W.heap.size) : PCs W' b off d := fun k p hk i u hu => (hB.cell (p := ⟨b, off + (k * 3 + i), none⟩) hb).trans (h k p hk i u hu)
theorem conv_bytes {W : World} {lo : Nat} {v : Value} {l : List UInt8} (h : W.ownsRowF lo 5 1 v l.length (Lib.byteCells l)) : (convert 98 9 v).run Tryz.prog W = .ok (.string ⟨l.toArray⟩) W := by
  have h2 := h.2
  rcases h2 with ⟨rfl, h0⟩ | ⟨g, cap, cur, fz, rfl, hb, hg, hf, hc, hm, hs, ht⟩
  · have : l = [] := List.eq_nil_of_length_eq_zero h0
    subst this
    exact Lib.run_convert_nil_bytes W _ _ 5 0 Tryz.underlying98 Tryz.underlying5 Tryz.underlying9
  · have := run_convert_bytes_arg (P := Tryz.prog) W 98 5 Tryz.underlying98 Tryz.underlying5 g 0 l.length cap (l.map fun b => (b.toNat : Int)) (by simp) (fun i hi => by
      have h3 := h.cells (g := g) rfl i (.int .u8 (l[i].toNat : Int)) (by simp [Lib.byteCells, hi])
      have e : (⟨g, 0, none⟩ : Addr).add i = ⟨g, 0 + i, none⟩ := by unfold Addr.add; split <;> simp_all
      rw [e] at h3
      rw [h3]; congr 2; simp [List.getD, hi]) 9 Tryz.underlying9
    rw [this, Lib.Lz.strOfNums_map]
theorem conv_bytes' {W : World} {lo n : Nat} {v : Value} {l : List UInt8} (h : W.ownsRowF lo 5 1 v n (Lib.byteCells l)) (hn : l.length = n) : (convert 98 9 v).run Tryz.prog W = .ok (.string ⟨l.toArray⟩) W := by
  subst hn; exact conv_bytes h
theorem rowF_slice {w : World} {B s n : Nat} {e : TypeId} {v : Value} {xs : List Value} (h : w.ownsRowF B e s v n xs) : ∃ ao c, v = .slice ao n c := by
  rcases h.2 with ⟨rfl, rfl⟩ | ⟨g, cap, cur, fz, rfl, _⟩
  · exact ⟨_, _, rfl⟩
  · exact ⟨_, _, rfl⟩
theorem conv_back (t : ByteArray) : (⟨t.data.toList.toArray⟩ : ByteArray) = t := rfl
theorem nil_txt {x : ByteArray} (h : x.size = 0) : x = ⟨#[]⟩ := by
  apply ByteArray.ext
  exact Array.eq_empty_of_size_eq_zero h
theorem strCells_nil (s : ByteArray) : [] ++ Lib.strCells s = Lib.byteCells s.data.toList := by rw [List.nil_append, Lib.strCells_eq]
abbrev POwn (W : World) (B : Nat) (v : Value) (d : List PcV) : Prop := W.ownsRow B 132 3 v d.length (pcsL d)
theorem POwn.snoc {W : World} {B : Nat} {v : Value} {d : List PcV} {p : PcV} (h : W.ownsRow B 132 3 v (d.length + 1) (pcsL d ++ pcL p)) : POwn W B v (d ++ [p]) := by
  show W.ownsRow B 132 3 v (d ++ [p]).length (pcsL (d ++ [p]))
  rw [List.length_append, pcsL_snoc]; exact h
def RfI (w : World) (ad : Option Addr) (d : List PcV) (c : Nat) (a : Act) (wr : World) : Prop :=
  ∃ (k : Nat) (v : Value) (u : Nat → Value), a = { tmps := #[.slice ad d.length c, u 1, u 2, v, .int .i64 k, u 5, u 6, u 7, u 8, u 9, u 10, u 11, u 12, u 13, u 14, u 15, u 16, u 17, u 18, u 19, u 20, u 21, u 22, u 23, u 24, u 25, u 26, u 27, u 28, u 29, u 30, u 31, u 32, u 33, u 34, u 35, u 36, u 37, u 38, u 39, u 40, u 41, u 42, u 43, u 44, u 45, u 46, u 47, u 48, u 49, u 50, u 51, u 52, u 53, u 54, u 55, u 56, u 57, u 58, u 59, u 60, u 61, u 62, u 63, u 64, u 65, u 66, u 67, u 68, u 69, u 70, u 71, u 72, u 73, u 74, u 75, u 76, u 77, u 78, u 79, u 80, u 81, u 82, u 83], defers := [] } ∧ k ≤ d.length ∧ POwn wr w.heap.size v (d.take k) ∧ Below w.heap.size w wr
theorem RfI.intro {w : World} {ad : Option Addr} {d : List PcV} {c : Nat} {a : Act} {wr : World} (k : Nat) (v : Value) (h : a = { tmps := #[.slice ad d.length c, a.tmps.getD 1 undef, a.tmps.getD 2 undef, v, .int .i64 k, a.tmps.getD 5 undef, a.tmps.getD 6 undef, a.tmps.getD 7 undef, a.tmps.getD 8 undef, a.tmps.getD 9 undef, a.tmps.getD 10 undef, a.tmps.getD 11 undef, a.tmps.getD 12 undef, a.tmps.getD 13 undef, a.tmps.getD 14 undef, a.tmps.getD 15 undef, a.tmps.getD 16 undef, a.tmps.getD 17 undef, a.tmps.getD 18 undef, a.tmps.getD 19 undef, a.tmps.getD 20 undef, a.tmps.getD 21 undef, a.tmps.getD 22 undef, a.tmps.getD 23 undef, a.tmps.getD 24 undef, a.tmps.getD 25 undef, a.tmps.getD 26 undef, a.tmps.getD 27 undef, a.tmps.getD 28 undef, a.tmps.getD 29 undef, a.tmps.getD 30 undef, a.tmps.getD 31 undef, a.tmps.getD 32 undef, a.tmps.getD 33 undef, a.tmps.getD 34 undef, a.tmps.getD 35 undef, a.tmps.getD 36 undef, a.tmps.getD 37 undef, a.tmps.getD 38 undef, a.tmps.getD 39 undef, a.tmps.getD 40 undef, a.tmps.getD 41 undef, a.tmps.getD 42 undef, a.tmps.getD 43 undef, a.tmps.getD 44 undef, a.tmps.getD 45 undef, a.tmps.getD 46 undef, a.tmps.getD 47 undef, a.tmps.getD 48 undef, a.tmps.getD 49 undef, a.tmps.getD 50 undef, a.tmps.getD 51 undef, a.tmps.getD 52 undef, a.tmps.getD 53 undef, a.tmps.getD 54 undef, a.tmps.getD 55 undef, a.tmps.getD 56 undef, a.tmps.getD 57 undef, a.tmps.getD 58 undef, a.tmps.getD 59 undef, a.tmps.getD 60 undef, a.tmps.getD 61 undef, a.tmps.getD 62 undef, a.tmps.getD 63 undef, a.tmps.getD 64 undef, a.tmps.getD 65 undef, a.tmps.getD 66 undef, a.tmps.getD 67 undef, a.tmps.getD 68 undef, a.tmps.getD 69 undef, a.tmps.getD 70 undef, a.tmps.getD 71 undef, a.tmps.getD 72 undef, a.tmps.getD 73 undef, a.tmps.getD 74 undef, a.tmps.getD 75 undef, a.tmps.getD 76 undef, a.tmps.getD 77 undef, a.tmps.getD 78 undef, a.tmps.getD 79 undef, a.tmps.getD 80 undef, a.tmps.getD 81 undef, a.tmps.getD 82 undef, a.tmps.getD 83 undef], defers := [] }) (hk : k ≤ d.length) (hv : POwn wr w.heap.size v (d.take k)) (hB : Below w.heap.size w wr) : RfI w ad d c a wr := ⟨k, v, fun i => a.tmps.getD i undef, h, hk, hv, hB⟩
theorem take_snocP {d : List PcV} {k : Nat} {p : PcV} (h : d[k]? = some p) : d.take (k + 1) = d.take k ++ [p] := by rw [List.take_add_one, h]; rfl
theorem refForm_ok (ad : Option Addr) (c : Nat) (d : List PcV) (w : World) (hr : PRow w ad d) (hd : DOK d) (hA : Alt d) (hc : d.length ≤ c) : Calls Tryz.prog 130 #[.slice ad d.length c] w fun e w' => ∃ v, e = .returned v ∧ POwn w' w.heap.size v d ∧ Below w.heap.size w w' := by
  obtain ⟨i0, hi, hz0, hz1, hz2⟩ := info_parts infoP
  obtain ⟨j0, hj, jz0, jz1, jz2⟩ := info_parts infoBy
  have h4 := hd.1
  go_enter Tryz.func130, Tryz.ntmps130
  go_wp2
  refine wp_loop (RfI w ad d c) (fun a _ => d.length - (intOf (a.tmps.getD 4 undef)).toNat) ?_ ?_
  · exact RfI.intro 0 (.slice none 0 0) rfl (by omega) (World.ownsRow_nil _ _ _ _) (Below.refl _ _)
  · rintro a wr ⟨k, v, u, rfl, hk, hv, hB⟩
    have hlk : (d.take k).length = k := by rw [List.length_take]; omega
    by_cases hlt : k < d.length
    · have hg := List.getElem?_eq_getElem hlt
      generalize d[k] = p at hg
      obtain ⟨hp1, hp2, hp3⟩ := hd.2 p (List.mem_of_getElem? hg)
      obtain ⟨hn0, hkd⟩ := pc_bounds hp1
      rcases hr.on hB with ⟨_, h2⟩ | ⟨b, off, rfl, hb, hcell⟩
      · rw [h2] at hlt; simp at hlt
      obtain ⟨c0, c1, c2⟩ := pc_at hcell hg
      have hkc : (k : Int) ≤ c := by omega
      have HR5 : ∀ W, Below w.heap.size w W → PCs W b off d := fun W hW => by
        rcases hr.on hW with ⟨h1, _⟩ | ⟨b', off', h1, _, h3⟩
        · cases h1
        · injection h1 with h1; injection h1 with e1 e2 _; subst e1; subst e2; exact h3
      obtain ⟨pk, pn, pt⟩ := p
      rcases hkd with e | e | e
      · obtain rfl : pk = 1 := e
        obtain ⟨hpn, hpt⟩ : 1 ≤ pn ∧ pt.size = 0 := by unfold pcP at hp1; dsimp only at hp1; omega
        have hptx := nil_txt hpt
        subst hptx
        by_cases hlt1 : k + 1 < d.length
        · have hg1 := List.getElem?_eq_getElem hlt1
          generalize d[k + 1] = q at hg1
          have hqk : q.kind ≠ 1 := (hA.1 k _ q hg hg1).1 rfl
          obtain ⟨y0, y1, y2⟩ := pc_at hcell hg1
          have e1 : (q.kind == 1) = false := by simpa using hqk
          clear hg1 hqk
          have HLK := Lib.hid hlk
          have HG := Lib.hid hg
          clear hlk hg hr hp1 hcell
          go_wp2
          refine wp_loop_rounds 1 ?_
          rw [rounds_succ]
          go_wp2
          refine wp_loop_rounds 2 ?_
          rw [rounds_succ]
          go_wp2
          rw [rounds_succ]
          go_wp2_with (at_builtin; refine wpList_append_own _ rfl _ _ 32 rfl w.heap.size 132 i0 _ 3 32 Tryz.underlying32 hi hz0 hz1 hz2 rfl (by decide) _ _ _ rfl (hv.alloc _) ⟨_, 0, none⟩ 1 1 (pcL ⟨1, pn, ⟨#[]⟩⟩) rfl rfl (pieces_new _ _ _) (pcL_ones _) (by unfold maxLen; have hlk := HLK.out; omega) (by have hlk := HLK.out; omega) (by have := hB.size; simp; omega) ?_; intro v5 w5 hw5 hg5 _; have hB5 := (hB.alloc hB.size (.cells (pcL ⟨1, pn, ⟨#[]⟩⟩).toArray 132)).grown hg5 (by have := hB.size; simp; omega) (fun k hk => (hv.lt k hk).1); have hv5 := POwn.snoc hw5)
          exact ⟨RfI.intro (k + 1) v5 rfl (by omega) (by rw [take_snocP HG.out]; exact hv5) hB5, by simp [intOf]; omega⟩
        · have e9 : decide ((k : Int) + 1 < d.length) = false := by simp; omega
          have HLK := Lib.hid hlk
          have HG := Lib.hid hg
          clear hlk hg hr hp1 hcell
          go_wp2
          refine wp_loop_rounds 1 ?_
          rw [rounds_succ]
          go_wp2
          refine wp_loop_rounds 2 ?_
          rw [rounds_succ]
          go_wp2
          rw [rounds_succ]
          go_wp2_with (at_builtin; refine wpList_append_own _ rfl _ _ 32 rfl w.heap.size 132 i0 _ 3 32 Tryz.underlying32 hi hz0 hz1 hz2 rfl (by decide) _ _ _ rfl (hv.alloc _) ⟨_, 0, none⟩ 1 1 (pcL ⟨1, pn, ⟨#[]⟩⟩) rfl rfl (pieces_new _ _ _) (pcL_ones _) (by unfold maxLen; have hlk := HLK.out; omega) (by have hlk := HLK.out; omega) (by have := hB.size; simp; omega) ?_; intro v5 w5 hw5 hg5 _; have hB5 := (hB.alloc hB.size (.cells (pcL ⟨1, pn, ⟨#[]⟩⟩).toArray 132)).grown hg5 (by have := hB.size; simp; omega) (fun k hk => (hv.lt k hk).1); have hv5 := POwn.snoc hw5)
          exact ⟨RfI.intro (k + 1) v5 rfl (by omega) (by rw [take_snocP HG.out]; exact hv5) hB5, by simp [intOf]; omega⟩
      · obtain rfl : pk = 2 := e
        obtain ⟨hpn, hpt⟩ : pn = 0 ∧ pt.size ≠ 0 := by unfold pcP at hp1; dsimp only at hp1; omega
        subst hpn
        have e5 : decide (0 < pt.size) = true := by simp; omega
        have e6 : decide (0 < (pt.size : Int)) = true := by simp; omega
        have hlate := hA.2 k _ hg (show ¬ ((2 : Int) = 1) by omega)
        have HLK := Lib.hid hlk
        have HG := Lib.hid hg
        have hpts : pt.size ≤ 100000 := hp3
        by_cases hlt1 : k + 1 < d.length
        · have hg1 := List.getElem?_eq_getElem hlt1
          generalize d[k + 1] = q at hg1
          have hqk : q.kind = 1 := Decidable.not_not.1 (fun h => absurd ((hA.1 k _ q hg hg1).2 h) (show ¬ ((2 : Int) = 1) by omega))
          obtain ⟨hq1, hq2, hq3⟩ := hd.2 q (List.mem_of_getElem? hg1)
          obtain ⟨qk, qn, qt⟩ := q
          obtain rfl : qk = 1 := hqk
          obtain ⟨hqn, hqt⟩ : 1 ≤ qn ∧ qt.size = 0 := by unfold pcP at hq1; dsimp only at hq1; omega
          have hqx := nil_txt hqt
          subst hqx
          have hle : d.length = k + 2 := by omega
          have HC := Lib.hid (show PCs wr b off d from hcell)
          have HG1 := Lib.hid hg1
          have d9 : decide ((k : Int) + 1 + 1 < d.length) = false := by simp; omega
          have d8 : decide ((k : Int) + 1 < d.length) = true := by simp; omega
          have e8 : decide (0 < qn) = true := by simp; omega
          have HLE := Lib.hid hle
          clear hlk hg hr hp1 hg1 hq1 hqt hcell hle hlate
          go_wp2
          refine wp_loop_rounds 2 ?_
          rw [rounds_succ]
          go_wp2_with (at_builtin; refine Lib.wpList_append_own_stringF _ rfl _ _ 98 9 rfl wr.heap.size 5 j0 Tryz.underlying98 Tryz.underlying9 hj jz0 jz1 jz2 _ _ _ rfl (World.ownsRowF_nil _ _ _ _) pt rfl (by unfold maxLen; omega) (by omega) (by omega) ?_; intro tv w3 htv hgt hnn; have hB3 : Below wr.heap.size wr w3 := (Below.refl _ wr).grown hgt (Nat.le_refl _) (fun k hk => by cases hk); have hv3 := own_below6 hv hB3; have hB3' := hB.trans (hB3.mono hB.size); rw [strCells_nil, Nat.zero_add] at htv; obtain ⟨ta, tc, rfl⟩ := rowF_slice htv; have hcv := conv_bytes' (l := pt.data.toList) htv Array.length_toList; rw [conv_back] at hcv; clear hnn hgt; have c13 := (hB3.cell (p := ⟨b, off + k * 3 + 1, none⟩) hb).trans c1; have hc3 := HC.out.on hB3 hb; obtain ⟨q30, q31, q32⟩ := pc_at hc3 HG1.out)
          rw [rounds_succ]
          go_wp2_with (at_builtin; refine wpList_append_own _ rfl _ _ 32 rfl w.heap.size 132 i0 _ 3 32 Tryz.underlying32 hi hz0 hz1 hz2 rfl (by decide) _ _ _ rfl (hv3.alloc _) ⟨_, 0, none⟩ 1 1 (pcL ⟨2, 0, pt⟩) rfl rfl (pieces_new _ _ _) (pcL_ones _) (by unfold maxLen; have hlk := HLK.out; omega) (by have hlk := HLK.out; omega) (by have := hB3'.size; simp; omega) ?_; intro v5 w5 hw5 hg5 _; have hB5 := (hB3'.alloc hB3'.size (.cells (pcL ⟨2, 0, pt⟩).toArray 132)).grown hg5 (by have := hB3'.size; simp; omega) (fun k hk => (hv3.lt k hk).1); have hv5 := POwn.snoc hw5; obtain ⟨q50, q51, q52⟩ := pc_at (HR5 _ hB5) HG1.out)
          have HL5 : (d.take k ++ [(⟨2, 0, pt⟩ : PcV)]).length = k + 1 := by rw [List.length_append, HLK.out]; rfl
          refine wp_loop_rounds 2 ?_
          rw [rounds_succ]
          go_wp2
          rw [rounds_succ]
          go_wp2_with (at_builtin; refine wpList_append_own _ rfl _ _ 32 rfl w.heap.size 132 i0 _ 3 32 Tryz.underlying32 hi hz0 hz1 hz2 rfl (by decide) _ _ _ rfl (hv5.alloc _) ⟨_, 0, none⟩ 1 1 (pcL ⟨1, qn, ⟨#[]⟩⟩) rfl rfl (pieces_new _ _ _) (pcL_ones _) (by unfold maxLen; have hlk5 := HL5; omega) (by have hlk5 := HL5; omega) (by have := hB5.size; simp; omega) ?_; intro v6 w6 hw6 hg6 _; have hB6 := (hB5.alloc hB5.size (.cells (pcL ⟨1, qn, ⟨#[]⟩⟩).toArray 132)).grown hg6 (by have := hB5.size; simp; omega) (fun k hk => (hv5.lt k hk).1); have hv6 := POwn.snoc hw6)
          exact ⟨RfI.intro (k + 1 + 1) v6 rfl (by rw [HLE.out]; omega) (by rw [take_snocP HG1.out, take_snocP HG.out]; exact hv6) hB6, by simp [intOf]; rw [HLE.out]; omega⟩
        · have hle : d.length = k + 1 := by omega
          have d8 : decide ((k : Int) + 1 < d.length) = false := by simp; omega
          have HLE := Lib.hid hle
          clear hlk hg hr hp1 hcell hle hlate
          go_wp2
          refine wp_loop_rounds 2 ?_
          rw [rounds_succ]
          go_wp2_with (at_builtin; refine Lib.wpList_append_own_stringF _ rfl _ _ 98 9 rfl wr.heap.size 5 j0 Tryz.underlying98 Tryz.underlying9 hj jz0 jz1 jz2 _ _ _ rfl (World.ownsRowF_nil _ _ _ _) pt rfl (by unfold maxLen; omega) (by omega) (by omega) ?_; intro tv w3 htv hgt hnn; have hB3 : Below wr.heap.size wr w3 := (Below.refl _ wr).grown hgt (Nat.le_refl _) (fun k hk => by cases hk); have hv3 := own_below6 hv hB3; have hB3' := hB.trans (hB3.mono hB.size); rw [strCells_nil, Nat.zero_add] at htv; obtain ⟨ta, tc, rfl⟩ := rowF_slice htv; have hcv := conv_bytes' (l := pt.data.toList) htv Array.length_toList; rw [conv_back] at hcv; clear hnn hgt; have c13 := (hB3.cell (p := ⟨b, off + k * 3 + 1, none⟩) hb).trans c1; skip)
          rw [rounds_succ]
          go_wp2_with (at_builtin; refine wpList_append_own _ rfl _ _ 32 rfl w.heap.size 132 i0 _ 3 32 Tryz.underlying32 hi hz0 hz1 hz2 rfl (by decide) _ _ _ rfl (hv3.alloc _) ⟨_, 0, none⟩ 1 1 (pcL ⟨2, 0, pt⟩) rfl rfl (pieces_new _ _ _) (pcL_ones _) (by unfold maxLen; have hlk := HLK.out; omega) (by have hlk := HLK.out; omega) (by have := hB3'.size; simp; omega) ?_; intro v5 w5 hw5 hg5 _; have hB5 := (hB3'.alloc hB3'.size (.cells (pcL ⟨2, 0, pt⟩).toArray 132)).grown hg5 (by have := hB3'.size; simp; omega) (fun k hk => (hv3.lt k hk).1); have hv5 := POwn.snoc hw5)
          refine wp_loop_rounds 1 ?_
          rw [rounds_succ]
          go_wp2
          exact ⟨RfI.intro (k + 1) v5 rfl (by rw [HLE.out]; omega) (by rw [take_snocP HG.out]; exact hv5) hB5, by simp [intOf]; rw [HLE.out]; omega⟩
      · obtain rfl : pk = 3 := e
        obtain ⟨hpn, hpt⟩ : 1 ≤ pn ∧ pt.size = 0 := by unfold pcP at hp1; dsimp only at hp1; omega
        have hptx := nil_txt hpt
        have e5 : decide (0 < pt.size) = false := decide_eq_false (by omega)
        have e6 : decide (0 < (pt.size : Int)) = false := decide_eq_false (by omega)
        have e7 : decide (0 < pn) = true := by simp; omega
        have HPT := Lib.hid hptx
        have hlate := hA.2 k _ hg (show ¬ ((3 : Int) = 1) by omega)
        have HLK := Lib.hid hlk
        have HG := Lib.hid hg
        have hpts : pt.size ≤ 100000 := hp3
        by_cases hlt1 : k + 1 < d.length
        · have hg1 := List.getElem?_eq_getElem hlt1
          generalize d[k + 1] = q at hg1
          have hqk : q.kind = 1 := Decidable.not_not.1 (fun h => absurd ((hA.1 k _ q hg hg1).2 h) (show ¬ ((3 : Int) = 1) by omega))
          obtain ⟨hq1, hq2, hq3⟩ := hd.2 q (List.mem_of_getElem? hg1)
          obtain ⟨qk, qn, qt⟩ := q
          obtain rfl : qk = 1 := hqk
          obtain ⟨hqn, hqt⟩ : 1 ≤ qn ∧ qt.size = 0 := by unfold pcP at hq1; dsimp only at hq1; omega
          have hqx := nil_txt hqt
          subst hqx
          have hle : d.length = k + 2 := by omega
          have HC := Lib.hid (show PCs wr b off d from hcell)
          have HG1 := Lib.hid hg1
          have d9 : decide ((k : Int) + 1 + 1 < d.length) = false := by simp; omega
          have d8 : decide ((k : Int) + 1 < d.length) = true := by simp; omega
          have e8 : decide (0 < qn) = true := by simp; omega
          have HLE := Lib.hid hle
          clear hlk hg hr hp1 hptx hpt hg1 hq1 hqt hcell hle hlate
          go_wp2
          refine wp_loop_rounds 2 ?_
          rw [rounds_succ]
          go_wp2_with (at_builtin; refine Lib.wpList_append_own_stringF _ rfl _ _ 98 9 rfl wr.heap.size 5 j0 Tryz.underlying98 Tryz.underlying9 hj jz0 jz1 jz2 _ _ _ rfl (World.ownsRowF_nil _ _ _ _) pt rfl (by unfold maxLen; omega) (by omega) (by omega) ?_; intro tv w3 htv hgt hnn; have hB3 : Below wr.heap.size wr w3 := (Below.refl _ wr).grown hgt (Nat.le_refl _) (fun k hk => by cases hk); have hv3 := own_below6 hv hB3; have hB3' := hB.trans (hB3.mono hB.size); rw [strCells_nil, Nat.zero_add] at htv; obtain ⟨ta, tc, rfl⟩ := rowF_slice htv; have hcv := conv_bytes' (l := pt.data.toList) htv Array.length_toList; rw [conv_back] at hcv; clear hnn hgt; have c13 := (hB3.cell (p := ⟨b, off + k * 3 + 1, none⟩) hb).trans c1; have hc3 := HC.out.on hB3 hb; obtain ⟨q30, q31, q32⟩ := pc_at hc3 HG1.out)
          rw [rounds_succ]
          go_wp2_with (at_builtin; refine wpList_append_own _ rfl _ _ 32 rfl w.heap.size 132 i0 _ 3 32 Tryz.underlying32 hi hz0 hz1 hz2 rfl (by decide) _ _ _ rfl (hv3.alloc _) ⟨_, 0, none⟩ 1 1 (pcL ⟨3, pn, ⟨#[]⟩⟩) rfl rfl (pieces_new _ _ _) (pcL_ones _) (by unfold maxLen; have hlk := HLK.out; omega) (by have hlk := HLK.out; omega) (by have := hB3'.size; simp; omega) ?_; intro v5 w5 hw5 hg5 _; have hB5 := (hB3'.alloc hB3'.size (.cells (pcL ⟨3, pn, ⟨#[]⟩⟩).toArray 132)).grown hg5 (by have := hB3'.size; simp; omega) (fun k hk => (hv3.lt k hk).1); have hv5 := POwn.snoc hw5; obtain ⟨q50, q51, q52⟩ := pc_at (HR5 _ hB5) HG1.out)
          have HL5 : (d.take k ++ [(⟨3, pn, ⟨#[]⟩⟩ : PcV)]).length = k + 1 := by rw [List.length_append, HLK.out]; rfl
          refine wp_loop_rounds 2 ?_
          rw [rounds_succ]
          go_wp2
          rw [rounds_succ]
          go_wp2_with (at_builtin; refine wpList_append_own _ rfl _ _ 32 rfl w.heap.size 132 i0 _ 3 32 Tryz.underlying32 hi hz0 hz1 hz2 rfl (by decide) _ _ _ rfl (hv5.alloc _) ⟨_, 0, none⟩ 1 1 (pcL ⟨1, qn, ⟨#[]⟩⟩) rfl rfl (pieces_new _ _ _) (pcL_ones _) (by unfold maxLen; have hlk5 := HL5; omega) (by have hlk5 := HL5; omega) (by have := hB5.size; simp; omega) ?_; intro v6 w6 hw6 hg6 _; have hB6 := (hB5.alloc hB5.size (.cells (pcL ⟨1, qn, ⟨#[]⟩⟩).toArray 132)).grown hg6 (by have := hB5.size; simp; omega) (fun k hk => (hv5.lt k hk).1); have hv6 := POwn.snoc hw6)
          exact ⟨RfI.intro (k + 1 + 1) v6 rfl (by rw [HLE.out]; omega) (by rw [take_snocP HG1.out, take_snocP HG.out, HPT.out]; exact hv6) hB6, by simp [intOf]; rw [HLE.out]; omega⟩
        · have hle : d.length = k + 1 := by omega
          have d8 : decide ((k : Int) + 1 < d.length) = false := by simp; omega
          have HLE := Lib.hid hle
          clear hlk hg hr hp1 hptx hpt hcell hle hlate
          go_wp2
          refine wp_loop_rounds 2 ?_
          rw [rounds_succ]
          go_wp2_with (at_builtin; refine Lib.wpList_append_own_stringF _ rfl _ _ 98 9 rfl wr.heap.size 5 j0 Tryz.underlying98 Tryz.underlying9 hj jz0 jz1 jz2 _ _ _ rfl (World.ownsRowF_nil _ _ _ _) pt rfl (by unfold maxLen; omega) (by omega) (by omega) ?_; intro tv w3 htv hgt hnn; have hB3 : Below wr.heap.size wr w3 := (Below.refl _ wr).grown hgt (Nat.le_refl _) (fun k hk => by cases hk); have hv3 := own_below6 hv hB3; have hB3' := hB.trans (hB3.mono hB.size); rw [strCells_nil, Nat.zero_add] at htv; obtain ⟨ta, tc, rfl⟩ := rowF_slice htv; have hcv := conv_bytes' (l := pt.data.toList) htv Array.length_toList; rw [conv_back] at hcv; clear hnn hgt; have c13 := (hB3.cell (p := ⟨b, off + k * 3 + 1, none⟩) hb).trans c1; skip)
          rw [rounds_succ]
          go_wp2_with (at_builtin; refine wpList_append_own _ rfl _ _ 32 rfl w.heap.size 132 i0 _ 3 32 Tryz.underlying32 hi hz0 hz1 hz2 rfl (by decide) _ _ _ rfl (hv3.alloc _) ⟨_, 0, none⟩ 1 1 (pcL ⟨3, pn, ⟨#[]⟩⟩) rfl rfl (pieces_new _ _ _) (pcL_ones _) (by unfold maxLen; have hlk := HLK.out; omega) (by have hlk := HLK.out; omega) (by have := hB3'.size; simp; omega) ?_; intro v5 w5 hw5 hg5 _; have hB5 := (hB3'.alloc hB3'.size (.cells (pcL ⟨3, pn, ⟨#[]⟩⟩).toArray 132)).grown hg5 (by have := hB3'.size; simp; omega) (fun k hk => (hv3.lt k hk).1); have hv5 := POwn.snoc hw5)
          refine wp_loop_rounds 1 ?_
          rw [rounds_succ]
          go_wp2
          exact ⟨RfI.intro (k + 1) v5 rfl (by rw [HLE.out]; omega) (by rw [take_snocP HG.out, HPT.out]; exact hv5) hB5, by simp [intOf]; rw [HLE.out]; omega⟩
    · obtain rfl : k = d.length := by omega
      rw [List.take_length] at hv
      obtain ⟨av, cv, rfl⟩ := own_slice hv
      go_wp2
      go_returns
      exact ⟨_, rfl, hv, hB⟩
end Go.Proofs.YtlealeecmmpckaaGreat
