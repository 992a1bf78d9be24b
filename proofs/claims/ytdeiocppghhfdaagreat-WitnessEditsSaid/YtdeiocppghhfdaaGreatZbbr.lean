/- Texts, one behind another. -/
import Derived.Test.YtdeiocppghhfdaaGreatZbbq
import Derived.Test.YtdeiocppghhfdaaGreatZbaw
import Derived.Laws.EntriesVeiled
set_option linter.unusedVariables false
set_option linter.unusedSimpArgs false
set_option maxRecDepth 100000
set_option maxHeartbeats 8000000
namespace Go.Proofs.YtdeiocppghhfdaaGreat
open Go.RowKit Go.Lib Go.Shelf
theorem fits_any (s : ByteArray) (a : Option Addr) (c : Nat) (d : List PcV) (w : World) (hr : PRow w a d) (hs : d.length ≤ 1000000) (hl : lenS d = ((s.size : Int), (lenS d).2.1, 0)) :
  Calls Tryz.prog 114 #[.string s, .slice a d.length c] w fun e w' => e = .returned (.int .i64 0) ∧ Below w.heap.size w w' := by
 have h1 := lengths_any0 a c d w hr hs
 rw [hl] at h1
 have H1 := Lib.hid h1
 clear h1 hl
 go_enter Tryz.func114, Tryz.ntmps114
 go_wp2_with (first | (go_at_call 111; refine H1.out.mono ?_; rintro e w1 ⟨rfl, hB1⟩))
 go_returns
 exact ⟨rfl, hB1⟩
theorem wpList_lookup_one {P : Program} (w : World) {ops : Array Oper} {rest : List Oper} {o : Oper} {a : Act} {Q : Exit → Act → World → Prop}
  (hg : o.guard = none) (m x : Operand) (t : TypeId) (hop : o.op = Op.lookup t m x false) (k e : TypeId) (ht : P.underlying t = some (.map k e)) (q : IntKind) (hk : P.underlying k = some (.int q))
  (b clock : Nat) (es : Array MapEntry) (i : Int) (hb : w.heap[b]? = some (.map es clock)) (hm : a.eval m = .map (some b)) (hx : a.eval x = .int q i) (j : Nat) (val : Value) (hf : Instr.findNow (.int q) (.int q i) es.toList 0 = some (some (j, val)))
  (hK : wpList P ops Q rest (a.put o.dst val) w) : wpList P ops Q (o :: rest) a w := by
 refine wpList_plain hg fun K' hK' => ?_
 have hc : (Instr.checkKey es.isEmpty 10000 k (.int q i)).run P w = .ok () w := MapKept.run_checkKey (k := .int q i) hk (by simp [MapKept.IsKey]) _ 9999
 have hrun : (Instr.lookup t (.map (some b)) (.int q i) false).run P w = .ok val w := by
  simp [Instr.lookup, run_underlying ht, MapKept.run_getObj_map hb, hc, MapKept.run_findKey hk hf, Result.andThen]
 unfold Oper.wp
 simp [execOp, hop, hm, hx, hrun, Result.andThen]
 exact hK' _ _ hK
def paE (B : Nat) : Array MapEntry := #[⟨.int .u8 1, .func (.func 170) #[] #[.pointer (some ⟨B + 1, 0, none⟩), .pointer (some ⟨B + 4, 0, none⟩)], 0⟩, ⟨.int .u8 3, .func (.func 172) #[] #[.pointer (some ⟨B + 2, 0, none⟩), .pointer (some ⟨B + 4, 0, none⟩)], 1⟩, ⟨.int .u8 2, .func (.func 173) #[] #[.pointer (some ⟨B + 1, 0, none⟩), .pointer (some ⟨B + 3, 0, none⟩)], 2⟩]
structure PaW (w : World) (B : Nat) (s : PaS) (r : ByteArray) (vo vg vi : Value) : Prop where
 rest : r.data.toList = s.rest
 text : Txt w B r
 out : Bv w (B + 1) vo B (Lib.byteCells s.out)
 gone : Bv w (B + 2) vg B (Lib.byteCells s.gone)
 ins : Bv w (B + 3) vi B (Lib.byteCells s.ins)
 take : Tak w B
 map : w.heap[B + 5]? = some (.map (paE B) 3)
theorem Bv.below {w w' : World} {b lo : Nat} {v : Value} {bs : List Value} (h : Bv w b v lo bs) (hb : Below w.heap.size w w') : Bv w' b v lo bs := h.keep (F := fun _ => False) (KeepF.of_below hb) (fun h => h) (fun _ _ h => h)
theorem PaW.below {w w' : World} {B : Nat} {s : PaS} {r : ByteArray} {vo vg vi : Value} (h : PaW w B s r vo vg vi) (hb : Below w.heap.size w w') : PaW w' B s r vo vg vi :=
 ⟨h.rest, (hb.block _ (Array.getElem?_eq_some_iff.1 h.text).1).trans h.text, h.out.below hb, h.gone.below hb, h.ins.below hb, (hb.block _ (Array.getElem?_eq_some_iff.1 h.take).1).trans h.take, (hb.block _ (Array.getElem?_eq_some_iff.1 h.map).1).trans h.map⟩
def PaSep (vo vg vi : Value) : Prop := ∀ g, (vg.ownBlock = some g ∨ vi.ownBlock = some g) → vo.ownBlock ≠ some g
theorem own_nil {w : World} {b lo : Nat} {v : Value} {l : List UInt8} (h : Bv w b v lo (Lib.byteCells l)) (hl : l = []) : v.ownBlock = none := by
 rw [h.nil_ (by rw [hl]; rfl)]; rfl
theorem ext_take (r : ByteArray) (n : Nat) : Lib.strCells (r.extract 0 n) = Lib.byteCells (r.data.toList.take n) := by
 rw [Lib.strCells_eq]; congr 1; simp [ByteArray.data_extract]
theorem ext_drop (r : ByteArray) (n : Nat) : (r.extract n r.size).data.toList = r.data.toList.drop n := by
 simp [ByteArray.data_extract]
 exact List.take_of_length_le (by simp)
theorem own_lt {w : World} {b lo : Nat} {v : Value} {bs : List Value} (h : Bv w b v lo bs) : ∀ k, v.ownBlock = some k → lo ≤ k ∧ k < w.heap.size := fun k hk => h.own.lt k hk
theorem own_ty {w : World} {b lo k : Nat} {v : Value} {bs : List Value} {cs : Array Value} {T : TypeId} (h : Bv w b v lo bs) (hk : w.heap[k]? = some (.cells cs T (0, 0))) (hT : T ≠ 5) : v.ownBlock ≠ some k := Lib.ownBlock_neF h.own hk hT
theorem own_bl {w : World} {b b2 lo lo2 : Nat} {v v2 : Value} {bs bs2 : List Value} (h : Bv w b v lo bs) (h2 : Bv w b2 v2 lo2 bs2) : v.ownBlock ≠ some b2 := by
 rcases h2.blk with h3 | h3
 ·exact own_ty h h3 (by decide)
 ·exact own_ty h h3 (by decide)
theorem own_map {w : World} {b lo k c : Nat} {v : Value} {bs : List Value} {es : Array MapEntry} (h : Bv w b v lo bs) (hk : w.heap[k]? = some (.map es c)) : v.ownBlock ≠ some k := by
 rcases h.own.2 with ⟨rfl, _⟩ | ⟨g, cap, cur, fz, rfl, _, hg, _⟩
 ·simp [Value.ownBlock]
 ·intro e
  simp only [Value.ownBlock, Option.some.injEq] at e
  subst e
  rw [hk] at hg; cases hg
theorem paOne_split {s : PaS} {p : PcV} {last : Bool} (h : paOne s p last = true) : (0 ≤ p.n ∧ p.n ≤ 100000) ∧ p.text.size ≤ 100000 ∧ s.out.length ≤ 300000 ∧ s.gone.length ≤ 300000 ∧ s.ins.length ≤ 300000 ∧ (p.kind = 2 ∨ (p.kind = 1 ∨ p.kind = 3) ∧ p.n.toNat ≤ s.rest.length) ∧ ((last = true ∧ p.kind = 1) ∨ (s.gone = [] ∧ s.ins = [])) := by
 unfold paOne at h
 simp only [Bool.and_eq_true, Bool.or_eq_true, decide_eq_true_eq, beq_iff_eq, List.isEmpty_iff] at h
 obtain ⟨⟨⟨⟨⟨⟨⟨h1, h2⟩, h3⟩, h4⟩, h5⟩, h6⟩, h7⟩, h8⟩ := h
 exact ⟨⟨h1, h2⟩, h3, h4, h5, h6, h7, h8⟩
theorem pa_keep {w w' : World} {B : Nat} {s : PaS} {r : ByteArray} {vo vg vi vo' : Value} {p : PcV} (h : PaW w B s r vo vg vi) (hs : PaSep vo vg vi) (hk : p.kind = 1) (ht : Txt w' B (r.extract p.n.toNat r.size)) (ho : Bv w' (B + 1) vo' B (Lib.byteCells s.out ++ Lib.strCells (r.extract 0 p.n.toNat))) (hkf : KeepF (fun k => k = B ∨ k = B + 1 ∨ vo.ownBlock = some k) w w') :
  PaW w' B (paStep s p) (r.extract p.n.toNat r.size) vo' vg vi := by
 have e : paStep s p = { s with out := s.out ++ s.rest.take p.n.toNat, rest := s.rest.drop p.n.toNat } := by unfold paStep; rw [if_pos hk]
 rw [e]
 rw [ext_take, ← Lib.byteCells_append, h.rest] at ho
 refine ⟨by rw [ext_drop, h.rest], ht, ho, h.gone.keep hkf (by rintro (h' | h' | h'); omega; omega; exact own_bl h.out h.gone h') (fun k hk' => ?_), h.ins.keep hkf (by rintro (h' | h' | h'); omega; omega; exact own_bl h.out h.ins h') (fun k hk' => ?_), (hkf.block _ (Array.getElem?_eq_some_iff.1 h.take).1 (by rintro (h' | h' | h'); omega; omega; exact own_ty h.out h.take (by decide) h')).trans h.take, (hkf.block _ (Array.getElem?_eq_some_iff.1 h.map).1 (by rintro (h' | h' | h'); omega; omega; exact own_map h.out h.map h')).trans h.map⟩
 ·rintro (h' | h' | h')
  ·exact own_ty h.gone h.text (by decide) (by rw [hk', h'])
  ·exact own_bl h.gone h.out (by rw [hk', h'])
  ·exact hs k (.inl hk') h'
 ·rintro (h' | h' | h')
  ·exact own_ty h.ins h.text (by decide) (by rw [hk', h'])
  ·exact own_bl h.ins h.out (by rw [hk', h'])
  ·exact hs k (.inr hk') h'
theorem pa_gone {w w' : World} {B : Nat} {s : PaS} {r : ByteArray} {vo vg vi vg' : Value} {p : PcV} (h : PaW w B s r vo vg vi) (he : s.gone = [] ∧ s.ins = []) (hk : p.kind = 3) (ht : Txt w' B (r.extract p.n.toNat r.size)) (ho : Bv w' (B + 2) vg' w.heap.size (Lib.byteCells s.gone ++ Lib.strCells (r.extract 0 p.n.toNat))) (hBw : B ≤ w.heap.size) (hkf : KeepF (fun k => k = B ∨ k = B + 2 ∨ vg.ownBlock = some k) w w') :
  PaW w' B (paStep s p) (r.extract p.n.toNat r.size) vo vg' vi ∧ PaSep vo vg' vi := by
 have e : paStep s p = { s with gone := s.gone ++ s.rest.take p.n.toNat, rest := s.rest.drop p.n.toNat } := by unfold paStep; rw [if_neg (by omega), if_neg (by omega)]
 have n1 := own_nil h.gone he.1
 have n2 := own_nil h.ins he.2
 rw [e]
 rw [ext_take, ← Lib.byteCells_append, h.rest] at ho
 refine ⟨⟨by rw [ext_drop, h.rest], ht, h.out.keep hkf (by rintro (h' | h' | h'); omega; omega; rw [n1] at h'; cases h') (fun k hk' => ?_), ho.lo hBw, h.ins.keep hkf (by rintro (h' | h' | h'); omega; omega; rw [n1] at h'; cases h') (fun k hk' => by rw [n2] at hk'; cases hk'), (hkf.block _ (Array.getElem?_eq_some_iff.1 h.take).1 (by rintro (h' | h' | h'); omega; omega; rw [n1] at h'; cases h')).trans h.take, (hkf.block _ (Array.getElem?_eq_some_iff.1 h.map).1 (by rintro (h' | h' | h'); omega; omega; rw [n1] at h'; cases h')).trans h.map⟩, ?_⟩
 ·rintro (h' | h' | h')
  ·exact own_ty h.out h.text (by decide) (by rw [hk', h'])
  ·exact own_bl h.out h.gone (by rw [hk', h'])
  ·rw [n1] at h'; cases h'
 ·rintro g (hg | hg) ho'
  ·have := (own_lt ho g hg).1; have := (own_lt h.out g ho').2; omega
  ·rw [n2] at hg; cases hg
theorem pa_ins {w w' : World} {B : Nat} {s : PaS} {r : ByteArray} {vo vg vi vo' vi' : Value} {p : PcV} (h : PaW w B s r vo vg vi) (he : s.gone = [] ∧ s.ins = []) (hk : p.kind = 2) (ho : Bv w' (B + 1) vo' B (Lib.byteCells s.out ++ Lib.strCells p.text)) (hi : Bv w' (B + 3) vi' B (Lib.byteCells s.ins ++ Lib.strCells p.text)) (hs : ∀ k, vi'.ownBlock = some k → vo'.ownBlock ≠ some k) (hkf : KeepF (fun k => k = B + 1 ∨ k = B + 3 ∨ vo.ownBlock = some k) w w') :
  PaW w' B (paStep s p) r vo' vg vi' ∧ PaSep vo' vg vi' := by
 have e : paStep s p = { s with out := s.out ++ p.text.data.toList, ins := s.ins ++ p.text.data.toList } := by unfold paStep; rw [if_neg (by omega), if_pos hk]
 have n1 := own_nil h.gone he.1
 rw [e]
 rw [Lib.strCells_eq, ← Lib.byteCells_append] at ho hi
 refine ⟨⟨h.rest, (hkf.block _ (Array.getElem?_eq_some_iff.1 h.text).1 (by rintro (h' | h' | h'); omega; omega; exact own_ty h.out h.text (by decide) h')).trans h.text, ho, h.gone.keep hkf (by rintro (h' | h' | h'); omega; omega; exact own_bl h.out h.gone h') (fun k hk' => by rw [n1] at hk'; cases hk'), hi, (hkf.block _ (Array.getElem?_eq_some_iff.1 h.take).1 (by rintro (h' | h' | h'); omega; omega; exact own_ty h.out h.take (by decide) h')).trans h.take, (hkf.block _ (Array.getElem?_eq_some_iff.1 h.map).1 (by rintro (h' | h' | h'); omega; omega; exact own_map h.out h.map h')).trans h.map⟩, ?_⟩
 rintro g (hg | hg)
 ·rw [n1] at hg; cases hg
 ·exact hs g hg
theorem sep_nil {w : World} {B : Nat} {s : PaS} {r : ByteArray} {vo vg vi vo' : Value} (h : PaW w B s r vo vg vi) (he : s.gone = [] ∧ s.ins = []) : PaSep vo' vg vi := by
 rintro g (hg | hg)
 ·rw [own_nil h.gone he.1] at hg; cases hg
 ·rw [own_nil h.ins he.2] at hg; cases hg
end Go.Proofs.YtdeiocppghhfdaaGreat
