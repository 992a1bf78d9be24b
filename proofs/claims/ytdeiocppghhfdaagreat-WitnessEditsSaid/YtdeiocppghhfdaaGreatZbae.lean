/- Texts, one behind another. -/
import Derived.Test.YtdeiocppghhfdaaGreatZbad
import Derived.Test.YtdeiocppghhfdaaGreatZbaa
import Derived.Test.YtdeiocppghhfdaaGreatZbac
import Derived.Test.YtdeiocppghhfdaaGreatShelf2
import Derived.Laws.CopyRow
import Derived.TacticsInMore
import Derived.OrdersIn
import Derived.RangeFuncCalls
set_option linter.unusedVariables false
set_option linter.unusedSimpArgs false
set_option maxRecDepth 100000
set_option maxHeartbeats 8000000
namespace Go.Proofs.YtdeiocppghhfdaaGreat.Hs
open Go.RowKit Go.Lib Go.Sort Go.Shelf
open KitI (iv IRow own_below infoI)
attribute [local go_sem, local simp] callL_0 callL_1 callL_2 callL_3 callL_4 callL_5 callL_6 callL_7 callL_8 callL_9 callL_10 callL_11 callL_12 callL_13 callL_14 callL_15 callL_16 callL_17 callL_18 callL_19 callL_20 callL_21 callL_22 callL_23 callL_24 callL_25 callL_26 resL_0 resL_1 resL_2 resL_3 resL_4 resL_5 resL_6 resL_7 resL_8 resL_9 resL_10 resL_11 resL_12 callG_0 callG_1 callG_2 callG_3 callG_4 callG_5 callG_6 callG_7 callG_8 callG_9 callG_10 callG_11 callG_12 callG_13 callG_14 callG_15 callG_16 callG_17 callG_18 callG_19 callG_20 callG_21 callG_22 callG_23 callG_24 callG_25 callG_26 resG_0 resG_1 resG_2 resG_3 resG_4 resG_5 resG_6 resG_7 resG_8 resG_9 resG_10 resG_11 resG_12 callL_len resL_len
attribute [local go_sem ↓] loadCall_eq loadRes_eq
attribute [local go_sem] ld_new ld_first ld_second ldr_new st_new
theorem check_two (cs : List CallV) : (checkP cs).2 = 0 ∨ (checkP cs).2 = 22 := by
 unfold checkP
 split
 ·exact .inr rfl
 ·exact .inl rfl
def BRel (w : World) (base b off cap Bl : Nat) (cs : List CallV) (q : CallV → Bool) (o i : Value) (wr : World) : Prop :=
 ∃ k : Nat, i = .int .i64 k ∧ k ≤ cs.length ∧ wr.ownsRow base 3 1 o (places q (cs.take k) 0).length ((places q (cs.take k) 0).map nv) ∧ Below w.heap.size w wr ∧ base ≤ wr.heap.size ∧ CAt wr b off cs ∧ wr.cell? ⟨Bl, 0, none⟩ = some (.slice (some ⟨b, off, none⟩) cs.length cap)
def EffPost (w : World) (base : Nat) (cs : List CallV) (e : Ending) (w' : World) : Prop :=
 ((checkP cs).2 = 22 ∧ e = .returned (.tuple #[.slice none 0 0, .int .i64 22]) ∧ Below w.heap.size w w') ∨
 ((checkP cs).2 = 0 ∧ ∃ v L, EffIs cs L ∧ e = .returned (.tuple #[v, .int .i64 0]) ∧ w'.ownsRow base 3 1 v L.length (L.map nv) ∧ Below w.heap.size w w')
theorem sort_none (p : Option Addr) (c : Nat) (f : FuncId) (cb : Array Value) (W : World) : Calls Tryz.prog 104 #[.slice p 0 c, .func (.func f) #[] cb] W fun e w' => e = .returned (.tuple #[]) ∧ w' = W :=
 AnyF.slices_SortFunc_none (P := Tryz.prog) (ρ := Tryz.sortL_ren) { Tryz.sortL with } p c _ W
theorem effects_some (b off cap : Nat) (cs : List CallV) (w : World) (hcap : cs.length ≤ cap) (hb : b < w.heap.size) (hC : CAt w b off cs) (hs : cs.length ≤ 1000000) (hok : ∀ c ∈ cs, c.Ok) :
  Calls Tryz.prog 54 #[.slice (some ⟨b, off, none⟩) cs.length cap] w (EffPost w (w.heap.size + 1) cs) := by
 obtain ⟨i0, hi, hz0, hz1, hz2⟩ := info_parts infoI
 obtain ⟨wa, hwa⟩ : ∃ wa, w.alloc (.cells #[.slice (some ⟨b, off, none⟩) cs.length cap] 25) = wa := ⟨_, rfl⟩
 have hsz : wa.heap.size = w.heap.size + 1 := by rw [← hwa]; simp
 have hBa : Below w.heap.size w wa := by rw [← hwa]; exact (Below.refl _ _).alloc (Nat.le_refl _) _
 have hbox : wa.cell? ⟨w.heap.size, 0, none⟩ = some (.slice (some ⟨b, off, none⟩) cs.length cap) := by rw [← hwa]; exact (Boxed.new w _ _).cell
 have hCa := hC.below hBa hb
 have ck := check_any (some ⟨b, off, none⟩) cap cs wa (.inr ⟨b, off, rfl, hcap, by omega, hCa⟩) hs hok
 obtain ⟨k1, hk1⟩ : ∃ k1, (checkP cs).1 = k1 := ⟨_, rfl⟩
 rw [hk1] at ck
 rcases check_two cs with h0 | h22
 ·rw [h0] at ck
  have H0 := Lib.hid h0
  have Hk1 := Lib.hid hk1
  clear h0 hk1 hC
  go_enter Tryz.func54, Tryz.ntmps54
  go_wp2_with fail
  have Hwa := Lib.hid hwa
  clear hwa
  refine ck.mono ?_
  clear ck
  rintro e w1 ⟨rfl, hB1⟩
  have hb1 := (hB1.cell (p := ⟨w.heap.size, 0, none⟩) (by simp; omega)).trans hbox
  have hC1 := hCa.on hB1
  have hBw := hBa.trans (hB1.mono (by omega))
  have hz := hB1.size
  clear hbox hCa hB1 hBa
  go_wp2
  go_loopw [6, 19] (fun o i wr => BRel w (w.heap.size + 1) b off cap w.heap.size cs tookQ o i wr) (fun o i wr => cs.length - (intOf i).toNat)
  case atStart => exact ⟨0, rfl, by omega, World.ownsRow_nil _ _ _ _, hBw, by omega, hC1, hb1⟩
  case round =>
   clear hb1 hC1 hBw hz
   obtain ⟨k, rfl, hk, hown, hB, hz, hC2, hb2⟩ := hrel
   by_cases hlt : k < cs.length
   ·obtain ⟨c, hc⟩ : ∃ c, cs[k]? = some c := ⟨_, List.getElem?_eq_getElem hlt⟩
    have hld := hC2.load hc
    have hst := places_step (q := tookQ) hc
    have hle := places_len (q := tookQ) (cs := cs.take k) (k := 0)
    rw [List.length_take, Nat.min_eq_left hk] at hle
    generalize places tookQ (cs.take k) 0 = pl at *
    have Hst := Lib.hid hst
    clear hst hc
    have hBq : Below wr.heap.size wr (wr.alloc (.cells (callL c).toArray 56)) := (Below.refl _ _).alloc (Nat.le_refl _) _
    have hown2 := hown.alloc (.cells (callL c).toArray 56)
    by_cases hq : 0 ≤ c.took
    ·have hq' : tookQ c = true := by simpa [tookQ] using hq
     have Hq := Lib.hid hq'
     clear hq'
     go_wp2_with (at_builtin; refine wpList_append_own _ rfl _ _ 28 rfl (w.heap.size + 1) 3 i0 (.int .i64 0) 1 8 Tryz.underlying28 hi hz0 hz1 hz2 rfl (by decide) _ _ _ rfl (hown2.alloc _) ⟨_, 0, none⟩ 1 1 [.int .i64 (k : Int)] rfl rfl (cell_one_new1 _ _ _ _) (by simp [Value.oneCell']) (by unfold maxLen; omega) (by omega) (by simp at *; omega) ?_; intro v' w3 hown' hgrow _)
     have hB3 := ((hB.alloc hB.size (.cells (callL c).toArray 56)).alloc (by have := hB.size; simp; omega) (.cells #[.int .i64 (k : Int)] 3)).grown hgrow (by have := hB.size; simp at *; omega) fun k hk => (by have := (hown2.lt k hk).1; omega)
     have hk3 : ∀ p : Addr, p.block < w.heap.size + 1 → w3.cell? p = wr.cell? p := fun p hp => by
      have h1 : Below (w.heap.size + 1) wr w3 := (((Below.refl _ _).alloc hz (.cells (callL c).toArray 56)).alloc (by simp; omega) (.cells #[.int .i64 (k : Int)] 3)).grown hgrow (by simp; omega) fun k hk => (hown2.lt k hk).1
      exact h1.cell hp
     have hz3 : w.heap.size + 1 ≤ w3.heap.size := by have := hgrow.size; simp at this; omega
     go_roundw
     case rel => exact ⟨k + 1, by go_num, by omega, by rw [Hst.out, Hq.out]; simpa [nv] using hown', hB3, hz3, fun j u hj => (hk3 _ (by simp; omega)).trans (hC2 j u hj), (hk3 _ (by simp)).trans hb2⟩
     case measure => simp [intOf]; omega
    ·have hq' : tookQ c = false := by simpa [tookQ] using hq
     have Hq := Lib.hid hq'
     have hlt0 : c.took < 0 := by omega
     clear hq' hq
     have hC4 := hC2.on hBq
     have hb4 := (hBq.cell (p := ⟨w.heap.size, 0, none⟩) (by simp; omega)).trans hb2
     go_wp2
     go_roundw
     case rel => exact ⟨k + 1, by go_num, by omega, by rw [Hst.out, Hq.out]; simpa [nv] using hown2, hB.alloc hB.size _, by simp; omega, hC4, hb4⟩
     case measure => simp [intOf]; omega
   ·have hkk : k = cs.length := by omega
    rw [hkk, List.take_length] at hown
    have hlen := places_len (q := tookQ) (cs := cs) (k := 0)
    clear hkk
    by_cases hp0 : (places tookQ cs 0).length = 0
    ·have hnil : places tookQ cs 0 = [] := List.length_eq_zero_iff.1 hp0
     rw [hnil] at hown
     obtain ⟨p, c', rfl⟩ : ∃ p c', u6 = .slice p 0 c' := by
      rcases hown.2 with ⟨h1, _⟩ | ⟨g, c', cur, h1, _⟩
      ·exact ⟨_, _, h1⟩
      ·exact ⟨_, _, h1⟩
     have Hnil := Lib.hid hnil
     clear hnil hp0 hlen
     go_wp2_with (go_at_call 104; refine (sort_none _ _ _ _ _).mono ?_; rintro e w' ⟨rfl, rfl⟩)
     go_returns
     exact .inr ⟨H0.out, _, [], ⟨by rw [Hnil.out], List.Pairwise.nil⟩, rfl, hown, hB⟩
    ·rcases hown.2 with ⟨_, h1⟩ | ⟨g, cg, cur, rfl, hbase, hg, hnc, hcm, hcs, htake⟩
     ·exact absurd h1 hp0
     ·rw [Nat.mul_one] at htake
      have so := sortE w.heap.size b off cap g cg cs H0.out hok wr cur _ (by omega) hs hb2 hC2 (by omega) (by omega) hg htake hnc hcm hcs (w.heap.size + 1) hbase
      clear hg htake hcs hcm hp0 hown
      go_wp2_with fail
      refine so.mono ?_
      clear so
      rintro e w' ⟨rfl, L, hL, hrow, hgr, hll⟩
      have hrow2 : w'.ownsRow (w.heap.size + 1) 3 1 (.slice (some ⟨g, 0, none⟩) (places tookQ cs 0).length cg) L.length (L.map nv) := by rw [← hll]; exact hrow
      have hB5 := hB.grown hgr hB.size (fun k hk => by cases hk; omega)
      go_wp2
      go_returns
      exact .inr ⟨H0.out, _, L, hL, rfl, hrow2, hB5⟩
 ·rw [h22] at ck
  have H0 := Lib.hid h22
  have Hk1 := Lib.hid hk1
  clear h22 hk1 hC
  go_enter Tryz.func54, Tryz.ntmps54
  go_wp2_with fail
  refine ck.mono ?_
  clear ck
  rintro e w1 ⟨rfl, hB1⟩
  have hBw := hBa.trans (hB1.mono (by omega))
  clear hbox hCa hB1 hBa hwa
  go_wp2
  go_returns
  exact .inl ⟨H0.out, rfl, hBw⟩
theorem check_nilP : checkP [] = (0, 0) := rfl
theorem effects_nil (w : World) : Calls Tryz.prog 54 #[.slice none 0 0] w (EffPost w (w.heap.size + 1) []) := by
 have ck := fun W => check_nil W
 rw [check_nilP] at ck
 go_enter Tryz.func54, Tryz.ntmps54
 go_wp2_with fail
 refine (ck _).mono ?_
 rintro e w1 ⟨rfl, hB1⟩
 have hb1 := (hB1.cell (p := ⟨w.heap.size, 0, none⟩) (by simp)).trans (Boxed.new w 25 (.slice none 0 0)).cell
 have hBw := ((Below.refl w.heap.size w).alloc (Nat.le_refl _) (.cells #[.slice none 0 0] 25)).trans (hB1.mono (by simp))
 go_wp2
 refine wp_loop_rounds 1 ?_
 rw [rounds_succ]
 go_wp2_with (go_at_call 104; refine (sort_none _ _ _ _ _).mono ?_; rintro e w' ⟨rfl, rfl⟩)
 go_returns
 exact .inr ⟨rfl, _, [], ⟨List.Perm.refl _, List.Pairwise.nil⟩, rfl, World.ownsRow_nil _ _ _ _, hBw⟩
theorem effects_any (p : Option Addr) (cap : Nat) (cs : List CallV) (w : World) (hC : CRow w p cap cs) (hs : cs.length ≤ 1000000) (hok : ∀ c ∈ cs, c.Ok) :
  Calls Tryz.prog 54 #[.slice p cs.length cap] w (EffPost w (w.heap.size + 1) cs) := by
 rcases hC with ⟨rfl, rfl, rfl⟩ | ⟨b, off, rfl, h1, h2, h3⟩
 ·exact effects_nil w
 ·exact effects_some b off cap cs w h1 h2 h3 hs hok
end Go.Proofs.YtdeiocppghhfdaaGreat.Hs
namespace Go.Proofs.YtdeiocppghhfdaaGreat.Hs
open Go.RowKit Go.Lib Go.Shelf
open KitI (iv IRow own_below infoI)
attribute [local go_sem, local simp] callL_0 callL_1 callL_2 callL_3 callL_4 callL_5 callL_6 callL_7 callL_8 callL_9 callL_10 callL_11 callL_12 callL_13 callL_14 callL_15 callL_16 callL_17 callL_18 callL_19 callL_20 callL_21 callL_22 callL_23 callL_24 callL_25 callL_26 resL_0 resL_1 resL_2 resL_3 resL_4 resL_5 resL_6 resL_7 resL_8 resL_9 resL_10 resL_11 resL_12 callG_0 callG_1 callG_2 callG_3 callG_4 callG_5 callG_6 callG_7 callG_8 callG_9 callG_10 callG_11 callG_12 callG_13 callG_14 callG_15 callG_16 callG_17 callG_18 callG_19 callG_20 callG_21 callG_22 callG_23 callG_24 callG_25 callG_26 resG_0 resG_1 resG_2 resG_3 resG_4 resG_5 resG_6 resG_7 resG_8 resG_9 resG_10 resG_11 resG_12 callL_len resL_len
attribute [local go_sem ↓] loadCall_eq loadRes_eq
attribute [local go_sem] ld_new ld_first ld_second ldr_new st_new
def IRd (w : World) (po : Option Addr) (zs : List Int) : Prop := zs = [] ∨ ∃ b off, po = some ⟨b, off, none⟩ ∧ ∀ j u, zs[j]? = some u → w.cell? ⟨b, off + j, none⟩ = some (iv u)
theorem IRd.of {w : World} {po : Option Addr} {n c : Nat} {zs : List Int} (h : IRow w (.slice po n c) zs) : IRd w po zs := by
 rcases h with ⟨_, h⟩ | ⟨b, off, c', h, hc⟩
 ·exact .inl h
 ·injection h with h _ _; exact .inr ⟨b, off, h, hc⟩
theorem IRd.on {w w' : World} {po : Option Addr} {zs : List Int} (h : IRd w po zs) (hb : Below w.heap.size w w') : IRd w' po zs := by
 rcases h with h | ⟨b, off, h, hc⟩
 ·exact .inl h
 ·exact .inr ⟨b, off, h, fun j u hj => (hb.cell (KitI.cell_size (hc j u hj))).trans (hc j u hj)⟩
end Go.Proofs.YtdeiocppghhfdaaGreat.Hs
namespace Go.Proofs.YtdeiocppghhfdaaGreat.Hs
open Go.RowKit Go.Lib Go.Shelf
open KitI (own_below)
attribute [local go_sem, local simp] callL_0 callL_1 callL_2 callL_3 callL_4 callL_5 callL_6 callL_7 callL_8 callL_9 callL_10 callL_11 callL_12 callL_13 callL_14 callL_15 callL_16 callL_17 callL_18 callL_19 callL_20 callL_21 callL_22 callL_23 callL_24 callL_25 callL_26 resL_0 resL_1 resL_2 resL_3 resL_4 resL_5 resL_6 resL_7 resL_8 resL_9 resL_10 resL_11 resL_12 callG_0 callG_1 callG_2 callG_3 callG_4 callG_5 callG_6 callG_7 callG_8 callG_9 callG_10 callG_11 callG_12 callG_13 callG_14 callG_15 callG_16 callG_17 callG_18 callG_19 callG_20 callG_21 callG_22 callG_23 callG_24 callG_25 callG_26 resG_0 resG_1 resG_2 resG_3 resG_4 resG_5 resG_6 resG_7 resG_8 resG_9 resG_10 resG_11 resG_12 callL_len resL_len
attribute [local go_sem ↓] loadCall_eq loadRes_eq
attribute [local go_sem] ld_new ld_first ld_second ldr_new st_new
def piecesL (ps : List PieceV) : List Value := ps.flatMap pieceL
theorem pieceL_len (p : PieceV) : (pieceL p).length = 3 := rfl
theorem piecesL_len (ps : List PieceV) : (piecesL ps).length = ps.length * 3 := by
 induction ps with
 | nil => rfl
 | cons p ps ih => show (pieceL p ++ piecesL ps).length = _; rw [List.length_append, ih, pieceL_len, List.length_cons]; omega
theorem infoP : (Tryz.prog.info? 94).map (fun i => (i.zero, i.size, i.bytes)) = some (some (.agg #[.int .u8 0, .int .i64 0, .string ⟨#[]⟩]), 3, 32) := by kernel_rfl
theorem infoC : (Tryz.prog.info? 56).map (fun i => (i.zero, i.size, i.bytes)) = some (some (.agg #[.int .i64 0, .int .i64 0, .int .u8 0, .int .i64 0, .int .i64 0, .int .i64 0, .int .u32 0, .int .u8 0, .string ⟨#[]⟩, .int .i64 0, .int .i64 0, .int .i64 0, .int .i64 0, .int .i64 0, .int .i64 0, .int .i64 0, .int .i64 0, .int .i64 0, .int .u8 0, .string ⟨#[]⟩, .int .i64 0, .int .i64 0, .int .i64 0, .int .u8 0, .int .i64 0, .int .i64 0, .slice none 0 0]), 27, 240) := by kernel_rfl
def DAt (w : World) (c : CallV) : Prop := c.ps.length ≤ 1000000 ∧ ((c.da = none ∧ c.ps = [] ∧ c.dc = 0) ∨ ∃ b off, c.da = some ⟨b, off, none⟩ ∧ b < w.heap.size ∧ ∀ j u, (piecesL c.ps)[j]? = some u → w.cell? ⟨b, off + j, none⟩ = some u)
theorem DAt.on {w w' : World} {c : CallV} (h : DAt w c) (hb : Below w.heap.size w w') : DAt w' c := by
 rcases h with ⟨h0, h | ⟨b, off, h1, h2, h3⟩⟩
 ·exact ⟨h0, .inl h⟩
 ·exact ⟨h0, .inr ⟨b, off, h1, Nat.lt_of_lt_of_le h2 hb.size, fun j u hj => by rw [hb.cell (p := ⟨b, off + j, none⟩) h2]; exact h3 j u hj⟩⟩
def DOwn (w W : World) (c : CallV) : Prop := c.ps.length ≤ 1000000 ∧ ((c.da = none ∧ c.ps = [] ∧ c.dc = 0) ∨ ∃ (g : Nat) (cur : Array Value), c.da = some ⟨g, 0, none⟩ ∧ w.heap.size ≤ g ∧ W.heap[g]? = some (.cells cur 94 (0, 0)) ∧ ∀ (j : Nat) (u : Value), (piecesL c.ps)[j]? = some u → cur[j]? = some u)
theorem DOwn.at {w W : World} {c : CallV} (h : DOwn w W c) : DAt W c := by
 rcases h with ⟨h0, h | ⟨g, cur, h1, h2, h3, h4⟩⟩
 ·exact ⟨h0, .inl h⟩
 ·exact ⟨h0, .inr ⟨g, 0, h1, (Array.getElem?_eq_some_iff.1 h3).1, fun j u hj => by rw [Nat.zero_add, cell_of_row _ _ _ _ _ _ h3]; exact h4 j u hj⟩⟩
theorem DOwn.on {w W W' : World} {c : CallV} (h : DOwn w W c) (hb : Below W.heap.size W W') : DOwn w W' c := by
 rcases h with ⟨h0, h | ⟨g, cur, h1, h2, h3, h4⟩⟩
 ·exact ⟨h0, .inl h⟩
 ·exact ⟨h0, .inr ⟨g, cur, h1, h2, (hb.block _ (Array.getElem?_eq_some_iff.1 h3).1).trans h3, h4⟩⟩
theorem DOwn.grown {w W W' : World} {c : CallV} {base n : Nat} {v : Value} {xs : List Value} (h : DOwn w W c) (hrow : W.ownsRow base 56 27 v n xs) (hg : W.grownBy W' v.ownBlock) : DOwn w W' c := by
 rcases h with ⟨h0, h | ⟨g, cur, h1, h2, h3, h4⟩⟩
 ·exact ⟨h0, .inl h⟩
 ·refine ⟨h0, .inr ⟨g, cur, h1, h2, (hg.block g (Array.getElem?_eq_some_iff.1 h3).1 (fun e => ?_)).trans h3, h4⟩⟩
  rcases hrow.2 with ⟨h5, _⟩ | ⟨g', cap, cur', h5, _, h6, _⟩
  ·rw [h5] at e; cases e
  ·rw [h5] at e
   cases e
   rw [h6] at h3
   cases h3
theorem call_set (c : CallV) (a : Option Addr) (n : Nat) : (callL c).toArray.setIfInBounds 26 (.slice a c.ps.length n) = (callL { c with da := a, dc := n }).toArray := rfl
theorem st_old {W : World} {g : Nat} {cur : Array Value} (hsz : cur.size = 27) (h : W.heap[g]? = some (.cells cur 56 (0, 0))) (c : CallV) : (storeCells ⟨g, 0, none⟩ (callL c)).run Tryz.prog W = .ok () (W.setRow g (callL c).toArray) := by
 have h := run_storeCells_at (P := Tryz.prog) g 0 56 (callL c) 0 cur W h (by rw [callL_len]; omega) (fun v hv => by have := callL_ones c; rw [Array.all_eq_true'] at this; exact this v (by simpa using hv))
 rw [h]
 congr 2
 rw [callL_len, List.drop_eq_nil_of_le (by simp [hsz])]
 simp
theorem below_row {B g : Nat} {w0 w : World} (hb : Below B w0 w) (hBg : B ≤ g) (cs : Array Value) : Below B w0 (w.setRow g cs) :=
 ⟨hb.os, hb.tape, hb.output, by rw [setRow_size]; exact hb.size, fun k hk => (setRow_other w g k cs (by omega)).trans (hb.block k hk)⟩
end Go.Proofs.YtdeiocppghhfdaaGreat.Hs
namespace Go.Proofs.YtdeiocppghhfdaaGreat.Hs
open Go.RowKit Go.Lib Go.Shelf
open KitI (own_below)
attribute [local go_sem, local simp] callL_0 callL_1 callL_2 callL_3 callL_4 callL_5 callL_6 callL_7 callL_8 callL_9 callL_10 callL_11 callL_12 callL_13 callL_14 callL_15 callL_16 callL_17 callL_18 callL_19 callL_20 callL_21 callL_22 callL_23 callL_24 callL_25 callL_26 resL_0 resL_1 resL_2 resL_3 resL_4 resL_5 resL_6 resL_7 resL_8 resL_9 resL_10 resL_11 resL_12 callG_0 callG_1 callG_2 callG_3 callG_4 callG_5 callG_6 callG_7 callG_8 callG_9 callG_10 callG_11 callG_12 callG_13 callG_14 callG_15 callG_16 callG_17 callG_18 callG_19 callG_20 callG_21 callG_22 callG_23 callG_24 callG_25 callG_26 resG_0 resG_1 resG_2 resG_3 resG_4 resG_5 resG_6 resG_7 resG_8 resG_9 resG_10 resG_11 resG_12 callL_len resL_len
attribute [local go_sem ↓] loadCall_eq loadRes_eq
attribute [local go_sem] ld_new ld_first ld_second ldr_new st_new
theorem callsL_snoc (cs : List CallV) (c : CallV) : callsL (cs ++ [c]) = callsL cs ++ callL c := by unfold callsL; simp
theorem callS_10 (c : CallV) (x : Int) : (callL c).set 10 (.int .i64 x) = callL { c with took := x } := rfl
theorem callS_11 (c : CallV) (x : Int) : (callL c).set 11 (.int .i64 x) = callL { c with rank := x } := rfl
theorem callS_12 (c : CallV) (x : Int) : (callL c).set 12 (.int .i64 x) = callL { c with answered := x } := rfl
theorem callS_14 (c : CallV) (x : Int) : (callL c).set 14 (.int .i64 x) = callL { c with err := x } := rfl
theorem callS_15 (c : CallV) (x : Int) : (callL c).set 15 (.int .i64 x) = callL { c with rev := x } := rfl
theorem callS_16 (c : CallV) (x : Int) : (callL c).set 16 (.int .i64 x) = callL { c with rslot := x } := rfl
theorem callS_17 (c : CallV) (x : Int) : (callL c).set 17 (.int .i64 x) = callL { c with rat := x } := rfl
theorem callS_18 (c : CallV) (x : Int) : (callL c).set 18 (.int .u8 x) = callL { c with rgrav := x } := rfl
theorem callS_19 (c : CallV) (x : ByteArray) : (callL c).set 19 (.string x) = callL { c with rtext := x } := rfl
theorem callS_20 (c : CallV) (x : Int) : (callL c).set 20 (.int .i64 x) = callL { c with mb := x } := rfl
theorem callS_21 (c : CallV) (x : Int) : (callL c).set 21 (.int .i64 x) = callL { c with mr := x } := rfl
theorem callS_22 (c : CallV) (x : Int) : (callL c).set 22 (.int .i64 x) = callL { c with ml := x } := rfl
theorem callS_23 (c : CallV) (x : Int) : (callL c).set 23 (.int .u8 x) = callL { c with ik := x } := rfl
theorem callS_24 (c : CallV) (x : Int) : (callL c).set 24 (.int .i64 x) = callL { c with ifrom := x } := rfl
theorem callS_25 (c : CallV) (x : Int) : (callL c).set 25 (.int .i64 x) = callL { c with ito := x } := rfl
theorem callS_26 (c : CallV) : (callL c).set 26 (.slice none 0 0) = callL { c with ps := [], da := none, dc := 0 } := rfl
theorem callS_13 (c : CallV) (x : Int) : (callL c).set 13 (.int .i64 x) = callL { c with steps := x } := rfl
theorem DOwn.mono {w v W : World} {c : CallV} (h : DOwn v W c) (hs : w.heap.size ≤ v.heap.size) : DOwn w W c := by
 rcases h with ⟨h0, h | ⟨g, cur, h1, h2, h3, h4⟩⟩
 ·exact ⟨h0, .inl h⟩
 ·exact ⟨h0, .inr ⟨g, cur, h1, by omega, h3, h4⟩⟩
theorem fold_call (c : CallV) : List.foldl (fun (cs : Array Value) (x : Value × Nat) => cs.setIfInBounds x.snd x.fst) #[.int .i64 0, .int .i64 0, .int .u8 0, .int .i64 0, .int .i64 0, .int .i64 0, .int .u32 0, .int .u8 0, .string ⟨#[]⟩, .int .i64 0, .int .i64 0, .int .i64 0, .int .i64 0, .int .i64 0, .int .i64 0, .int .i64 0, .int .i64 0, .int .i64 0, .int .u8 0, .string ⟨#[]⟩, .int .i64 0, .int .i64 0, .int .i64 0, .int .u8 0, .int .i64 0, .int .i64 0, .slice none 0 0] (callL c).zipIdx = (callL c).toArray := by kernel_rfl
theorem ones_call (c : CallV) : ∀ u ∈ callL c, u.oneCell' = true := by have := callL_ones c; rw [Array.all_eq_true'] at this; intro v hv; exact this v (by simpa using hv)
def ORow (w : World) (base : Nat) (W : World) (v : Value) (L : List CallV) : Prop := ∃ cs : List CallV, cs.map CallV.pure = L ∧ W.ownsRow base 56 27 v cs.length (callsL cs) ∧ ∀ c ∈ cs, DOwn w W c
theorem ORow.nil (w : World) (base : Nat) (W : World) : ORow w base W (.slice none 0 0) [] := ⟨[], rfl, World.ownsRow_nil _ _ _ _, fun c h => by cases h⟩
theorem ORow.on {w : World} {base : Nat} {W W' : World} {v : Value} {L : List CallV} (h : ORow w base W v L) (hb : Below W.heap.size W W') : ORow w base W' v L := by
 obtain ⟨cs, h1, h2, h3⟩ := h
 exact ⟨cs, h1, own_below h2 hb, fun c hc => (h3 c hc).on hb⟩
theorem ORow.len {w : World} {base : Nat} {W : World} {v : Value} {L : List CallV} (h : ORow w base W v L) : ∃ p cap, v = .slice p L.length cap := by
 obtain ⟨cs, h1, h2, h3⟩ := h
 have hl : L.length = cs.length := by rw [← h1]; simp
 rw [hl]
 rcases h2.2 with ⟨h4, h5⟩ | ⟨g, cap, cur, h4, _⟩
 ·exact ⟨none, 0, by rw [h5]; exact h4⟩
 ·exact ⟨_, _, h4⟩
attribute [local go_sem, local simp] fold_call callS_10 callS_11 callS_12 callS_13 callS_14 callS_15 callS_16 callS_17 callS_18 callS_19 callS_20 callS_21 callS_22 callS_23 callS_24 callS_25 callS_26
end Go.Proofs.YtdeiocppghhfdaaGreat.Hs
namespace Go.Proofs.YtdeiocppghhfdaaGreat
section
variable {P : Program} {md : Region.Mode} {ops : Array Oper} {Q : Exit → Act → World → Prop} {S : World → Prop} {T : Nat}
theorem rowsIn_wide {n : Nat} {P : Program} {row : String} {args : Array Value} {w : World} {R : Value → World → Prop} (h : Rows P row args w R) : RowsIn Fence.wide n P row args w R :=
 fun c cs _ => let ⟨v, w', r, s⟩ := h c cs; ⟨v, w', r, stepsIn_wide.2 s⟩
theorem wpIn_of_wp_op {o : Oper} {a : Act} {w : World} {K : Act → World → Prop} {l n : Nat} (hd : ∀ c, o.op ≠ .defer c) (h : o.wp P a w K Q) : o.wpIn (Fence.wide.inRound l) n P a w K Q := by
 refine ⟨fun _ _ => trivial, ?_⟩
 rw [Oper.semAt_eq _ _ _ hd]
 unfold Oper.wp at h
 generalize (execOp a.eval o).run P w = r at *
 cases r with
 | ok x w' =>
  cases x <;> simp only [Oper.upon] at h
  case value u => exact h
  case skip => exact h
  case defer d => exact h
  case enter f args => exact ⟨fun e => by simp [Fence.wide, Fence.inRound] at e, CallsIn.inRound l (callsIn_wide.2 h)⟩
  case row row args => exact ⟨fun e => by simp [Fence.wide, Fence.inRound] at e, rowsIn_wide h⟩
 | halt x w' => cases x <;> simp only [Oper.upon] at h; exact h
theorem wpAnyIn_of_any {l n : Nat} (hd : ∀ (i : Nat) (o : Oper), ops[i]? = some o → ∀ c, o.op ≠ .defer c) (hno : ¬ LetsOut Q) : ∀ (fuel : Nat) (listed : Array Bool) (a : Act) (w : World), wpAny P md ops Q fuel listed a w → wpAnyIn (Fence.wide.inRound l) n P md ops Q fuel listed a w
 | 0, _, _, _, h => h
 | fuel + 1, _, a, w, h => ⟨h.1, fun i hi => by
  have h2 := wpOp_mono (fun a' w' h' => wpAnyIn_of_any (l := l) (n := n) hd hno fuel _ a' w' h') (h.2 i hi)
  unfold wpOp at h2
  unfold wpOpIn
  split
  ·rename_i ho
   rw [ho] at h2
   exact h2
  ·rename_i o ho
   rw [ho] at h2
   simp only at h2
   split
   ·rename_i hw
    rw [if_pos hw] at h2
    exact h2.elim (wpIn_of_wp_op (hd i o ho)) (fun h3 => absurd h3.2 hno)
   ·rename_i hw
    rw [if_neg hw] at h2
    exact ⟨fun _ _ => trivial, h2⟩⟩
def noDefer (l : List Oper) : Bool := l.all fun o => match o.op with | .defer _ => false | _ => true
theorem noDefer_spec {l : List Oper} (h : noDefer l = true) : ∀ (i : Nat) (o : Oper), l.toArray[i]? = some o → ∀ c, o.op ≠ .defer c := by
 intro i o ho c e
 unfold noDefer at h
 rw [List.all_eq_true] at h
 rw [List.getElem?_toArray] at ho
 have := h o (List.mem_of_getElem? ho)
 rw [e] at this
 cases this
end
end Go.Proofs.YtdeiocppghhfdaaGreat
namespace Go.Proofs.YtdeiocppghhfdaaGreat.Hs
open Go.RowKit Go.Lib Go.Shelf
open KitI (own_below)
attribute [local go_sem] Oper.semAt_some
attribute [local go_sem, local simp] callL_0 callL_1 callL_2 callL_3 callL_4 callL_5 callL_6 callL_7 callL_8 callL_9 callL_10 callL_11 callL_12 callL_13 callL_14 callL_15 callL_16 callL_17 callL_18 callL_19 callL_20 callL_21 callL_22 callL_23 callL_24 callL_25 callL_26 resL_0 resL_1 resL_2 resL_3 resL_4 resL_5 resL_6 resL_7 resL_8 resL_9 resL_10 resL_11 resL_12 callG_0 callG_1 callG_2 callG_3 callG_4 callG_5 callG_6 callG_7 callG_8 callG_9 callG_10 callG_11 callG_12 callG_13 callG_14 callG_15 callG_16 callG_17 callG_18 callG_19 callG_20 callG_21 callG_22 callG_23 callG_24 callG_25 callG_26 resG_0 resG_1 resG_2 resG_3 resG_4 resG_5 resG_6 resG_7 resG_8 resG_9 resG_10 resG_11 resG_12 callL_len resL_len
attribute [local go_sem ↓] loadCall_eq loadRes_eq
attribute [local go_sem] ld_new ld_first ld_second ldr_new st_new
attribute [local go_sem, local simp] fold_call
theorem DOwn.set {w W : World} {c : CallV} {B : Nat} {t : TypeId} {v v' : Value} (h : DOwn w W c) (hb : Boxed W B t v) (ht : t ≠ 94) : DOwn w (W.setCell ⟨B, 0, none⟩ v') c := by
 rcases h with ⟨h0, h | ⟨g, cur, h1, h2, h3, h4⟩⟩
 ·exact ⟨h0, .inl h⟩
 ·refine ⟨h0, .inr ⟨g, cur, h1, h2, (Below.heap_setCell _ _ _ _ (fun e => ?_)).trans h3, h4⟩⟩
  have e : g = B := e
  subst e
  unfold Boxed at hb
  rw [h3] at hb
  cases hb
  exact ht rfl
end Go.Proofs.YtdeiocppghhfdaaGreat.Hs
namespace Go.Proofs.YtdeiocppghhfdaaGreat.Hs
open Go.RowKit Go.Lib Go.Shelf
open KitI (iv IRow own_below infoI)
attribute [local go_sem, local simp] callL_0 callL_1 callL_2 callL_3 callL_4 callL_5 callL_6 callL_7 callL_8 callL_9 callL_10 callL_11 callL_12 callL_13 callL_14 callL_15 callL_16 callL_17 callL_18 callL_19 callL_20 callL_21 callL_22 callL_23 callL_24 callL_25 callL_26 resL_0 resL_1 resL_2 resL_3 resL_4 resL_5 resL_6 resL_7 resL_8 resL_9 resL_10 resL_11 resL_12 callG_0 callG_1 callG_2 callG_3 callG_4 callG_5 callG_6 callG_7 callG_8 callG_9 callG_10 callG_11 callG_12 callG_13 callG_14 callG_15 callG_16 callG_17 callG_18 callG_19 callG_20 callG_21 callG_22 callG_23 callG_24 callG_25 callG_26 resG_0 resG_1 resG_2 resG_3 resG_4 resG_5 resG_6 resG_7 resG_8 resG_9 resG_10 resG_11 resG_12 callL_len resL_len
attribute [local go_sem ↓] loadCall_eq loadRes_eq
attribute [local go_sem] ld_new ld_first ld_second ldr_new st_new
def zeroV : CallV := { thread := 0, index := 0, okind := 0, oslot := 0, oat := 0, on := 0, oid := 0, ograv := 0, otext := ⟨#[]⟩, invoked := 0, took := 0, rank := 0, answered := 0, steps := 0, err := 0, rev := 0, rslot := 0, rat := 0, rgrav := 0, rtext := ⟨#[]⟩, mb := 0, mr := 0, ml := 0, ik := 0, ifrom := 0, ito := 0, ps := [], da := none, dc := 0 }
def ex0 : CallV := { zeroV with took := 5, answered := 7, steps := 3 }
def ex1 : CallV := { zeroV with thread := 1, invoked := 1, took := 5, rank := 1, answered := 9, steps := 4 }
def ex2 : CallV := { zeroV with index := 1, invoked := 8, took := -1, answered := -1 }
end Go.Proofs.YtdeiocppghhfdaaGreat.Hs
namespace Go.Proofs.YtdeiocppghhfdaaGreat.Hs
open Go.RowKit Go.Lib Go.Shelf
open KitI (iv IRow own_below infoI eqi_any)
attribute [local go_sem, local simp] callL_0 callL_1 callL_2 callL_3 callL_4 callL_5 callL_6 callL_7 callL_8 callL_9 callL_10 callL_11 callL_12 callL_13 callL_14 callL_15 callL_16 callL_17 callL_18 callL_19 callL_20 callL_21 callL_22 callL_23 callL_24 callL_25 callL_26 resL_0 resL_1 resL_2 resL_3 resL_4 resL_5 resL_6 resL_7 resL_8 resL_9 resL_10 resL_11 resL_12 callG_0 callG_1 callG_2 callG_3 callG_4 callG_5 callG_6 callG_7 callG_8 callG_9 callG_10 callG_11 callG_12 callG_13 callG_14 callG_15 callG_16 callG_17 callG_18 callG_19 callG_20 callG_21 callG_22 callG_23 callG_24 callG_25 callG_26 resG_0 resG_1 resG_2 resG_3 resG_4 resG_5 resG_6 resG_7 resG_8 resG_9 resG_10 resG_11 resG_12 callL_len resL_len
attribute [local go_sem ↓] loadCall_eq loadRes_eq
attribute [local go_sem] ld_new ld_first ld_second ldr_new st_new
theorem eqiT (W : World) (va vb : Value) (zs : List Int) (ha : IRow W va zs) (hb : IRow W vb zs) (hs : zs.length ≤ 1000000) : Calls Tryz.prog 24 #[va, vb] W fun e w' => e = .returned (.bool true) ∧ Below W.heap.size W w' := by
 have h := eqi_any W va vb zs zs ha hb hs hs
 rwa [decide_eq_true rfl] at h
theorem below_alloc (W : World) (o : Obj) : Below W.heap.size W (W.alloc o) := (Below.refl _ _).alloc (Nat.le_refl _) _
attribute [local irreducible] callL ex0 ex1 ex2
end Go.Proofs.YtdeiocppghhfdaaGreat.Hs
namespace Go.Proofs.YtdeiocppghhfdaaGreat.Hs
open Go.RowKit Go.Lib Go.Shelf
open KitI (own_below)
theorem piecesL_take (ps : List PieceV) (k : Nat) (p : PieceV) (h : ps[k]? = some p) : piecesL (ps.take (k + 1)) = piecesL (ps.take k) ++ pieceL p := by
 rw [List.take_add_one, h]
 unfold piecesL
 simp
theorem piecesL_get (ps : List PieceV) (k j : Nat) (p : PieceV) (h : ps[k]? = some p) (hj : j < 3) : (piecesL ps)[k * 3 + j]? = (pieceL p)[j]? := by
 have e : ps = ps.take k ++ (p :: ps.drop (k + 1)) := by
  have hlt := (List.getElem?_eq_some_iff.1 h).1
  have h2 := (List.getElem?_eq_some_iff.1 h).2
  rw [← h2, ← List.drop_eq_getElem_cons hlt, List.take_append_drop]
 have hlt := (List.getElem?_eq_some_iff.1 h).1
 have e2 : piecesL ps = piecesL (ps.take k) ++ (pieceL p ++ piecesL (ps.drop (k + 1))) := by
  conv => lhs; rw [e]
  unfold piecesL
  simp
 rw [e2, List.getElem?_append_right (by rw [piecesL_len, List.length_take]; omega), piecesL_len, List.length_take, Nat.min_eq_left (by omega), Nat.add_sub_cancel_left, List.getElem?_append_left (by rw [pieceL_len]; omega)]
theorem pieceL_ones (p : PieceV) : ∀ u ∈ pieceL p, u.oneCell' = true := by
 intro u hu
 unfold pieceL at hu
 simp only [List.mem_cons, List.not_mem_nil, or_false] at hu
 rcases hu with rfl | rfl | rfl <;> rfl
theorem pieces_new (W : World) (L : List Value) (T : TypeId) : ∀ (j : Nat) (u : Value), L[j]? = some u → (W.alloc (.cells L.toArray T)).cell? ((⟨W.heap.size, 0, none⟩ : Addr).add j) = some u := by
 intro j u h
 have h2 := blk_cell (blk_new W L T) j
 rw [Addr.add_mid, Nat.zero_add, h2, h]
def CpRel (w : World) (ps : List PieceV) (o i : Value) (wr : World) : Prop :=
 ∃ k : Nat, i = .int .i64 k ∧ k ≤ ps.length ∧ wr.ownsRow w.heap.size 94 3 o k (piecesL (ps.take k)) ∧ Below w.heap.size w wr
theorem copyp_some (b off cap : Nat) (ps : List PieceV) (w : World) (hb : b < w.heap.size) (hs : ps.length ≤ 1000000) (h : ∀ j u, (piecesL ps)[j]? = some u → w.cell? ⟨b, off + j, none⟩ = some u) :
  Calls Tryz.prog 116 #[.slice (some ⟨b, off, none⟩) ps.length cap] w fun e w' => ∃ v, e = .returned v ∧ w'.ownsRow w.heap.size 94 3 v ps.length (piecesL ps) ∧ Below w.heap.size w w' := by
 obtain ⟨i0, hi, hz0, hz1, hz2⟩ := info_parts infoP
 have H := Lib.hid h
 clear h
 go_enter Tryz.func116, Tryz.ntmps116
 go_wp2
 go_loopw [3, 4] (fun o i wr => CpRel w ps o i wr) (fun o i wr => ps.length - (intOf i).toNat)
 case atStart => exact ⟨0, rfl, by omega, World.ownsRow_nil _ _ _ _, Below.refl _ _⟩
 case round =>
  obtain ⟨k, rfl, hk, hown, hB⟩ := hrel
  by_cases hlt : k < ps.length
  ·obtain ⟨p, hp⟩ : ∃ p, ps[k]? = some p := ⟨_, List.getElem?_eq_getElem hlt⟩
   have ce : ∀ j u, j < 3 → (pieceL p)[j]? = some u → wr.cell? ⟨b, off + k * 3 + j, none⟩ = some u := fun j u hj hu => by
    rw [hB.cell (p := ⟨b, off + k * 3 + j, none⟩) hb, Nat.add_assoc]
    exact H.out (k * 3 + j) u (by rw [piecesL_get ps k j p hp hj]; exact hu)
   have d0 : wr.cell? ⟨b, off + k * 3, none⟩ = some (.int .u8 p.kind) := ce 0 _ (by omega) rfl
   have d1 := ce 1 _ (by omega) rfl
   have d2 := ce 2 _ (by omega) rfl
   have hst := piecesL_take ps k p hp
   have Hst := Lib.hid hst
   clear ce hst hp
   go_wp2_with (at_builtin; refine wpList_append_own _ rfl _ _ 47 rfl w.heap.size 94 i0 _ 3 32 Tryz.underlying47 hi hz0 hz1 hz2 rfl (by decide) _ _ _ rfl (hown.alloc _) ⟨_, 0, none⟩ 1 1 (pieceL p) rfl rfl (pieces_new _ _ _) (pieceL_ones p) (by unfold maxLen; omega) (by omega) (by have := hB.size; simp; omega) ?_; intro v' w3 hown' hgrow _)
   have hB3 := (hB.alloc hB.size (.cells (pieceL p).toArray 94)).grown hgrow (by have := hB.size; simp at *; omega) fun k hk => (hown.lt k hk).1
   go_roundw
   case rel => exact ⟨k + 1, by go_num, by omega, by rw [Hst.out]; exact hown', hB3⟩
   case measure => simp [intOf]; omega
  ·go_wp2
   go_returns
   have hkk : k = ps.length := by omega
   subst hkk
   rw [List.take_length] at hown
   exact ⟨_, rfl, hown, hB⟩
end Go.Proofs.YtdeiocppghhfdaaGreat.Hs
