/- Texts, one behind another. -/
import Derived.Test.YtdeiocppghhfdaaGreatZcbl
import Derived.Test.YtdeiocppghhfdaaGreatZcaa
import Derived.Test.YtdeiocppghhfdaaGreatZcbn
import Derived.Test.YtdeiocppghhfdaaGreatZcbf
import Derived.Test.YtdeiocppghhfdaaGreatZcax
set_option linter.unusedVariables false
set_option linter.unusedSimpArgs false
set_option maxRecDepth 100000
set_option maxHeartbeats 8000000
namespace Go.Proofs.YtdeiocppghhfdaaGreat.Lin
open Go.RowKit Go.Lib Go.Shelf
open Hs
open KitI (iv IRow own_below infoI)
attribute [local go_sem, local simp] Hs.callL_0 Hs.callL_1 Hs.callL_2 Hs.callL_3 Hs.callL_4 Hs.callL_5 Hs.callL_6 Hs.callL_7 Hs.callL_8 Hs.callL_9 Hs.callL_10 Hs.callL_11 Hs.callL_12 Hs.callL_13 Hs.callL_14 Hs.callL_15 Hs.callL_16 Hs.callL_17 Hs.callL_18 Hs.callL_19 Hs.callL_20 Hs.callL_21 Hs.callL_22 Hs.callL_23 Hs.callL_24 Hs.callL_25 Hs.callL_26 Hs.resL_0 Hs.resL_1 Hs.resL_2 Hs.resL_3 Hs.resL_4 Hs.resL_5 Hs.resL_6 Hs.resL_7 Hs.resL_8 Hs.resL_9 Hs.resL_10 Hs.resL_11 Hs.resL_12 Hs.callG_0 Hs.callG_1 Hs.callG_2 Hs.callG_3 Hs.callG_4 Hs.callG_5 Hs.callG_6 Hs.callG_7 Hs.callG_8 Hs.callG_9 Hs.callG_10 Hs.callG_11 Hs.callG_12 Hs.callG_13 Hs.callG_14 Hs.callG_15 Hs.callG_16 Hs.callG_17 Hs.callG_18 Hs.callG_19 Hs.callG_20 Hs.callG_21 Hs.callG_22 Hs.callG_23 Hs.callG_24 Hs.callG_25 Hs.callG_26 Hs.resG_0 Hs.resG_1 Hs.resG_2 Hs.resG_3 Hs.resG_4 Hs.resG_5 Hs.resG_6 Hs.resG_7 Hs.resG_8 Hs.resG_9 Hs.resG_10 Hs.resG_11 Hs.resG_12 Hs.callL_len Hs.resL_len
attribute [local go_sem ↓] Hs.loadCall_eq Hs.loadRes_eq
attribute [local go_sem] Hs.ld_new Hs.ld_first Hs.ld_second Hs.ldr_new Hs.st_new
attribute [local go_sem ↓] loadCfg_eq
def snapQ (x : CallV) : Bool := decide (x.okind = 5) && decide (0 ≤ x.took) && decide (x.err = 0)
def snapAt (c : CfgV) (cs : List CallV) (o : List Nat) (k : Nat) : Int := if snapQ (getC cs k) then snapV c cs k o else -1
def snapF (c : CfgV) (cs : List CallV) (o : List Nat) : Int × Int :=
 match (List.range cs.length).find? (fun k => decide (0 ≤ snapAt c cs o k)) with | some k => (snapAt c cs o k, 26) | none => (0, 0)
def snapsC (c : CfgV) (cs : List CallV) : Int × Int := if (perfC c cs).2 ≠ 0 then perfC c cs else snapF c cs (ordC cs)
theorem snapF_some {c : CfgV} {cs : List CallV} {o : List Nat} {k : Nat} (hk : k < cs.length) (hall : ∀ j, j < k → snapAt c cs o j < 0) (h : 0 ≤ snapAt c cs o k) : snapF c cs o = (snapAt c cs o k, 26) := by
 have : (List.range cs.length).find? (fun k => decide (0 ≤ snapAt c cs o k)) = some k := by
  rw [List.find?_range_eq_some]
  exact ⟨by simpa using h, List.mem_range.2 hk, fun j hj => by have := hall j hj; simp; omega⟩
 unfold snapF
 rw [this]
theorem snapF_none {c : CfgV} {cs : List CallV} {o : List Nat} (hall : ∀ j, j < cs.length → snapAt c cs o j < 0) : snapF c cs o = (0, 0) := by
 have : (List.range cs.length).find? (fun k => decide (0 ≤ snapAt c cs o k)) = none := by
  rw [List.find?_eq_none]
  intro k hk
  have := hall k (List.mem_range.1 hk)
  simp; omega
 unfold snapF
 rw [this]
theorem each_snap (m n : Nat) (hm : m ≤ n) : EachC m n 96 #[] (fun _ _ => True) where
 ent := enters_of Tryz.func96 (by kernel_rfl) rfl
 keep := fun _ _ _ _ _ => trivial
 call := fun W b M K l hn _ _ _ _ => by
  go_enter Tryz.func96, Tryz.ntmps96
  go_wp2
  go_end0
  exact ⟨rfl, trivial, FrT.refl _ _ _⟩
theorem snapshots_any (c : CfgV) (p : Option Addr) (cap : Nat) (cs : List CallV) (w : World) (hC : CRow w p cap cs) (hs : cs.length ≤ 1000) (hok : ∀ x ∈ cs, x.Ok) (hd : ∀ x ∈ cs, x.ps.length ≤ 1000000) :
  Calls Tryz.prog 48 #[c.v, .slice p cs.length cap] w fun e w' => e = .returned (.tuple #[.int .i64 (snapsC c cs).1, .int .i64 (snapsC c cs).2]) ∧ Below w.heap.size w w' := by
 have hB0 : Below w.heap.size w (w.alloc (.cells (cfgL c).toArray 24)) := (Below.refl w.heap.size w).alloc (Nat.le_refl _) _
 have hz := blk_new w (cfgL c) 24
 have hpf := perform_any (w.heap.size + 1) c p cap cs 96 #[] (fun _ _ => True) (w.alloc (.cells (cfgL c).toArray 24)) (by simp) (fun W hb => hC.on (hB0.trans (hb.mono (by omega)))) (each_snap _ _ (by simp)) trivial hs hok (ps_big hd)
 have hfin : ∀ e w', PerfPost (w.heap.size + 1) (w.alloc (.cells (cfgL c).toArray 24)) c cs (fun _ _ => True) e w' → ∃ v, e = .returned (.tuple #[v, .int .i64 (perfC c cs).1, .int .i64 (perfC c cs).2]) ∧ Below (w.heap.size + 1) (w.alloc (.cells (cfgL c).toArray 24)) w' ∧ ((perfC c cs).2 = 0 → cfgE c = 0 ∧ (∀ i ∈ ordC cs, i < cs.length) ∧ (ordC cs).length ≤ 1000 ∧ w'.ownsRow (w.heap.size + 1) tInt 1 v (ordC cs).length ((ordC cs).map nv)) := by
  rintro e w' (⟨h1, rfl, _, hb⟩ | ⟨h1, h2, rfl, _, hb⟩ | ⟨h1, h2, E, b, M, v, hE, rfl, _, hb, _, _, h3⟩)
  ·exact ⟨_, by unfold perfC; rw [perf_cfg h1], hb, fun h => by unfold perfC at h; rw [perf_cfg h1] at h; exact absurd h h1⟩
  ·exact ⟨_, by unfold perfC; rw [perf_chk h1 h2], hb, fun h => by unfold perfC at h; rw [perf_chk h1 h2] at h; exact absurd h h2⟩
  ·refine ⟨_, by unfold perfC; rw [effC_of hE], hb, fun h => ?_⟩
   unfold perfC at h
   rw [effC_of hE] at h
   have h4 := (h3 h).2
   rw [World.size_alloc] at h4
   unfold ordC
   rw [effC_of hE]
   exact ⟨h1, fun i hi => ((ord_in hE).1 hi).1, by rw [ord_len hE]; have := eff_len hE; omega, h4⟩
 have hpf2 := hpf.mono hfin
 clear hpf hfin
 have hV : (snapsC c cs) = if (perfC c cs).2 ≠ 0 then perfC c cs else snapF c cs (ordC cs) := rfl
 rw [hV]
 clear hV
 generalize perfC c cs = r at *
 obtain ⟨x1, x2⟩ := r
 dsimp only at *
 have lc := ld_cfg hz
 have hLC : ∀ W, Below (w.heap.size + 1) (w.alloc (.cells (cfgL c).toArray 24)) W → (loadCfg (.pointer (some ⟨w.heap.size, 0, none⟩))).run Tryz.prog W = .ok (.agg (cfgL c).toArray) W := fun W hW => ld_cfg (blk_below hz hW (by omega))
 have hBW : ∀ W, Below (w.heap.size + 1) (w.alloc (.cells (cfgL c).toArray 24)) W → Below w.heap.size w W := fun W hW => hB0.trans (hW.mono (by omega))
 clear hz hB0
 unfold CfgV.v cfgL at *
 have HLC := Lib.hid hLC
 have HBW := Lib.hid hBW
 clear hLC hBW
 by_cases hx : x2 = 0
 ·rw [if_neg (by simpa using hx)]
  subst hx
  have d0 : ((0 : Int) != 0) = false := rfl
  go_enter Tryz.func48, Tryz.ntmps48
  go_wp2_with (go_at_call 81; refine hpf2.mono ?_; rintro e w1 ⟨v, rfl, hb1, hq⟩)
  obtain ⟨hcf, hoi, hol, hO⟩ := (by first | exact hq rfl | exact hq trivial | exact hq : cfgE c = 0 ∧ (∀ i ∈ ordC cs, i < cs.length) ∧ (ordC cs).length ≤ 1000 ∧ w1.ownsRow (w.heap.size + 1) tInt 1 v (ordC cs).length ((ordC cs).map nv))
  obtain ⟨ao, qo, rfl⟩ := own_slice hO
  have hI : IRd w1 ao ((ordC cs).map fun (x : Nat) => (x : Int)) := IRd.of (irow_own hO rfl)
  have hz1 : w.heap.size + 1 ≤ w1.heap.size := by have := hb1.size; simpa using this
  clear hq hpf2 hO lc
  generalize ho : ordC cs = o at *
  have HO := Lib.hid ho
  clear ho
  go_loopw [7, 8, 9, 23] (fun x7 x8 x9 i wr => ∃ k : Nat, i = .int .i64 k ∧ k ≤ cs.length ∧ (∀ j, j < k → snapAt c cs o j < 0) ∧ Below w1.heap.size w1 wr) (fun x7 x8 x9 i wr => cs.length - (intOf i).toNat)
  case atStart => exact ⟨0, rfl, by omega, fun j hj => by omega, Below.refl _ _⟩
  case round =>
   obtain ⟨k, rfl, hk, hall, hB⟩ := hrel
   have hB1 := hb1.trans (hB.mono hz1)
   by_cases hlt : k < cs.length
   ·have hx := getC_some hlt
    obtain ⟨bq, off, rfl, hcap, hbq, hA⟩ := crow_at (hC.on (HBW.out _ hB1)) (by omega)
    have hld := hA.load hx
    have hgx : getC cs k = getC cs k := rfl
    generalize hxx : getC cs k = x at hx hld
    have Hgx := Lib.hid hxx
    clear hxx hgx hx
    have hBa : Below w1.heap.size w1 (wr.alloc (.cells (callL x).toArray 56)) := hB.alloc hB.size _
    have Hall := Lib.hid hall
    by_cases h1 : x.okind = 5
    ·have d1 : (x.okind != 5) = false := by simpa using h1
     by_cases h2 : 0 ≤ x.took
     ·have d2 : decide (x.took < 0) = false := by simpa using h2
      by_cases h3 : x.err = 0
      ·have d3 : (x.err != 0) = false := by simpa using h3
       have hq : snapQ (getC cs k) = true := by unfold snapQ; rw [Hgx.out]; simp [h1, h2, h3]
       have hat : snapAt c cs o k = snapV c cs k o := by unfold snapAt; rw [if_pos hq]
       clear h1 h2 h3 hq
       have hsn := fun W (hW : Below wr.heap.size wr W) => snapshot_any c k ao qo o (some ⟨bq, off, none⟩) cap cs W hcf hlt (hI.on (hB.trans (hW.mono hB.size))) hoi hol (hC.on (HBW.out _ (hB1.trans (hW.mono (by have := hB1.size; simp at this; omega))))) hs hok hd
       have hsn2 := hsn _ ((Below.refl _ _).alloc (Nat.le_refl _) (.cells (callL x).toArray 56))
       have lc2 := HLC.out _ (hB1.alloc (by have := hB1.size; simp at this; omega) (.cells (callL x).toArray 56))
       unfold CfgV.v at hsn2
       clear hsn
       by_cases h0 : 0 ≤ snapV c cs k o
       ·have d0' : decide (0 ≤ snapV c cs k o) = true := by simpa using h0
        have hF := snapF_some hlt hall (by rw [hat]; exact h0)
        rw [hat] at hF
        have HF := Lib.hid hF
        clear hF h0 hat
        generalize hsv : snapV c cs k o = sv at *
        go_wp2_with (go_at_call 97; refine hsn2.mono ?_; rintro e w6 ⟨rfl, hb6⟩)
        go_returns
        exact ⟨by rw [HO.out, HF.out]; rfl, HBW.out _ (hb1.trans ((hBa.trans (hb6.mono hBa.size)).mono hz1))⟩
       ·have d0' : decide (0 ≤ snapV c cs k o) = false := by simpa using h0
        have hno : snapAt c cs o k < 0 := by rw [hat]; omega
        clear h0 hat
        generalize snapV c cs k o = sv at *
        go_wp2_with (go_at_call 97; refine hsn2.mono ?_; rintro e w6 ⟨rfl, hb6⟩)
        go_roundw
        case rel => exact ⟨k + 1, by go_num, by omega, fun j hj => (Nat.lt_or_ge j k).elim (hall j) (fun h => by rw [show j = k by omega]; exact hno), hBa.trans (hb6.mono hBa.size)⟩
        case measure => simp [intOf]; omega
      ·have d3 : (x.err != 0) = true := by simpa using h3
       have hn : snapQ (getC cs k) = false := by unfold snapQ; rw [Hgx.out]; simp [h3]
       clear h1 h2 h3
       have hno : snapAt c cs o k < 0 := by unfold snapAt; rw [if_neg (by rw [hn]; simp)]; omega
       clear hn
       go_wp2_with fail
       go_roundw
       case rel => exact ⟨k + 1, by go_num, by omega, fun j hj => (Nat.lt_or_ge j k).elim (hall j) (fun h => by rw [show j = k by omega]; exact hno), hBa⟩
       case measure => simp [intOf]; omega
     ·have d2 : decide (x.took < 0) = true := by simp; omega
      have hn : snapQ (getC cs k) = false := by unfold snapQ; rw [Hgx.out]; simp [h2]
      clear h1 h2
      have hno : snapAt c cs o k < 0 := by unfold snapAt; rw [if_neg (by rw [hn]; simp)]; omega
      clear hn
      go_wp2_with fail
      go_roundw
      case rel => exact ⟨k + 1, by go_num, by omega, fun j hj => (Nat.lt_or_ge j k).elim (hall j) (fun h => by rw [show j = k by omega]; exact hno), hBa⟩
      case measure => simp [intOf]; omega
    ·have d1 : (x.okind != 5) = true := by simpa using h1
     have hn : snapQ (getC cs k) = false := by unfold snapQ; rw [Hgx.out]; simp [h1]
     clear h1
     have hno : snapAt c cs o k < 0 := by unfold snapAt; rw [if_neg (by rw [hn]; simp)]; omega
     clear hn
     go_wp2_with fail
     go_roundw
     case rel => exact ⟨k + 1, by go_num, by omega, fun j hj => (Nat.lt_or_ge j k).elim (hall j) (fun h => by rw [show j = k by omega]; exact hno), hBa⟩
     case measure => simp [intOf]; omega
   ·have hke : k = cs.length := by omega
    subst hke
    go_wp2_with fail
    go_returns
    exact ⟨by rw [HO.out, snapF_none hall]; rfl, HBW.out _ hB1⟩
 ·rw [if_pos (by simpa using hx)]
  have d0 : (x2 != 0) = true := by simpa using hx
  go_enter Tryz.func48, Tryz.ntmps48
  go_wp2_with (go_at_call 81; refine hpf2.mono ?_; rintro e w1 ⟨v, rfl, hb1, hq⟩)
  go_returns
  exact ⟨rfl, HBW.out _ hb1⟩
end Go.Proofs.YtdeiocppghhfdaaGreat.Lin
namespace Go.Proofs.YtdeiocppghhfdaaGreat.Lin
open Go.RowKit Go.Lib Go.Shelf
open Hs
open KitI (iv IRow own_below infoI)
attribute [local go_sem, local simp] Hs.callL_0 Hs.callL_1 Hs.callL_2 Hs.callL_3 Hs.callL_4 Hs.callL_5 Hs.callL_6 Hs.callL_7 Hs.callL_8 Hs.callL_9 Hs.callL_10 Hs.callL_11 Hs.callL_12 Hs.callL_13 Hs.callL_14 Hs.callL_15 Hs.callL_16 Hs.callL_17 Hs.callL_18 Hs.callL_19 Hs.callL_20 Hs.callL_21 Hs.callL_22 Hs.callL_23 Hs.callL_24 Hs.callL_25 Hs.callL_26 Hs.resL_0 Hs.resL_1 Hs.resL_2 Hs.resL_3 Hs.resL_4 Hs.resL_5 Hs.resL_6 Hs.resL_7 Hs.resL_8 Hs.resL_9 Hs.resL_10 Hs.resL_11 Hs.resL_12 Hs.callG_0 Hs.callG_1 Hs.callG_2 Hs.callG_3 Hs.callG_4 Hs.callG_5 Hs.callG_6 Hs.callG_7 Hs.callG_8 Hs.callG_9 Hs.callG_10 Hs.callG_11 Hs.callG_12 Hs.callG_13 Hs.callG_14 Hs.callG_15 Hs.callG_16 Hs.callG_17 Hs.callG_18 Hs.callG_19 Hs.callG_20 Hs.callG_21 Hs.callG_22 Hs.callG_23 Hs.callG_24 Hs.callG_25 Hs.callG_26 Hs.resG_0 Hs.resG_1 Hs.resG_2 Hs.resG_3 Hs.resG_4 Hs.resG_5 Hs.resG_6 Hs.resG_7 Hs.resG_8 Hs.resG_9 Hs.resG_10 Hs.resG_11 Hs.resG_12 Hs.callL_len Hs.resL_len
attribute [local go_sem ↓] Hs.loadCall_eq Hs.loadRes_eq
attribute [local go_sem] Hs.ld_new Hs.ld_first Hs.ld_second Hs.ldr_new Hs.st_new
def SRd (lo n : Nat) (W : World) (a : Option Addr) (ts : List ByteArray) : Prop := ts = [] ∨ ∃ b off, a = some ⟨b, off, none⟩ ∧ lo ≤ b ∧ b < n ∧ ∀ k t, ts[k]? = some t → W.cell? ⟨b, off + k, none⟩ = some (.string t)
theorem SRd.on {lo n : Nat} {W W' : World} {a : Option Addr} {ts : List ByteArray} (h : SRd lo n W a ts) (hb : Below n W W') : SRd lo n W' a ts := by
 rcases h with h | ⟨b, off, h1, h0, h2, h3⟩
 ·exact .inl h
 ·exact .inr ⟨b, off, h1, h0, h2, fun k t hk => (hb.cell (p := ⟨b, off + k, none⟩) h2).trans (h3 k t hk)⟩
theorem SRd.mono {lo n m : Nat} {W : World} {a : Option Addr} {ts : List ByteArray} (h : SRd lo n W a ts) (hn : n ≤ m) : SRd lo m W a ts := by
 rcases h with h | ⟨b, off, h1, h0, h2, h3⟩
 ·exact .inl h
 ·exact .inr ⟨b, off, h1, h0, Nat.lt_of_lt_of_le h2 hn, h3⟩
theorem SRd.set {lo n B : Nat} {W : World} {a : Option Addr} {ts : List ByteArray} (h : SRd lo n W a ts) (hB : B < lo) (u : Value) : SRd lo n (W.setCell ⟨B, 0, none⟩ u) a ts := by
 rcases h with h | ⟨b, off, h1, h0, h2, h3⟩
 ·exact .inl h
 ·refine .inr ⟨b, off, h1, h0, h2, fun k t hk => ?_⟩
  have hbk := Below.heap_setCell W ⟨B, 0, none⟩ u b (by simp; omega)
  have : (W.setCell ⟨B, 0, none⟩ u).cell? ⟨b, off + k, none⟩ = W.cell? ⟨b, off + k, none⟩ := World.cell?_of_block (w := W) hbk
  rw [this]; exact h3 k t hk
theorem SRd.of_own {W : World} {base n c : Nat} {e : TypeId} {a : Option Addr} {ts : List ByteArray} (h : W.ownsRow base e 1 (.slice a n c) n (ts.map Value.string)) : SRd base W.heap.size W a ts := by
 rcases h with ⟨h0, ⟨h1, h2⟩ | ⟨g, cap, cur, h1, hgb, hg, _, _, _, h2⟩⟩
 ·refine .inl (List.length_eq_zero_iff.1 ?_)
  rw [List.length_map] at h0
  omega
 ·injection h1 with h1 _ _
  refine .inr ⟨g, 0, h1, hgb, (Array.getElem?_eq_some_iff.1 hg).1, fun k t hk => ?_⟩
  have hlt : k < ts.length := (List.getElem?_eq_some_iff.1 hk).1
  rw [List.length_map] at h0
  rw [blk_cell (L := cur.toList) (by simpa using hg), Nat.zero_add]
  have h3 : (cur.toList.take (n * 1))[k]? = some (.string t) := by rw [h2, List.getElem?_map, hk]; rfl
  rwa [List.getElem?_take_of_lt (by omega)] at h3
theorem str_eq (s t : ByteArray) : (s.toList == t.toList) = decide (s = t) := by
 by_cases h : s = t
 ·subst h; simp
 ·have h2 : ¬ s.toList = t.toList := fun e => h (by rw [toList_data, toList_data] at e; exact ByteArray.ext (Array.toList_inj.1 e))
  simp [h, h2]
def itmL (y : CallV) : List Value := [.int .u8 y.ik, .int .i64 y.ifrom, .int .i64 y.ito, .slice y.da y.ps.length y.dc]
structure ApOK (ap : ByteArray → List PieceV → Option (ByteArray × Int)) : Prop where
 call : ∀ t y r W, ap t y.ps = some r → DAt W y → Calls Tryz.prog 59 #[.string t, .slice y.da y.ps.length y.dc] W fun e W' => e = .returned (.tuple #[.string r.1, .int .i64 r.2]) ∧ Below W.heap.size W W'
def wrongO (ap : ByteArray → List PieceV → Option (ByteArray × Int)) (y : CallV) (pos most : Int) (ts : List ByteArray) : Option Bool :=
 if y.ito ≤ pos ∨ most < y.ito then some true
 else if y.ik = 2 then some (decide (y.ifrom ≠ 0) || decide (y.ps.length ≠ 0))
 else if y.ifrom ≠ pos then some true
 else if pos < 0 then none
 else match ts[pos.toNat]?, ts[y.ito.toNat]? with
  | some t, some u => (ap t y.ps).map fun r => decide (r.2 ≠ 0) || decide (r.1 ≠ u)
  | _, _ => none
theorem wrong_any {ap : ByteArray → List PieceV → Option (ByteArray × Int)} (hap : ApOK ap) (y : CallV) (pos most : Int) (a : Option Addr) (cp : Nat) (ts : List ByteArray) (B : Bool) (w : World) {lo n : Nat} (hT : SRd lo n w a ts) (hnw : n ≤ w.heap.size) (hcp : ts.length ≤ cp) (hD : DAt w y) (hB : wrongO ap y pos most ts = some B) :
  Calls Tryz.prog 108 #[.agg (itmL y).toArray, .int .i64 pos, .int .i64 most, .slice a ts.length cp] w fun e w' => e = .returned (.bool B) ∧ Below w.heap.size w w' := by
 have hB0 : Below w.heap.size w (w.alloc (.cells #[.int .u8 y.ik, .int .i64 y.ifrom, .int .i64 y.ito, .slice y.da y.ps.length y.dc] 49)) := (Below.refl _ _).alloc (Nat.le_refl _) _
 unfold itmL
 unfold wrongO at hB
 by_cases h1 : y.ito ≤ pos
 ·rw [if_pos (.inl h1)] at hB
  obtain rfl : B = true := (Option.some.inj hB).symm
  have d1 : decide (y.ito ≤ pos) = true := by simpa using h1
  clear h1 hB
  go_enter Tryz.func108, Tryz.ntmps108
  go_wp2
  go_returns
  exact ⟨rfl, hB0⟩
 have d1 : decide (y.ito ≤ pos) = false := by simpa using h1
 by_cases h2 : most < y.ito
 ·rw [if_pos (.inr h2)] at hB
  obtain rfl : B = true := (Option.some.inj hB).symm
  have d2 : decide (most < y.ito) = true := by simpa using h2
  clear h1 h2 hB
  go_enter Tryz.func108, Tryz.ntmps108
  go_wp2
  go_returns
  exact ⟨rfl, hB0⟩
 have d2 : decide (most < y.ito) = false := by simpa using h2
 rw [if_neg (by omega)] at hB
 by_cases h3 : y.ik = 2
 ·rw [if_pos h3] at hB
  have hB' := (Option.some.inj hB).symm
  have d3 : (y.ik == 2) = true := by simpa using h3
  clear h1 h2 h3 hB
  by_cases h4 : y.ifrom = 0
  ·have d4 : (y.ifrom != 0) = false := by simpa using h4
   have hB2 : B = ((y.ps.length : Int) != 0) := by
    rw [hB']
    by_cases h5 : y.ps.length = 0 <;> simp [h4, h5]
   clear h4 hB'
   go_enter Tryz.func108, Tryz.ntmps108
   go_wp2
   go_returns
   refine ⟨by rw [hB2]; (try rfl), hB0⟩
  ·have d4 : (y.ifrom != 0) = true := by simpa using h4
   have hB2 : B = true := by rw [hB']; simp [h4]
   subst hB2
   clear h4 hB'
   go_enter Tryz.func108, Tryz.ntmps108
   go_wp2
   go_returns
   exact ⟨rfl, hB0⟩
 have d3 : (y.ik == 2) = false := by simpa using h3
 rw [if_neg h3] at hB
 by_cases h4 : y.ifrom = pos
 ·have d4 : (y.ifrom != pos) = false := by simpa using h4
  rw [if_neg (by simpa using h4)] at hB
  by_cases h5 : pos < 0
  ·rw [if_pos h5] at hB; cases hB
  rw [if_neg h5] at hB
  cases ht : ts[pos.toNat]? with
  | none => rw [ht] at hB; cases hB
  | some t =>
   cases hu : ts[y.ito.toNat]? with
   | none => rw [ht, hu] at hB; cases hB
   | some u =>
    rw [ht, hu] at hB
    cases hr : ap t y.ps with
    | none => simp only [hr] at hB; cases hB
    | some r =>
     simp only [hr] at hB
     have hB' := (Option.some.inj hB).symm
     rcases hT with hT | ⟨b, off, rfl, _, hb0, hc⟩
     ·subst hT; simp at ht
     have hb : b < w.heap.size := Nat.lt_of_lt_of_le hb0 hnw
     clear hb0 hnw
     have hti : (pos.toNat : Int) = pos := Int.toNat_of_nonneg (by omega)
     have hui : (y.ito.toNat : Int) = y.ito := Int.toNat_of_nonneg (by omega)
     have htl := (List.getElem?_eq_some_iff.1 ht).1
     have hul := (List.getElem?_eq_some_iff.1 hu).1
     have hp0 : 0 ≤ pos := by omega
     have hp1 : pos < (ts.length : Int) := by omega
     have hp2 : 0 ≤ y.ito := by omega
     have hp3 : y.ito < (ts.length : Int) := by omega
     have hz := blk_new w [.int .u8 y.ik, .int .i64 y.ifrom, .int .i64 y.ito, .slice y.da y.ps.length y.dc] 49
     have hF : ∀ W, Below (w.heap.size + 1) (w.alloc (.cells #[.int .u8 y.ik, .int .i64 y.ifrom, .int .i64 y.ito, .slice y.da y.ps.length y.dc] 49)) W → W.cell? ⟨b, off + pos.toNat, none⟩ = some (.string t) ∧ W.cell? ⟨w.heap.size, 3, none⟩ = some (.slice y.da y.ps.length y.dc) ∧ W.cell? ⟨b, off + y.ito.toNat, none⟩ = some (.string u) ∧ W.cell? ⟨w.heap.size, 2, none⟩ = some (.int .i64 y.ito) := fun W hW => by
      have hz2 := blk_below hz hW (by omega)
      have hwW : Below w.heap.size w W := hB0.trans (hW.mono (by omega))
      exact ⟨(hwW.cell (p := ⟨b, off + pos.toNat, none⟩) hb).trans (hc _ _ ht), blk_cell hz2 3, (hwW.cell (p := ⟨b, off + y.ito.toNat, none⟩) hb).trans (hc _ _ hu), blk_cell hz2 2⟩
     have hca := hap.call t y r (w.alloc (.cells #[.int .u8 y.ik, .int .i64 y.ifrom, .int .i64 y.ito, .slice y.da y.ps.length y.dc] 49)).drew hr ((hD.on hB0).on (Below.refl _ _).drew)
     clear h1 h2 h3 h4 h5 hB ht hu hr htl hul hc
     obtain ⟨r1, r2⟩ := r
     dsimp only at *
     have hlast : ∀ w2, Below (w.heap.size + 1) (w.alloc (.cells #[.int .u8 y.ik, .int .i64 y.ifrom, .int .i64 y.ito, .slice y.da y.ps.length y.dc] 49)) w2 → Below w.heap.size w w2 := fun w2 h => hB0.trans (h.mono (by omega))
     by_cases h6 : r2 = 0
     ·have d6 : (r2 != 0) = false := by simpa using h6
      have hB2 : B = !(r1.toList == u.toList) := by rw [hB', str_eq]; by_cases h7 : r1 = u <;> simp [h6, h7]
      clear h6 hB'
      go_enter Tryz.func108, Tryz.ntmps108
      go_wp2
      refine wp_region_noPanic ?_
      refine wp_region_held_drew (S := fun W => W.cell? ⟨b, off + pos.toNat, none⟩ = some (.string t) ∧ W.cell? ⟨w.heap.size, 3, none⟩ = some (.slice y.da y.ps.length y.dc) ∧ W.cell? ⟨b, off + y.ito.toNat, none⟩ = some (.string u) ∧ W.cell? ⟨w.heap.size, 2, none⟩ = some (.int .i64 y.ito)) (by kernel_rfl) ?_ (fun hHeld => ?_)
      ·first | exact hF _ (Below.refl _ _) | exact hF _ (Below.refl _ _).drew | exact hF _ hb2
      iterate 6 (first | (refine np_sn ?_; (try simp only [nSO])) | ((first | refine np_n ?_ ?_ ?_ | refine np_t 0 ?_ ?_ ?_); rotate_left 1; (· (intro w hSw; (try dsimp only at hSw); go_simp; all_goals with_reducible rfl)); (try simp only [nSO])))
      first | (refine np_s 6 ?_; (try simp only [nSO])) | (refine np_step (i := 6) rfl (by kernel_rfl) (fun K hK => ?_); rw [if_pos (by rfl)]; go_simp; ((go_at_call 59; refine hca.mono ?_; rintro e w2 ⟨rfl, hb2'⟩; have hb2 : Below (w.heap.size + 1) (w.alloc (.cells #[.int .u8 y.ik, .int .i64 y.ifrom, .int .i64 y.ito, .slice y.da y.ps.length y.dc] 49)) w2 := (Below.refl _ _).drew.trans (hb2'.mono (by simp)))); (try go_wp2_with fail); refine hK.out _ _ ?_ (fun hHeld => ?_); (· (first | exact hF _ (Below.refl _ _) | exact hF _ (Below.refl _ _).drew | exact hF _ hb2)); clear hK K; (try simp only [nSO]))
      iterate 5 (first | (refine np_sn ?_; (try simp only [nSO])) | (refine np_n ?_ ?_ ?_; rotate_left 1; (· (intro w hSw; (try dsimp only at hSw); go_simp; all_goals with_reducible rfl)); (try simp only [nSO])))
      refine wpAnyH_done (by kernel_rfl) ?_ _
      refine NoPanic.normal ?_
      obtain ⟨_, _, c3, c4⟩ := hF _ hb2
      go_wp2
      go_returns
      refine ⟨by rw [hB2]; (try rfl), hlast _ hb2⟩
     ·have d6 : (r2 != 0) = true := by simpa using h6
      have hB2 : B = true := by rw [hB']; simp [h6]
      subst hB2
      clear h6 hB'
      go_enter Tryz.func108, Tryz.ntmps108
      go_wp2
      refine wp_region_noPanic ?_
      refine wp_region_held_drew (S := fun W => W.cell? ⟨b, off + pos.toNat, none⟩ = some (.string t) ∧ W.cell? ⟨w.heap.size, 3, none⟩ = some (.slice y.da y.ps.length y.dc) ∧ W.cell? ⟨b, off + y.ito.toNat, none⟩ = some (.string u) ∧ W.cell? ⟨w.heap.size, 2, none⟩ = some (.int .i64 y.ito)) (by kernel_rfl) ?_ (fun hHeld => ?_)
      ·first | exact hF _ (Below.refl _ _) | exact hF _ (Below.refl _ _).drew | exact hF _ hb2
      iterate 6 (first | (refine np_sn ?_; (try simp only [nSO])) | ((first | refine np_n ?_ ?_ ?_ | refine np_t 0 ?_ ?_ ?_); rotate_left 1; (· (intro w hSw; (try dsimp only at hSw); go_simp; all_goals with_reducible rfl)); (try simp only [nSO])))
      first | (refine np_s 6 ?_; (try simp only [nSO])) | (refine np_step (i := 6) rfl (by kernel_rfl) (fun K hK => ?_); rw [if_pos (by rfl)]; go_simp; ((go_at_call 59; refine hca.mono ?_; rintro e w2 ⟨rfl, hb2'⟩; have hb2 : Below (w.heap.size + 1) (w.alloc (.cells #[.int .u8 y.ik, .int .i64 y.ifrom, .int .i64 y.ito, .slice y.da y.ps.length y.dc] 49)) w2 := (Below.refl _ _).drew.trans (hb2'.mono (by simp)))); (try go_wp2_with fail); refine hK.out _ _ ?_ (fun hHeld => ?_); (· (first | exact hF _ (Below.refl _ _) | exact hF _ (Below.refl _ _).drew | exact hF _ hb2)); clear hK K; (try simp only [nSO]))
      iterate 5 (first | (refine np_sn ?_; (try simp only [nSO])) | (refine np_n ?_ ?_ ?_; rotate_left 1; (· (intro w hSw; (try dsimp only at hSw); go_simp; all_goals with_reducible rfl)); (try simp only [nSO])))
      refine wpAnyH_done (by kernel_rfl) ?_ _
      refine NoPanic.normal ?_
      go_wp2
      go_returns
      exact ⟨rfl, hlast _ hb2⟩
 ·have d4 : (y.ifrom != pos) = true := by simpa using h4
  rw [if_pos h4] at hB
  obtain rfl : B = true := (Option.some.inj hB).symm
  clear h1 h2 h3 h4 hB
  go_enter Tryz.func108, Tryz.ntmps108
  go_wp2
  go_returns
  exact ⟨rfl, hB0⟩
end Go.Proofs.YtdeiocppghhfdaaGreat.Lin
namespace Go.Proofs.YtdeiocppghhfdaaGreat.Lin
open Go.RowKit Go.Lib Go.Shelf
open Hs
def lateQ (cs : List CallV) (z : Option Nat) (y : CallV) : Bool :=
  match z with | none => false | some z => decide ((getC cs z).took < y.invoked) && (decide (y.err = 0) || decide (y.err = 17))
inductive FdR where
  | on (pos : Int)
  | stop
  | open_
deriving DecidableEq
def fdS (ap : ByteArray → List PieceV → Option (ByteArray × Int)) (cs : List CallV) (z : Option Nat) (ts : List ByteArray) (pos : Int) (y : CallV) : FdR :=
  if y.okind = 14 then .on (if y.err = 0 then y.rev else pos)
  else if y.okind = 15 then
    (if lateQ cs z y then .stop
     else if y.err = 0 then (match wrongO ap y pos (numP y.took cs) ts with | none => .open_ | some true => .stop | some false => .on y.ito)
     else .on pos)
  else .on pos
def fdE (ap : ByteArray → List PieceV → Option (ByteArray × Int)) (cs : List CallV) (z : Option Nat) (ts : List ByteArray) : Int → List Nat → Option (Option Nat)
  | _, [] => some none
  | pos, i :: r => match fdS ap cs z ts pos (getC cs i) with
    | .on pos' => fdE ap cs z ts pos' r
    | .stop => some (some i)
    | .open_ => none
def posL (cs : List CallV) : List Int := 0 :: (cs.map (·.rev) ++ cs.map (·.ito))
def fdSafe (ap : ByteArray → List PieceV → Option (ByteArray × Int)) (cs : List CallV) (ts : List ByteArray) : Prop := ∀ pos ∈ posL cs, ∀ y ∈ cs, y.okind = 15 → y.err = 0 → wrongO ap y pos (numP y.took cs) ts ≠ none
def fdR : Option (Option Nat) → Int × Int | some (some i) => (i, 26) | _ => (0, 0)
def feedC (ap : ByteArray → List PieceV → Option (ByteArray × Int)) (c : CfgV) (client : Int) (cs : List CallV) : Int × Int :=
  if (perfC c cs).2 ≠ 0 then perfC c cs
  else if client < 0 ∨ c.clients ≤ client then (0, 7)
  else fdR (fdE ap cs (closeP cs (effC cs)) (textsC c cs) 0 (tkIdx client cs 0))
theorem pos_rev {cs : List CallV} {y : CallV} (h : y ∈ cs) : y.rev ∈ posL cs := List.mem_cons_of_mem _ (List.mem_append_left _ (List.mem_map_of_mem h))
theorem pos_ito {cs : List CallV} {y : CallV} (h : y ∈ cs) : y.ito ∈ posL cs := List.mem_cons_of_mem _ (List.mem_append_right _ (List.mem_map_of_mem h))
end Go.Proofs.YtdeiocppghhfdaaGreat.Lin
namespace Go.Proofs.YtdeiocppghhfdaaGreat.Lin
open Hs
def first35 : List CallV := [{ zeroC with okind := 1, oat := 1, otext := ⟨#[120]⟩, took := 9, answered := 12, steps := 6, rev := 1 }, { zeroC with thread := 1, okind := 5, invoked := 1, took := 8, answered := 8, steps := 4 }, { zeroC with thread := 1, index := 1, okind := 7, on := 2, invoked := 10, took := 10, answered := 10, steps := 1, rtext := ⟨#[97, 98]⟩ }]
def second35 : List CallV := [{ zeroC with okind := 1, otext := ⟨#[120]⟩, took := 9, answered := 11, steps := 6, rev := 1 }, { zeroC with thread := 1, okind := 16, invoked := 5, took := 5, answered := 5, steps := 1 }, { zeroC with thread := 1, index := 1, okind := 16, invoked := 6, took := 6, answered := 6, steps := 1, err := 13 }]
theorem v1a : ordC first35 = [1, 0, 2] := by decide +kernel
theorem v1b : perfC cfg36 first35 = (0, 0) := by decide +kernel
theorem v1c : (lastC cfg36 first35).text = ⟨#[97, 120, 98]⟩ ∧ (lastC cfg36 first35).marks = [] ∧ (lastC cfg36 first35).number = 1 := by decide +kernel
theorem v1d : textsC cfg36 first35 = [⟨#[97, 98]⟩, ⟨#[97, 120, 98]⟩] := by decide +kernel
theorem v1e : snapsC cfg36 first35 = (0, 0) := by decide +kernel
theorem v2a : ordC second35 = [0, 1, 2] := by decide +kernel
theorem v2b : perfC cfg36 second35 = (0, 0) := by decide +kernel
theorem v2c : (lastC cfg36 second35).text = ⟨#[120, 97, 98]⟩ ∧ (lastC cfg36 second35).number = 1 := by decide +kernel
def fed35 (a : Option Addr) (f : Int) : List CallV := [{ zeroC with okind := 1, otext := ⟨#[120]⟩, took := 9, answered := 11, steps := 6, rev := 1 }, { zeroC with thread := 1, okind := 14, invoked := 1, took := 4, answered := 4, steps := 3 }, { zeroC with index := 1, okind := 2, oat := 1, on := 1, invoked := 12, took := 20, answered := 25, steps := 6, rev := 2 },
 { zeroC with thread := 1, index := 1, okind := 15, invoked := 13, took := 18, answered := 18, steps := 5, ik := 1, ifrom := f, ito := 1, ps := [⟨2, 0, ⟨#[120]⟩⟩, ⟨1, 2, ⟨#[]⟩⟩], da := a, dc := 2 }, { zeroC with thread := 1, index := 2, okind := 15, invoked := 21, took := 24, answered := 24, steps := 4, ik := 2, ito := 2 }, { zeroC with thread := 1, index := 3, okind := 15, invoked := 27, took := 29, answered := 29, steps := 3, err := 17 }]
def ap35 (t : ByteArray) (ps : List PieceV) : Option (ByteArray × Int) := if t = ⟨#[97, 98]⟩ ∧ ps = [⟨2, 0, ⟨#[120]⟩⟩, ⟨1, 2, ⟨#[]⟩⟩] then some (⟨#[120, 97, 98]⟩, 0) else none
theorem v5a (a : Option Addr) : feedC ap35 cfg36 1 (fed35 a 0) = (0, 0) := by kernel_rfl
theorem v5c (a : Option Addr) : textsC cfg36 (fed35 a 0) = [⟨#[97, 98]⟩, ⟨#[120, 97, 98]⟩, ⟨#[120, 98]⟩] := by kernel_rfl
end Go.Proofs.YtdeiocppghhfdaaGreat.Lin
namespace Go.Proofs.YtdeiocppghhfdaaGreat.Lin
open Go.RowKit Go.Lib Go.Shelf
open Hs
open KitI (iv IRow own_below)
attribute [local go_sem, local simp] Hs.callL_0 Hs.callL_1 Hs.callL_2 Hs.callL_3 Hs.callL_4 Hs.callL_5 Hs.callL_6 Hs.callL_7 Hs.callL_8 Hs.callL_9 Hs.callL_10 Hs.callL_11 Hs.callL_12 Hs.callL_13 Hs.callL_14 Hs.callL_15 Hs.callL_16 Hs.callL_17 Hs.callL_18 Hs.callL_19 Hs.callL_20 Hs.callL_21 Hs.callL_22 Hs.callL_23 Hs.callL_24 Hs.callL_25 Hs.callL_26 Hs.resL_0 Hs.resL_1 Hs.resL_2 Hs.resL_3 Hs.resL_4 Hs.resL_5 Hs.resL_6 Hs.resL_7 Hs.resL_8 Hs.resL_9 Hs.resL_10 Hs.resL_11 Hs.resL_12 Hs.callG_0 Hs.callG_1 Hs.callG_2 Hs.callG_3 Hs.callG_4 Hs.callG_5 Hs.callG_6 Hs.callG_7 Hs.callG_8 Hs.callG_9 Hs.callG_10 Hs.callG_11 Hs.callG_12 Hs.callG_13 Hs.callG_14 Hs.callG_15 Hs.callG_16 Hs.callG_17 Hs.callG_18 Hs.callG_19 Hs.callG_20 Hs.callG_21 Hs.callG_22 Hs.callG_23 Hs.callG_24 Hs.callG_25 Hs.callG_26 Hs.resG_0 Hs.resG_1 Hs.resG_2 Hs.resG_3 Hs.resG_4 Hs.resG_5 Hs.resG_6 Hs.resG_7 Hs.resG_8 Hs.resG_9 Hs.resG_10 Hs.resG_11 Hs.resG_12 Hs.callL_len Hs.resL_len
attribute [local go_sem ↓] Hs.loadCall_eq Hs.loadRes_eq
attribute [local go_sem] Hs.ld_new Hs.ld_first Hs.ld_second Hs.ldr_new Hs.st_new
theorem small35_any (c : CfgV) (w : World) : Calls Tryz.prog 34 #[c.v] w fun e w' => e = .returned (smallC 200 c).v ∧ Below w.heap.size w w' := by
 have hm0 : 0 ≤ min (c.text.size : Int) 200 := by omega
 have hm1 : min (c.text.size : Int) 200 ≤ c.text.size := by omega
 have hmn : (min (c.text.size : Int) 200).toNat = min c.text.size 200 := by omega
 unfold CfgV.v smallC
 go_enter Tryz.func34, Tryz.ntmps34
 go_wp2
 exact ⟨rfl, _, results_cell_row rfl _ _ _ _ _ _ _ rfl (by rw [← World.size_alloc]; exact heap_alloc_new _ _) Tryz.underlying24 rfl (by kernel_rfl), rfl, below2 _ _ _⟩
theorem config35_any (w : World) : Calls Tryz.prog 91 #[] w fun e w' => e = .returned cfg36.v ∧ Below w.heap.size w w' := by
 go_enter Tryz.func91, Tryz.ntmps91
 go_wp2
 exact ⟨rfl, _, results_cell_row rfl _ _ _ _ _ _ _ rfl (heap_alloc_new _ _) Tryz.underlying24 rfl (by kernel_rfl), rfl, (Below.refl _ _).alloc (Nat.le_refl _) _⟩
def RowAtB (W : World) (B : Nat) (cs : List CallV) : Prop := W.heap[B]? = some (.cells (callsL cs).toArray 56 (0, 0))
theorem RowAtB.on {W W' : World} {B : Nat} {cs : List CallV} (h : RowAtB W B cs) (hb : Below W.heap.size W W') : RowAtB W' B cs := blk_below h hb (Array.getElem?_eq_some_iff.1 h).1
theorem RowAtB.cat {W : World} {B : Nat} {cs : List CallV} (h : RowAtB W B cs) : CAt W B 0 cs := fun j u hj => by rw [Nat.zero_add, blk_cell h]; exact hj
theorem RowAtB.crow {W : World} {B n : Nat} {cs : List CallV} (h : RowAtB W B cs) (hn : cs.length = n) : CRow W (some ⟨B, 0, none⟩) n cs := .inr ⟨B, 0, rfl, by omega, (Array.getElem?_eq_some_iff.1 h).1, h.cat⟩
theorem first35_any (w : World) : Calls Tryz.prog 90 #[] w fun e w' => e = .returned (.slice (some ⟨w.heap.size, 0, none⟩) 3 3) ∧ RowAtB w' w.heap.size first35 ∧ Below w.heap.size w w' := by
 go_enter Tryz.func90, Tryz.ntmps90
 go_wp2
 go_returns
 exact ⟨rfl, (heap_alloc_new _ _).trans (congrArg some (by kernel_rfl)), (Below.refl _ _).alloc (Nat.le_refl _) _⟩
theorem second35_any (w : World) : Calls Tryz.prog 94 #[] w fun e w' => e = .returned (.slice (some ⟨w.heap.size, 0, none⟩) 3 3) ∧ RowAtB w' w.heap.size second35 ∧ Below w.heap.size w w' := by
 go_enter Tryz.func94, Tryz.ntmps94
 go_wp2
 go_returns
 exact ⟨rfl, (heap_alloc_new _ _).trans (congrArg some (by kernel_rfl)), (Below.refl _ _).alloc (Nat.le_refl _) _⟩
end Go.Proofs.YtdeiocppghhfdaaGreat.Lin
namespace Go.Proofs.YtdeiocppghhfdaaGreat.Lin
open Go.RowKit Go.Lib Go.Shelf
open Hs
open KitI (iv IRow own_below)
attribute [local go_sem, local simp] Hs.callL_0 Hs.callL_1 Hs.callL_2 Hs.callL_3 Hs.callL_4 Hs.callL_5 Hs.callL_6 Hs.callL_7 Hs.callL_8 Hs.callL_9 Hs.callL_10 Hs.callL_11 Hs.callL_12 Hs.callL_13 Hs.callL_14 Hs.callL_15 Hs.callL_16 Hs.callL_17 Hs.callL_18 Hs.callL_19 Hs.callL_20 Hs.callL_21 Hs.callL_22 Hs.callL_23 Hs.callL_24 Hs.callL_25 Hs.callL_26 Hs.resL_0 Hs.resL_1 Hs.resL_2 Hs.resL_3 Hs.resL_4 Hs.resL_5 Hs.resL_6 Hs.resL_7 Hs.resL_8 Hs.resL_9 Hs.resL_10 Hs.resL_11 Hs.resL_12 Hs.callG_0 Hs.callG_1 Hs.callG_2 Hs.callG_3 Hs.callG_4 Hs.callG_5 Hs.callG_6 Hs.callG_7 Hs.callG_8 Hs.callG_9 Hs.callG_10 Hs.callG_11 Hs.callG_12 Hs.callG_13 Hs.callG_14 Hs.callG_15 Hs.callG_16 Hs.callG_17 Hs.callG_18 Hs.callG_19 Hs.callG_20 Hs.callG_21 Hs.callG_22 Hs.callG_23 Hs.callG_24 Hs.callG_25 Hs.callG_26 Hs.resG_0 Hs.resG_1 Hs.resG_2 Hs.resG_3 Hs.resG_4 Hs.resG_5 Hs.resG_6 Hs.resG_7 Hs.resG_8 Hs.resG_9 Hs.resG_10 Hs.resG_11 Hs.resG_12 Hs.callL_len Hs.resL_len
attribute [local go_sem ↓] Hs.loadCall_eq Hs.loadRes_eq
attribute [local go_sem] Hs.ld_new Hs.ld_first Hs.ld_second Hs.ldr_new Hs.st_new
def pcs35 : List PieceV := [⟨2, 0, ⟨#[120]⟩⟩, ⟨1, 2, ⟨#[]⟩⟩]
theorem fed35_any (w : World) : Calls Tryz.prog 95 #[] w fun e w' => e = .returned (.slice (some ⟨w.heap.size + 1, 0, none⟩) 6 6) ∧ RowAtB w' (w.heap.size + 1) (fed35 (some ⟨w.heap.size, 0, none⟩) 0) ∧ w'.heap[w.heap.size]? = some (.cells (piecesL pcs35).toArray 94 (0, 0)) ∧ Below w.heap.size w w' := by
 go_enter Tryz.func95, Tryz.ntmps95
 go_wp2
 go_returns
 refine ⟨rfl, ?_, ?_, below2 _ _ _⟩
 ·have h := heap_alloc_new (w.alloc (.cells (piecesL pcs35).toArray 94)) (.cells (callsL (fed35 (some ⟨w.heap.size, 0, none⟩) 0)).toArray 56)
  rw [World.size_alloc] at h
  exact h
 ·exact (Below.heap_alloc _ _ _ (by simp)).trans (heap_alloc_new _ _)
end Go.Proofs.YtdeiocppghhfdaaGreat.Lin
