/- Texts, one behind another. -/
import Derived.Test.YtdeiocppghhfdaaGreatZcbp
import Derived.Test.YtdeiocppghhfdaaGreatZcbj
import Derived.Test.YtdeiocppghhfdaaGreatZcbo
import Derived.Test.YtdeiocppghhfdaaGreatZcbq
import Derived.Test.YtdeiocppghhfdaaGreatZcbn
import Derived.Test.YtdeiocppghhfdaaGreatZcbi
import Derived.Test.YtdeiocppghhfdaaGreatZcaa
import Derived.Test.YtdeiocppghhfdaaGreatZcbf
import Derived.Test.YtdeiocppghhfdaaGreatZcbe
import Derived.Test.YtdeiocppghhfdaaGreatZcbh
import Derived.Test.YtdeiocppghhfdaaGreatZcay
import Derived.Laws.EntriesVeiled
import Derived.Carry
set_option linter.unusedVariables false
set_option linter.unusedSimpArgs false
set_option maxRecDepth 100000
set_option maxHeartbeats 8000000
namespace Go.Proofs.YtdeiocppghhfdaaGreat.Lin
open Go.RowKit Go.Lib Go.Shelf
open Hs
open KitI (iv IRow own_below)
attribute [local go_sem, local simp] Hs.callL_0 Hs.callL_1 Hs.callL_2 Hs.callL_3 Hs.callL_4 Hs.callL_5 Hs.callL_6 Hs.callL_7 Hs.callL_8 Hs.callL_9 Hs.callL_10 Hs.callL_11 Hs.callL_12 Hs.callL_13 Hs.callL_14 Hs.callL_15 Hs.callL_16 Hs.callL_17 Hs.callL_18 Hs.callL_19 Hs.callL_20 Hs.callL_21 Hs.callL_22 Hs.callL_23 Hs.callL_24 Hs.callL_25 Hs.callL_26 Hs.resL_0 Hs.resL_1 Hs.resL_2 Hs.resL_3 Hs.resL_4 Hs.resL_5 Hs.resL_6 Hs.resL_7 Hs.resL_8 Hs.resL_9 Hs.resL_10 Hs.resL_11 Hs.resL_12 Hs.callG_0 Hs.callG_1 Hs.callG_2 Hs.callG_3 Hs.callG_4 Hs.callG_5 Hs.callG_6 Hs.callG_7 Hs.callG_8 Hs.callG_9 Hs.callG_10 Hs.callG_11 Hs.callG_12 Hs.callG_13 Hs.callG_14 Hs.callG_15 Hs.callG_16 Hs.callG_17 Hs.callG_18 Hs.callG_19 Hs.callG_20 Hs.callG_21 Hs.callG_22 Hs.callG_23 Hs.callG_24 Hs.callG_25 Hs.callG_26 Hs.resG_0 Hs.resG_1 Hs.resG_2 Hs.resG_3 Hs.resG_4 Hs.resG_5 Hs.resG_6 Hs.resG_7 Hs.resG_8 Hs.resG_9 Hs.resG_10 Hs.resG_11 Hs.resG_12 Hs.callL_len Hs.resL_len
attribute [local go_sem ↓] Hs.loadCall_eq Hs.loadRes_eq
attribute [local go_sem] Hs.ld_new Hs.ld_first Hs.ld_second Hs.ldr_new Hs.st_new
def dr (c : CallV) (d : Option Addr × Nat) : CallV := { c with da := d.1, dc := d.2 }
theorem of_pure {c a : CallV} (h : c.pure = a) : c = dr a (c.da, c.dc) := by subst h; rfl
theorem of_pure_cons {hs : List CallV} {a : CallV} {L : List CallV} (h : hs.map CallV.pure = a :: L) : ∃ x t, hs = dr a x :: t ∧ t.map CallV.pure = L := by
 cases hs with
 | nil => cases h
 | cons c t =>
  rw [List.map_cons] at h
  injection h with h1 h2
  exact ⟨_, t, by rw [← of_pure h1], h2⟩
theorem of_pure_nil {hs : List CallV} (h : hs.map CallV.pure = []) : hs = [] := List.map_eq_nil_iff.1 h
theorem of_pure3 {hs : List CallV} {a b c : CallV} (h : hs.map CallV.pure = [a, b, c]) : ∃ x y z, hs = [dr a x, dr b y, dr c z] := by
 obtain ⟨x, t1, e1, h1⟩ := of_pure_cons h
 obtain ⟨y, t2, e2, h2⟩ := of_pure_cons h1
 obtain ⟨z, t3, e3, h3⟩ := of_pure_cons h2
 exact ⟨x, y, z, by rw [e1, e2, e3, of_pure_nil h3]⟩
theorem of_pure6 {hs : List CallV} {a b c d e f : CallV} (h : hs.map CallV.pure = [a, b, c, d, e, f]) : ∃ x y z u v w, hs = [dr a x, dr b y, dr c z, dr d u, dr e v, dr f w] := by
 obtain ⟨x, t1, e1, h1⟩ := of_pure_cons h
 obtain ⟨y, t2, e2, h2⟩ := of_pure_cons h1
 obtain ⟨z, t3, e3, h3⟩ := of_pure_cons h2
 obtain ⟨u, t4, e4, h4⟩ := of_pure_cons h3
 obtain ⟨v, t5, e5, h5⟩ := of_pure_cons h4
 obtain ⟨w, t6, e6, h6⟩ := of_pure_cons h5
 exact ⟨x, y, z, u, v, w, by rw [e1, e2, e3, e4, e5, e6, of_pure_nil h6]⟩
def g0 : CallV := { zeroC with okind := 1, oat := 1, otext := ⟨#[120]⟩, took := 9, answered := 12, steps := 6, rev := 1 }
def g1 : CallV := { zeroC with thread := 1, okind := 5, invoked := 1, took := 8, answered := 8, steps := 4 }
def g2 : CallV := { zeroC with thread := 1, index := 1, okind := 7, on := 2, invoked := 10, took := 10, answered := 10, steps := 1, rtext := ⟨#[97, 98]⟩ }
def k0 : CallV := { zeroC with okind := 1, otext := ⟨#[120]⟩, took := 9, answered := 11, steps := 6, rev := 1 }
def k1 : CallV := { zeroC with thread := 1, okind := 14, invoked := 1, took := 4, answered := 4, steps := 3 }
def k2 : CallV := { zeroC with index := 1, okind := 2, oat := 1, on := 1, invoked := 12, took := 20, answered := 25, steps := 6, rev := 2 }
def k3 : CallV := { zeroC with thread := 1, index := 1, okind := 15, invoked := 13, took := 18, answered := 18, steps := 5, ik := 1, ifrom := 1, ito := 1, ps := pcs35 }
def k4 : CallV := { zeroC with thread := 1, index := 2, okind := 15, invoked := 21, took := 24, answered := 24, steps := 4, ik := 2, ito := 2 }
def k5 : CallV := { zeroC with thread := 1, index := 3, okind := 15, invoked := 27, took := 29, answered := 29, steps := 3, err := 17 }
theorem e1 : (fewL first35).modify 1 (fun q => { q with rev := 1 }) = [g0, { g1 with rev := 1 }, g2] := by kernel_rfl
theorem e2 : (fewL first35).modify 2 (fun q => { q with rtext := ⟨#[97, 120]⟩ }) = [g0, g1, { g2 with rtext := ⟨#[97, 120]⟩ }] := by kernel_rfl
theorem e3 : (fewL first35).modify 0 (fun q => { q with took := 7 }) = [{ g0 with took := 7 }, g1, g2] := by kernel_rfl
theorem e4 : (fewL first35).modify 0 (fun q => { q with answered := 8 }) = [{ g0 with answered := 8 }, g1, g2] := by kernel_rfl
theorem e5 (a : Option Addr) : (fewL (fed35 a 0)).modify 3 (fun q => { q with ifrom := 1 }) = [k0, k1, k2, k3, k4, k5] := by kernel_rfl
theorem p1 (x y z : Option Addr × Nat) : perfC cfg36 [dr g0 x, dr { g1 with rev := 1 } y, dr g2 z] = (1, 26) := by kernel_rfl
theorem p2 (x y z : Option Addr × Nat) : perfC cfg36 [dr g0 x, dr g1 y, dr { g2 with rtext := ⟨#[97, 120]⟩ } z] = (2, 26) := by kernel_rfl
theorem p3 (x y z : Option Addr × Nat) : perfC cfg36 [dr { g0 with took := 7 } x, dr g1 y, dr g2 z] = (1, 26) := by kernel_rfl
theorem p4 (x y z : Option Addr × Nat) : (perfC cfg36 [dr { g0 with answered := 8 } x, dr g1 y, dr g2 z]).2 = 22 := by kernel_rfl
theorem p5 (x y z u v w : Option Addr × Nat) : feedC ap35 cfg36 1 [dr k0 x, dr k1 y, dr k2 z, dr k3 u, dr k4 v, dr k5 w] = (3, 26) := by kernel_rfl
theorem t5 (x y z u v w : Option Addr × Nat) : textsC cfg36 [dr k0 x, dr k1 y, dr k2 z, dr k3 u, dr k4 v, dr k5 w] = [⟨#[97, 98]⟩, ⟨#[120, 97, 98]⟩, ⟨#[120, 98]⟩] := by kernel_rfl
def safeB (cs : List CallV) (ts : List ByteArray) : Bool := (posL cs).all fun pos => cs.all fun y => !(decide (y.okind = 15)) || !(decide (y.err = 0)) || (wrongO ap35 y pos (numP y.took cs) ts).isSome
theorem safe_of {cs : List CallV} {ts : List ByteArray} (h : safeB cs ts = true) : fdSafe ap35 cs ts := by
 intro pos hp y hy h1 h2 hn
 unfold safeB at h
 have := List.all_eq_true.1 (List.all_eq_true.1 h pos hp) y hy
 rw [h1, h2, hn] at this
 cases this
theorem s5 (x y z u v w : Option Addr × Nat) : safeB [dr k0 x, dr k1 y, dr k2 z, dr k3 u, dr k4 v, dr k5 w] [⟨#[97, 98]⟩, ⟨#[120, 97, 98]⟩, ⟨#[120, 98]⟩] = true := by kernel_rfl
theorem s4 (a : Option Addr) : safeB (fed35 a 0) [⟨#[97, 98]⟩, ⟨#[120, 97, 98]⟩, ⟨#[120, 98]⟩] = true := by kernel_rfl
theorem rep35 : repD 2 0 0 ⟨#[120]⟩ = [⟨2, 0, ⟨#[120]⟩⟩, ⟨1, 2, ⟨#[]⟩⟩] := by kernel_rfl
theorem apok35 : ApOK ap35 where
 call := fun t y r W h hD => by
  unfold ap35 at h
  split at h
  ·rename_i hc
   obtain ⟨rfl, hps⟩ := hc
   injection h with h
   subst h
   have hr : PRow W y.da (repD 2 0 0 ⟨#[120]⟩) := by
    rw [rep35]
    rcases hD with ⟨_, ⟨_, h2, _⟩ | ⟨b, off, h1, h2, h3⟩⟩
    ·rw [hps] at h2; cases h2
    ·refine .inr ⟨b, off, h1, h2, fun k q hk i u hi => h3 (k * 3 + i) u ?_⟩
     rw [hps]
     match k, hk with
     | 0, hk =>
      injection hk with hk
      subst hk
      match i, hi with
      | 0, hi => exact hi
      | 1, hi => exact hi
      | 2, hi => exact hi
     | 1, hk =>
      injection hk with hk
      subst hk
      match i, hi with
      | 0, hi => exact hi
      | 1, hi => exact hi
      | 2, hi => exact hi
   have hl : y.ps.length = (repD 2 0 0 ⟨#[120]⟩).length := by rw [hps, rep35]; rfl
   rw [hl]
   exact apply_any ⟨#[97, 98]⟩ 0 0 ⟨#[120]⟩ y.da y.dc W (by unfold RepOK; decide) hr
  ·cases h
section
variable {W : World} {p : Option Addr} {cap : Nat} {cs : List CallV}
theorem dat_none {c : CallV} (h : c.ps = []) (h1 : c.da = none) (h2 : c.dc = 0) : DAt W c := ⟨by rw [h]; simp, .inl ⟨h1, h, h2⟩⟩
theorem first_ok : ∀ c ∈ first35, c.Ok := by
 intro c hc
 simp only [first35, List.mem_cons, List.not_mem_nil, or_false] at hc
 rcases hc with rfl | rfl | rfl <;> constructor <;> simp [zeroC]
theorem second_ok : ∀ c ∈ second35, c.Ok := by
 intro c hc
 simp only [second35, List.mem_cons, List.not_mem_nil, or_false] at hc
 rcases hc with rfl | rfl | rfl <;> constructor <;> simp [zeroC]
theorem first_h {B : Nat} (h : RowAtB W B first35) : HRow W (some ⟨B, 0, none⟩) 3 first35 := ⟨h.crow rfl, fun c hc => by
  simp only [first35, List.mem_cons, List.not_mem_nil, or_false] at hc
  rcases hc with rfl | rfl | rfl <;> exact dat_none rfl rfl rfl, first_ok, by decide⟩
theorem second_h {B : Nat} (h : RowAtB W B second35) : HRow W (some ⟨B, 0, none⟩) 3 second35 := ⟨h.crow rfl, fun c hc => by
  simp only [second35, List.mem_cons, List.not_mem_nil, or_false] at hc
  rcases hc with rfl | rfl | rfl <;> exact dat_none rfl rfl rfl, second_ok, by decide⟩
theorem fed_dat {G : Nat} (hG : W.heap[G]? = some (.cells (piecesL pcs35).toArray 94 (0, 0))) : ∀ c ∈ fed35 (some ⟨G, 0, none⟩) 0, DAt W c ∧ c.ps.length ≤ c.dc := fun c hc => by
 simp only [fed35, List.mem_cons, List.not_mem_nil, or_false] at hc
 rcases hc with rfl | rfl | rfl | rfl | rfl | rfl
 ·exact ⟨dat_none rfl rfl rfl, by decide⟩
 ·exact ⟨dat_none rfl rfl rfl, by decide⟩
 ·exact ⟨dat_none rfl rfl rfl, by decide⟩
 ·refine ⟨⟨by show (2 : Nat) ≤ 1000000; decide, .inr ⟨G, 0, rfl, (Array.getElem?_eq_some_iff.1 hG).1, fun j u hj => ?_⟩⟩, by show (2 : Nat) ≤ 2; decide⟩
  rw [Nat.zero_add, blk_cell hG]
  exact hj
 ·exact ⟨dat_none rfl rfl rfl, by decide⟩
 ·exact ⟨dat_none rfl rfl rfl, by decide⟩
theorem fed_ok (a : Option Addr) : ∀ c ∈ fed35 a 0, c.Ok := fun c hc => by
 simp only [fed35, List.mem_cons, List.not_mem_nil, or_false] at hc
 rcases hc with rfl | rfl | rfl | rfl | rfl | rfl <;> constructor <;> simp [zeroC]
theorem fed_h {B G : Nat} (h : RowAtB W B (fed35 (some ⟨G, 0, none⟩) 0)) (hG : W.heap[G]? = some (.cells (piecesL pcs35).toArray 94 (0, 0))) : HRow W (some ⟨B, 0, none⟩) 6 (fed35 (some ⟨G, 0, none⟩) 0) :=
 ⟨h.crow rfl, fun c hc => (fed_dat hG c hc).1, fed_ok _, by show (6 : Nat) ≤ 24; decide⟩
theorem hrow_ps (h : HRow W p cap cs) : ∀ x ∈ cs, x.ps.length ≤ 1000000 := fun x hx => (h.dat x hx).1
theorem first_arg {B : Nat} (h : RowAtB W B first35) : ArgRow W (some ⟨B, 0, none⟩) first35 := .inr ⟨B, 0, rfl, (Array.getElem?_eq_some_iff.1 h).1, h.cat, by decide, fun c hc => ⟨(first_h h).ok c hc, DRaw.of ((first_h h).dat c hc) (by
  simp only [first35, List.mem_cons, List.not_mem_nil, or_false] at hc
  rcases hc with rfl | rfl | rfl <;> decide)⟩⟩
theorem fed_arg {B G : Nat} (h : RowAtB W B (fed35 (some ⟨G, 0, none⟩) 0)) (hG : W.heap[G]? = some (.cells (piecesL pcs35).toArray 94 (0, 0))) : ArgRow W (some ⟨B, 0, none⟩) (fed35 (some ⟨G, 0, none⟩) 0) :=
 
 .inr ⟨B, 0, rfl, (Array.getElem?_eq_some_iff.1 h).1, h.cat, by show (6 : Nat) < 9223372036854775808; decide, fun c hc => ⟨fed_ok _ c hc, DRaw.of (fed_dat hG c hc).1 (fed_dat hG c hc).2⟩⟩
theorem gOrder (h : HRow W p cap cs) (h0 : (checkP cs).2 = 0) {o : List Nat} (ho : ordC cs = o) : Calls Tryz.prog 36 #[.slice p cs.length cap] W fun e W' => ∃ a q, e = .returned (.tuple #[.slice a o.length q, .int .i64 0]) ∧ IRow W' (.slice a o.length q) (o.map fun (n : Nat) => (n : Int)) ∧ Below W.heap.size W W' := by
 refine (order_any p cap cs W h.row (by have := h.len; omega) h.ok).mono ?_
 rintro e W' (⟨h1, _⟩ | ⟨_, v, E, hE, rfl, hO, hb⟩)
 ·rw [h0] at h1; cases h1
 ·have e : ordW cs E = o := by rw [← ho]; unfold ordC; rw [effC_of hE]
  rw [e] at hO
  obtain ⟨a, q, rfl⟩ := own_slice hO
  exact ⟨a, q, rfl, irow_own hO rfl, hb⟩
theorem gCheck (c : CfgV) (h : HRow W p cap cs) {x y : Int} (hr : perfC c cs = (x, y)) : Calls Tryz.prog 38 #[c.v, .slice p cs.length cap] W fun e W' => e = .returned (.tuple #[.int .i64 x, .int .i64 y]) ∧ Below W.heap.size W W' := by
 have := witcheck_any c p cap cs W h.row (by have := h.len; omega) h.ok (hrow_ps h)
 rwa [hr] at this
theorem gCheck2 (c : CfgV) (h : HRow W p cap cs) {y : Int} (hr : (perfC c cs).2 = y) : Calls Tryz.prog 38 #[c.v, .slice p cs.length cap] W fun e W' => ∃ x, e = .returned (.tuple #[.int .i64 x, .int .i64 y]) ∧ Below W.heap.size W W' := by
 refine (witcheck_any c p cap cs W h.row (by have := h.len; omega) h.ok (hrow_ps h)).mono ?_
 rintro e W' ⟨rfl, hb⟩
 exact ⟨_, by rw [hr], hb⟩
theorem gFinal (c : CfgV) (h : HRow W p cap cs) (hr : (perfC c cs).2 = 0) : Calls Tryz.prog 40 #[c.v, .slice p cs.length cap] W fun e W' => ∃ a q, e = .returned (.tuple #[.string (lastC c cs).text, .slice a (lastC c cs).marks.length q, .int .i64 (lastC c cs).number, .int .i64 0]) ∧ Below W.heap.size W W' := by
 refine (final_any c p cap cs W h.row (by have := h.len; omega) h.ok (hrow_ps h)).mono ?_
 rintro e W' (⟨h1, _⟩ | ⟨_, v, rfl, hO, hb⟩)
 ·exact absurd hr h1
 ·obtain ⟨a, q, rfl⟩ := own_slice hO
  exact ⟨a, q, rfl, hb⟩
theorem gTexts (c : CfgV) (h : HRow W p cap cs) (hr : (perfC c cs).2 = 0) {ts : List ByteArray} (ht : textsC c cs = ts) : Calls Tryz.prog 42 #[c.v, .slice p cs.length cap] W fun e W' => ∃ a q, e = .returned (.tuple #[.slice a ts.length q, .int .i64 0]) ∧ SRow W' (.slice a ts.length q) ts ∧ Below W.heap.size W W' := by
 refine (texts_any c p cap cs W h.row (by have := h.len; omega) h.ok (hrow_ps h)).mono ?_
 rintro e W' (⟨h1, _⟩ | ⟨_, v, rfl, hO, hb⟩)
 ·exact absurd hr h1
 ·rw [ht] at hO
  obtain ⟨a, q, rfl⟩ := own_slice hO
  exact ⟨a, q, rfl, SRow.own hO rfl, hb⟩
theorem gSnaps (c : CfgV) (h : HRow W p cap cs) {x y : Int} (hr : snapsC c cs = (x, y)) : Calls Tryz.prog 48 #[c.v, .slice p cs.length cap] W fun e W' => e = .returned (.tuple #[.int .i64 x, .int .i64 y]) ∧ Below W.heap.size W W' := by
 have := snapshots_any c p cap cs W h.row (by have := h.len; omega) h.ok (hrow_ps h)
 rwa [hr] at this
theorem gFeed (c : CfgV) (cl : Int) (h : HRow W p cap cs) (hs : fdSafe ap35 cs (textsC c cs)) {x y : Int} (hr : feedC ap35 c cl cs = (x, y)) : Calls Tryz.prog 56 #[c.v, .int .i64 cl, .slice p cs.length cap] W fun e W' => e = .returned (.tuple #[.int .i64 x, .int .i64 y]) ∧ Below W.heap.size W W' := by
 have := feed_any (P := fun pos => pos ∈ posL cs) apok35 c cl p cap cs W h.row (by have := h.len; omega) h.ok (hrow_ps h) h.dat (List.mem_cons_self ..) (fun _ y hy _ _ => pos_rev hy) (fun _ _ _ y hy _ _ _ => pos_ito hy) (fun _ pos hp => hs pos hp)
 rwa [hr] at this
theorem v1h : (checkP first35).2 = 0 := by decide +kernel
theorem v2h : (checkP second35).2 = 0 := by decide +kernel
theorem v1p : (perfC cfg36 first35).2 = 0 := by rw [v1b]
theorem v2p : (perfC cfg36 second35).2 = 0 := by rw [v2b]
theorem gFin1 {B : Nat} (h : HRow W (some ⟨B, 0, none⟩) 3 first35) : Calls Tryz.prog 40 #[cfg36.v, .slice (some ⟨B, 0, none⟩) 3 3] W fun e W' => ∃ a q, e = .returned (.tuple #[.string ⟨#[97, 120, 98]⟩, .slice a 0 q, .int .i64 1, .int .i64 0]) ∧ Below W.heap.size W W' := by
 have := gFinal cfg36 h v1p
 rwa [v1c.1, v1c.2.1, v1c.2.2] at this
theorem gFin2 {B : Nat} (h : HRow W (some ⟨B, 0, none⟩) 3 second35) : Calls Tryz.prog 40 #[cfg36.v, .slice (some ⟨B, 0, none⟩) 3 3] W fun e W' => ∃ a n q, e = .returned (.tuple #[.string ⟨#[120, 97, 98]⟩, .slice a n q, .int .i64 1, .int .i64 0]) ∧ Below W.heap.size W W' := by
 refine (gFinal cfg36 h v2p).mono ?_
 rintro e W' ⟨a, q, rfl, hb⟩
 exact ⟨a, _, q, by rw [v2c.1, v2c.2], hb⟩
theorem few_fok (h : ∀ c ∈ cs, c.Ok) : ∀ c ∈ fewL cs, c.Ok := fun c hc => by
 obtain ⟨d, hd, rfl⟩ := few_mem hc
 exact cut_ok (h d hd)
theorem first_fok : ∀ c ∈ fewL first35, c.Ok := few_fok first_ok
theorem fed_fok (a : Option Addr) : ∀ c ∈ fewL (fed35 a 0), c.Ok := few_fok (fed_ok a)
theorem fails_any (h : HRow W p cap cs) {x : Int} (hr : perfC cfg36 cs = (x, 26)) : Calls Tryz.prog 92 #[.slice p cs.length cap, .int .i64 x] W fun e W' => e = .returned (.bool true) ∧ Below W.heap.size W W' := by
 go_enter Tryz.func92, Tryz.ntmps92
 go_wp2_with fail
 refine (config35_any _).mono ?_
 rintro e w2 ⟨rfl, hb⟩
 have hc := gCheck cfg36 (h.on hb) hr
 go_wp2_with fail
 refine hc.mono ?_
 rintro e w3 ⟨rfl, hb3⟩
 go_wp2
 go_returns
 exact ⟨rfl, hb.trans (hb3.mono hb.size)⟩
end
end Go.Proofs.YtdeiocppghhfdaaGreat.Lin
namespace Go.Proofs.YtdeiocppghhfdaaGreat.Lin
open Go.RowKit Go.Lib Go.Shelf
open Hs
open KitI (iv IRow own_below)
attribute [local go_sem, local simp] Hs.callL_0 Hs.callL_1 Hs.callL_2 Hs.callL_3 Hs.callL_4 Hs.callL_5 Hs.callL_6 Hs.callL_7 Hs.callL_8 Hs.callL_9 Hs.callL_10 Hs.callL_11 Hs.callL_12 Hs.callL_13 Hs.callL_14 Hs.callL_15 Hs.callL_16 Hs.callL_17 Hs.callL_18 Hs.callL_19 Hs.callL_20 Hs.callL_21 Hs.callL_22 Hs.callL_23 Hs.callL_24 Hs.callL_25 Hs.callL_26 Hs.resL_0 Hs.resL_1 Hs.resL_2 Hs.resL_3 Hs.resL_4 Hs.resL_5 Hs.resL_6 Hs.resL_7 Hs.resL_8 Hs.resL_9 Hs.resL_10 Hs.resL_11 Hs.resL_12 Hs.callG_0 Hs.callG_1 Hs.callG_2 Hs.callG_3 Hs.callG_4 Hs.callG_5 Hs.callG_6 Hs.callG_7 Hs.callG_8 Hs.callG_9 Hs.callG_10 Hs.callG_11 Hs.callG_12 Hs.callG_13 Hs.callG_14 Hs.callG_15 Hs.callG_16 Hs.callG_17 Hs.callG_18 Hs.callG_19 Hs.callG_20 Hs.callG_21 Hs.callG_22 Hs.callG_23 Hs.callG_24 Hs.callG_25 Hs.callG_26 Hs.resG_0 Hs.resG_1 Hs.resG_2 Hs.resG_3 Hs.resG_4 Hs.resG_5 Hs.resG_6 Hs.resG_7 Hs.resG_8 Hs.resG_9 Hs.resG_10 Hs.resG_11 Hs.resG_12 Hs.callL_len Hs.resL_len
attribute [local go_sem ↓] Hs.loadCall_eq Hs.loadRes_eq
attribute [local go_sem] Hs.ld_new Hs.ld_first Hs.ld_second Hs.ldr_new Hs.st_new
attribute [local irreducible] callL cfg36
theorem awake35_any (w : World) : Calls Tryz.prog 46 #[] w fun e w' => e = .returned (.bool true) ∧ Below w.heap.size w w' := by
 go_enter Tryz.func46, Tryz.ntmps46
 go_wp2_with fail
 refine (first35_any _).mono ?_
 rintro e w1 ⟨rfl, hR, hb⟩
 have hB := hb
 clear hb
 have hF := first_h hR
 go_wp2_with fail
 refine (gOrder hF v1h v1a).mono ?_
 rintro e w2 ⟨a1, q1, rfl, hI, hb⟩
 replace hB := hB.trans (hb.mono hB.size)
 clear hb
 clear hF hR
 go_wp2_with fail
 refine (config35_any _).mono ?_
 rintro e w3 ⟨rfl, hb⟩
 replace hB := hB.trans (hb.mono hB.size)
 replace hI := hI.on hb
 clear hb
 go_wp2_with fail
 refine (first35_any _).mono ?_
 rintro e w4 ⟨rfl, hR, hb⟩
 replace hB := hB.trans (hb.mono hB.size)
 replace hI := hI.on hb
 clear hb
 have hF := first_h hR
 go_wp2_with fail
 refine (gCheck cfg36 hF v1b).mono ?_
 rintro e w5 ⟨rfl, hb⟩
 replace hB := hB.trans (hb.mono hB.size)
 replace hI := hI.on hb
 clear hb
 clear hF hR
 go_wp2_with fail
 refine (config35_any _).mono ?_
 rintro e w6 ⟨rfl, hb⟩
 replace hB := hB.trans (hb.mono hB.size)
 replace hI := hI.on hb
 clear hb
 go_wp2_with fail
 refine (first35_any _).mono ?_
 rintro e w7 ⟨rfl, hR, hb⟩
 replace hB := hB.trans (hb.mono hB.size)
 replace hI := hI.on hb
 clear hb
 have hF := first_h hR
 go_wp2_with fail
 refine (gFin1 hF).mono ?_
 rintro e w8 ⟨a2, q2, rfl, hb⟩
 replace hB := hB.trans (hb.mono hB.size)
 replace hI := hI.on hb
 clear hb
 clear hF hR
 go_wp2_with fail
 refine (config35_any _).mono ?_
 rintro e w9 ⟨rfl, hb⟩
 replace hB := hB.trans (hb.mono hB.size)
 replace hI := hI.on hb
 clear hb
 go_wp2_with fail
 refine (first35_any _).mono ?_
 rintro e w10 ⟨rfl, hR, hb⟩
 replace hB := hB.trans (hb.mono hB.size)
 replace hI := hI.on hb
 clear hb
 have hF := first_h hR
 go_wp2_with fail
 refine (gTexts cfg36 hF v1p v1d).mono ?_
 rintro e w11 ⟨a3, q3, rfl, hS, hb⟩
 replace hB := hB.trans (hb.mono hB.size)
 replace hI := hI.on hb
 clear hb
 clear hF hR
 go_wp2_with fail
 refine (config35_any _).mono ?_
 rintro e w12 ⟨rfl, hb⟩
 replace hB := hB.trans (hb.mono hB.size)
 replace hI := hI.on hb
 replace hS := hS.on hb
 clear hb
 go_wp2_with fail
 refine (first35_any _).mono ?_
 rintro e w13 ⟨rfl, hR, hb⟩
 replace hB := hB.trans (hb.mono hB.size)
 replace hI := hI.on hb
 replace hS := hS.on hb
 clear hb
 have hF := first_h hR
 go_wp2_with fail
 refine (gSnaps cfg36 hF v1e).mono ?_
 rintro e w14 ⟨rfl, hb⟩
 replace hB := hB.trans (hb.mono hB.size)
 replace hI := hI.on hb
 replace hS := hS.on hb
 clear hb
 clear hF hR
 have hE := eqiT _ _ [1, 0, 2] (hI.on (below_alloc w14 (.cells #[.int .i64 1, .int .i64 0, .int .i64 2] tInt))) (IRow.new [1, 0, 2] _ _ 3 3 rfl rfl _) (by decide)
 have hb := below_alloc w14 (.cells #[.int .i64 1, .int .i64 0, .int .i64 2] tInt)
 replace hB := hB.trans (hb.mono hB.size)
 replace hI := hI.on hb
 replace hS := hS.on hb
 clear hb
 go_wp2_with fail
 refine (hE).mono ?_
 rintro e w15 ⟨rfl, hb⟩
 replace hB := hB.trans (hb.mono hB.size)
 replace hI := hI.on hb
 replace hS := hS.on hb
 clear hb
 clear hE hI
 have hE := eqs_any _ _ _ _ _ (hS.on (below_alloc w15 (.cells #[.string ⟨#[97, 98]⟩, .string ⟨#[97, 120, 98]⟩] tStr))) (SRow.new [⟨#[97, 98]⟩, ⟨#[97, 120, 98]⟩] _ _ 2 2 rfl rfl _) (by decide) (by decide)
 rw [decide_eq_true rfl] at hE
 have hb := below_alloc w15 (.cells #[.string ⟨#[97, 98]⟩, .string ⟨#[97, 120, 98]⟩] tStr)
 replace hB := hB.trans (hb.mono hB.size)
 replace hS := hS.on hb
 clear hb
 go_wp2_with fail
 refine (hE).mono ?_
 rintro e w16 ⟨rfl, hb⟩
 replace hB := hB.trans (hb.mono hB.size)
 replace hS := hS.on hb
 clear hb
 clear hE hS
 go_wp2_with fail
 refine (first35_any _).mono ?_
 rintro e w17 ⟨rfl, hR, hb⟩
 replace hB := hB.trans (hb.mono hB.size)
 clear hb
 have hF := first_h hR
 go_wp2_with fail
 refine (chg_1_5 _ _ _ _ (first_arg hR) (few_len _) (first_fok) (by show (1 : Nat) < 3; decide)).mono ?_
 rintro e w18 ⟨g, cap, hs, rfl, hm, hH, hb⟩
 replace hB := hB.trans (hb.mono hB.size)
 clear hb
 clear hF hR
 rw [e1] at hm
 obtain ⟨x, y, z, hx⟩ := of_pure3 hm
 clear hm
 have hC := fails_any hH (by subst hx; exact p1 x y z)
 clear hx
 go_wp2_with fail
 refine (hC).mono ?_
 rintro e w19 ⟨rfl, hb⟩
 replace hB := hB.trans (hb.mono hB.size)
 clear hb
 clear hC hH
 go_wp2_with fail
 refine (first35_any _).mono ?_
 rintro e w20 ⟨rfl, hR, hb⟩
 replace hB := hB.trans (hb.mono hB.size)
 clear hb
 have hF := first_h hR
 go_wp2_with fail
 refine (chg_2_7 _ _ _ _ (first_arg hR) (few_len _) (first_fok) (by show (2 : Nat) < 3; decide)).mono ?_
 rintro e w21 ⟨g, cap, hs, rfl, hm, hH, hb⟩
 replace hB := hB.trans (hb.mono hB.size)
 clear hb
 clear hF hR
 rw [e2] at hm
 obtain ⟨x, y, z, hx⟩ := of_pure3 hm
 clear hm
 have hC := fails_any hH (by subst hx; exact p2 x y z)
 clear hx
 go_wp2_with fail
 refine (hC).mono ?_
 rintro e w22 ⟨rfl, hb⟩
 replace hB := hB.trans (hb.mono hB.size)
 clear hb
 clear hC hH
 go_wp2_with fail
 refine (first35_any _).mono ?_
 rintro e w23 ⟨rfl, hR, hb⟩
 replace hB := hB.trans (hb.mono hB.size)
 clear hb
 have hF := first_h hR
 go_wp2_with fail
 refine (chg_0_2 _ _ _ _ (first_arg hR) (few_len _) (first_fok) (by show (0 : Nat) < 3; decide)).mono ?_
 rintro e w24 ⟨g, cap, hs, rfl, hm, hH, hb⟩
 replace hB := hB.trans (hb.mono hB.size)
 clear hb
 clear hF hR
 rw [e3] at hm
 obtain ⟨x, y, z, hx⟩ := of_pure3 hm
 clear hm
 have hC := fails_any hH (by subst hx; exact p3 x y z)
 clear hx
 go_wp2_with fail
 refine (hC).mono ?_
 rintro e w25 ⟨rfl, hb⟩
 replace hB := hB.trans (hb.mono hB.size)
 clear hb
 clear hC hH
 go_wp2_with fail
 refine (second35_any _).mono ?_
 rintro e w26 ⟨rfl, hR, hb⟩
 replace hB := hB.trans (hb.mono hB.size)
 clear hb
 have hF := second_h hR
 go_wp2_with fail
 refine (gOrder hF v2h v2a).mono ?_
 rintro e w27 ⟨a1, q1, rfl, hI, hb⟩
 replace hB := hB.trans (hb.mono hB.size)
 clear hb
 clear hF hR
 go_wp2_with fail
 refine (config35_any _).mono ?_
 rintro e w28 ⟨rfl, hb⟩
 replace hB := hB.trans (hb.mono hB.size)
 replace hI := hI.on hb
 clear hb
 go_wp2_with fail
 refine (second35_any _).mono ?_
 rintro e w29 ⟨rfl, hR, hb⟩
 replace hB := hB.trans (hb.mono hB.size)
 replace hI := hI.on hb
 clear hb
 have hF := second_h hR
 go_wp2_with fail
 refine (gFin2 hF).mono ?_
 rintro e w30 ⟨a2, n2, q2, rfl, hb⟩
 replace hB := hB.trans (hb.mono hB.size)
 replace hI := hI.on hb
 clear hb
 clear hF hR
 go_wp2_with fail
 refine (config35_any _).mono ?_
 rintro e w31 ⟨rfl, hb⟩
 replace hB := hB.trans (hb.mono hB.size)
 replace hI := hI.on hb
 clear hb
 go_wp2_with fail
 refine (first35_any _).mono ?_
 rintro e w32 ⟨rfl, hR, hb⟩
 replace hB := hB.trans (hb.mono hB.size)
 replace hI := hI.on hb
 clear hb
 have hF := first_h hR
 go_wp2_with fail
 refine (chg_0_3 _ _ _ _ (first_arg hR) (few_len _) (first_fok) (by show (0 : Nat) < 3; decide)).mono ?_
 rintro e w33 ⟨g, cap, hs, rfl, hm, hH, hb⟩
 replace hB := hB.trans (hb.mono hB.size)
 replace hI := hI.on hb
 clear hb
 clear hF hR
 rw [e4] at hm
 obtain ⟨x, y, z, hx⟩ := of_pure3 hm
 clear hm
 have hC := gCheck2 cfg36 hH (by subst hx; exact p4 x y z)
 clear hx
 go_wp2_with fail
 refine (hC).mono ?_
 rintro e w34 ⟨j1, rfl, hb⟩
 replace hB := hB.trans (hb.mono hB.size)
 replace hI := hI.on hb
 clear hb
 clear hC hH
 go_wp2_with fail
 refine (config35_any _).mono ?_
 rintro e w35 ⟨rfl, hb⟩
 replace hB := hB.trans (hb.mono hB.size)
 replace hI := hI.on hb
 clear hb
 go_wp2_with fail
 refine (fed35_any _).mono ?_
 rintro e w36 ⟨rfl, hR, hG, hb⟩
 replace hB := hB.trans (hb.mono hB.size)
 replace hI := hI.on hb
 clear hb
 have hF := fed_h hR hG
 have hC := gFeed cfg36 1 hF (by rw [v5c]; exact safe_of (s4 _)) (v5a _)
 go_wp2_with fail
 refine (hC).mono ?_
 rintro e w37 ⟨rfl, hb⟩
 replace hB := hB.trans (hb.mono hB.size)
 replace hI := hI.on hb
 clear hb
 clear hC hF hR hG
 go_wp2_with fail
 refine (config35_any _).mono ?_
 rintro e w38 ⟨rfl, hb⟩
 replace hB := hB.trans (hb.mono hB.size)
 replace hI := hI.on hb
 clear hb
 go_wp2_with fail
 refine (fed35_any _).mono ?_
 rintro e w39 ⟨rfl, hR, hG, hb⟩
 replace hB := hB.trans (hb.mono hB.size)
 replace hI := hI.on hb
 clear hb
 have hF := fed_h hR hG
 go_wp2_with fail
 refine (chg_3_8 _ _ _ _ (fed_arg hR hG) (few_len _) (fed_fok _) (by show (3 : Nat) < 6; decide)).mono ?_
 rintro e w40 ⟨g, cap, hs, rfl, hm, hH, hb⟩
 replace hB := hB.trans (hb.mono hB.size)
 replace hI := hI.on hb
 clear hb
 clear hF hR hG
 rw [e5] at hm
 obtain ⟨x, y, z, u, v, t, hx⟩ := of_pure6 hm
 clear hm
 have hC := gFeed cfg36 1 hH (by subst hx; rw [t5]; exact safe_of (s5 x y z u v t)) (by subst hx; exact p5 x y z u v t)
 clear hx
 go_wp2_with fail
 refine (hC).mono ?_
 rintro e w41 ⟨rfl, hb⟩
 replace hB := hB.trans (hb.mono hB.size)
 replace hI := hI.on hb
 clear hb
 clear hC hH
 have hE := eqiT _ _ [0, 1, 2] (hI.on (below_alloc w41 (.cells #[.int .i64 0, .int .i64 1, .int .i64 2] tInt))) (IRow.new [0, 1, 2] _ _ 3 3 rfl rfl _) (by decide)
 have hb := below_alloc w41 (.cells #[.int .i64 0, .int .i64 1, .int .i64 2] tInt)
 replace hB := hB.trans (hb.mono hB.size)
 replace hI := hI.on hb
 clear hb
 go_wp2_with fail
 refine (hE).mono ?_
 rintro e w42 ⟨rfl, hb⟩
 replace hB := hB.trans (hb.mono hB.size)
 replace hI := hI.on hb
 clear hb
 clear hE hI
 go_wp2_with fail
 go_returns
 exact ⟨rfl, hB⟩
end Go.Proofs.YtdeiocppghhfdaaGreat.Lin
namespace Go.Proofs.YtdeiocppghhfdaaGreat.Lin
open Go.RowKit Go.Lib Go.Shelf
open Hs
open KitI (iv IRow own_below)
theorem small35_l (c : CfgV) (w : World) : Calls Tryz.prog 34 #[.agg (cfgL c).toArray] w fun e w' => e = .returned (.agg (cfgL (smallC 200 c)).toArray) ∧ Below w.heap.size w w' := small35_any c w
section
variable {w W : World} {c : CfgV} {p : Option Addr} {cap : Nat} {cs : List CallV}
theorem LawW.awake35 (h : LawW w W c p cap cs) : Calls Tryz.prog 46 #[] W fun e W' => e = .returned (.bool true) ∧ Below w.heap.size w W' := by
 refine (awake35_any W).mono ?_
 rintro e W' ⟨rfl, hb⟩
 exact ⟨rfl, h.bl.trans (hb.mono h.bl.size)⟩
theorem LawW.wfinal (h : LawW w W c p cap cs) : Calls Tryz.prog 40 #[.agg (cfgL c).toArray, .slice p cs.length cap] W (FinPost W c cs) :=
 final_any c p cap cs W h.row.row (by have := h.row.len; omega) h.row.ok h.ps
theorem LawW.wtexts (h : LawW w W c p cap cs) : Calls Tryz.prog 42 #[.agg (cfgL c).toArray, .slice p cs.length cap] W (TxtPost W c cs) :=
 texts_any c p cap cs W h.row.row (by have := h.row.len; omega) h.row.ok h.ps
end
end Go.Proofs.YtdeiocppghhfdaaGreat.Lin
namespace Go.Proofs.YtdeiocppghhfdaaGreat.Lin
open Hs
theorem effC_is {cs : List CallV} (h0 : (checkP cs).2 = 0) : EffIs cs (effC cs) := by
 have hn : (effC cs).Nodup := (effC_perm cs).nodup_iff.2 places_nodup
 refine ⟨effC_perm cs, (effC_sorted cs).and hn |>.imp_of_mem fun {a b} ha hb h => ?_⟩
 obtain ⟨c, hc, hq⟩ := places_at ((effC_perm cs).mem_iff.1 ha)
 obtain ⟨d, hd, hr⟩ := places_at ((effC_perm cs).mem_iff.1 hb)
 obtain ⟨h1, h2⟩ := h
 have hq2 : 0 ≤ c.took := by simpa [tookQ] using hq
 unfold lexB at h1 ⊢
 rw [(tk_at hc).1, (tk_at hc).2, (tk_at hd).1, (tk_at hd).2] at h1 ⊢
 simp only [decide_eq_false_iff_not, decide_eq_true_eq] at h1 ⊢
 by_cases e : c.took = d.took ∧ c.rank = d.rank
 ·exact absurd (no_tie h0 hc hd hq2 e.1 e.2) h2
 ·omega
theorem perfC_check {c : CfgV} {cs : List CallV} (h : (perfC c cs).2 = 0) : (checkP cs).2 = 0 := (perf_parts h).2.1
end Go.Proofs.YtdeiocppghhfdaaGreat.Lin
namespace Go.Proofs.YtdeiocppghhfdaaGreat.Lin
open Go.RowKit Go.Lib Go.Shelf
open Hs
open KitI (iv IRow own_below)
attribute [local go_sem, local simp] Hs.callL_0 Hs.callL_1 Hs.callL_2 Hs.callL_3 Hs.callL_4 Hs.callL_5 Hs.callL_6 Hs.callL_7 Hs.callL_8 Hs.callL_9 Hs.callL_10 Hs.callL_11 Hs.callL_12 Hs.callL_13 Hs.callL_14 Hs.callL_15 Hs.callL_16 Hs.callL_17 Hs.callL_18 Hs.callL_19 Hs.callL_20 Hs.callL_21 Hs.callL_22 Hs.callL_23 Hs.callL_24 Hs.callL_25 Hs.callL_26 Hs.resL_0 Hs.resL_1 Hs.resL_2 Hs.resL_3 Hs.resL_4 Hs.resL_5 Hs.resL_6 Hs.resL_7 Hs.resL_8 Hs.resL_9 Hs.resL_10 Hs.resL_11 Hs.resL_12 Hs.callG_0 Hs.callG_1 Hs.callG_2 Hs.callG_3 Hs.callG_4 Hs.callG_5 Hs.callG_6 Hs.callG_7 Hs.callG_8 Hs.callG_9 Hs.callG_10 Hs.callG_11 Hs.callG_12 Hs.callG_13 Hs.callG_14 Hs.callG_15 Hs.callG_16 Hs.callG_17 Hs.callG_18 Hs.callG_19 Hs.callG_20 Hs.callG_21 Hs.callG_22 Hs.callG_23 Hs.callG_24 Hs.callG_25 Hs.callG_26 Hs.resG_0 Hs.resG_1 Hs.resG_2 Hs.resG_3 Hs.resG_4 Hs.resG_5 Hs.resG_6 Hs.resG_7 Hs.resG_8 Hs.resG_9 Hs.resG_10 Hs.resG_11 Hs.resG_12 Hs.callL_len Hs.resL_len
attribute [local go_sem ↓] Hs.loadCall_eq Hs.loadRes_eq
attribute [local go_sem] Hs.ld_new Hs.ld_first Hs.ld_second Hs.ldr_new Hs.st_new
attribute [local go_sem ↓] loadCfg_eq
attribute [local go_sem, local simp] cfgL_len cfgL_ne
theorem SRow.take {W : World} {a : Option Addr} {q n : Nat} {ts : List ByteArray} (h : SRow W (.slice a ts.length q) ts) (hn : n ≤ ts.length) : SRow W (.slice a n q) (ts.take n) := by
 rcases h with ⟨h1, rfl⟩ | ⟨b, off, c, h1, h2⟩
 ·have : n = 0 := by simpa using hn
  subst this
  exact .inl ⟨h1, rfl⟩
 ·injection h1 with h1 _ h3
  subst h1 h3
  refine .inr ⟨b, off, q, by rw [List.length_take, Nat.min_eq_left hn], fun j u hj => h2 j u ?_⟩
  rw [List.getElem?_take] at hj
  split at hj
  ·exact hj
  ·cases hj
attribute [local irreducible] cfgL
end Go.Proofs.YtdeiocppghhfdaaGreat.Lin
