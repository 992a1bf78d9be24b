/- Texts, one behind another. -/
import Derived.Test.YtdeiocppghhfdaaGreatZbbn
import Derived.RangeFuncNested
import Derived.RangeFuncBound
import Derived.RangeFuncCalls
import Derived.RangeFuncLeaves
import Derived.RangeFuncFrom
import Derived.Shelf.Abstract
import Derived.Shelf.RegionOpen
import Derived.OwnWalkIn
import Derived.TacticsInMore
import Derived.LoopNIn
import Derived.LoopIn
set_option linter.unusedVariables false
set_option linter.unusedSimpArgs false
set_option maxRecDepth 100000
set_option maxHeartbeats 8000000
namespace Go.Proofs.YtdeiocppghhfdaaGreat.Lin
open Go.RowKit Go.Shelf
open Hs
attribute [local go_sem] Oper.semAt_some
attribute [local go_sem, local simp] callL_0 callL_1 callL_2 callL_3 callL_4 callL_5 callL_6 callL_7 callL_8 callL_9 callL_10 callL_11 callL_12 callL_13 callL_14 callL_15 callL_16 callL_17 callL_18 callL_19 callL_20 callL_21 callL_22 callL_23 callL_24 callL_25 callL_26 resL_0 resL_1 resL_2 resL_3 resL_4 resL_5 resL_6 resL_7 resL_8 resL_9 resL_10 resL_11 resL_12 callG_0 callG_1 callG_2 callG_3 callG_4 callG_5 callG_6 callG_7 callG_8 callG_9 callG_10 callG_11 callG_12 callG_13 callG_14 callG_15 callG_16 callG_17 callG_18 callG_19 callG_20 callG_21 callG_22 callG_23 callG_24 callG_25 callG_26 resG_0 resG_1 resG_2 resG_3 resG_4 resG_5 resG_6 resG_7 resG_8 resG_9 resG_10 resG_11 resG_12 callL_len resL_len
attribute [local go_sem ↓] loadCall_eq loadRes_eq
attribute [local go_sem] ld_new ld_first ld_second ldr_new st_new
def tkIdx (t : Int) : List CallV → Nat → List Nat
 | [], _ => []
 | c :: cs, k => if c.thread = t ∧ 0 ≤ c.took then k :: tkIdx t cs (k + 1) else tkIdx t cs (k + 1)
theorem tkIdx_step {t : Int} {cs : List CallV} {k : Nat} {c : CallV} (h : cs[k]? = some c) : tkIdx t (cs.drop k) k = if c.thread = t ∧ 0 ≤ c.took then k :: tkIdx t (cs.drop (k + 1)) (k + 1) else tkIdx t (cs.drop (k + 1)) (k + 1) := by
 obtain ⟨hlt, rfl⟩ := List.getElem?_eq_some_iff.1 h
 rw [List.drop_eq_getElem_cons hlt]
 rfl
theorem wof_any (p : Option Addr) (n c : Nat) (t : Int) (w : World) : Calls Tryz.prog 107 #[.int .i64 t, .slice p n c] w fun e w' => e = .returned (.func (.func 158) #[] #[.pointer (some ⟨w.heap.size + 1, 0, none⟩), .pointer (some ⟨w.heap.size, 0, none⟩)]) ∧ (w.alloc (.cells #[.int .i64 t] 3)).alloc (.cells #[.slice p n c] 25) = w' := by
 go_enter Tryz.func107, Tryz.ntmps107
 go_wp2
 go_ret
 exact ⟨rfl, rfl⟩
theorem wof1_in (n : Nat) (hn : 1 ≤ n) (l Bl Bt b off cap : Nat) (q : Nat → Prop) (cs : List CallV) (t : Int) (hs : cs.length ≤ 1000000) (J Jx : List Nat → World → Prop)
  (hY : ∀ pre x W, J pre W → pre.length < cs.length → x < cs.length → YieldAt Fence.wide (n - 1) Tryz.prog l #[.int .i64 (x : Int)] W fun e W' =>
   (e = .returned (.bool true) ∧ J (pre ++ [x]) W' ∧ KeepB q W W') ∨ (e = .returned (.bool false) ∧ Jx (pre ++ [x]) W'))
  (W : World) (hA : ∀ pre X o, J pre X → J pre (X.alloc o)) (hBl : W.cell? ⟨Bl, 0, none⟩ = some (.slice (some ⟨b, off, none⟩) cs.length cap)) (hBt : W.cell? ⟨Bt, 0, none⟩ = some (.int .i64 t)) (hC : CAt W b off cs) (h0 : ∀ k, q k → k < W.heap.size) (h2 : q Bt) (h3 : q b) (hJ : J [] W) :
  CallsIn Fence.wide n Tryz.prog 158 #[.func (.yield l) #[] #[], .pointer (some ⟨Bl, 0, none⟩), .pointer (some ⟨Bt, 0, none⟩)] W (Hs.IterPost (tkIdx t cs 0) J Jx) := by
 refine callsIn_of_wp Tryz.func158 rfl trivial ?_ rfl
 simp only [Tryz.ntmps158, List.size_toArray, List.length_cons, List.length_nil, Nat.reduceAdd, Nat.reduceSub, Array.replicate_succ, Array.replicate_zero, List.push_toArray, List.append_toArray, List.nil_append, List.cons_append]
 gi_wp2
 gi_loopw [8] (fun i wr => ∃ (k : Nat) (pre : List Nat), i = .int .i64 k ∧ k ≤ cs.length ∧ pre ++ tkIdx t (cs.drop k) k = tkIdx t cs 0 ∧ pre.length ≤ k ∧ J pre wr ∧ KeepB q W wr) (fun i wr => cs.length - (intOf i).toNat)
 case atStart => exact ⟨0, [], rfl, by omega, by simp, by simp, hJ, KeepB.refl _ _⟩
 case round =>
  obtain ⟨k, pre, rfl, hk, hp, hlen, hJ', hB⟩ := hrel
  have Hp := Lib.hid hp; clear hp
  by_cases hlt : k < cs.length
  ·obtain ⟨c, hc⟩ : ∃ c, cs[k]? = some c := ⟨_, List.getElem?_eq_getElem hlt⟩
   have hst := tkIdx_step (t := t) hc
   have Hst := Lib.hid hst; clear hst
   have hld := (hC.keep hB h3).load hc
   have hBx := hB.trans (KeepB.alloc (fun k hk => Nat.lt_of_lt_of_le (h0 k hk) hB.size) (.cells (callL c).toArray 56))
   have hct := (hBx.cell (p := ⟨Bt, 0, none⟩) h2).trans hBt
   have hJa := hA pre wr (.cells (callL c).toArray 56) hJ'
   have Hc := Lib.hid hc; clear hc
   by_cases hb : c.thread = t ∧ 0 ≤ c.took
   ·obtain ⟨fn, tmps, assign, body, hy, hR⟩ := hY pre k _ hJa (by omega) hlt
    have hd : (c.thread == t) = true := by simpa using hb.1
    have hd2 : decide (0 ≤ c.took) = true := by simpa using hb.2
    gi_wp2
    refine hR.mono ?_
    rintro e W1 (⟨rfl, hJ1, hk1⟩ | ⟨rfl, hJ1⟩)
    ·gi_wp2
     go_roundw
     case rel => exact ⟨k + 1, pre ++ [k], by go_num, by omega, by rw [← Hp.out, Hst.out, if_pos hb, List.append_assoc]; rfl, by simp; omega, hJ1, hBx.trans hk1⟩
     case measure => simp [intOf]; omega
    ·gi_wp2
     refine bodyPost_ret (results_none rfl _ _ _) rfl ?_
     exact ⟨⟨_, rfl⟩, .inr ⟨pre ++ [k], ⟨tkIdx t (cs.drop (k + 1)) (k + 1), by rw [← Hp.out, Hst.out, if_pos hb, List.append_assoc]; rfl⟩, hJ1⟩⟩
   ·by_cases hb1 : c.thread = t
    ·have hd : (c.thread == t) = true := by simpa using hb1
     have hd2 : decide (0 ≤ c.took) = false := by
      have : ¬ 0 ≤ c.took := fun h => hb ⟨hb1, h⟩
      simpa using this
     gi_wp2
     refine ⟨fun _ h => (by cases h), ?_⟩
     gi_wp2
     go_roundw
     case rel => exact ⟨k + 1, pre, by go_num, by omega, by rw [← Hp.out, Hst.out, if_neg hb], by omega, hJa, hBx⟩
     case measure => simp [intOf]; omega
    ·have hd : (c.thread == t) = false := by simpa using hb1
     gi_wp2
     refine ⟨fun _ h => (by cases h), ?_⟩
     gi_wp2
     go_roundw
     case rel => exact ⟨k + 1, pre, by go_num, by omega, by rw [← Hp.out, Hst.out, if_neg hb], by omega, hJa, hBx⟩
     case measure => simp [intOf]; omega
  ·gi_wp2
   go_end0
   refine ⟨⟨_, rfl⟩, .inl ⟨_, rfl, ?_⟩⟩
   have hkk : k = cs.length := by omega
   rw [← Hp.out, hkk]
   simpa [tkIdx] using hJ'
theorem wof1_nil (n : Nat) (l Bl Bt : Nat) (t : Int) (c : Nat) (J Jx : List Nat → World → Prop)
  (W : World) (hBl : W.cell? ⟨Bl, 0, none⟩ = some (.slice none 0 c)) (hJ : J [] W) :
  CallsIn Fence.wide n Tryz.prog 158 #[.func (.yield l) #[] #[], .pointer (some ⟨Bl, 0, none⟩), .pointer (some ⟨Bt, 0, none⟩)] W (Hs.IterPost (tkIdx t [] 0) J Jx) := by
 refine callsIn_of_wp Tryz.func158 rfl trivial ?_ rfl
 simp only [Tryz.ntmps158, List.size_toArray, List.length_cons, List.length_nil, Nat.reduceAdd, Nat.reduceSub, Array.replicate_succ, Array.replicate_zero, List.push_toArray, List.append_toArray, List.nil_append, List.cons_append]
 gi_wp2
 refine wpIn_loop_once ?_
 gi_wp2
 go_end0
 exact ⟨⟨_, rfl⟩, .inl ⟨_, rfl, hJ⟩⟩
theorem wof_stops (n : Nat) (hn : 1 ≤ n) (Bl Bt cap : Nat) (q : Nat → Prop) (p : Option Addr) (cs : List CallV) (t : Int) (hs : cs.length ≤ 1000000) (w : World) (hBl : w.cell? ⟨Bl, 0, none⟩ = some (.slice p cs.length cap)) (hBt : w.cell? ⟨Bt, 0, none⟩ = some (.int .i64 t))
  (hC : CRow w p cap cs) (h0 : ∀ k, q k → k < w.heap.size) (h1 : Bl < w.heap.size) (h2 : q Bt) (h3 : ∀ b off, p = some ⟨b, off, none⟩ → q b) :
  SeqStopsK Fence.wide n Tryz.prog 158 #[.pointer (some ⟨Bl, 0, none⟩), .pointer (some ⟨Bt, 0, none⟩)] (fun x : InC cs.length => #[Value.int .i64 (x.1 : Int)]) (KeepB q) (fun ys => ys.map (·.1) = tkIdx t cs 0) (fun ys => ys.map (·.1) <+: tkIdx t cs 0) cs.length w := by
 intro l J Jx W hW hAJ hAJx hY hJ
 have hbl := (hW.cell (p := ⟨Bl, 0, none⟩) h1).trans hBl
 have hbt := (hW.cell (p := ⟨Bt, 0, none⟩) (h0 _ h2)).trans hBt
 have key : CallsIn Fence.wide n Tryz.prog 158 #[.func (.yield l) #[] #[], .pointer (some ⟨Bl, 0, none⟩), .pointer (some ⟨Bt, 0, none⟩)] W (Hs.IterPost (tkIdx t cs 0) (fun xs W => ∃ ys : List (InC cs.length), ys.map (·.1) = xs ∧ J ys W) (fun xs W => ∃ ys : List (InC cs.length), ys.map (·.1) = xs ∧ Jx ys W)) := by
  rcases hC with ⟨rfl, rfl, rfl⟩ | ⟨b, off, rfl, hcap, hb, hcat⟩
  ·exact wof1_nil n l Bl Bt t 0 _ _ W hbl ⟨[], rfl, hJ⟩
  ·refine wof1_in n hn l Bl Bt b off cap q cs t hs _ _ ?_ W ?_ hbl hbt (hcat.below hW hb) (fun k hk => Nat.lt_of_lt_of_le (h0 k hk) hW.size) h2 (h3 b off rfl) ⟨[], rfl, hJ⟩
   ·rintro pre x W ⟨ys, rfl, hj⟩ hlen hx
    refine (hY ys ⟨x, hx⟩ W hj (by simpa using hlen)).mono ?_
    rintro e W' (⟨rfl, hj', hk⟩ | ⟨rfl, hj'⟩)
    ·exact .inl ⟨rfl, ⟨_, by simp, hj'⟩, hk⟩
    ·exact .inr ⟨rfl, ⟨_, by simp, hj'⟩⟩
   ·rintro pre X o ⟨ys, rfl, hj⟩
    exact ⟨ys, rfl, hAJ ys X _ none hj (World.grownBy_alloc X o none) (fun r e => by cases e)⟩
 refine key.mono ?_
 rintro e W' ⟨hv, ⟨_, rfl, ys, hy, hj⟩ | ⟨_, hp, ys, rfl, hj⟩⟩
 ·exact ⟨hv, .inl ⟨ys, hy, hj⟩⟩
 ·exact ⟨hv, .inr ⟨ys, hp, hj⟩⟩
theorem wwof_stopsN (N : Nat) (n : Nat) (hn : 1 ≤ n) (Bl Bt cap : Nat) (q : Nat → Prop) (p : Option Addr) (cs : List CallV) (hN : cs.length = N) (t : Int) (hs : N ≤ 1000000) (w : World) (hBl : w.cell? ⟨Bl, 0, none⟩ = some (.slice p N cap)) (hBt : w.cell? ⟨Bt, 0, none⟩ = some (.int .i64 t))
  (hC : CRow w p cap cs) (h0 : ∀ k, q k → k < w.heap.size) (h1 : Bl < w.heap.size) (h2 : q Bt) (h3 : ∀ b off, p = some ⟨b, off, none⟩ → q b) :
  SeqStopsK Fence.wide n Tryz.prog 158 #[.pointer (some ⟨Bl, 0, none⟩), .pointer (some ⟨Bt, 0, none⟩)] (fun x : InC N => #[Value.int .i64 (x.1 : Int)]) (KeepB q) (fun ys => ys.map (·.1) = tkIdx t cs 0) (fun ys => ys.map (·.1) <+: tkIdx t cs 0) N w := by
 subst hN
 exact wof_stops n hn Bl Bt cap q p cs t hs w hBl hBt hC h0 h1 h2 h3
end Go.Proofs.YtdeiocppghhfdaaGreat.Lin
namespace Go.Proofs.YtdeiocppghhfdaaGreat.Lin
open Go.RowKit Go.Lib Go.Shelf
open Hs
attribute [local go_sem, local simp] Hs.callL_0 Hs.callL_1 Hs.callL_2 Hs.callL_3 Hs.callL_4 Hs.callL_5 Hs.callL_6 Hs.callL_7 Hs.callL_8 Hs.callL_9 Hs.callL_10 Hs.callL_11 Hs.callL_12 Hs.callL_13 Hs.callL_14 Hs.callL_15 Hs.callL_16 Hs.callL_17 Hs.callL_18 Hs.callL_19 Hs.callL_20 Hs.callL_21 Hs.callL_22 Hs.callL_23 Hs.callL_24 Hs.callL_25 Hs.callL_26 Hs.resL_0 Hs.resL_1 Hs.resL_2 Hs.resL_3 Hs.resL_4 Hs.resL_5 Hs.resL_6 Hs.resL_7 Hs.resL_8 Hs.resL_9 Hs.resL_10 Hs.resL_11 Hs.resL_12 Hs.callG_0 Hs.callG_1 Hs.callG_2 Hs.callG_3 Hs.callG_4 Hs.callG_5 Hs.callG_6 Hs.callG_7 Hs.callG_8 Hs.callG_9 Hs.callG_10 Hs.callG_11 Hs.callG_12 Hs.callG_13 Hs.callG_14 Hs.callG_15 Hs.callG_16 Hs.callG_17 Hs.callG_18 Hs.callG_19 Hs.callG_20 Hs.callG_21 Hs.callG_22 Hs.callG_23 Hs.callG_24 Hs.callG_25 Hs.callG_26 Hs.resG_0 Hs.resG_1 Hs.resG_2 Hs.resG_3 Hs.resG_4 Hs.resG_5 Hs.resG_6 Hs.resG_7 Hs.resG_8 Hs.resG_9 Hs.resG_10 Hs.resG_11 Hs.resG_12 Hs.callL_len Hs.resL_len
attribute [local go_sem ↓] Hs.loadCall_eq Hs.loadRes_eq
attribute [local go_sem] Hs.ld_new Hs.ld_first Hs.ld_second Hs.ldr_new Hs.st_new
def snQ (cs : List CallV) (rev : Int) (st : MS) (i : Nat) : Bool := decide (st.number < rev) && edK (getC cs i).okind && decide ((getC cs i).err = 0)
def snStep (cs : List CallV) (rev : Int) (st : MS) (i : Nat) : MS := if snQ cs rev st i then (doS st (getC cs i).thread (opV (getC cs i))).2 else st
def snS (cs : List CallV) (rev : Int) (st : MS) (o : List Nat) : MS := o.foldl (snStep cs rev) st
def slot0 (c : CallV) : CallV := { c with oslot := 0 }
theorem slot0_ok {c : CallV} (h : c.Ok) : (slot0 c).Ok := { h with sl := ⟨by show -9223372036854775808 ≤ (0 : Int); omega, by show (0 : Int) < 9223372036854775808; omega⟩ }
def snSkip (k : Nat) (rs : Int) (i : Nat) (y : CallV) : Bool := decide (i ≤ k) || decide (y.oslot ≠ rs) || decide (y.okind < 6) || decide (13 < y.okind)
def snAcc (st : MS) (y : CallV) : Bool × MS := accS st y.thread (opV (slot0 y)) (resV y) (itV y)
def snEnd (y : CallV) : Bool := decide (y.okind = 13) && decide (y.err = 0)
def snE (cs : List CallV) (k : Nat) (rs : Int) : MS → List Nat → Option Nat
 | _, [] => none
 | st, i :: r => if snSkip k rs i (getC cs i) then snE cs k rs st r
  else if (snAcc st (getC cs i)).1 then (if snEnd (getC cs i) then none else snE cs k rs (snAcc st (getC cs i)).2 r) else some i
def snI : Option Nat → Int | some i => i | none => -1
def snapV (c : CfgV) (cs : List CallV) (k : Nat) (o : List Nat) : Int :=
 if (getC cs k).rev ≠ (numP (getC cs k).took cs : Int) then k
 else snI (snE cs k (getC cs k).rslot (doS (snS cs (getC cs k).rev (newS c) o) (getC cs k).thread (opV (getC cs k))).2 (tkIdx (getC cs k).thread cs 0))
structure MoAt (n : Nat) (w0 W : World) (b : Nat) (st : MS) (K : Int) : Prop where
 m : ∃ M, MdAt W b M ∧ (∀ k, M.fp b k → n ≤ k) ∧ M.st = st
 ok : MSok st K
 bl : Below n w0 W
 le : n ≤ W.heap.size
theorem keepF_others {W W' : World} {b : Nat} {M : MM} (h : MdAt W b M) (hk : KeepF (M.fp b) W W') : KeepsOthers W W' := by
 refine ⟨hk.size, fun k o hko hc => (hk.block k (Array.getElem?_eq_some_iff.1 hko).1 fun hf => ?_).trans hko⟩
 obtain ⟨cs, T, _, h2⟩ := fp_type h hf
 rw [hko] at h2
 injection h2 with h2
 subst h2
 cases hc
theorem MoAt.mono {n : Nat} {w0 W : World} {b : Nat} {st : MS} {K K' : Int} (h : MoAt n w0 W b st K) (hk : K ≤ K') : MoAt n w0 W b st K' := ⟨h.m, h.ok.mono hk, h.bl, h.le⟩
theorem MoAt.on {n : Nat} {w0 W W' : World} {b : Nat} {st : MS} {K : Int} (h : MoAt n w0 W b st K) (hb : Below W.heap.size W W') : MoAt n w0 W' b st K := by
 obtain ⟨M, h1, h2, h3⟩ := h.m
 exact ⟨⟨M, h1.below hb, h2, h3⟩, h.ok, h.bl.trans (hb.mono h.le), Nat.le_trans h.le hb.size⟩
theorem mo_acc {n : Nat} {w0 W : World} {b : Nat} {st : MS} {K : Int} (h : MoAt n w0 W b st K) (hK : K ≤ 100000) {c : CallV} {L : List Value} (hc : c.Ok) (hd : c.ps.length ≤ 1000000) (hL : L = Hs.resL c) :
  Calls Tryz.prog 53 #[.pointer (some ⟨b, 0, none⟩), .int .i64 c.thread, .agg (opL c).toArray, .agg L.toArray] W fun e W' => e = .returned (.bool (accS st c.thread (opV c) (resV c) (itV c)).1) ∧ MoAt n w0 W' b (accS st c.thread (opV c) (resV c) (itV c)).2 (K + 1) ∧ FrT MTy n W W' ∧ KeepsOthers W W' := by
 subst hL
 obtain ⟨M, h1, h2, rfl⟩ := h.m
 refine (accept_any b c.thread M (opV c) (resV c) (itV c) W h1 (h.ok.mono hK) (ok_op hc) (by show c.ps.length ≤ maxLen; unfold maxLen; omega)).mono ?_
 rintro e W' ⟨rfl, M', hM, hst, hk, hf2⟩
 have hfr := frm_keep h1 hk h2 h.le
 exact ⟨rfl, ⟨⟨M', hM, fun k hk => (hf2 k hk).elim (h2 k) (fun h' => Nat.le_trans h.le h'), hst⟩, acc_ok h.ok hc, h.bl.trans hfr.bl, Nat.le_trans h.le hfr.bl.size⟩, hfr, keepF_others h1 hk⟩
theorem mo_do {n : Nat} {w0 W : World} {b : Nat} {st : MS} {K : Int} (h : MoAt n w0 W b st K) (hK : K ≤ 100000) {c : CallV} (hc : c.Ok) :
  Calls Tryz.prog 50 #[.pointer (some ⟨b, 0, none⟩), .int .i64 c.thread, .agg (opL c).toArray] W fun e W' => ∃ v, e = .returned v ∧ MoAt n w0 W' b (doS st c.thread (opV c)).2 (K + 1) ∧ FrT MTy n W W' ∧ KeepsOthers W W' := by
 obtain ⟨M, h1, h2, rfl⟩ := h.m
 refine (do_any b c.thread M (opV c) W h1 (h.ok.mono hK) (ok_op hc)).mono ?_
 rintro e W' ⟨rfl, M', hM, hst, hk, hf2⟩
 have hfr := frm_keep h1 hk h2 h.le
 exact ⟨_, rfl, ⟨⟨M', hM, fun k hk => (hf2 k hk).elim (h2 k) (fun h' => Nat.le_trans h.le h'), hst⟩, doS_ok h.ok (ok_op hc), h.bl.trans hfr.bl, Nat.le_trans h.le hfr.bl.size⟩, hfr, keepF_others h1 hk⟩
theorem mo_num {n : Nat} {w0 W : World} {b : Nat} {st : MS} {K : Int} (h : MoAt n w0 W b st K) : Calls Tryz.prog 52 #[.pointer (some ⟨b, 0, none⟩)] W fun e W' => e = .returned (.int .i64 st.number) ∧ W = W' := by
 obtain ⟨M, h1, h2, rfl⟩ := h.m
 exact number_any b M W h1
theorem FrT.box {n : Nat} {W W' : World} {B : Nat} {T : TypeId} {v : Value} (h : FrT MTy n W W') (hb : Boxed W B T v) (hT : ¬ MTy T) : Boxed W' B T v := h.ty _ _ _ _ hb hT
theorem moat_own (n : Nat) (w0 : World) (b B : Nat) (hB : n ≤ B) {β : Type} (f : β → MS) (K : β → Int) : OwnFrom B (fun (s : β) W => MoAt n w0 W b (f s) (K s)) := by
 rintro s X Y row ⟨⟨M, h1, h2, h3⟩, h4, h5, h6⟩ hg hrow
 have hty : ∀ (k : Nat) (cs : Array Value) (T : TypeId) (r : Nat × Nat), X.heap[k]? = some (.cells cs T r) → Y.heap[k]? = some (.cells cs T r) := fun k cs T r hk =>
  (hg.block k (Array.getElem?_eq_some_iff.1 hk).1 (fun e => by
   obtain ⟨_, o, ho, hc⟩ := hrow k e.symm
   rw [hk] at ho; injection ho with ho; subst ho; cases hc)).trans hk
 have hbl : Below n X Y := (Below.refl n X).grown hg h6 (fun k e => by have := (hrow k e).1; omega)
 exact ⟨⟨M, (FrT.mk hbl (fun k cs T r hk _ => hty k cs T r hk) : FrT ETy n X Y).model h1, h2, h3⟩, h4, h5.trans hbl, Nat.le_trans h6 hbl.size⟩
end Go.Proofs.YtdeiocppghhfdaaGreat.Lin
