/- Texts, one behind another. -/
import Derived.Test.YtdeiocppghhfdaaGreatZcbj
set_option linter.unusedVariables false
set_option linter.unusedSimpArgs false
set_option maxRecDepth 100000
set_option maxHeartbeats 8000000
namespace Go.Proofs.YtdeiocppghhfdaaGreat.Lin
open Go.RowKit Go.Lib Go.Shelf
open Hs
attribute [local go_sem, local simp] Hs.callL_0 Hs.callL_1 Hs.callL_2 Hs.callL_3 Hs.callL_4 Hs.callL_5 Hs.callL_6 Hs.callL_7 Hs.callL_8 Hs.callL_9 Hs.callL_10 Hs.callL_11 Hs.callL_12 Hs.callL_13 Hs.callL_14 Hs.callL_15 Hs.callL_16 Hs.callL_17 Hs.callL_18 Hs.callL_19 Hs.callL_20 Hs.callL_21 Hs.callL_22 Hs.callL_23 Hs.callL_24 Hs.callL_25 Hs.callL_26 Hs.resL_0 Hs.resL_1 Hs.resL_2 Hs.resL_3 Hs.resL_4 Hs.resL_5 Hs.resL_6 Hs.resL_7 Hs.resL_8 Hs.resL_9 Hs.resL_10 Hs.resL_11 Hs.resL_12 Hs.callG_0 Hs.callG_1 Hs.callG_2 Hs.callG_3 Hs.callG_4 Hs.callG_5 Hs.callG_6 Hs.callG_7 Hs.callG_8 Hs.callG_9 Hs.callG_10 Hs.callG_11 Hs.callG_12 Hs.callG_13 Hs.callG_14 Hs.callG_15 Hs.callG_16 Hs.callG_17 Hs.callG_18 Hs.callG_19 Hs.callG_20 Hs.callG_21 Hs.callG_22 Hs.callG_23 Hs.callG_24 Hs.callG_25 Hs.callG_26 Hs.resG_0 Hs.resG_1 Hs.resG_2 Hs.resG_3 Hs.resG_4 Hs.resG_5 Hs.resG_6 Hs.resG_7 Hs.resG_8 Hs.resG_9 Hs.resG_10 Hs.resG_11 Hs.resG_12 Hs.callL_len Hs.resL_len
attribute [local go_sem ↓] Hs.loadCall_eq Hs.loadRes_eq
attribute [local go_sem] Hs.ld_new Hs.ld_first Hs.ld_second Hs.ldr_new Hs.st_new
def snQ (cs : List CallV) (rev : Int) (st : MS) (i : Nat) : Bool := decide (st.number < rev) && edK (getC cs i).okind && decide ((getC cs i).err = 0)
def snStep (cs : List CallV) (rev : Int) (st : MS) (i : Nat) : MS := if snQ cs rev st i then (doS st (getC cs i).thread (opV (getC cs i))).2 else st
def snS (cs : List CallV) (rev : Int) (st : MS) (o : List Nat) : MS := o.foldl (snStep cs rev) st
def slot0 (c : CallV) : CallV := { c with oslot := 0 }
theorem slot0_ok {c : CallV} (h : c.Ok) : (slot0 c).Ok := { h with sl := ⟨by show -9223372036854775808 ≤ (0 : Int); omega, by show (0 : Int) < 9223372036854775808; omega⟩ }
def snSkip (k : Nat) (rs : Int) (i : Nat) (y : CallV) : Bool := decide (i ≤ k) || decide (y.oslot ≠ rs) || decide (y.okind < 6) || decide (13 < y.okind)
def snAcc (st : MS) (y : CallV) : Bool × MS := accS st y.thread (opV (slot0 y)) (resV y) (itV y)
def snEnd (y : CallV) : Bool := decide (y.okind = 13) && decide (y.err = 0)
def snE (cs : List CallV) (k : Nat) (rs : Int) : MS → List Nat → Option Nat
 | _, [] => none
 | st, i :: r => if snSkip k rs i (getC cs i) then snE cs k rs st r
  else if (snAcc st (getC cs i)).1 then (if snEnd (getC cs i) then none else snE cs k rs (snAcc st (getC cs i)).2 r) else some i
def snI : Option Nat → Int | some i => i | none => -1
def snapV (c : CfgV) (cs : List CallV) (k : Nat) (o : List Nat) : Int :=
 if (getC cs k).rev ≠ (numP (getC cs k).took cs : Int) then k
 else snI (snE cs k (getC cs k).rslot (doS (snS cs (getC cs k).rev (newS c) o) (getC cs k).thread (opV (getC cs k))).2 (tkIdx (getC cs k).thread cs 0))
structure MoAt (n : Nat) (w0 W : World) (b : Nat) (st : MS) (K : Int) : Prop where
 m : ∃ M, MdAt W b M ∧ (∀ k, M.fp b k → n ≤ k) ∧ M.st = st
 ok : MSok st K
 bl : Below n w0 W
 le : n ≤ W.heap.size
theorem keepF_others {W W' : World} {b : Nat} {M : MM} (h : MdAt W b M) (hk : KeepF (M.fp b) W W') : KeepsOthers W W' := by
 refine ⟨hk.size, fun k o hko hc => (hk.block k (Array.getElem?_eq_some_iff.1 hko).1 fun hf => ?_).trans hko⟩
 obtain ⟨cs, T, _, h2⟩ := fp_type h hf
 rw [hko] at h2
 injection h2 with h2
 subst h2
 cases hc
theorem MoAt.mono {n : Nat} {w0 W : World} {b : Nat} {st : MS} {K K' : Int} (h : MoAt n w0 W b st K) (hk : K ≤ K') : MoAt n w0 W b st K' := ⟨h.m, h.ok.mono hk, h.bl, h.le⟩
theorem MoAt.on {n : Nat} {w0 W W' : World} {b : Nat} {st : MS} {K : Int} (h : MoAt n w0 W b st K) (hb : Below W.heap.size W W') : MoAt n w0 W' b st K := by
 obtain ⟨M, h1, h2, h3⟩ := h.m
 exact ⟨⟨M, h1.below hb, h2, h3⟩, h.ok, h.bl.trans (hb.mono h.le), Nat.le_trans h.le hb.size⟩
theorem mo_acc {n : Nat} {w0 W : World} {b : Nat} {st : MS} {K : Int} (h : MoAt n w0 W b st K) (hK : K ≤ 100000) {c : CallV} {L : List Value} (hc : c.Ok) (hd : c.ps.length ≤ 1000000) (hL : L = Hs.resL c) :
  Calls Tryz.prog 53 #[.pointer (some ⟨b, 0, none⟩), .int .i64 c.thread, .agg (opL c).toArray, .agg L.toArray] W fun e W' => e = .returned (.bool (accS st c.thread (opV c) (resV c) (itV c)).1) ∧ MoAt n w0 W' b (accS st c.thread (opV c) (resV c) (itV c)).2 (K + 1) ∧ FrT MTy n W W' ∧ KeepsOthers W W' := by
 subst hL
 obtain ⟨M, h1, h2, rfl⟩ := h.m
 refine (accept_any b c.thread M (opV c) (resV c) (itV c) W h1 (h.ok.mono hK) (ok_op hc) (by show c.ps.length ≤ maxLen; unfold maxLen; omega)).mono ?_
 rintro e W' ⟨rfl, M', hM, hst, hk, hf2⟩
 have hfr := frm_keep h1 hk h2 h.le
 exact ⟨rfl, ⟨⟨M', hM, fun k hk => (hf2 k hk).elim (h2 k) (fun h' => Nat.le_trans h.le h'), hst⟩, acc_ok h.ok hc, h.bl.trans hfr.bl, Nat.le_trans h.le hfr.bl.size⟩, hfr, keepF_others h1 hk⟩
theorem mo_do {n : Nat} {w0 W : World} {b : Nat} {st : MS} {K : Int} (h : MoAt n w0 W b st K) (hK : K ≤ 100000) {c : CallV} (hc : c.Ok) :
  Calls Tryz.prog 50 #[.pointer (some ⟨b, 0, none⟩), .int .i64 c.thread, .agg (opL c).toArray] W fun e W' => ∃ v, e = .returned v ∧ MoAt n w0 W' b (doS st c.thread (opV c)).2 (K + 1) ∧ FrT MTy n W W' ∧ KeepsOthers W W' := by
 obtain ⟨M, h1, h2, rfl⟩ := h.m
 refine (do_any b c.thread M (opV c) W h1 (h.ok.mono hK) (ok_op hc)).mono ?_
 rintro e W' ⟨rfl, M', hM, hst, hk, hf2⟩
 have hfr := frm_keep h1 hk h2 h.le
 exact ⟨_, rfl, ⟨⟨M', hM, fun k hk => (hf2 k hk).elim (h2 k) (fun h' => Nat.le_trans h.le h'), hst⟩, doS_ok h.ok (ok_op hc), h.bl.trans hfr.bl, Nat.le_trans h.le hfr.bl.size⟩, hfr, keepF_others h1 hk⟩
theorem mo_num {n : Nat} {w0 W : World} {b : Nat} {st : MS} {K : Int} (h : MoAt n w0 W b st K) : Calls Tryz.prog 52 #[.pointer (some ⟨b, 0, none⟩)] W fun e W' => e = .returned (.int .i64 st.number) ∧ W = W' := by
 obtain ⟨M, h1, h2, rfl⟩ := h.m
 exact number_any b M W h1
theorem FrT.box {n : Nat} {W W' : World} {B : Nat} {T : TypeId} {v : Value} (h : FrT MTy n W W') (hb : Boxed W B T v) (hT : ¬ MTy T) : Boxed W' B T v := h.ty _ _ _ _ hb hT
theorem moat_own (n : Nat) (w0 : World) (b B : Nat) (hB : n ≤ B) {β : Type} (f : β → MS) (K : β → Int) : OwnFrom B (fun (s : β) W => MoAt n w0 W b (f s) (K s)) := by
 rintro s X Y row ⟨⟨M, h1, h2, h3⟩, h4, h5, h6⟩ hg hrow
 have hty : ∀ (k : Nat) (cs : Array Value) (T : TypeId) (r : Nat × Nat), X.heap[k]? = some (.cells cs T r) → Y.heap[k]? = some (.cells cs T r) := fun k cs T r hk =>
  (hg.block k (Array.getElem?_eq_some_iff.1 hk).1 (fun e => by
   obtain ⟨_, o, ho, hc⟩ := hrow k e.symm
   rw [hk] at ho; injection ho with ho; subst ho; cases hc)).trans hk
 have hbl : Below n X Y := (Below.refl n X).grown hg h6 (fun k e => by have := (hrow k e).1; omega)
 exact ⟨⟨M, (FrT.mk hbl (fun k cs T r hk _ => hty k cs T r hk) : FrT ETy n X Y).model h1, h2, h3⟩, h4, h5.trans hbl, Nat.le_trans h6 hbl.size⟩
end Go.Proofs.YtdeiocppghhfdaaGreat.Lin
