/- Texts, one behind another. -/
import Derived.Test.YtdeiocppghhfdaaGreatZdbg
set_option linter.unusedVariables false
set_option linter.unusedSimpArgs false
set_option maxRecDepth 100000
set_option maxHeartbeats 8000000
namespace Go.Proofs.YtdeiocppghhfdaaGreat.Lin
open Go.RowKit Go.Lib Go.Shelf
open Hs
attribute [local go_sem, local simp] Hs.dB Hs.dG Hs.dE Hs.dH Hs.dI Hs.dJ Hs.dK Hs.dL Hs.dM Hs.dF Hs.aR Hs.aW Hs.bB Hs.bC Hs.aS Hs.aV Hs.aY Hs.bD Hs.bE Hs.bF Hs.bG Hs.bH Hs.bI Hs.bJ Hs.bK Hs.aU Hs.aQ Hs.fH Hs.fI Hs.fJ Hs.fK Hs.fM Hs.fO Hs.fP Hs.fQ Hs.fT Hs.fU Hs.dN Hs.dO Hs.dP Hs.dQ Hs.dR Hs.dS Hs.dU Hs.dV Hs.dW Hs.dX Hs.dY Hs.dZ Hs.eB Hs.bL Hs.bM Hs.bN Hs.bO Hs.bP Hs.bQ Hs.bR Hs.bS Hs.bT Hs.bU Hs.bV Hs.bW Hs.bX Hs.bY Hs.bZ Hs.cB Hs.aX Hs.fV Hs.fZ Hs.gB Hs.gD Hs.gF Hs.gG Hs.gH Hs.gI Hs.gJ Hs.gK Hs.eD Hs.eG Hs.eH Hs.aH Hs.aJ
attribute [local go_sem ↓] Hs.aK Hs.aN
attribute [local go_sem] Hs.fF Hs.cK Hs.aP Hs.eO Hs.fD
def snQ (cs:List aA) (rev:Int) (st:MS) (i:Nat):Bool:=decide (st.number<rev) && edK (getC cs i).okind && decide ((getC cs i).err=0)
def xI (cs:List aA) (rev:Int) (st:MS) (i:Nat):MS:=if snQ cs rev st i then (doS st (getC cs i).thread (opV (getC cs i))).2 else st
def snS (cs:List aA) (rev:Int) (st:MS) (o:List Nat):MS:=o.foldl (xI cs rev) st
def nW (c:aA):aA:={ c with oslot:=0 }
theorem aN9 {c:aA} (h:c.Ok):(nW c).Ok:={ h with sl:=⟨by show -9223372036854775808≤(0:Int);omega,by show (0:Int)<9223372036854775808;omega⟩ }
def oC (k:Nat) (rs:Int) (i:Nat) (y:aA):Bool:=decide (i≤k) || decide (y.oslot≠rs) || decide (y.okind<6) || decide (13<y.okind)
def aAs (st:MS) (y:aA):Bool × MS:=accS st y.thread (opV (nW y)) (resV y) (itV y)
def yC (y:aA):Bool:=decide (y.okind=13) && decide (y.err=0)
def snE (cs:List aA) (k:Nat) (rs:Int):MS→List Nat→Option Nat
 | _,[]=>none
 | st,i::r=>if oC k rs i (getC cs i) then snE cs k rs st r
  else if (aAs st (getC cs i)).1 then (if yC (getC cs i) then none else snE cs k rs (aAs st (getC cs i)).2 r) else some i
def snI:Option Nat→Int | some i=>i | none => -1
def wG (c:CfgV) (cs:List aA) (k:Nat) (o:List Nat):Int :=
 if (getC cs k).rev≠(numP (getC cs k).took cs:Int) then k
 else snI (snE cs k (getC cs k).rslot (doS (snS cs (getC cs k).rev (newS c) o) (getC cs k).thread (opV (getC cs k))).2 (jJ (getC cs k).thread cs 0))
structure MoAt (n:Nat) (w0 W:World) (b:Nat) (st:MS) (K:Int):Prop where
 m:∃ M,MdAt W b M∧(∀ k,M.fp b k→n≤k)∧M.st=st
 ok:MSok st K
 bl:Below n w0 W
 le:n≤W.heap.size
theorem wH {W W':World} {b:Nat} {M:MM} (h:MdAt W b M) (hk:aC (M.fp b) W W'):KeepsOthers W W':=by
 refine⟨hk.size,fun k o hko hc=>(hk.block k (Array.getElem?_eq_some_iff.1 hko).1 fun hf => ?_).trans hko⟩
 obtain⟨cs,T,_,h2⟩:=aI9 h hf
 rw[hko] at h2
 injection h2 with h2
 subst h2
 cases hc
theorem MoAt.mono {n:Nat} {w0 W:World} {b:Nat} {st:MS} {K K':Int} (h:MoAt n w0 W b st K) (hk:K≤K'):MoAt n w0 W b st K':=⟨h.m,h.ok.mono hk,h.bl,h.le⟩
theorem MoAt.on {n:Nat} {w0 W W':World} {b:Nat} {st:MS} {K:Int} (h:MoAt n w0 W b st K) (hb:Below W.heap.size W W'):MoAt n w0 W' b st K:=by
 obtain⟨M,h1,h2,h3⟩:=h.m
 exact⟨⟨M,h1.below hb,h2,h3⟩,h.ok,h.bl.trans (hb.mono h.le),Nat.le_trans h.le hb.size⟩
theorem aSk {n:Nat} {w0 W:World} {b:Nat} {st:MS} {K:Int} (h:MoAt n w0 W b st K) (hK:K≤100000) {c:aA} {L:List Value} (hc:c.Ok) (hd:c.ps.length≤1000000) (hL:L=Hs.resL c) :
  Calls Tryz.prog 53 #[.pointer (some ⟨b,0,none⟩),.int .i64 c.thread,.agg (opL c).toArray,.agg L.toArray] W fun e W'=>e = .returned (.bool (accS st c.thread (opV c) (resV c) (itV c)).1)∧MoAt n w0 W' b (accS st c.thread (opV c) (resV c) (itV c)).2 (K+1)∧FrT MTy n W W'∧KeepsOthers W W':=by
 subst hL
 obtain⟨M,h1,h2,rfl⟩:=h.m
 refine (aAl b c.thread M (opV c) (resV c) (itV c) W h1 (h.ok.mono hK) (aF3 hc) (by show c.ps.length≤maxLen;unfold maxLen;omega)).mono ?_
 rintro e W' ⟨rfl,M',hM,hst,hk,hf2⟩
 have hfr:=aAp h1 hk h2 h.le
 exact⟨rfl,⟨⟨M',hM,fun k hk=>(hf2 k hk).elim (h2 k) (fun h'=>Nat.le_trans h.le h'),hst⟩,aH4 h.ok hc,h.bl.trans hfr.bl,Nat.le_trans h.le hfr.bl.size⟩,hfr,wH h1 hk⟩
theorem aRw {n:Nat} {w0 W:World} {b:Nat} {st:MS} {K:Int} (h:MoAt n w0 W b st K) (hK:K≤100000) {c:aA} (hc:c.Ok) :
  Calls Tryz.prog 50 #[.pointer (some ⟨b,0,none⟩),.int .i64 c.thread,.agg (opL c).toArray] W fun e W'=>∃ v,e = .returned v∧MoAt n w0 W' b (doS st c.thread (opV c)).2 (K+1)∧FrT MTy n W W'∧KeepsOthers W W':=by
 obtain⟨M,h1,h2,rfl⟩:=h.m
 refine (pI b c.thread M (opV c) W h1 (h.ok.mono hK) (aF3 hc)).mono ?_
 rintro e W' ⟨rfl,M',hM,hst,hk,hf2⟩
 have hfr:=aAp h1 hk h2 h.le
 exact⟨_,rfl,⟨⟨M',hM,fun k hk=>(hf2 k hk).elim (h2 k) (fun h'=>Nat.le_trans h.le h'),hst⟩,aNb h.ok (aF3 hc),h.bl.trans hfr.bl,Nat.le_trans h.le hfr.bl.size⟩,hfr,wH h1 hk⟩
theorem aDz {n:Nat} {w0 W:World} {b:Nat} {st:MS} {K:Int} (h:MoAt n w0 W b st K):Calls Tryz.prog 52 #[.pointer (some ⟨b,0,none⟩)] W fun e W'=>e = .returned (.int .i64 st.number)∧W=W':=by
 obtain⟨M,h1,h2,rfl⟩:=h.m
 exact sD b M W h1
theorem FrT.box {n:Nat} {W W':World} {B:Nat} {T:TypeId} {v:Value} (h:FrT MTy n W W') (hb:Boxed W B T v) (hT:¬ MTy T):Boxed W' B T v:=h.ty _ _ _ _ hb hT
theorem aOa (n:Nat) (w0:World) (b B:Nat) (hB:n≤B) {β:Type} (f:β→MS) (K:β→Int):OwnFrom B (fun (s:β) W=>MoAt n w0 W b (f s) (K s)):=by
 rintro s X Y row ⟨⟨M,h1,h2,h3⟩,h4,h5,h6⟩ hg hrow
 have hty:∀ (k:Nat) (cs:Array Value) (T:TypeId) (r:Nat × Nat),X.heap[k]? = some (.cells cs T r)→Y.heap[k]? = some (.cells cs T r):=fun k cs T r hk =>
  (hg.block k (Array.getElem?_eq_some_iff.1 hk).1 (fun e=>by
   obtain⟨_,o,ho,hc⟩:=hrow k e.symm
   rw[hk] at ho;injection ho with ho;subst ho;cases hc)).trans hk
 have hbl:Below n X Y:=(Below.refl n X).grown hg h6 (fun k e=>by have:=(hrow k e).1;omega)
 exact⟨⟨M,(FrT.mk hbl (fun k cs T r hk _=>hty k cs T r hk):FrT ETy n X Y).model h1,h2,h3⟩,h4,h5.trans hbl,Nat.le_trans h6 hbl.size⟩
end Go.Proofs.YtdeiocppghhfdaaGreat.Lin
