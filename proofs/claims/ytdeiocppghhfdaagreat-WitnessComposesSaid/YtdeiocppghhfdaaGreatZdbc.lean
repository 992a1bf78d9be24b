/- Texts, one behind another. -/
import Derived.Test.YtdeiocppghhfdaaGreatZdau
import Derived.Test.YtdeiocppghhfdaaGreatZdba
import Derived.Test.YtdeiocppghhfdaaGreatZdbb
import Derived.DeepKeys4
import Derived.Maps.Own
import Derived.Maps.OwnOps
import Derived.Carry
import Derived.Laws.EntriesVeiled
set_option linter.unusedVariables false
set_option linter.unusedSimpArgs false
set_option maxRecDepth 100000
set_option maxHeartbeats 8000000
namespace Go.Proofs.YtdeiocppghhfdaaGreat.Lin
section
variable {α:Type} (n:Nat) (next:α→Nat→Option α) (rdy:Nat→Nat→Bool) (fl:Nat→Bool)
def cand (u i:Nat):Bool := !u.testBit i && rdy u i
def fr (u:Nat):Nat:=((List.range n).filter fun i => !u.testBit i).length
def sr:Nat→α→Nat→Option (List Nat)
 | 0,_,u=>if fl u then some [] else none
 | k+1,s,u=>if fl u then some [] else (List.range n).findSome? fun i=>if cand rdy u i then (next s i).bind fun t=>(sr k t (u ||| 2 ^ i)).map (i :: ·) else none
def S (s:α) (u:Nat):Option (List Nat):=sr n next rdy fl (fr n u) s u
def ct:Nat→α→Nat→Nat
 | 0,_,u=>if fl u then 1 else 0
 | k+1,s,u=>(if fl u then 1 else 0)+((List.range n).map fun i=>if cand rdy u i then (match next s i with | none=>0 | some t=>ct k t (u ||| 2 ^ i)) else 0).sum
def C (s:α) (u:Nat):Nat:=ct n next rdy fl (fr n u) s u
end
section
variable {α:Type} {n:Nat} {next:α→Nat→Option α} {rdy:Nat→Nat→Bool} {fl:Nat→Bool}
end
end Go.Proofs.YtdeiocppghhfdaaGreat.Lin
namespace Go.Proofs.YtdeiocppghhfdaaGreat.Lin
open Hs (aA befB dD)
def opV (c:aA):OpV:=⟨c.okind,c.oslot,c.oat,c.on,c.oid,c.ograv,c.otext⟩
def resV (c:aA):ResV:=⟨c.err,c.rev,c.rslot,c.rat,c.rgrav,c.rtext,c.mb,c.mr,c.ml⟩
def itV (c:aA):ItV:=⟨c.ik,c.ifrom,c.ito,c.da,c.ps.length,c.dc⟩
def getC (L:List aA) (i:Nat):aA:=L.getD i default
theorem vZ {L:List aA} {i:Nat} {c:aA} (h:L[i]? = some c):getC L i=c:=by unfold getC;rw[List.getD_eq_getElem?_getD,h];rfl
def mk (u:Nat) (o:List Nat):Nat:=o.foldl (fun a i=>a ||| 2 ^ i) u
theorem gM {L:List aA} {i:Nat} (h:i<L.length):L[i]? = some (getC L i):=by
 unfold getC;rw[List.getD_eq_getElem?_getD,List.getElem?_eq_getElem h];rfl
end Go.Proofs.YtdeiocppghhfdaaGreat.Lin
namespace Go.Proofs.YtdeiocppghhfdaaGreat.Lin
open Hs
def zQ (cs:List aA) (i:Nat):Bool:=decide ((getC cs i).okind=16) && decide ((getC cs i).err=0)
def iA (cs:List aA) (E:List Nat):Option Nat:=E.find? (zQ cs)
def mvQ (cs:List aA) (z i:Nat):Bool:=decide ((getC cs z).took<(getC cs i).took) && decide ((getC cs i).invoked<(getC cs z).took) && decide ((getC cs i).err≠13)
def afQ (cs:List aA) (z i:Nat):Bool:=decide ((getC cs z).took<(getC cs i).took) || (decide ((getC cs i).took=(getC cs z).took) && decide ((getC cs z).rank<(getC cs i).rank))
structure Pts where
 b:List Nat
 m:List Nat
 a:List Nat
def stepW (cs:List aA) (z:Nat) (p:Pts) (i:Nat):Pts :=
 if i=z then p else if mvQ cs z i then { p with m:=p.m++[i] } else if (!p.a.isEmpty || afQ cs z i) then { p with a:=p.a++[i] } else { p with b:=p.b++[i] }
def ptsW (cs:List aA) (z:Nat) (E:List Nat):Pts:=E.foldl (stepW cs z) ⟨[],[],[]⟩
theorem aNw {cs:List aA} {z k i:Nat} {E:List Nat} (h:E[k]? = some i):ptsW cs z (E.take (k+1))=stepW cs z (ptsW cs z (E.take k)) i:=by
 unfold ptsW
 rw[List.take_add_one,h,Option.toList_some,List.foldl_append]
 rfl
def ordW (cs:List aA) (E:List Nat):List Nat:=match iA cs E with | none=>E | some z=>(ptsW cs z E).b++(ptsW cs z E).m++[z]++(ptsW cs z E).a
def accO (cs:List aA) (st:MS) (i:Nat):Bool × MS:=accS st (getC cs i).thread (opV (getC cs i)) (resV (getC cs i)) (itV (getC cs i))
def lV (cs:List aA):MS→List Nat→Option Nat
 | _,[]=>none
 | st,i::r=>if (accO cs st i).1 then lV cs (accO cs st i).2 r else some i
def jZ (cs:List aA):MS→List Nat→List MS
 | st,[]=>[st]
 | st,i::r=>st::(if (accO cs st i).1 then jZ cs (accO cs st i).2 r else[])
def mZ (cs:List aA) (st:MS) (o:List Nat):MS:=o.foldl (fun s i=>(accO cs s i).2) st
def rC (c:CfgV) (cs:List aA) (E:List Nat):Int × Int :=
 if cfgE c≠0 then (0,cfgE c) else if (dD cs).2≠0 then dD cs else match lV cs (newS c) (ordW cs E) with | some i=>((i:Int),26) | none=>(0,0)
def kE (l:List MS):List ByteArray:=l.foldl (fun out m=>if m.number=(out.length:Int) then out++[m.text] else out) []
theorem aH1 (cs:List aA) (i:Nat):lexB cs i i=false:=by simp[lexB]
theorem xD {cs:List aA} {i j:Nat} (h:lexB cs i j=true):lexB cs j i=false:=by
 unfold lexB at h ⊢
 simp only[decide_eq_true_eq,decide_eq_false_iff_not] at h ⊢
 omega
theorem uJ {cs:List aA} {i:Nat} (hi:i<cs.length):tk cs i=(getC cs i).took∧rk cs i=(getC cs i).rank:=aAh (gM hi)
theorem sF {cs:List aA} {E:List Nat} (h:lX cs E) {i:Nat}:i∈E↔i<cs.length∧0≤(getC cs i).took:=by
 rw[aQf h]
 constructor
 ·rintro⟨c,hc,hq⟩
  have:=vZ hc
  exact⟨(List.getElem?_eq_some_iff.1 hc).1,by rw[this];exact of_decide_eq_true hq⟩
 ·rintro⟨h1,h2⟩
  exact⟨_,gM h1,decide_eq_true h2⟩
structure ZAt (cs:List aA) (E:List Nat) (z:Nat) (P Q:List Nat):Prop where
 eq:E=P++z::Q
 no:∀ i∈P,zQ cs i=false
 is:zQ cs z=true
 lo:∀ i∈P,lexB cs i z=true
 hi:∀ i∈Q,lexB cs z i=true
theorem aF0 {cs:List aA} {E:List Nat} {z:Nat} (hE:lX cs E) (h:iA cs E=some z):∃ P Q,ZAt cs E z P Q:=by
 obtain⟨h1,P,Q,rfl,h2⟩:=List.find?_eq_some_iff_append.1 h
 have h3:=List.pairwise_append.1 hE.2
 exact⟨P,Q,rfl,fun i hi=>by simpa using h2 i hi,h1,fun i hi=>h3.2.2 i hi z (by simp),(List.pairwise_cons.1 h3.2.1).1⟩
theorem yS {cs:List aA} {i j:Nat} (hi:i<cs.length) (hj:j<cs.length) (h:lexB cs i j=true):(getC cs i).took<(getC cs j).took∨((getC cs i).took=(getC cs j).took∧(getC cs i).rank<(getC cs j).rank):=by
 unfold lexB at h
 rw[(uJ hi).1,(uJ hi).2,(uJ hj).1,(uJ hj).2] at h
 exact of_decide_eq_true h
theorem aNx (cs:List aA) (z:Nat):∀ (P:List Nat) (b:List Nat),(∀ i∈P,i≠z∧mvQ cs z i=false∧afQ cs z i=false)→P.foldl (stepW cs z) ⟨b,[],[]⟩=⟨b++P,[],[]⟩
 | [],b,_=>by simp
 | i::P,b,h=>by
  obtain⟨h1,h2,h3⟩:=h i (by simp)
  have e:stepW cs z ⟨b,[],[]⟩ i=⟨b++[i],[],[]⟩:=by unfold stepW;rw[if_neg h1,h2,h3];rfl
  rw[List.foldl_cons,e,aNx cs z P _ (fun j hj=>h j (by simp[hj])),List.append_assoc]
  rfl
theorem aH2 (cs:List aA) (z:Nat):∀ (Q:List Nat) (b m a:List Nat),(∀ i∈Q,i≠z∧afQ cs z i=true)→Q.foldl (stepW cs z) ⟨b,m,a⟩=⟨b,m++Q.filter (mvQ cs z),a++Q.filter fun i => !mvQ cs z i⟩
 | [],b,m,a,_=>by simp
 | i::Q,b,m,a,h=>by
  obtain⟨h1,h3⟩:=h i (by simp)
  rw[List.foldl_cons]
  cases hm:mvQ cs z i with
  | true =>
   have e:stepW cs z ⟨b,m,a⟩ i=⟨b,m++[i],a⟩:=by unfold stepW;rw[if_neg h1,hm];rfl
   rw[e,aH2 cs z Q _ _ _ (fun j hj=>h j (by simp[hj])),List.filter_cons_of_pos hm,List.filter_cons_of_neg (by rw[hm];simp),List.append_assoc]
   rfl
  | false =>
   have e:stepW cs z ⟨b,m,a⟩ i=⟨b,m,a++[i]⟩:=by unfold stepW;rw[if_neg h1,hm,h3,Bool.or_true];rfl
   rw[e,aH2 cs z Q _ _ _ (fun j hj=>h j (by simp[hj])),List.filter_cons_of_neg (by rw[hm];simp),List.filter_cons_of_pos (by rw[hm];rfl),List.append_assoc]
   rfl
theorem aQj {cs:List aA} {E P Q:List Nat} {z:Nat} (hE:lX cs E) (h:ZAt cs E z P Q):ptsW cs z E=⟨P,Q.filter (mvQ cs z),Q.filter fun i => !mvQ cs z i⟩:=by
 have hz:z<cs.length:=((sF hE).1 (by rw[h.eq];simp)).1
 have hl:∀ i∈E,i<cs.length:=fun i hi=>((sF hE).1 hi).1
 have hn:∀ i,lexB cs i z=true∨lexB cs z i=true→i≠z:=fun i hi e=>by
  subst e
  rw[aH1] at hi
  rcases hi with h | h<;>cases h
 unfold ptsW
 rw[h.eq,List.foldl_append,aNx,List.nil_append,List.foldl_cons]
 ·have e:stepW cs z ⟨P,[],[]⟩ z=⟨P,[],[]⟩:=by unfold stepW;rw[if_pos rfl]
  rw[e,aH2]
  ·simp
  ·intro i hi
   refine⟨hn i (.inr (h.hi i hi)),?_⟩
   have:=yS hz (hl i (by rw[h.eq];simp[hi])) (h.hi i hi)
   unfold afQ
   simp only[Bool.or_eq_true,Bool.and_eq_true,decide_eq_true_eq]
   omega
 ·intro i hi
  have:=yS (hl i (by rw[h.eq];simp[hi])) hz (h.lo i hi)
  refine⟨hn i (.inl (h.lo i hi)),?_,?_⟩
  ·unfold mvQ
   have:decide ((getC cs z).took<(getC cs i).took)=false:=by simp;omega
   rw[this];rfl
  ·unfold afQ
   simp only[Bool.or_eq_false_iff,Bool.and_eq_false_iff,decide_eq_false_iff_not]
   omega
theorem aAm {cs:List aA} {E:List Nat} (h:iA cs E=none):ordW cs E=E:=by unfold ordW;rw[h]
theorem aF1 {cs:List aA} {E P Q:List Nat} {z:Nat} (hE:lX cs E) (h:iA cs E=some z) (hz:ZAt cs E z P Q):ordW cs E=P++Q.filter (mvQ cs z)++[z]++Q.filter fun i => !mvQ cs z i:=by
 unfold ordW
 rw[h]
 simp only[aQj hE hz]
theorem tL {α:Type} (p:α→Bool):∀ l:List α,(l.filter p++l.filter fun x => !p x).Perm l
 | [] => .nil
 | x::l=>by
  cases hp:p x with
  | true=>rw[List.filter_cons_of_pos hp,List.filter_cons_of_neg (by rw[hp];simp),List.cons_append];exact (tL p l).cons x
  | false =>
   rw[List.filter_cons_of_neg (by rw[hp];simp),List.filter_cons_of_pos (by rw[hp];rfl)]
   exact List.perm_middle.trans ((tL p l).cons x)
theorem aAn {cs:List aA} {E:List Nat} (hE:lX cs E):(ordW cs E).Perm E:=by
 cases hc:iA cs E with
 | none=>rw[aAm hc]
 | some z =>
  obtain⟨P,Q,hz⟩:=aF0 hE hc
  rw[aF1 hE hc hz,hz.eq,List.append_assoc,List.append_assoc]
  refine List.Perm.append_left P ?_
  rw[List.singleton_append]
  exact List.perm_middle.trans ((tL _ Q).cons z)
theorem aI8 {cs:List aA} {E:List Nat} (hE:lX cs E):(ordW cs E).length=E.length:=(aAn hE).length_eq
theorem xE {cs:List aA} {E:List Nat} (hE:lX cs E) {i:Nat}:i∈ordW cs E↔i<cs.length∧0≤(getC cs i).took:=by rw[(aAn hE).mem_iff,sF hE]
theorem aNy {cs:List aA} (h0:(dD cs).2=0) {i j:Nat} (hi:i<cs.length) (hj:j<cs.length) (hq:0≤(getC cs j).took) (h:befB (getC cs i) (getC cs j)=true):0≤(getC cs i).took∧(getC cs i).took<(getC cs j).took:=by
 have:=aQg h0 (gM hi) (gM hj) (decide_eq_true hq) h
 rw[(uJ hi).1,(uJ hj).1] at this
 exact⟨of_decide_eq_true this.1,this.2⟩
def aDu (cs:List aA) (o:List Nat):Prop:=o.Pairwise fun x y=>befB (getC cs y) (getC cs x)=false
theorem aNz {cs:List aA} {E:List Nat} (h0:(dD cs).2=0) (hE:lX cs E):aDu cs E:=by
 have hl:∀ i∈E,i<cs.length∧0≤(getC cs i).took:=fun i hi=>(sF hE).1 hi
 refine List.Pairwise.imp_of_mem (fun {a b} ha hb h => ?_) hE.2
 obtain⟨ha1,ha2⟩:=hl a ha
 obtain⟨hb1,hb2⟩:=hl b hb
 cases hbb:befB (getC cs b) (getC cs a) with
 | false=>rfl
 | true =>
  have h1:=aNy h0 hb1 ha1 ha2 hbb
  have h2:=yS ha1 hb1 h
  omega
theorem aF2 {cs:List aA} {z i:Nat} (h:mvQ cs z i=true):(getC cs z).took<(getC cs i).took∧(getC cs i).invoked<(getC cs z).took∧(getC cs i).err≠13:=by
 unfold mvQ at h
 simp only[Bool.and_eq_true,decide_eq_true_eq] at h
 exact⟨h.1.1,h.1.2,h.2⟩
theorem aN0 {cs:List aA} {E:List Nat} (h0:(dD cs).2=0) (hE:lX cs E):aDu cs (ordW cs E):=by
 have hb:=aNz h0 hE
 cases hc:iA cs E with
 | none=>rw[aAm hc];exact hb
 | some z =>
  obtain⟨P,Q,hz⟩:=aF0 hE hc
  have hl:∀ i∈E,i<cs.length∧0≤(getC cs i).took:=fun i hi=>(sF hE).1 hi
  rw[aF1 hE hc hz]
  unfold aDu at hb ⊢
  rw[hz.eq] at hb
  obtain⟨b1,b2,b3⟩:=List.pairwise_append.1 hb
  obtain⟨b4,b5⟩:=List.pairwise_cons.1 b2
  have hQ:∀ i∈Q,i<cs.length∧0≤(getC cs i).took:=fun i hi=>hl i (by rw[hz.eq];simp[hi])
  have hzl:=hl z (by rw[hz.eq];simp)
  have hfo:∀ i,i<cs.length→jT (getC cs i)=true:=fun i hi=>tK h0 (gM hi)
  have hzM:∀ x∈Q.filter (mvQ cs z),befB (getC cs z) (getC cs x)=false:=fun x hx=>by
   obtain⟨hx1,hx2⟩:=List.mem_filter.1 hx
   obtain⟨m1,m2,m3⟩:=aF2 hx2
   cases hbb:befB (getC cs z) (getC cs x) with
   | false=>rfl
   | true =>
    unfold befB at hbb
    simp only[Bool.and_eq_true,decide_eq_true_eq] at hbb
    have:=nZ (hfo z hzl.1) hbb.1
    omega
  have hAM:∀ x∈Q.filter (mvQ cs z),∀ y∈Q,befB (getC cs y) (getC cs x)=false:=fun x hx y hy=>by
   obtain⟨hx1,hx2⟩:=List.mem_filter.1 hx
   obtain⟨m1,m2,m3⟩:=aF2 hx2
   have h2:=yS hzl.1 (hQ y hy).1 (hz.hi y hy)
   cases hbb:befB (getC cs y) (getC cs x) with
   | false=>rfl
   | true =>
    unfold befB at hbb
    simp only[Bool.and_eq_true,decide_eq_true_eq] at hbb
    have:=nZ (hfo y (hQ y hy).1) hbb.1
    omega
  have hPQ:∀ x∈P,∀ y∈Q,befB (getC cs y) (getC cs x)=false:=fun x hx y hy=>b3 x hx y (by simp[hy])
  have hsub:∀ (p:Nat→Bool) y,y∈Q.filter p→y∈Q:=fun p y hy=>(List.mem_filter.1 hy).1
  refine List.pairwise_append.2 ⟨List.pairwise_append.2 ⟨List.pairwise_append.2 ⟨b1,b5.filter _,fun x hx y hy=>hPQ x hx y (hsub _ y hy)⟩,List.pairwise_singleton _ _,fun x hx y hy => ?_⟩,b5.filter _,fun x hx y hy => ?_⟩
  ·rw[List.mem_singleton.1 hy]
   rcases List.mem_append.1 hx with hx | hx
   ·exact b3 x hx z (by simp)
   ·exact hzM x hx
  ·rcases List.mem_append.1 hx with hx | hx
   ·rcases List.mem_append.1 hx with hx | hx
    ·exact hPQ x hx y (hsub _ y hy)
    ·exact hAM x hx y (hsub _ y hy)
   ·rw[List.mem_singleton.1 hx]
    exact b4 y (hsub _ y hy)
end Go.Proofs.YtdeiocppghhfdaaGreat.Lin
namespace Go.Proofs.YtdeiocppghhfdaaGreat.Lin
open Go.RowKit Go.Lib Go.Shelf
open Hs
attribute [local go_sem, local simp] Hs.dB Hs.dG Hs.dE Hs.dH Hs.dI Hs.dJ Hs.dK Hs.dL Hs.dM Hs.dF Hs.aR Hs.aW Hs.bB Hs.bC Hs.aS Hs.aV Hs.aY Hs.bD Hs.bE Hs.bF Hs.bG Hs.bH Hs.bI Hs.bJ Hs.bK Hs.aU Hs.aQ Hs.fH Hs.fI Hs.fJ Hs.fK Hs.fM Hs.fO Hs.fP Hs.fQ Hs.fT Hs.fU Hs.dN Hs.dO Hs.dP Hs.dQ Hs.dR Hs.dS Hs.dU Hs.dV Hs.dW Hs.dX Hs.dY Hs.dZ Hs.eB Hs.bL Hs.bM Hs.bN Hs.bO Hs.bP Hs.bQ Hs.bR Hs.bS Hs.bT Hs.bU Hs.bV Hs.bW Hs.bX Hs.bY Hs.bZ Hs.cB Hs.aX Hs.fV Hs.fZ Hs.gB Hs.gD Hs.gF Hs.gG Hs.gH Hs.gI Hs.gJ Hs.gK Hs.eD Hs.eG Hs.eH Hs.aH Hs.aJ
attribute [local go_sem ↓] Hs.aK Hs.aN
attribute [local go_sem] Hs.fF Hs.cK Hs.aP Hs.eO Hs.fD
theorem qF {W:World} {p:Option Addr} {cap:Nat} {cs:List aA} (h:CRow W p cap cs) (hn:0<cs.length):∃ b off,p=some ⟨b,off,none⟩∧cs.length≤cap∧b<W.heap.size∧CAt W b off cs:=by
 rcases h with⟨_,_,h⟩ | h
 ·rw[h] at hn;simp at hn
 ·exact h
end Go.Proofs.YtdeiocppghhfdaaGreat.Lin
namespace Go.Proofs.YtdeiocppghhfdaaGreat.Lin
open Go.RowKit Go.Lib Go.Shelf
open Hs
attribute [local go_sem, local simp] Hs.dB Hs.dG Hs.dE Hs.dH Hs.dI Hs.dJ Hs.dK Hs.dL Hs.dM Hs.dF Hs.aR Hs.aW Hs.bB Hs.bC Hs.aS Hs.aV Hs.aY Hs.bD Hs.bE Hs.bF Hs.bG Hs.bH Hs.bI Hs.bJ Hs.bK Hs.aU Hs.aQ Hs.fH Hs.fI Hs.fJ Hs.fK Hs.fM Hs.fO Hs.fP Hs.fQ Hs.fT Hs.fU Hs.dN Hs.dO Hs.dP Hs.dQ Hs.dR Hs.dS Hs.dU Hs.dV Hs.dW Hs.dX Hs.dY Hs.dZ Hs.eB Hs.bL Hs.bM Hs.bN Hs.bO Hs.bP Hs.bQ Hs.bR Hs.bS Hs.bT Hs.bU Hs.bV Hs.bW Hs.bX Hs.bY Hs.bZ Hs.cB Hs.aX Hs.fV Hs.fZ Hs.gB Hs.gD Hs.gF Hs.gG Hs.gH Hs.gI Hs.gJ Hs.gK Hs.eD Hs.eG Hs.eH Hs.aH Hs.aJ
attribute [local go_sem ↓] Hs.aK Hs.aN
attribute [local go_sem] Hs.fF Hs.cK Hs.aP Hs.eO Hs.fD
theorem aF3 {c:aA} (h:c.Ok):OpIn (opV c):=⟨h.kd.1,h.kd.2,h.id.1,h.id.2,h.gr,h.sl,h.at_,h.nn⟩
def opL (c:aA):List Value:=[.int .u8 c.okind,.int .i64 c.oslot,.int .i64 c.oat,.int .i64 c.on,.int .u32 c.oid,.int .u8 c.ograv,.string c.otext]
def tN (v:Value):Sem Value:=Instr.loadAt 54 v
theorem uK (v:Value):Instr.loadAt 54 v=tN v:=rfl
theorem wB {W:World} {b:Nat} (c:aA) (h:W.heap[b]? = some (.cells (aB c).toArray 56 (0,0))):(tN (.pointer (some ⟨b,2,none⟩))).run Tryz.prog W = .ok (.agg (opL c).toArray) W :=
 run_loadAt_mid W b 2 54 (opL c) _ (fun j v hv=>by
  rw[aM h]
  have hlt:=(List.getElem?_eq_some_iff.1 hv).1
  have:(opL c)[j]? = (aB c)[2+j]? := by
   rw[show opL c=((aB c).drop 2).take 7 from rfl,List.getElem?_take,List.getElem?_drop]
   rw[if_pos (by simpa [opL] using hlt)]
  rw[← this]
  exact hv) Tryz.underlying54 rfl (by kernel_rfl)
attribute [local go_sem ↓] uK
end Go.Proofs.YtdeiocppghhfdaaGreat.Lin
namespace Go.Proofs.YtdeiocppghhfdaaGreat.Lin
open Go.RowKit Go.Lib Go.Shelf
open Hs
open KitI (iv own_below)
abbrev tInt:TypeId:=3
section
variable {n0 s:Nat} {w0:World} {p:Option Addr} {cap:Nat} {cs:List aA} {nm nm':Nat} {v v':Value} {W W':World}
theorem aN1 {W:World} {b off cap:Nat} {cs:List aA} (h:CRow W (some ⟨b,off,none⟩) cap cs):CAt W b off cs:=by
 rcases h with⟨h,_⟩ | ⟨b',off',h,_,_,hA⟩
 ·cases h
 ·injection h with h;injection h with h1 h2;subst h1 h2;exact hA
end
end Go.Proofs.YtdeiocppghhfdaaGreat.Lin
namespace Go.Proofs.YtdeiocppghhfdaaGreat.Lin
open Go.RowKit Go.Lib Go.Shelf
open Hs
open KitI (iv IRow own_below)
attribute [local go_sem, local simp] Hs.dB Hs.dG Hs.dE Hs.dH Hs.dI Hs.dJ Hs.dK Hs.dL Hs.dM Hs.dF Hs.aR Hs.aW Hs.bB Hs.bC Hs.aS Hs.aV Hs.aY Hs.bD Hs.bE Hs.bF Hs.bG Hs.bH Hs.bI Hs.bJ Hs.bK Hs.aU Hs.aQ Hs.fH Hs.fI Hs.fJ Hs.fK Hs.fM Hs.fO Hs.fP Hs.fQ Hs.fT Hs.fU Hs.dN Hs.dO Hs.dP Hs.dQ Hs.dR Hs.dS Hs.dU Hs.dV Hs.dW Hs.dX Hs.dY Hs.dZ Hs.eB Hs.bL Hs.bM Hs.bN Hs.bO Hs.bP Hs.bQ Hs.bR Hs.bS Hs.bT Hs.bU Hs.bV Hs.bW Hs.bX Hs.bY Hs.bZ Hs.cB Hs.aX Hs.fV Hs.fZ Hs.gB Hs.gD Hs.gF Hs.gG Hs.gH Hs.gI Hs.gJ Hs.gK Hs.eD Hs.eG Hs.eH Hs.aH Hs.aJ
attribute [local go_sem ↓] Hs.aK Hs.aN
attribute [local go_sem] Hs.fF Hs.cK Hs.aP Hs.eO Hs.fD
theorem yT {W:World} {p:Option Addr} {zs:List Int} (h:IRd W p zs) (hn:0<zs.length):∃ b off,p=some ⟨b,off,none⟩∧∀ W',Below W.heap.size W W'→∀ j u,zs[j]? = some u→W'.cell? ⟨b,off+j,none⟩=some (.int .i64 u):=by
 rcases h with h2 | ⟨b,off,h1,h2⟩
 ·rw[h2] at hn;simp at hn
 ·refine⟨b,off,h1,fun W' hB j u hj => ?_⟩
  have:=h2 j u hj
  exact (hB.cell (KitI.iD this)).trans this
end Go.Proofs.YtdeiocppghhfdaaGreat.Lin
namespace Go.Proofs.YtdeiocppghhfdaaGreat.Lin
open Go.RowKit Go.Lib Go.Shelf
open Hs
open KitI (iv IRow own_below)
attribute [local go_sem, local simp] Hs.dB Hs.dG Hs.dE Hs.dH Hs.dI Hs.dJ Hs.dK Hs.dL Hs.dM Hs.dF Hs.aR Hs.aW Hs.bB Hs.bC Hs.aS Hs.aV Hs.aY Hs.bD Hs.bE Hs.bF Hs.bG Hs.bH Hs.bI Hs.bJ Hs.bK Hs.aU Hs.aQ Hs.fH Hs.fI Hs.fJ Hs.fK Hs.fM Hs.fO Hs.fP Hs.fQ Hs.fT Hs.fU Hs.dN Hs.dO Hs.dP Hs.dQ Hs.dR Hs.dS Hs.dU Hs.dV Hs.dW Hs.dX Hs.dY Hs.dZ Hs.eB Hs.bL Hs.bM Hs.bN Hs.bO Hs.bP Hs.bQ Hs.bR Hs.bS Hs.bT Hs.bU Hs.bV Hs.bW Hs.bX Hs.bY Hs.bZ Hs.cB Hs.aX Hs.fV Hs.fZ Hs.gB Hs.gD Hs.gF Hs.gG Hs.gH Hs.gI Hs.gJ Hs.gK Hs.eD Hs.eG Hs.eH Hs.aH Hs.aJ
attribute [local go_sem ↓] Hs.aK Hs.aN
attribute [local go_sem] Hs.fF Hs.cK Hs.aP Hs.eO Hs.fD
def uY (n:Nat) (c:CfgV):CfgV:={ c with text:=c.text.extract 0 (min c.text.size n) }
def iX:CfgV:=⟨16,9,2,1,2,2,2,⟨#[97,98]⟩⟩
def kN:aA:={ thread:=0,index:=0,okind:=0,oslot:=0,oat:=0,on:=0,oid:=0,ograv:=0,otext:=⟨#[]⟩,invoked:=0,took:=0,rank:=0,answered:=0,steps:=0,err:=0,rev:=0,rslot:=0,rat:=0,rgrav:=0,rtext:=⟨#[]⟩,mb:=0,mr:=0,ml:=0,ik:=0,ifrom:=0,ito:=0,ps:=[],da:=none,dc:=0 }
end Go.Proofs.YtdeiocppghhfdaaGreat.Lin
namespace Go.Proofs.YtdeiocppghhfdaaGreat.Lin
open Go.RowKit Go.Lib Go.Shelf
open Hs
open KitI (iv IRow own_below)
attribute [local go_sem, local simp] Hs.dB Hs.dG Hs.dE Hs.dH Hs.dI Hs.dJ Hs.dK Hs.dL Hs.dM Hs.dF Hs.aR Hs.aW Hs.bB Hs.bC Hs.aS Hs.aV Hs.aY Hs.bD Hs.bE Hs.bF Hs.bG Hs.bH Hs.bI Hs.bJ Hs.bK Hs.aU Hs.aQ Hs.fH Hs.fI Hs.fJ Hs.fK Hs.fM Hs.fO Hs.fP Hs.fQ Hs.fT Hs.fU Hs.dN Hs.dO Hs.dP Hs.dQ Hs.dR Hs.dS Hs.dU Hs.dV Hs.dW Hs.dX Hs.dY Hs.dZ Hs.eB Hs.bL Hs.bM Hs.bN Hs.bO Hs.bP Hs.bQ Hs.bR Hs.bS Hs.bT Hs.bU Hs.bV Hs.bW Hs.bX Hs.bY Hs.bZ Hs.cB Hs.aX Hs.fV Hs.fZ Hs.gB Hs.gD Hs.gF Hs.gG Hs.gH Hs.gI Hs.gJ Hs.gK Hs.eD Hs.eG Hs.eH Hs.aH Hs.aJ
attribute [local go_sem ↓] Hs.aK Hs.aN
attribute [local go_sem] Hs.fF Hs.cK Hs.aP Hs.eO Hs.fD
theorem tO {w:World} {base n:Nat} {v:Value} {zs:List Nat} (h:w.ownsRow base tInt 1 v n (zs.map fun (x:Nat)=>iv x)) (hn:n=zs.length):IRow w v (zs.map fun (x:Nat)=>(x:Int)) :=
 IRow.own (base:=base) (e:=tInt) (n:=n) (by rw[List.map_map];exact h) (by rw[List.length_map];exact hn)
theorem gV (W:World) (o:Obj):Below W.heap.size W (W.alloc o):=(Below.refl _ _).alloc (Nat.le_refl _) _
section
variable {W:World} {B:Nat}
theorem eqiT (va vb:Value) (zs:List Int) (ha:IRow W va zs) (hb:IRow W vb zs) (hs:zs.length≤1000000):Calls Tryz.prog 24 #[va,vb] W fun e w'=>e = .returned (.bool true)∧Below W.heap.size W w':=by
 have h:=KitI.aCt W va vb zs zs ha hb hs hs
 rwa [decide_eq_true rfl] at h
end
attribute [local irreducible] aB iX
end Go.Proofs.YtdeiocppghhfdaaGreat.Lin
namespace Go.Proofs.YtdeiocppghhfdaaGreat.Lin
open Go.RowKit Go.Lib Go.Shelf
open Hs
open KitI (iv IRow own_below lS)
attribute [local go_sem, local simp] Hs.dB Hs.dG Hs.dE Hs.dH Hs.dI Hs.dJ Hs.dK Hs.dL Hs.dM Hs.dF Hs.aR Hs.aW Hs.bB Hs.bC Hs.aS Hs.aV Hs.aY Hs.bD Hs.bE Hs.bF Hs.bG Hs.bH Hs.bI Hs.bJ Hs.bK Hs.aU Hs.aQ Hs.fH Hs.fI Hs.fJ Hs.fK Hs.fM Hs.fO Hs.fP Hs.fQ Hs.fT Hs.fU Hs.dN Hs.dO Hs.dP Hs.dQ Hs.dR Hs.dS Hs.dU Hs.dV Hs.dW Hs.dX Hs.dY Hs.dZ Hs.eB Hs.bL Hs.bM Hs.bN Hs.bO Hs.bP Hs.bQ Hs.bR Hs.bS Hs.bT Hs.bU Hs.bV Hs.bW Hs.bX Hs.bY Hs.bZ Hs.cB Hs.aX Hs.fV Hs.fZ Hs.gB Hs.gD Hs.gF Hs.gG Hs.gH Hs.gI Hs.gJ Hs.gK Hs.eD Hs.eG Hs.eH Hs.aH Hs.aJ
attribute [local go_sem ↓] Hs.aK Hs.aN
attribute [local go_sem] Hs.fF Hs.cK Hs.aP Hs.eO Hs.fD
def clI:Option Nat→Int
 | none => -1
 | some z=>z
theorem yU {E:List Nat} {k i:Nat} (h:E[k]? = some i):(E.map fun (x:Nat)=>(x:Int))[k]? = some (i:Int):=by rw[List.getElem?_map,h];rfl
theorem aH3 {cs:List aA} {E:List Nat} {k i:Nat} (h:E[k]? = some i):iA cs (E.drop k)=if zQ cs i then some i else iA cs (E.drop (k+1)):=by
 have hlt:=(List.getElem?_eq_some_iff.1 h).1
 have e:E.drop k=i::E.drop (k+1):=by rw[List.drop_eq_getElem_cons hlt];congr 1;exact Option.some.inj ((List.getElem?_eq_getElem hlt).symm.trans h)
 rw[e]
 unfold iA
 rw[List.find?_cons]
 cases zQ cs i<;>rfl
theorem xY (po p:Option Addr) (co cap:Nat) (E:List Nat) (cs:List aA) (w:World) (hO:IRd w po (E.map fun (x:Nat)=>(x:Int))) (hC:CRow w p cap cs) (hE:∀ i∈E,i<cs.length) (hs:E.length≤1000000) (hs2:cs.length≤1000000) :
  Calls Tryz.prog 77 #[.slice po E.length co,.slice p cs.length cap] w fun e w'=>e = .returned (.int .i64 (clI (iA cs E)))∧Below w.heap.size w w':=by
 go_enter Tryz.func77,Tryz.ntmps77
 go_wp2
 go_loopw [4,6,9] (fun x4 x6 i wr=>∃ k:Nat,i = .int .i64 k∧k≤E.length∧Below w.heap.size w wr∧iA cs (E.drop k)=iA cs E) (fun x4 x6 i wr=>E.length-(intOf i).toNat)
 case atStart=>exact⟨0,rfl,by omega,Below.refl _ _,rfl⟩
 case round =>
  obtain⟨k,rfl,hk,hB,hcl⟩:=hrel
  by_cases hlt:k<E.length
  ·obtain⟨i,hi⟩:∃ i,E[k]? = some i:=⟨_,List.getElem?_eq_getElem hlt⟩
   obtain⟨bo,oo,rfl,hc⟩:=yT hO (by rw[List.length_map];omega)
   have hck:=hc wr hB k _ (yU hi)
   have hic:=hE i (List.mem_of_getElem? hi)
   obtain⟨bq,off,rfl,hcap,hbq,hA⟩:=qF hC (by omega)
   have c2:=(hA.below hB hbq).cell (gM hic) 2 (by omega)
   have c14:=(hA.below hB hbq).cell (gM hic) 14 (by omega)
   rw[dE] at c2
   rw[aS] at c14
   have hst:=aH3 (cs:=cs) hi
   rw[hcl] at hst
   have hz:zQ cs i=(decide ((getC cs i).okind=16) && decide ((getC cs i).err=0)):=rfl
   generalize getC cs i=c at *
   have Hst:=Lib.hid hst
   have Hz:=Lib.hid hz
   clear hst hz hcl hc hi hA hO hC hE
   by_cases h16:c.okind=16
   ·have d16:(c.okind == 16)=true:=by simpa using h16
    by_cases he:c.err=0
    ·have de:(c.err == 0)=true:=by simpa using he
     have e:iA cs E=some i:=by rw[Hst.out,if_pos (by rw[Hz.out,h16,he];rfl)]
     clear h16 he
     go_wp2
     go_returns
     exact⟨by rw[e];rfl,hB⟩
    ·have de:(c.err == 0)=false:=by simpa using he
     have e:iA cs (E.drop (k+1))=iA cs E:=by rw[Hst.out,if_neg (by rw[Hz.out];simp[he])]
     have Ex:=Lib.hid e
     clear h16 he e
     go_wp2
     go_roundw
     case rel=>exact⟨k+1,by go_num,by omega,hB,Ex.out⟩
     case measure=>simp[intOf];omega
   ·have d16:(c.okind == 16)=false:=by simpa using h16
    have e:iA cs (E.drop (k+1))=iA cs E:=by rw[Hst.out,if_neg (by rw[Hz.out];simp[h16])]
    have Ex:=Lib.hid e
    clear h16 e
    go_wp2
    go_roundw
    case rel=>exact⟨k+1,by go_num,by omega,hB,Ex.out⟩
    case measure=>simp[intOf];omega
  ·have hke:k=E.length:=by omega
   subst hke
   have e:iA cs E=none:=by rw[← hcl,List.drop_length];rfl
   go_wp2
   go_returns
   exact⟨by rw[e];rfl,hB⟩
end Go.Proofs.YtdeiocppghhfdaaGreat.Lin
namespace Go.Proofs.YtdeiocppghhfdaaGreat.Lin
open Go.RowKit Go.Lib Go.Shelf
open Hs
open KitI (iv IRow own_below lS)
attribute [local go_sem, local simp] Hs.dB Hs.dG Hs.dE Hs.dH Hs.dI Hs.dJ Hs.dK Hs.dL Hs.dM Hs.dF Hs.aR Hs.aW Hs.bB Hs.bC Hs.aS Hs.aV Hs.aY Hs.bD Hs.bE Hs.bF Hs.bG Hs.bH Hs.bI Hs.bJ Hs.bK Hs.aU Hs.aQ Hs.fH Hs.fI Hs.fJ Hs.fK Hs.fM Hs.fO Hs.fP Hs.fQ Hs.fT Hs.fU Hs.dN Hs.dO Hs.dP Hs.dQ Hs.dR Hs.dS Hs.dU Hs.dV Hs.dW Hs.dX Hs.dY Hs.dZ Hs.eB Hs.bL Hs.bM Hs.bN Hs.bO Hs.bP Hs.bQ Hs.bR Hs.bS Hs.bT Hs.bU Hs.bV Hs.bW Hs.bX Hs.bY Hs.bZ Hs.cB Hs.aX Hs.fV Hs.fZ Hs.gB Hs.gD Hs.gF Hs.gG Hs.gH Hs.gI Hs.gJ Hs.gK Hs.eD Hs.eG Hs.eH Hs.aH Hs.aJ
attribute [local go_sem ↓] Hs.aK Hs.aN
attribute [local go_sem] Hs.fF Hs.cK Hs.aP Hs.eO Hs.fD
attribute [local go_sem ↓] uK
def ETy (T:TypeId):Prop:=T=68∨T=9∨T=81
def MTy (T:TypeId):Prop:=T=136∨T=74∨T=139∨T=168
instance (T:TypeId):Decidable (ETy T):=by unfold ETy;infer_instance
instance (T:TypeId):Decidable (MTy T):=by unfold MTy;infer_instance
structure FrT (bad:TypeId→Prop) (m:Nat) (W W':World):Prop where
 bl:Below m W W'
 ty:∀ (k:Nat) (cs:Array Value) (T:TypeId) (r:Nat × Nat),W.heap[k]? = some (.cells cs T r)→¬ bad T→W'.heap[k]? = some (.cells cs T r)
section
variable {bad:TypeId→Prop} {m:Nat} {A B D:World}
theorem FrT.refl (bad:TypeId→Prop) (m:Nat) (W:World):FrT bad m W W:=⟨Below.refl _ _,fun _ _ _ _ h _=>h⟩
theorem FrT.trans (h:FrT bad m A B) (k:FrT bad m B D):FrT bad m A D:=⟨h.bl.trans k.bl,fun j cs T r h1 h2=>k.ty j cs T r (h.ty j cs T r h1 h2) h2⟩
theorem FrT.mono {n:Nat} (h:FrT bad m A B) (hn:n≤m):FrT bad n A B:=⟨h.bl.mono hn,h.ty⟩
theorem FrT.below (h:Below A.heap.size A B) (hm:m≤A.heap.size):FrT bad m A B:=⟨h.mono hm,fun k cs T r hk _=>(h.block k (Array.getElem?_eq_some_iff.1 hk).1).trans hk⟩
theorem FrT.own (h:FrT bad m A B) {base sz n:Nat} {e:TypeId} {x:Value} {xs:List Value} (ho:A.ownsRow base e sz x n xs) (he:¬ bad e):B.ownsRow base e sz x n xs:=by
 refine⟨ho.1,?_⟩
 rcases ho.2 with hn | ⟨g,cap,cur,rfl,hB,hg,rest⟩
 ·exact .inl hn
 ·exact .inr ⟨g,cap,cur,rfl,hB,h.ty _ _ _ _ hg he,rest⟩
theorem FrT.model (h:FrT ETy m A B) {b:Nat} {M:MM} (hM:MdAt A b M):MdAt B b M :=
 ⟨h.ty _ _ _ _ hM.blk (by decide),h.own hM.marks (by decide),h.own hM.seats (by decide),fun S hS=>h.own (hM.slots S hS) (by decide),fun S hS x hx=>h.own (hM.smarks S hS x hx) (by decide),hM.some_,hM.nodup⟩
end
theorem aAo {W:World} {base sz n k:Nat} {e:TypeId} {x:Value} {xs:List Value} (ho:W.ownsRow base e sz x n xs) (hk:x.ownBlock=some k):∃ cs,W.heap[k]? = some (.cells cs e (0,0)):=by
 rcases ho.2 with⟨h,_⟩ | ⟨g,cap,cur,rfl,hB,hg,rest⟩
 ·rw[h] at hk;cases hk
 ·simp[Value.ownBlock] at hk
  subst hk
  exact⟨cur,hg⟩
theorem aI9 {W:World} {b:Nat} {M:MM} (h:MdAt W b M) {k:Nat} (hk:M.fp b k):∃ cs T,MTy T∧W.heap[k]? = some (.cells cs T (0,0)):=by
 rcases hk with rfl | hk | ⟨S,hS,hk⟩
 ·exact⟨_,_,.inl rfl,h.blk⟩
 ·obtain⟨cs,hc⟩:=aAo h.seats hk
  exact⟨cs,_,.inr (.inr (.inl rfl)),hc⟩
 ·obtain⟨cs,hc⟩:=aAo (h.slots S hS) hk
  exact⟨cs,_,.inr (.inr (.inr rfl)),hc⟩
theorem aAp {W W':World} {b n:Nat} {M:MM} (h:MdAt W b M) (hk:aC (M.fp b) W W') (hf:∀ k,M.fp b k→n≤k) (hn:n≤W.heap.size):FrT MTy n W W':=by
 refine⟨⟨hk.os,hk.tape,hk.output,hk.size,fun k hkn=>hk.block k (by omega) fun hf2 => ?_⟩,fun k cs T r hc hT=>(hk.block k (Array.getElem?_eq_some_iff.1 hc).1 fun hf2 => ?_).trans hc⟩
 ·have:=hf k hf2;omega
 ·obtain⟨cs2,T2,h1,h2⟩:=aI9 h hf2
  rw[hc] at h2
  injection h2 with h2
  injection h2 with _ h2 _
  subst h2
  exact hT h1
structure aF4 (m n:Nat) (f:FuncId) (fs:Array Value) (Inv:List (Nat × MS)→World→Prop):Prop where
 ent:∀ args W,(callFunc f args).run Tryz.prog W = .ok (.enter f args) W
 keep:∀ l W W',Inv l W→FrT MTy n W W'→Inv l W'
 call:∀ W b M K l,n≤W.heap.size→Inv l W→MdAt W b M→MSok M.st K→l.length≤2000→Calls Tryz.prog f (#[.pointer (some ⟨b,0,none⟩)]++fs) W fun e W'=>e = .returned (.tuple #[])∧Inv (l++[(b,M.st)]) W'∧FrT ETy m W W'
theorem aSd {W:World} {b off k:Nat} {cs:List aA} {c:aA} (h:CAt W b off cs) (hk:cs[k]? = some c):(tN (.pointer (some ⟨b,off+k*27+2,none⟩))).run Tryz.prog W = .ok (.agg (opL c).toArray) W :=
 run_loadAt_mid W b (off+k*27+2) 54 (opL c) _ (fun j v hv=>by
  have hlt:=(List.getElem?_eq_some_iff.1 hv).1
  have hl:j<7:=by simpa [opL] using hlt
  have h1:=h.cell hk (2+j) (by omega)
  rw[← Nat.add_assoc] at h1
  rw[h1]
  have:(opL c)[j]? = (aB c)[2+j]? := by
   rw[show opL c=((aB c).drop 2).take 7 from rfl,List.getElem?_take,List.getElem?_drop]
   rw[if_pos hl]
  rw[← this]
  exact hv) Tryz.underlying54 rfl (by kernel_rfl)
theorem aSe {W:World} {b off k:Nat} {cs:List aA} {c:aA} (h:CAt W b off cs) (hk:cs[k]? = some c):(sJ (.pointer (some ⟨b,off+k*27+14,none⟩))).run Tryz.prog W = .ok (.agg (Hs.resL c).toArray) W :=
 run_loadAt_mid W b (off+k*27+14) 51 (Hs.resL c) _ (fun j v hv=>by
  have hlt:=(List.getElem?_eq_some_iff.1 hv).1
  have hl:j<13:=by simpa [Hs.resL] using hlt
  have h1:=h.cell hk (14+j) (by omega)
  rw[← Nat.add_assoc] at h1
  rw[h1]
  have:(Hs.resL c)[j]? = (aB c)[14+j]? := by
   rw[show Hs.resL c=((aB c).drop 14).take 13 from rfl,List.getElem?_take,List.getElem?_drop]
   rw[if_pos hl]
  rw[← this]
  exact hv) Tryz.underlying51 rfl (by kernel_rfl)
end Go.Proofs.YtdeiocppghhfdaaGreat.Lin
