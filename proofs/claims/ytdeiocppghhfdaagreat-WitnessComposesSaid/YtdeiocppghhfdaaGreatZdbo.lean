/- Texts, one behind another. -/
import Derived.Test.YtdeiocppghhfdaaGreatZdbn
set_option linter.unusedVariables false
set_option linter.unusedSimpArgs false
set_option maxRecDepth 100000
set_option maxHeartbeats 8000000
namespace Go.Proofs.YtdeiocppghhfdaaGreat.Lin
open Go.RowKit Go.Lib Go.Shelf
open Hs
open KitI (iv IRow own_below)
attribute [local go_sem, local simp] Hs.dB Hs.dG Hs.dE Hs.dH Hs.dI Hs.dJ Hs.dK Hs.dL Hs.dM Hs.dF Hs.aR Hs.aW Hs.bB Hs.bC Hs.aS Hs.aV Hs.aY Hs.bD Hs.bE Hs.bF Hs.bG Hs.bH Hs.bI Hs.bJ Hs.bK Hs.aU Hs.aQ Hs.fH Hs.fI Hs.fJ Hs.fK Hs.fM Hs.fO Hs.fP Hs.fQ Hs.fT Hs.fU Hs.dN Hs.dO Hs.dP Hs.dQ Hs.dR Hs.dS Hs.dU Hs.dV Hs.dW Hs.dX Hs.dY Hs.dZ Hs.eB Hs.bL Hs.bM Hs.bN Hs.bO Hs.bP Hs.bQ Hs.bR Hs.bS Hs.bT Hs.bU Hs.bV Hs.bW Hs.bX Hs.bY Hs.bZ Hs.cB Hs.aX Hs.fV Hs.fZ Hs.gB Hs.gD Hs.gF Hs.gG Hs.gH Hs.gI Hs.gJ Hs.gK Hs.eD Hs.eG Hs.eH Hs.aH Hs.aJ
attribute [local go_sem ↓] Hs.aK Hs.aN
attribute [local go_sem] Hs.fF Hs.cK Hs.aP Hs.eO Hs.fD
def dr (c:aA) (d:Option Addr × Nat):aA:={ c with da:=d.1,dc:=d.2 }
theorem aQ8 {c a:aA} (h:c.pure=a):c=dr a (c.da,c.dc):=by subst h;rfl
theorem jE {hs:List aA} {a:aA} {L:List aA} (h:hs.map aA.pure=a::L):∃ x t,hs=dr a x::t∧t.map aA.pure=L:=by
 cases hs with
 | nil=>cases h
 | cons c t =>
  rw[List.map_cons] at h
  injection h with h1 h2
  exact⟨_,t,by rw[← aQ8 h1],h2⟩
theorem yG {hs:List aA} (h:hs.map aA.pure=[]):hs=[]:=List.map_eq_nil_iff.1 h
theorem wO {hs:List aA} {a b c:aA} (h:hs.map aA.pure=[a,b,c]):∃ x y z,hs=[dr a x,dr b y,dr c z]:=by
 obtain⟨x,t1,e1,h1⟩:=jE h
 obtain⟨y,t2,e2,h2⟩:=jE h1
 obtain⟨z,t3,e3,h3⟩:=jE h2
 exact⟨x,y,z,by rw[e1,e2,e3,yG h3]⟩
theorem aOj {hs:List aA} {a b c d e f:aA} (h:hs.map aA.pure=[a,b,c,d,e,f]):∃ x y z u v w,hs=[dr a x,dr b y,dr c z,dr d u,dr e v,dr f w]:=by
 obtain⟨x,t1,e1,h1⟩:=jE h
 obtain⟨y,t2,e2,h2⟩:=jE h1
 obtain⟨z,t3,e3,h3⟩:=jE h2
 obtain⟨u,t4,e4,h4⟩:=jE h3
 obtain⟨v,t5,e5,h5⟩:=jE h4
 obtain⟨w,t6,e6,h6⟩:=jE h5
 exact⟨x,y,z,u,v,w,by rw[e1,e2,e3,e4,e5,e6,yG h6]⟩
def g0:aA:={ kN with okind:=1,oat:=1,otext:=⟨#[120]⟩,took:=9,answered:=12,steps:=6,rev:=1 }
def g1:aA:={ kN with thread:=1,okind:=5,invoked:=1,took:=8,answered:=8,steps:=4 }
def g2:aA:={ kN with thread:=1,index:=1,okind:=7,on:=2,invoked:=10,took:=10,answered:=10,steps:=1,rtext:=⟨#[97,98]⟩ }
def k0:aA:={ kN with okind:=1,otext:=⟨#[120]⟩,took:=9,answered:=11,steps:=6,rev:=1 }
def k1:aA:={ kN with thread:=1,okind:=14,invoked:=1,took:=4,answered:=4,steps:=3 }
def k2:aA:={ kN with index:=1,okind:=2,oat:=1,on:=1,invoked:=12,took:=20,answered:=25,steps:=6,rev:=2 }
def k3:aA:={ kN with thread:=1,index:=1,okind:=15,invoked:=13,took:=18,answered:=18,steps:=5,ik:=1,ifrom:=1,ito:=1,ps:=aCi }
def k4:aA:={ kN with thread:=1,index:=2,okind:=15,invoked:=21,took:=24,answered:=24,steps:=4,ik:=2,ito:=2 }
def k5:aA:={ kN with thread:=1,index:=3,okind:=15,invoked:=27,took:=29,answered:=29,steps:=3,err:=17 }
theorem e1:(fewL iK).modify 1 (fun q=>{ q with rev:=1 })=[g0,{ g1 with rev:=1 },g2]:=by kernel_rfl
theorem e2:(fewL iK).modify 2 (fun q=>{ q with rtext:=⟨#[97,120]⟩ })=[g0,g1,{ g2 with rtext:=⟨#[97,120]⟩ }]:=by kernel_rfl
theorem e3:(fewL iK).modify 0 (fun q=>{ q with took:=7 })=[{ g0 with took:=7 },g1,g2]:=by kernel_rfl
theorem e4:(fewL iK).modify 0 (fun q=>{ q with answered:=8 })=[{ g0 with answered:=8 },g1,g2]:=by kernel_rfl
theorem e5 (a:Option Addr):(fewL (pR a 0)).modify 3 (fun q=>{ q with ifrom:=1 })=[k0,k1,k2,k3,k4,k5]:=by kernel_rfl
theorem p1 (x y z:Option Addr × Nat):aT iX [dr g0 x,dr { g1 with rev:=1 } y,dr g2 z]=(1,26):=by kernel_rfl
theorem p2 (x y z:Option Addr × Nat):aT iX [dr g0 x,dr g1 y,dr { g2 with rtext:=⟨#[97,120]⟩ } z]=(2,26):=by kernel_rfl
theorem p3 (x y z:Option Addr × Nat):aT iX [dr { g0 with took:=7 } x,dr g1 y,dr g2 z]=(1,26):=by kernel_rfl
theorem p4 (x y z:Option Addr × Nat):(aT iX [dr { g0 with answered:=8 } x,dr g1 y,dr g2 z]).2=22:=by kernel_rfl
theorem p5 (x y z u v w:Option Addr × Nat):pQ ap35 iX 1 [dr k0 x,dr k1 y,dr k2 z,dr k3 u,dr k4 v,dr k5 w]=(3,26):=by kernel_rfl
theorem t5 (x y z u v w:Option Addr × Nat):iB iX [dr k0 x,dr k1 y,dr k2 z,dr k3 u,dr k4 v,dr k5 w]=[⟨#[97,98]⟩,⟨#[120,97,98]⟩,⟨#[120,98]⟩]:=by kernel_rfl
def aJj (cs:List aA) (ts:List ByteArray):Bool:=(posL cs).all fun pos=>cs.all fun y => !(decide (y.okind=15)) || !(decide (y.err=0)) || (lK ap35 y pos (numP y.took cs) ts).isSome
theorem aJk {cs:List aA} {ts:List ByteArray} (h:aJj cs ts=true):aOg ap35 cs ts:=by
 intro pos hp y hy h1 h2 hn
 unfold aJj at h
 have:=List.all_eq_true.1 (List.all_eq_true.1 h pos hp) y hy
 rw[h1,h2,hn] at this
 cases this
theorem s5 (x y z u v w:Option Addr × Nat):aJj [dr k0 x,dr k1 y,dr k2 z,dr k3 u,dr k4 v,dr k5 w] [⟨#[97,98]⟩,⟨#[120,97,98]⟩,⟨#[120,98]⟩]=true:=by kernel_rfl
theorem s4 (a:Option Addr):aJj (pR a 0) [⟨#[97,98]⟩,⟨#[120,97,98]⟩,⟨#[120,98]⟩]=true:=by kernel_rfl
theorem aRx:repD 2 0 0 ⟨#[120]⟩=[⟨2,0,⟨#[120]⟩⟩,⟨1,2,⟨#[]⟩⟩]:=by kernel_rfl
theorem aSn:ApOK ap35 where
 call:=fun t y r W h hD=>by
  unfold ap35 at h
  split at h
  ·rename_i hc
   obtain⟨rfl,hps⟩:=hc
   injection h with h
   subst h
   have hr:PRow W y.da (repD 2 0 0 ⟨#[120]⟩):=by
    rw[aRx]
    rcases hD with⟨_,⟨_,h2,_⟩ | ⟨b,off,h1,h2,h3⟩⟩
    ·rw[hps] at h2;cases h2
    ·refine .inr ⟨b,off,h1,h2,fun k q hk i u hi=>h3 (k*3+i) u ?_⟩
     rw[hps]
     match k,hk with
     | 0,hk =>
      injection hk with hk
      subst hk
      match i,hi with
      | 0,hi=>exact hi
      | 1,hi=>exact hi
      | 2,hi=>exact hi
     | 1,hk =>
      injection hk with hk
      subst hk
      match i,hi with
      | 0,hi=>exact hi
      | 1,hi=>exact hi
      | 2,hi=>exact hi
   have hl:y.ps.length=(repD 2 0 0 ⟨#[120]⟩).length:=by rw[hps,aRx];rfl
   rw[hl]
   exact aK9 ⟨#[97,98]⟩ 0 0 ⟨#[120]⟩ y.da y.dc W (by unfold uP;decide) hr
  ·cases h
section
variable {W:World} {p:Option Addr} {cap:Nat} {cs:List aA}
theorem pU {c:aA} (h:c.ps=[]) (h1:c.da=none) (h2:c.dc=0):DAt W c:=⟨by rw[h];simp,.inl ⟨h1,h,h2⟩⟩
theorem aGh:∀ c∈iK,c.Ok:=by
 intro c hc
 simp only[iK,List.mem_cons,List.not_mem_nil,or_false] at hc
 rcases hc with rfl | rfl | rfl<;>constructor<;>simp[kN]
theorem aLb:∀ c∈jX,c.Ok:=by
 intro c hc
 simp only[jX,List.mem_cons,List.not_mem_nil,or_false] at hc
 rcases hc with rfl | rfl | rfl<;>constructor<;>simp[kN]
theorem mM {B:Nat} (h:lL W B iK):HRow W (some ⟨B,0,none⟩) 3 iK:=⟨h.crow rfl,fun c hc=>by
  simp only[iK,List.mem_cons,List.not_mem_nil,or_false] at hc
  rcases hc with rfl | rfl | rfl<;>exact pU rfl rfl rfl,aGh,by decide⟩
theorem aGi {B:Nat} (h:lL W B jX):HRow W (some ⟨B,0,none⟩) 3 jX:=⟨h.crow rfl,fun c hc=>by
  simp only[jX,List.mem_cons,List.not_mem_nil,or_false] at hc
  rcases hc with rfl | rfl | rfl<;>exact pU rfl rfl rfl,aLb,by decide⟩
theorem aD5 {G:Nat} (hG:W.heap[G]? = some (.cells (fB aCi).toArray 94 (0,0))):∀ c∈pR (some ⟨G,0,none⟩) 0,DAt W c∧c.ps.length≤c.dc:=fun c hc=>by
 simp only[pR,List.mem_cons,List.not_mem_nil,or_false] at hc
 rcases hc with rfl | rfl | rfl | rfl | rfl | rfl
 ·exact⟨pU rfl rfl rfl,by decide⟩
 ·exact⟨pU rfl rfl rfl,by decide⟩
 ·exact⟨pU rfl rfl rfl,by decide⟩
 ·refine⟨⟨by show (2:Nat)≤1000000;decide,.inr ⟨G,0,rfl,(Array.getElem?_eq_some_iff.1 hG).1,fun j u hj => ?_⟩⟩,by show (2:Nat)≤2;decide⟩
  rw[Nat.zero_add,aM hG]
  exact hj
 ·exact⟨pU rfl rfl rfl,by decide⟩
 ·exact⟨pU rfl rfl rfl,by decide⟩
theorem aIg (a:Option Addr):∀ c∈pR a 0,c.Ok:=fun c hc=>by
 simp only[pR,List.mem_cons,List.not_mem_nil,or_false] at hc
 rcases hc with rfl | rfl | rfl | rfl | rfl | rfl<;>constructor<;>simp[kN]
theorem aRy {B G:Nat} (h:lL W B (pR (some ⟨G,0,none⟩) 0)) (hG:W.heap[G]? = some (.cells (fB aCi).toArray 94 (0,0))):HRow W (some ⟨B,0,none⟩) 6 (pR (some ⟨G,0,none⟩) 0) :=
 ⟨h.crow rfl,fun c hc=>(aD5 hG c hc).1,aIg _,by show (6:Nat)≤24;decide⟩
theorem oG (h:HRow W p cap cs):∀ x∈cs,x.ps.length≤1000000:=fun x hx=>(h.dat x hx).1
theorem uN {B:Nat} (h:lL W B iK):mJ W (some ⟨B,0,none⟩) iK := .inr ⟨B,0,rfl,(Array.getElem?_eq_some_iff.1 h).1,h.cat,by decide,fun c hc=>⟨(mM h).ok c hc,DRaw.of ((mM h).dat c hc) (by
  simp only[iK,List.mem_cons,List.not_mem_nil,or_false] at hc
  rcases hc with rfl | rfl | rfl<;>decide)⟩⟩
theorem aQ9 {B G:Nat} (h:lL W B (pR (some ⟨G,0,none⟩) 0)) (hG:W.heap[G]? = some (.cells (fB aCi).toArray 94 (0,0))):mJ W (some ⟨B,0,none⟩) (pR (some ⟨G,0,none⟩) 0) :=
 
 .inr ⟨B,0,rfl,(Array.getElem?_eq_some_iff.1 h).1,h.cat,by show (6:Nat)<9223372036854775808;decide,fun c hc=>⟨aIg _ c hc,DRaw.of (aD5 hG c hc).1 (aD5 hG c hc).2⟩⟩
theorem aOk (h:HRow W p cap cs) (h0:(dD cs).2=0) {o:List Nat} (ho:ordC cs=o):Calls Tryz.prog 36 #[.slice p cs.length cap] W fun e W'=>∃ a q,e = .returned (.tuple #[.slice a o.length q,.int .i64 0])∧IRow W' (.slice a o.length q) (o.map fun (n:Nat)=>(n:Int))∧Below W.heap.size W W':=by
 refine (aCa p cap cs W h.row (by have:=h.len;omega) h.ok).mono ?_
 rintro e W' (⟨h1,_⟩ | ⟨_,v,E,hE,rfl,hO,hb⟩)
 ·rw[h0] at h1;cases h1
 ·have e:ordW cs E=o:=by rw[← ho];unfold ordC;rw[mK hE]
  rw[e] at hO
  obtain⟨a,q,rfl⟩:=aF hO
  exact⟨a,q,rfl,tO hO rfl,hb⟩
theorem aOl (c:CfgV) (h:HRow W p cap cs) {x y:Int} (hr:aT c cs=(x,y)):Calls Tryz.prog 38 #[c.v,.slice p cs.length cap] W fun e W'=>e = .returned (.tuple #[.int .i64 x,.int .i64 y])∧Below W.heap.size W W':=by
 have:=sI c p cap cs W h.row (by have:=h.len;omega) h.ok (oG h)
 rwa [hr] at this
theorem aRa (c:CfgV) (h:HRow W p cap cs) {y:Int} (hr:(aT c cs).2=y):Calls Tryz.prog 38 #[c.v,.slice p cs.length cap] W fun e W'=>∃ x,e = .returned (.tuple #[.int .i64 x,.int .i64 y])∧Below W.heap.size W W':=by
 refine (sI c p cap cs W h.row (by have:=h.len;omega) h.ok (oG h)).mono ?_
 rintro e W' ⟨rfl,hb⟩
 exact⟨_,by rw[hr],hb⟩
theorem aOm (c:CfgV) (h:HRow W p cap cs) (hr:(aT c cs).2=0):Calls Tryz.prog 40 #[c.v,.slice p cs.length cap] W fun e W'=>∃ a q,e = .returned (.tuple #[.string (nV c cs).text,.slice a (nV c cs).marks.length q,.int .i64 (nV c cs).number,.int .i64 0])∧Below W.heap.size W W':=by
 refine (aK3 c p cap cs W h.row (by have:=h.len;omega) h.ok (oG h)).mono ?_
 rintro e W' (⟨h1,_⟩ | ⟨_,v,rfl,hO,hb⟩)
 ·exact absurd hr h1
 ·obtain⟨a,q,rfl⟩:=aF hO
  exact⟨a,q,rfl,hb⟩
theorem aSo (c:CfgV) (h:HRow W p cap cs) (hr:(aT c cs).2=0) {ts:List ByteArray} (ht:iB c cs=ts):Calls Tryz.prog 42 #[c.v,.slice p cs.length cap] W fun e W'=>∃ a q,e = .returned (.tuple #[.slice a ts.length q,.int .i64 0])∧SRow W' (.slice a ts.length q) ts∧Below W.heap.size W W':=by
 refine (xH c p cap cs W h.row (by have:=h.len;omega) h.ok (oG h)).mono ?_
 rintro e W' (⟨h1,_⟩ | ⟨_,v,rfl,hO,hb⟩)
 ·exact absurd hr h1
 ·rw[ht] at hO
  obtain⟨a,q,rfl⟩:=aF hO
  exact⟨a,q,rfl,SRow.own hO rfl,hb⟩
theorem aSp (c:CfgV) (h:HRow W p cap cs) {x y:Int} (hr:aAt c cs=(x,y)):Calls Tryz.prog 48 #[c.v,.slice p cs.length cap] W fun e W'=>e = .returned (.tuple #[.int .i64 x,.int .i64 y])∧Below W.heap.size W W':=by
 have:=aBl c p cap cs W h.row (by have:=h.len;omega) h.ok (oG h)
 rwa [hr] at this
theorem aRz (c:CfgV) (cl:Int) (h:HRow W p cap cs) (hs:aOg ap35 cs (iB c cs)) {x y:Int} (hr:pQ ap35 c cl cs=(x,y)):Calls Tryz.prog 56 #[c.v,.int .i64 cl,.slice p cs.length cap] W fun e W'=>e = .returned (.tuple #[.int .i64 x,.int .i64 y])∧Below W.heap.size W W':=by
 have:=aGg (P:=fun pos=>pos∈posL cs) aSn c cl p cap cs W h.row (by have:=h.len;omega) h.ok (oG h) h.dat (List.mem_cons_self ..) (fun _ y hy _ _=>aQx hy) (fun _ _ _ y hy _ _ _=>aQy hy) (fun _ pos hp=>hs pos hp)
 rwa [hr] at this
theorem v1h:(dD iK).2=0:=by decide +kernel
theorem v2h:(dD jX).2=0:=by decide +kernel
theorem v1p:(aT iX iK).2=0:=by rw[v1b]
theorem v2p:(aT iX jX).2=0:=by rw[v2b]
theorem aTr {B:Nat} (h:HRow W (some ⟨B,0,none⟩) 3 iK):Calls Tryz.prog 40 #[iX.v,.slice (some ⟨B,0,none⟩) 3 3] W fun e W'=>∃ a q,e = .returned (.tuple #[.string ⟨#[97,120,98]⟩,.slice a 0 q,.int .i64 1,.int .i64 0])∧Below W.heap.size W W':=by
 have:=aOm iX h v1p
 rwa [v1c.1,v1c.2.1,v1c.2.2] at this
theorem aTs {B:Nat} (h:HRow W (some ⟨B,0,none⟩) 3 jX):Calls Tryz.prog 40 #[iX.v,.slice (some ⟨B,0,none⟩) 3 3] W fun e W'=>∃ a n q,e = .returned (.tuple #[.string ⟨#[120,97,98]⟩,.slice a n q,.int .i64 1,.int .i64 0])∧Below W.heap.size W W':=by
 refine (aOm iX h v2p).mono ?_
 rintro e W' ⟨a,q,rfl,hb⟩
 exact⟨a,_,q,by rw[v2c.1,v2c.2],hb⟩
theorem aJl (h:∀ c∈cs,c.Ok):∀ c∈fewL cs,c.Ok:=fun c hc=>by
 obtain⟨d,hd,rfl⟩:=aI4 hc
 exact aNu (h d hd)
theorem uO:∀ c∈fewL iK,c.Ok:=aJl aGh
theorem aRb (a:Option Addr):∀ c∈fewL (pR a 0),c.Ok:=aJl (aIg a)
theorem xM (h:HRow W p cap cs) {x:Int} (hr:aT iX cs=(x,26)):Calls Tryz.prog 92 #[.slice p cs.length cap,.int .i64 x] W fun e W'=>e = .returned (.bool true)∧Below W.heap.size W W':=by
 go_enter Tryz.func92,Tryz.ntmps92
 go_wp2_with fail
 refine (jD _).mono ?_
 rintro e w2 ⟨rfl,hb⟩
 have hc:=aOl iX (h.on hb) hr
 go_wp2_with fail
 refine hc.mono ?_
 rintro e w3 ⟨rfl,hb3⟩
 go_wp2
 go_returns
 exact⟨rfl,hb.trans (hb3.mono hb.size)⟩
end
end Go.Proofs.YtdeiocppghhfdaaGreat.Lin
namespace Go.Proofs.YtdeiocppghhfdaaGreat.Lin
open Go.RowKit Go.Lib Go.Shelf
open Hs
open KitI (iv IRow own_below)
attribute [local go_sem, local simp] Hs.dB Hs.dG Hs.dE Hs.dH Hs.dI Hs.dJ Hs.dK Hs.dL Hs.dM Hs.dF Hs.aR Hs.aW Hs.bB Hs.bC Hs.aS Hs.aV Hs.aY Hs.bD Hs.bE Hs.bF Hs.bG Hs.bH Hs.bI Hs.bJ Hs.bK Hs.aU Hs.aQ Hs.fH Hs.fI Hs.fJ Hs.fK Hs.fM Hs.fO Hs.fP Hs.fQ Hs.fT Hs.fU Hs.dN Hs.dO Hs.dP Hs.dQ Hs.dR Hs.dS Hs.dU Hs.dV Hs.dW Hs.dX Hs.dY Hs.dZ Hs.eB Hs.bL Hs.bM Hs.bN Hs.bO Hs.bP Hs.bQ Hs.bR Hs.bS Hs.bT Hs.bU Hs.bV Hs.bW Hs.bX Hs.bY Hs.bZ Hs.cB Hs.aX Hs.fV Hs.fZ Hs.gB Hs.gD Hs.gF Hs.gG Hs.gH Hs.gI Hs.gJ Hs.gK Hs.eD Hs.eG Hs.eH Hs.aH Hs.aJ
attribute [local go_sem ↓] Hs.aK Hs.aN
attribute [local go_sem] Hs.fF Hs.cK Hs.aP Hs.eO Hs.fD
attribute [local irreducible] aB iX
theorem aGj (w:World):Calls Tryz.prog 46 #[] w fun e w'=>e = .returned (.bool true)∧Below w.heap.size w w':=by
 go_enter Tryz.func46,Tryz.ntmps46
 go_wp2_with fail
 refine (jP _).mono ?_
 rintro e w1 ⟨rfl,hR,hb⟩
 have hB:=hb
 clear hb
 have hF:=mM hR
 go_wp2_with fail
 refine (aOk hF v1h v1a).mono ?_
 rintro e w2 ⟨a1,q1,rfl,hI,hb⟩
 replace hB:=hB.trans (hb.mono hB.size)
 clear hb
 clear hF hR
 go_wp2_with fail
 refine (jD _).mono ?_
 rintro e w3 ⟨rfl,hb⟩
 replace hB:=hB.trans (hb.mono hB.size)
 replace hI:=hI.on hb
 clear hb
 go_wp2_with fail
 refine (jP _).mono ?_
 rintro e w4 ⟨rfl,hR,hb⟩
 replace hB:=hB.trans (hb.mono hB.size)
 replace hI:=hI.on hb
 clear hb
 have hF:=mM hR
 go_wp2_with fail
 refine (aOl iX hF v1b).mono ?_
 rintro e w5 ⟨rfl,hb⟩
 replace hB:=hB.trans (hb.mono hB.size)
 replace hI:=hI.on hb
 clear hb
 clear hF hR
 go_wp2_with fail
 refine (jD _).mono ?_
 rintro e w6 ⟨rfl,hb⟩
 replace hB:=hB.trans (hb.mono hB.size)
 replace hI:=hI.on hb
 clear hb
 go_wp2_with fail
 refine (jP _).mono ?_
 rintro e w7 ⟨rfl,hR,hb⟩
 replace hB:=hB.trans (hb.mono hB.size)
 replace hI:=hI.on hb
 clear hb
 have hF:=mM hR
 go_wp2_with fail
 refine (aTr hF).mono ?_
 rintro e w8 ⟨a2,q2,rfl,hb⟩
 replace hB:=hB.trans (hb.mono hB.size)
 replace hI:=hI.on hb
 clear hb
 clear hF hR
 go_wp2_with fail
 refine (jD _).mono ?_
 rintro e w9 ⟨rfl,hb⟩
 replace hB:=hB.trans (hb.mono hB.size)
 replace hI:=hI.on hb
 clear hb
 go_wp2_with fail
 refine (jP _).mono ?_
 rintro e w10 ⟨rfl,hR,hb⟩
 replace hB:=hB.trans (hb.mono hB.size)
 replace hI:=hI.on hb
 clear hb
 have hF:=mM hR
 go_wp2_with fail
 refine (aSo iX hF v1p v1d).mono ?_
 rintro e w11 ⟨a3,q3,rfl,hS,hb⟩
 replace hB:=hB.trans (hb.mono hB.size)
 replace hI:=hI.on hb
 clear hb
 clear hF hR
 go_wp2_with fail
 refine (jD _).mono ?_
 rintro e w12 ⟨rfl,hb⟩
 replace hB:=hB.trans (hb.mono hB.size)
 replace hI:=hI.on hb
 replace hS:=hS.on hb
 clear hb
 go_wp2_with fail
 refine (jP _).mono ?_
 rintro e w13 ⟨rfl,hR,hb⟩
 replace hB:=hB.trans (hb.mono hB.size)
 replace hI:=hI.on hb
 replace hS:=hS.on hb
 clear hb
 have hF:=mM hR
 go_wp2_with fail
 refine (aSp iX hF v1e).mono ?_
 rintro e w14 ⟨rfl,hb⟩
 replace hB:=hB.trans (hb.mono hB.size)
 replace hI:=hI.on hb
 replace hS:=hS.on hb
 clear hb
 clear hF hR
 have hE:=eqiT _ _ [1,0,2] (hI.on (gV w14 (.cells #[.int .i64 1,.int .i64 0,.int .i64 2] tInt))) (IRow.new [1,0,2] _ _ 3 3 rfl rfl _) (by decide)
 have hb:=gV w14 (.cells #[.int .i64 1,.int .i64 0,.int .i64 2] tInt)
 replace hB:=hB.trans (hb.mono hB.size)
 replace hI:=hI.on hb
 replace hS:=hS.on hb
 clear hb
 go_wp2_with fail
 refine (hE).mono ?_
 rintro e w15 ⟨rfl,hb⟩
 replace hB:=hB.trans (hb.mono hB.size)
 replace hI:=hI.on hb
 replace hS:=hS.on hb
 clear hb
 clear hE hI
 have hE:=aQ4 _ _ _ _ _ (hS.on (gV w15 (.cells #[.string ⟨#[97,98]⟩,.string ⟨#[97,120,98]⟩] tStr))) (SRow.new [⟨#[97,98]⟩,⟨#[97,120,98]⟩] _ _ 2 2 rfl rfl _) (by decide) (by decide)
 rw[decide_eq_true rfl] at hE
 have hb:=gV w15 (.cells #[.string ⟨#[97,98]⟩,.string ⟨#[97,120,98]⟩] tStr)
 replace hB:=hB.trans (hb.mono hB.size)
 replace hS:=hS.on hb
 clear hb
 go_wp2_with fail
 refine (hE).mono ?_
 rintro e w16 ⟨rfl,hb⟩
 replace hB:=hB.trans (hb.mono hB.size)
 replace hS:=hS.on hb
 clear hb
 clear hE hS
 go_wp2_with fail
 refine (jP _).mono ?_
 rintro e w17 ⟨rfl,hR,hb⟩
 replace hB:=hB.trans (hb.mono hB.size)
 clear hb
 have hF:=mM hR
 go_wp2_with fail
 refine (aQz _ _ _ _ (uN hR) (rJ _) (uO) (by show (1:Nat)<3;decide)).mono ?_
 rintro e w18 ⟨g,cap,hs,rfl,hm,hH,hb⟩
 replace hB:=hB.trans (hb.mono hB.size)
 clear hb
 clear hF hR
 rw[e1] at hm
 obtain⟨x,y,z,hx⟩:=wO hm
 clear hm
 have hC:=xM hH (by subst hx;exact p1 x y z)
 clear hx
 go_wp2_with fail
 refine (hC).mono ?_
 rintro e w19 ⟨rfl,hb⟩
 replace hB:=hB.trans (hb.mono hB.size)
 clear hb
 clear hC hH
 go_wp2_with fail
 refine (jP _).mono ?_
 rintro e w20 ⟨rfl,hR,hb⟩
 replace hB:=hB.trans (hb.mono hB.size)
 clear hb
 have hF:=mM hR
 go_wp2_with fail
 refine (aQ0 _ _ _ _ (uN hR) (rJ _) (uO) (by show (2:Nat)<3;decide)).mono ?_
 rintro e w21 ⟨g,cap,hs,rfl,hm,hH,hb⟩
 replace hB:=hB.trans (hb.mono hB.size)
 clear hb
 clear hF hR
 rw[e2] at hm
 obtain⟨x,y,z,hx⟩:=wO hm
 clear hm
 have hC:=xM hH (by subst hx;exact p2 x y z)
 clear hx
 go_wp2_with fail
 refine (hC).mono ?_
 rintro e w22 ⟨rfl,hb⟩
 replace hB:=hB.trans (hb.mono hB.size)
 clear hb
 clear hC hH
 go_wp2_with fail
 refine (jP _).mono ?_
 rintro e w23 ⟨rfl,hR,hb⟩
 replace hB:=hB.trans (hb.mono hB.size)
 clear hb
 have hF:=mM hR
 go_wp2_with fail
 refine (aQ1 _ _ _ _ (uN hR) (rJ _) (uO) (by show (0:Nat)<3;decide)).mono ?_
 rintro e w24 ⟨g,cap,hs,rfl,hm,hH,hb⟩
 replace hB:=hB.trans (hb.mono hB.size)
 clear hb
 clear hF hR
 rw[e3] at hm
 obtain⟨x,y,z,hx⟩:=wO hm
 clear hm
 have hC:=xM hH (by subst hx;exact p3 x y z)
 clear hx
 go_wp2_with fail
 refine (hC).mono ?_
 rintro e w25 ⟨rfl,hb⟩
 replace hB:=hB.trans (hb.mono hB.size)
 clear hb
 clear hC hH
 go_wp2_with fail
 refine (wM _).mono ?_
 rintro e w26 ⟨rfl,hR,hb⟩
 replace hB:=hB.trans (hb.mono hB.size)
 clear hb
 have hF:=aGi hR
 go_wp2_with fail
 refine (aOk hF v2h v2a).mono ?_
 rintro e w27 ⟨a1,q1,rfl,hI,hb⟩
 replace hB:=hB.trans (hb.mono hB.size)
 clear hb
 clear hF hR
 go_wp2_with fail
 refine (jD _).mono ?_
 rintro e w28 ⟨rfl,hb⟩
 replace hB:=hB.trans (hb.mono hB.size)
 replace hI:=hI.on hb
 clear hb
 go_wp2_with fail
 refine (wM _).mono ?_
 rintro e w29 ⟨rfl,hR,hb⟩
 replace hB:=hB.trans (hb.mono hB.size)
 replace hI:=hI.on hb
 clear hb
 have hF:=aGi hR
 go_wp2_with fail
 refine (aTs hF).mono ?_
 rintro e w30 ⟨a2,n2,q2,rfl,hb⟩
 replace hB:=hB.trans (hb.mono hB.size)
 replace hI:=hI.on hb
 clear hb
 clear hF hR
 go_wp2_with fail
 refine (jD _).mono ?_
 rintro e w31 ⟨rfl,hb⟩
 replace hB:=hB.trans (hb.mono hB.size)
 replace hI:=hI.on hb
 clear hb
 go_wp2_with fail
 refine (jP _).mono ?_
 rintro e w32 ⟨rfl,hR,hb⟩
 replace hB:=hB.trans (hb.mono hB.size)
 replace hI:=hI.on hb
 clear hb
 have hF:=mM hR
 go_wp2_with fail
 refine (aQ2 _ _ _ _ (uN hR) (rJ _) (uO) (by show (0:Nat)<3;decide)).mono ?_
 rintro e w33 ⟨g,cap,hs,rfl,hm,hH,hb⟩
 replace hB:=hB.trans (hb.mono hB.size)
 replace hI:=hI.on hb
 clear hb
 clear hF hR
 rw[e4] at hm
 obtain⟨x,y,z,hx⟩:=wO hm
 clear hm
 have hC:=aRa iX hH (by subst hx;exact p4 x y z)
 clear hx
 go_wp2_with fail
 refine (hC).mono ?_
 rintro e w34 ⟨j1,rfl,hb⟩
 replace hB:=hB.trans (hb.mono hB.size)
 replace hI:=hI.on hb
 clear hb
 clear hC hH
 go_wp2_with fail
 refine (jD _).mono ?_
 rintro e w35 ⟨rfl,hb⟩
 replace hB:=hB.trans (hb.mono hB.size)
 replace hI:=hI.on hb
 clear hb
 go_wp2_with fail
 refine (aCj _).mono ?_
 rintro e w36 ⟨rfl,hR,hG,hb⟩
 replace hB:=hB.trans (hb.mono hB.size)
 replace hI:=hI.on hb
 clear hb
 have hF:=aRy hR hG
 have hC:=aRz iX 1 hF (by rw[v5c];exact aJk (s4 _)) (v5a _)
 go_wp2_with fail
 refine (hC).mono ?_
 rintro e w37 ⟨rfl,hb⟩
 replace hB:=hB.trans (hb.mono hB.size)
 replace hI:=hI.on hb
 clear hb
 clear hC hF hR hG
 go_wp2_with fail
 refine (jD _).mono ?_
 rintro e w38 ⟨rfl,hb⟩
 replace hB:=hB.trans (hb.mono hB.size)
 replace hI:=hI.on hb
 clear hb
 go_wp2_with fail
 refine (aCj _).mono ?_
 rintro e w39 ⟨rfl,hR,hG,hb⟩
 replace hB:=hB.trans (hb.mono hB.size)
 replace hI:=hI.on hb
 clear hb
 have hF:=aRy hR hG
 go_wp2_with fail
 refine (aQ3 _ _ _ _ (aQ9 hR hG) (rJ _) (aRb _) (by show (3:Nat)<6;decide)).mono ?_
 rintro e w40 ⟨g,cap,hs,rfl,hm,hH,hb⟩
 replace hB:=hB.trans (hb.mono hB.size)
 replace hI:=hI.on hb
 clear hb
 clear hF hR hG
 rw[e5] at hm
 obtain⟨x,y,z,u,v,t,hx⟩:=aOj hm
 clear hm
 have hC:=aRz iX 1 hH (by subst hx;rw[t5];exact aJk (s5 x y z u v t)) (by subst hx;exact p5 x y z u v t)
 clear hx
 go_wp2_with fail
 refine (hC).mono ?_
 rintro e w41 ⟨rfl,hb⟩
 replace hB:=hB.trans (hb.mono hB.size)
 replace hI:=hI.on hb
 clear hb
 clear hC hH
 have hE:=eqiT _ _ [0,1,2] (hI.on (gV w41 (.cells #[.int .i64 0,.int .i64 1,.int .i64 2] tInt))) (IRow.new [0,1,2] _ _ 3 3 rfl rfl _) (by decide)
 have hb:=gV w41 (.cells #[.int .i64 0,.int .i64 1,.int .i64 2] tInt)
 replace hB:=hB.trans (hb.mono hB.size)
 replace hI:=hI.on hb
 clear hb
 go_wp2_with fail
 refine (hE).mono ?_
 rintro e w42 ⟨rfl,hb⟩
 replace hB:=hB.trans (hb.mono hB.size)
 replace hI:=hI.on hb
 clear hb
 clear hE hI
 go_wp2_with fail
 go_returns
 exact⟨rfl,hB⟩
end Go.Proofs.YtdeiocppghhfdaaGreat.Lin
namespace Go.Proofs.YtdeiocppghhfdaaGreat.Lin
open Go.RowKit Go.Lib Go.Shelf
open Hs
open KitI (iv IRow own_below)
theorem aLc (c:CfgV) (w:World):Calls Tryz.prog 34 #[.agg (cfgL c).toArray] w fun e w'=>e = .returned (.agg (cfgL (uY 200 c)).toArray)∧Below w.heap.size w w':=aGf c w
section
variable {w W:World} {c:CfgV} {p:Option Addr} {cap:Nat} {cs:List aA}
theorem LawW.awake35 (h:LawW w W c p cap cs):Calls Tryz.prog 46 #[] W fun e W'=>e = .returned (.bool true)∧Below w.heap.size w W':=by
 refine (aGj W).mono ?_
 rintro e W' ⟨rfl,hb⟩
 exact⟨rfl,h.bl.trans (hb.mono h.bl.size)⟩
theorem LawW.wtexts (h:LawW w W c p cap cs):Calls Tryz.prog 42 #[.agg (cfgL c).toArray,.slice p cs.length cap] W (yX W c cs) :=
 xH c p cap cs W h.row.row (by have:=h.row.len;omega) h.row.ok h.ps
end
end Go.Proofs.YtdeiocppghhfdaaGreat.Lin
namespace Go.Proofs.YtdeiocppghhfdaaGreat.Lin
open Hs
theorem yY {cs:List aA} (h0:(dD cs).2=0):lX cs (effC cs):=by
 have hn:(effC cs).Nodup:=(oL cs).nodup_iff.2 aDl
 refine⟨oL cs,(yA cs).and hn |>.imp_of_mem fun {a b} ha hb h => ?_⟩
 obtain⟨c,hc,hq⟩:=nA ((oL cs).mem_iff.1 ha)
 obtain⟨d,hd,hr⟩:=nA ((oL cs).mem_iff.1 hb)
 obtain⟨h1,h2⟩:=h
 have hq2:0≤c.took:=by simpa [eP] using hq
 unfold lexB at h1 ⊢
 rw[(aAh hc).1,(aAh hc).2,(aAh hd).1,(aAh hd).2] at h1 ⊢
 simp only[decide_eq_false_iff_not,decide_eq_true_eq] at h1 ⊢
 by_cases e:c.took=d.took∧c.rank=d.rank
 ·exact absurd (aLv h0 hc hd hq2 e.1 e.2) h2
 ·omega
theorem qI {c:CfgV} {cs:List aA} (h:(aT c cs).2=0):(dD cs).2=0:=(nI h).2.1
end Go.Proofs.YtdeiocppghhfdaaGreat.Lin
