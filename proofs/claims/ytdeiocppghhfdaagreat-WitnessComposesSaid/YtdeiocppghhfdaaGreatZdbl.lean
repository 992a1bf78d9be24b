/- Texts, one behind another. -/
import Derived.Test.YtdeiocppghhfdaaGreatZdbi
import Derived.Test.YtdeiocppghhfdaaGreatZdbk
set_option linter.unusedVariables false
set_option linter.unusedSimpArgs false
set_option maxRecDepth 100000
set_option maxHeartbeats 8000000
namespace Go.Proofs.YtdeiocppghhfdaaGreat.Lin
open Go.RowKit Go.Lib Go.Shelf
open Hs
open KitI (iv IRow own_below lS)
attribute [local go_sem, local simp] Hs.dB Hs.dG Hs.dE Hs.dH Hs.dI Hs.dJ Hs.dK Hs.dL Hs.dM Hs.dF Hs.aR Hs.aW Hs.bB Hs.bC Hs.aS Hs.aV Hs.aY Hs.bD Hs.bE Hs.bF Hs.bG Hs.bH Hs.bI Hs.bJ Hs.bK Hs.aU Hs.aQ Hs.fH Hs.fI Hs.fJ Hs.fK Hs.fM Hs.fO Hs.fP Hs.fQ Hs.fT Hs.fU Hs.dN Hs.dO Hs.dP Hs.dQ Hs.dR Hs.dS Hs.dU Hs.dV Hs.dW Hs.dX Hs.dY Hs.dZ Hs.eB Hs.bL Hs.bM Hs.bN Hs.bO Hs.bP Hs.bQ Hs.bR Hs.bS Hs.bT Hs.bU Hs.bV Hs.bW Hs.bX Hs.bY Hs.bZ Hs.cB Hs.aX Hs.fV Hs.fZ Hs.gB Hs.gD Hs.gF Hs.gG Hs.gH Hs.gI Hs.gJ Hs.gK Hs.eD Hs.eG Hs.eH Hs.aH Hs.aJ
attribute [local go_sem ↓] Hs.aK Hs.aN
attribute [local go_sem] Hs.fF Hs.cK Hs.aP Hs.eO Hs.fD
attribute [local go_sem ↓] sG
def wL (x:aA):Bool:=decide (x.okind=5) && decide (0≤x.took) && decide (x.err=0)
def kL (c:CfgV) (cs:List aA) (o:List Nat) (k:Nat):Int:=if wL (getC cs k) then wG c cs k o else -1
def aCg (c:CfgV) (cs:List aA) (o:List Nat):Int × Int :=
 match (List.range cs.length).find? (fun k=>decide (0≤kL c cs o k)) with | some k=>(kL c cs o k,26) | none=>(0,0)
def aAt (c:CfgV) (cs:List aA):Int × Int:=if (aT c cs).2≠0 then aT c cs else aCg c cs (ordC cs)
theorem aIe {c:CfgV} {cs:List aA} {o:List Nat} {k:Nat} (hk:k<cs.length) (hall:∀ j,j<k→kL c cs o j<0) (h:0≤kL c cs o k):aCg c cs o=(kL c cs o k,26):=by
 have:(List.range cs.length).find? (fun k=>decide (0≤kL c cs o k))=some k:=by
  rw[List.find?_range_eq_some]
  exact⟨by simpa using h,List.mem_range.2 hk,fun j hj=>by have:=hall j hj;simp;omega⟩
 unfold aCg
 rw[this]
theorem aIf {c:CfgV} {cs:List aA} {o:List Nat} (hall:∀ j,j<cs.length→kL c cs o j<0):aCg c cs o=(0,0):=by
 have:(List.range cs.length).find? (fun k=>decide (0≤kL c cs o k))=none:=by
  rw[List.find?_eq_none]
  intro k hk
  have:=hall k (List.mem_range.1 hk)
  simp;omega
 unfold aCg
 rw[this]
theorem aLa (m n:Nat) (hm:m≤n):aF4 m n 96 #[] (fun _ _=>True) where
 ent:=enters_of Tryz.func96 (by kernel_rfl) rfl
 keep:=fun _ _ _ _ _=>trivial
 call:=fun W b M K l hn _ _ _ _=>by
  go_enter Tryz.func96,Tryz.ntmps96
  go_wp2
  go_end0
  exact⟨rfl,trivial,FrT.refl _ _ _⟩
theorem aBl (c:CfgV) (p:Option Addr) (cap:Nat) (cs:List aA) (w:World) (hC:CRow w p cap cs) (hs:cs.length≤1000) (hok:∀ x∈cs,x.Ok) (hd:∀ x∈cs,x.ps.length≤1000000) :
  Calls Tryz.prog 48 #[c.v,.slice p cs.length cap] w fun e w'=>e = .returned (.tuple #[.int .i64 (aAt c cs).1,.int .i64 (aAt c cs).2])∧Below w.heap.size w w':=by
 have hB0:Below w.heap.size w (w.alloc (.cells (cfgL c).toArray 24)):=(Below.refl w.heap.size w).alloc (Nat.le_refl _) _
 have hz:=iM w (cfgL c) 24
 have hpf:=qG (w.heap.size+1) c p cap cs 96 #[] (fun _ _=>True) (w.alloc (.cells (cfgL c).toArray 24)) (by simp) (fun W hb=>hC.on (hB0.trans (hb.mono (by omega)))) (aLa _ _ (by simp)) trivial hs hok (aDx hd)
 have hfin:∀ e w',tQ (w.heap.size+1) (w.alloc (.cells (cfgL c).toArray 24)) c cs (fun _ _=>True) e w'→∃ v,e = .returned (.tuple #[v,.int .i64 (aT c cs).1,.int .i64 (aT c cs).2])∧Below (w.heap.size+1) (w.alloc (.cells (cfgL c).toArray 24)) w'∧((aT c cs).2=0→cfgE c=0∧(∀ i∈ordC cs,i<cs.length)∧(ordC cs).length≤1000∧w'.ownsRow (w.heap.size+1) tInt 1 v (ordC cs).length ((ordC cs).map nv)):=by
  rintro e w' (⟨h1,rfl,_,hb⟩ | ⟨h1,h2,rfl,_,hb⟩ | ⟨h1,h2,E,b,M,v,hE,rfl,_,hb,_,_,h3⟩)
  ·exact⟨_,by unfold aT;rw[pM h1],hb,fun h=>by unfold aT at h;rw[pM h1] at h;exact absurd h h1⟩
  ·exact⟨_,by unfold aT;rw[pO h1 h2],hb,fun h=>by unfold aT at h;rw[pO h1 h2] at h;exact absurd h h2⟩
  ·refine⟨_,by unfold aT;rw[mK hE],hb,fun h => ?_⟩
   unfold aT at h
   rw[mK hE] at h
   have h4:=(h3 h).2
   rw[World.size_alloc] at h4
   unfold ordC
   rw[mK hE]
   exact⟨h1,fun i hi=>((xE hE).1 hi).1,by rw[aI8 hE];have:=yQ hE;omega,h4⟩
 have hpf2:=hpf.mono hfin
 clear hpf hfin
 have hV:(aAt c cs)=if (aT c cs).2≠0 then aT c cs else aCg c cs (ordC cs):=rfl
 rw[hV]
 clear hV
 generalize aT c cs=r at *
 obtain⟨x1,x2⟩:=r
 dsimp only at *
 have lc:=sH hz
 have hLC:∀ W,Below (w.heap.size+1) (w.alloc (.cells (cfgL c).toArray 24)) W→(yV (.pointer (some ⟨w.heap.size,0,none⟩))).run Tryz.prog W = .ok (.agg (cfgL c).toArray) W:=fun W hW=>sH (gU hz hW (by omega))
 have hBW:∀ W,Below (w.heap.size+1) (w.alloc (.cells (cfgL c).toArray 24)) W→Below w.heap.size w W:=fun W hW=>hB0.trans (hW.mono (by omega))
 clear hz hB0
 unfold CfgV.v cfgL at *
 have HLC:=Lib.hid hLC
 have HBW:=Lib.hid hBW
 clear hLC hBW
 by_cases hx:x2=0
 ·rw[if_neg (by simpa using hx)]
  subst hx
  have d0:((0:Int) != 0)=false:=rfl
  go_enter Tryz.func48,Tryz.ntmps48
  go_wp2_with (go_at_call 81;refine hpf2.mono ?_;rintro e w1 ⟨v,rfl,hb1,hq⟩)
  obtain⟨hcf,hoi,hol,hO⟩:=(by first | exact hq rfl | exact hq trivial | exact hq:cfgE c=0∧(∀ i∈ordC cs,i<cs.length)∧(ordC cs).length≤1000∧w1.ownsRow (w.heap.size+1) tInt 1 v (ordC cs).length ((ordC cs).map nv))
  obtain⟨ao,qo,rfl⟩:=aF hO
  have hI:IRd w1 ao ((ordC cs).map fun (x:Nat)=>(x:Int)):=IRd.of (tO hO rfl)
  have hz1:w.heap.size+1≤w1.heap.size:=by have:=hb1.size;simpa using this
  clear hq hpf2 hO lc
  generalize ho:ordC cs=o at *
  have HO:=Lib.hid ho
  clear ho
  go_loopw [7,8,9,23] (fun x7 x8 x9 i wr=>∃ k:Nat,i = .int .i64 k∧k≤cs.length∧(∀ j,j<k→kL c cs o j<0)∧Below w1.heap.size w1 wr) (fun x7 x8 x9 i wr=>cs.length-(intOf i).toNat)
  case atStart=>exact⟨0,rfl,by omega,fun j hj=>by omega,Below.refl _ _⟩
  case round =>
   obtain⟨k,rfl,hk,hall,hB⟩:=hrel
   have hB1:=hb1.trans (hB.mono hz1)
   by_cases hlt:k<cs.length
   ·have hx:=gM hlt
    obtain⟨bq,off,rfl,hcap,hbq,hA⟩:=qF (hC.on (HBW.out _ hB1)) (by omega)
    have hld:=hA.load hx
    have hgx:getC cs k=getC cs k:=rfl
    generalize hxx:getC cs k=x at hx hld
    have Hgx:=Lib.hid hxx
    clear hxx hgx hx
    have hBa:Below w1.heap.size w1 (wr.alloc (.cells (aB x).toArray 56)):=hB.alloc hB.size _
    have Hall:=Lib.hid hall
    by_cases h1:x.okind=5
    ·have d1:(x.okind != 5)=false:=by simpa using h1
     by_cases h2:0≤x.took
     ·have d2:decide (x.took<0)=false:=by simpa using h2
      by_cases h3:x.err=0
      ·have d3:(x.err != 0)=false:=by simpa using h3
       have hq:wL (getC cs k)=true:=by unfold wL;rw[Hgx.out];simp[h1,h2,h3]
       have hat:kL c cs o k=wG c cs k o:=by unfold kL;rw[if_pos hq]
       clear h1 h2 h3 hq
       have hsn:=fun W (hW:Below wr.heap.size wr W)=>aD0 c k ao qo o (some ⟨bq,off,none⟩) cap cs W hcf hlt (hI.on (hB.trans (hW.mono hB.size))) hoi hol (hC.on (HBW.out _ (hB1.trans (hW.mono (by have:=hB1.size;simp at this;omega))))) hs hok hd
       have hsn2:=hsn _ ((Below.refl _ _).alloc (Nat.le_refl _) (.cells (aB x).toArray 56))
       have lc2:=HLC.out _ (hB1.alloc (by have:=hB1.size;simp at this;omega) (.cells (aB x).toArray 56))
       unfold CfgV.v at hsn2
       clear hsn
       by_cases h0:0≤wG c cs k o
       ·have d0':decide (0≤wG c cs k o)=true:=by simpa using h0
        have hF:=aIe hlt hall (by rw[hat];exact h0)
        rw[hat] at hF
        have HF:=Lib.hid hF
        clear hF h0 hat
        generalize hsv:wG c cs k o=sv at *
        go_wp2_with (go_at_call 97;refine hsn2.mono ?_;rintro e w6 ⟨rfl,hb6⟩)
        go_returns
        exact⟨by rw[HO.out,HF.out];rfl,HBW.out _ (hb1.trans ((hBa.trans (hb6.mono hBa.size)).mono hz1))⟩
       ·have d0':decide (0≤wG c cs k o)=false:=by simpa using h0
        have hno:kL c cs o k<0:=by rw[hat];omega
        clear h0 hat
        generalize wG c cs k o=sv at *
        go_wp2_with (go_at_call 97;refine hsn2.mono ?_;rintro e w6 ⟨rfl,hb6⟩)
        go_roundw
        case rel=>exact⟨k+1,by go_num,by omega,fun j hj=>(Nat.lt_or_ge j k).elim (hall j) (fun h=>by rw[show j=k by omega];exact hno),hBa.trans (hb6.mono hBa.size)⟩
        case measure=>simp[intOf];omega
      ·have d3:(x.err != 0)=true:=by simpa using h3
       have hn:wL (getC cs k)=false:=by unfold wL;rw[Hgx.out];simp[h3]
       clear h1 h2 h3
       have hno:kL c cs o k<0:=by unfold kL;rw[if_neg (by rw[hn];simp)];omega
       clear hn
       go_wp2_with fail
       go_roundw
       case rel=>exact⟨k+1,by go_num,by omega,fun j hj=>(Nat.lt_or_ge j k).elim (hall j) (fun h=>by rw[show j=k by omega];exact hno),hBa⟩
       case measure=>simp[intOf];omega
     ·have d2:decide (x.took<0)=true:=by simp;omega
      have hn:wL (getC cs k)=false:=by unfold wL;rw[Hgx.out];simp[h2]
      clear h1 h2
      have hno:kL c cs o k<0:=by unfold kL;rw[if_neg (by rw[hn];simp)];omega
      clear hn
      go_wp2_with fail
      go_roundw
      case rel=>exact⟨k+1,by go_num,by omega,fun j hj=>(Nat.lt_or_ge j k).elim (hall j) (fun h=>by rw[show j=k by omega];exact hno),hBa⟩
      case measure=>simp[intOf];omega
    ·have d1:(x.okind != 5)=true:=by simpa using h1
     have hn:wL (getC cs k)=false:=by unfold wL;rw[Hgx.out];simp[h1]
     clear h1
     have hno:kL c cs o k<0:=by unfold kL;rw[if_neg (by rw[hn];simp)];omega
     clear hn
     go_wp2_with fail
     go_roundw
     case rel=>exact⟨k+1,by go_num,by omega,fun j hj=>(Nat.lt_or_ge j k).elim (hall j) (fun h=>by rw[show j=k by omega];exact hno),hBa⟩
     case measure=>simp[intOf];omega
   ·have hke:k=cs.length:=by omega
    subst hke
    go_wp2_with fail
    go_returns
    exact⟨by rw[HO.out,aIf hall];rfl,HBW.out _ hB1⟩
 ·rw[if_pos (by simpa using hx)]
  have d0:(x2 != 0)=true:=by simpa using hx
  go_enter Tryz.func48,Tryz.ntmps48
  go_wp2_with (go_at_call 81;refine hpf2.mono ?_;rintro e w1 ⟨v,rfl,hb1,hq⟩)
  go_returns
  exact⟨rfl,HBW.out _ hb1⟩
end Go.Proofs.YtdeiocppghhfdaaGreat.Lin
namespace Go.Proofs.YtdeiocppghhfdaaGreat.Lin
open Go.RowKit Go.Lib Go.Shelf
open Hs
open KitI (iv IRow own_below lS)
attribute [local go_sem, local simp] Hs.dB Hs.dG Hs.dE Hs.dH Hs.dI Hs.dJ Hs.dK Hs.dL Hs.dM Hs.dF Hs.aR Hs.aW Hs.bB Hs.bC Hs.aS Hs.aV Hs.aY Hs.bD Hs.bE Hs.bF Hs.bG Hs.bH Hs.bI Hs.bJ Hs.bK Hs.aU Hs.aQ Hs.fH Hs.fI Hs.fJ Hs.fK Hs.fM Hs.fO Hs.fP Hs.fQ Hs.fT Hs.fU Hs.dN Hs.dO Hs.dP Hs.dQ Hs.dR Hs.dS Hs.dU Hs.dV Hs.dW Hs.dX Hs.dY Hs.dZ Hs.eB Hs.bL Hs.bM Hs.bN Hs.bO Hs.bP Hs.bQ Hs.bR Hs.bS Hs.bT Hs.bU Hs.bV Hs.bW Hs.bX Hs.bY Hs.bZ Hs.cB Hs.aX Hs.fV Hs.fZ Hs.gB Hs.gD Hs.gF Hs.gG Hs.gH Hs.gI Hs.gJ Hs.gK Hs.eD Hs.eG Hs.eH Hs.aH Hs.aJ
attribute [local go_sem ↓] Hs.aK Hs.aN
attribute [local go_sem] Hs.fF Hs.cK Hs.aP Hs.eO Hs.fD
def SRd (lo n:Nat) (W:World) (a:Option Addr) (ts:List ByteArray):Prop:=ts=[]∨∃ b off,a=some ⟨b,off,none⟩∧lo≤b∧b<n∧∀ k t,ts[k]? = some t→W.cell? ⟨b,off+k,none⟩=some (.string t)
theorem SRd.on {lo n:Nat} {W W':World} {a:Option Addr} {ts:List ByteArray} (h:SRd lo n W a ts) (hb:Below n W W'):SRd lo n W' a ts:=by
 rcases h with h | ⟨b,off,h1,h0,h2,h3⟩
 ·exact .inl h
 ·exact .inr ⟨b,off,h1,h0,h2,fun k t hk=>(hb.cell (p:=⟨b,off+k,none⟩) h2).trans (h3 k t hk)⟩
theorem SRd.mono {lo n m:Nat} {W:World} {a:Option Addr} {ts:List ByteArray} (h:SRd lo n W a ts) (hn:n≤m):SRd lo m W a ts:=by
 rcases h with h | ⟨b,off,h1,h0,h2,h3⟩
 ·exact .inl h
 ·exact .inr ⟨b,off,h1,h0,Nat.lt_of_lt_of_le h2 hn,h3⟩
theorem SRd.set {lo n B:Nat} {W:World} {a:Option Addr} {ts:List ByteArray} (h:SRd lo n W a ts) (hB:B<lo) (u:Value):SRd lo n (W.setCell ⟨B,0,none⟩ u) a ts:=by
 rcases h with h | ⟨b,off,h1,h0,h2,h3⟩
 ·exact .inl h
 ·refine .inr ⟨b,off,h1,h0,h2,fun k t hk => ?_⟩
  have hbk:=Below.heap_setCell W ⟨B,0,none⟩ u b (by simp;omega)
  have:(W.setCell ⟨B,0,none⟩ u).cell? ⟨b,off+k,none⟩=W.cell? ⟨b,off+k,none⟩:=World.cell?_of_block (w:=W) hbk
  rw[this];exact h3 k t hk
theorem SRd.of_own {W:World} {base n c:Nat} {e:TypeId} {a:Option Addr} {ts:List ByteArray} (h:W.ownsRow base e 1 (.slice a n c) n (ts.map Value.string)):SRd base W.heap.size W a ts:=by
 rcases h with⟨h0,⟨h1,h2⟩ | ⟨g,cap,cur,h1,hgb,hg,_,_,_,h2⟩⟩
 ·refine .inl (List.length_eq_zero_iff.1 ?_)
  rw[List.length_map] at h0
  omega
 ·injection h1 with h1 _ _
  refine .inr ⟨g,0,h1,hgb,(Array.getElem?_eq_some_iff.1 hg).1,fun k t hk => ?_⟩
  have hlt:k<ts.length:=(List.getElem?_eq_some_iff.1 hk).1
  rw[List.length_map] at h0
  rw[aM (L:=cur.toList) (by simpa using hg),Nat.zero_add]
  have h3:(cur.toList.take (n*1))[k]? = some (.string t):=by rw[h2,List.getElem?_map,hk];rfl
  rwa [List.getElem?_take_of_lt (by omega)] at h3
theorem str_eq (s t:ByteArray):(s.toList == t.toList)=decide (s=t):=by
 by_cases h:s=t
 ·subst h;simp
 ·have h2:¬ s.toList=t.toList:=fun e=>h (by rw[toList_data,toList_data] at e;exact ByteArray.ext (Array.toList_inj.1 e))
  simp[h,h2]
def itmL (y:aA):List Value:=[.int .u8 y.ik,.int .i64 y.ifrom,.int .i64 y.ito,.slice y.da y.ps.length y.dc]
structure ApOK (ap:ByteArray→List gN→Option (ByteArray × Int)):Prop where
 call:∀ t y r W,ap t y.ps=some r→DAt W y→Calls Tryz.prog 59 #[.string t,.slice y.da y.ps.length y.dc] W fun e W'=>e = .returned (.tuple #[.string r.1,.int .i64 r.2])∧Below W.heap.size W W'
def lK (ap:ByteArray→List gN→Option (ByteArray × Int)) (y:aA) (pos most:Int) (ts:List ByteArray):Option Bool :=
 if y.ito≤pos∨most<y.ito then some true
 else if y.ik=2 then some (decide (y.ifrom≠0) || decide (y.ps.length≠0))
 else if y.ifrom≠pos then some true
 else if pos<0 then none
 else match ts[pos.toNat]?,ts[y.ito.toNat]? with
  | some t,some u=>(ap t y.ps).map fun r=>decide (r.2≠0) || decide (r.1≠u)
  | _,_=>none
theorem aCh {ap:ByteArray→List gN→Option (ByteArray × Int)} (hap:ApOK ap) (y:aA) (pos most:Int) (a:Option Addr) (cp:Nat) (ts:List ByteArray) (B:Bool) (w:World) {lo n:Nat} (hT:SRd lo n w a ts) (hnw:n≤w.heap.size) (hcp:ts.length≤cp) (hD:DAt w y) (hB:lK ap y pos most ts=some B) :
  Calls Tryz.prog 108 #[.agg (itmL y).toArray,.int .i64 pos,.int .i64 most,.slice a ts.length cp] w fun e w'=>e = .returned (.bool B)∧Below w.heap.size w w':=by
 have hB0:Below w.heap.size w (w.alloc (.cells #[.int .u8 y.ik,.int .i64 y.ifrom,.int .i64 y.ito,.slice y.da y.ps.length y.dc] 49)):=(Below.refl _ _).alloc (Nat.le_refl _) _
 unfold itmL
 unfold lK at hB
 by_cases h1:y.ito≤pos
 ·rw[if_pos (.inl h1)] at hB
  obtain rfl:B=true:=(Option.some.inj hB).symm
  have d1:decide (y.ito≤pos)=true:=by simpa using h1
  clear h1 hB
  go_enter Tryz.func108,Tryz.ntmps108
  go_wp2
  go_returns
  exact⟨rfl,hB0⟩
 have d1:decide (y.ito≤pos)=false:=by simpa using h1
 by_cases h2:most<y.ito
 ·rw[if_pos (.inr h2)] at hB
  obtain rfl:B=true:=(Option.some.inj hB).symm
  have d2:decide (most<y.ito)=true:=by simpa using h2
  clear h1 h2 hB
  go_enter Tryz.func108,Tryz.ntmps108
  go_wp2
  go_returns
  exact⟨rfl,hB0⟩
 have d2:decide (most<y.ito)=false:=by simpa using h2
 rw[if_neg (by omega)] at hB
 by_cases h3:y.ik=2
 ·rw[if_pos h3] at hB
  have hB':=(Option.some.inj hB).symm
  have d3:(y.ik == 2)=true:=by simpa using h3
  clear h1 h2 h3 hB
  by_cases h4:y.ifrom=0
  ·have d4:(y.ifrom != 0)=false:=by simpa using h4
   have hB2:B=((y.ps.length:Int) != 0):=by
    rw[hB']
    by_cases h5:y.ps.length=0<;>simp[h4,h5]
   clear h4 hB'
   go_enter Tryz.func108,Tryz.ntmps108
   go_wp2
   go_returns
   refine⟨by rw[hB2];(try rfl),hB0⟩
  ·have d4:(y.ifrom != 0)=true:=by simpa using h4
   have hB2:B=true:=by rw[hB'];simp[h4]
   subst hB2
   clear h4 hB'
   go_enter Tryz.func108,Tryz.ntmps108
   go_wp2
   go_returns
   exact⟨rfl,hB0⟩
 have d3:(y.ik == 2)=false:=by simpa using h3
 rw[if_neg h3] at hB
 by_cases h4:y.ifrom=pos
 ·have d4:(y.ifrom != pos)=false:=by simpa using h4
  rw[if_neg (by simpa using h4)] at hB
  by_cases h5:pos<0
  ·rw[if_pos h5] at hB;cases hB
  rw[if_neg h5] at hB
  cases ht:ts[pos.toNat]? with
  | none=>rw[ht] at hB;cases hB
  | some t =>
   cases hu:ts[y.ito.toNat]? with
   | none=>rw[ht,hu] at hB;cases hB
   | some u =>
    rw[ht,hu] at hB
    cases hr:ap t y.ps with
    | none=>simp only[hr] at hB;cases hB
    | some r =>
     simp only[hr] at hB
     have hB':=(Option.some.inj hB).symm
     rcases hT with hT | ⟨b,off,rfl,_,hb0,hc⟩
     ·subst hT;simp at ht
     have hb:b<w.heap.size:=Nat.lt_of_lt_of_le hb0 hnw
     clear hb0 hnw
     have hti:(pos.toNat:Int)=pos:=Int.toNat_of_nonneg (by omega)
     have hui:(y.ito.toNat:Int)=y.ito:=Int.toNat_of_nonneg (by omega)
     have htl:=(List.getElem?_eq_some_iff.1 ht).1
     have hul:=(List.getElem?_eq_some_iff.1 hu).1
     have hp0:0≤pos:=by omega
     have hp1:pos<(ts.length:Int):=by omega
     have hp2:0≤y.ito:=by omega
     have hp3:y.ito<(ts.length:Int):=by omega
     have hz:=iM w [.int .u8 y.ik,.int .i64 y.ifrom,.int .i64 y.ito,.slice y.da y.ps.length y.dc] 49
     have hF:∀ W,Below (w.heap.size+1) (w.alloc (.cells #[.int .u8 y.ik,.int .i64 y.ifrom,.int .i64 y.ito,.slice y.da y.ps.length y.dc] 49)) W→W.cell? ⟨b,off+pos.toNat,none⟩=some (.string t)∧W.cell? ⟨w.heap.size,3,none⟩=some (.slice y.da y.ps.length y.dc)∧W.cell? ⟨b,off+y.ito.toNat,none⟩=some (.string u)∧W.cell? ⟨w.heap.size,2,none⟩=some (.int .i64 y.ito):=fun W hW=>by
      have hz2:=gU hz hW (by omega)
      have hwW:Below w.heap.size w W:=hB0.trans (hW.mono (by omega))
      exact⟨(hwW.cell (p:=⟨b,off+pos.toNat,none⟩) hb).trans (hc _ _ ht),aM hz2 3,(hwW.cell (p:=⟨b,off+y.ito.toNat,none⟩) hb).trans (hc _ _ hu),aM hz2 2⟩
     have hca:=hap.call t y r (w.alloc (.cells #[.int .u8 y.ik,.int .i64 y.ifrom,.int .i64 y.ito,.slice y.da y.ps.length y.dc] 49)).drew hr ((hD.on hB0).on (Below.refl _ _).drew)
     clear h1 h2 h3 h4 h5 hB ht hu hr htl hul hc
     obtain⟨r1,r2⟩:=r
     dsimp only at *
     have hlast:∀ w2,Below (w.heap.size+1) (w.alloc (.cells #[.int .u8 y.ik,.int .i64 y.ifrom,.int .i64 y.ito,.slice y.da y.ps.length y.dc] 49)) w2→Below w.heap.size w w2:=fun w2 h=>hB0.trans (h.mono (by omega))
     by_cases h6:r2=0
     ·have d6:(r2 != 0)=false:=by simpa using h6
      have hB2:B = !(r1.toList == u.toList):=by rw[hB',str_eq];by_cases h7:r1=u<;>simp[h6,h7]
      clear h6 hB'
      go_enter Tryz.func108,Tryz.ntmps108
      go_wp2
      refine wp_region_noPanic ?_
      refine wp_region_held_drew (S:=fun W=>W.cell? ⟨b,off+pos.toNat,none⟩=some (.string t)∧W.cell? ⟨w.heap.size,3,none⟩=some (.slice y.da y.ps.length y.dc)∧W.cell? ⟨b,off+y.ito.toNat,none⟩=some (.string u)∧W.cell? ⟨w.heap.size,2,none⟩=some (.int .i64 y.ito)) (by kernel_rfl) ?_ (fun hHeld => ?_)
      ·first | exact hF _ (Below.refl _ _) | exact hF _ (Below.refl _ _).drew | exact hF _ hb2
      iterate 6 (first | (refine aL ?_;(try simp only[nSO])) | ((first | refine np_n ?_ ?_ ?_ | refine np_t 0 ?_ ?_ ?_);rotate_left 1;(· (intro w hSw;(try dsimp only at hSw);go_simp;all_goals with_reducible rfl));(try simp only[nSO])))
      first | (refine np_s 6 ?_;(try simp only[nSO])) | (refine aD (i:=6) rfl (by kernel_rfl) (fun K hK => ?_);rw[if_pos (by rfl)];go_simp;((go_at_call 59;refine hca.mono ?_;rintro e w2 ⟨rfl,hb2'⟩;have hb2:Below (w.heap.size+1) (w.alloc (.cells #[.int .u8 y.ik,.int .i64 y.ifrom,.int .i64 y.ito,.slice y.da y.ps.length y.dc] 49)) w2:=(Below.refl _ _).drew.trans (hb2'.mono (by simp))));(try go_wp2_with fail);refine hK.out _ _ ?_ (fun hHeld => ?_);(· (first | exact hF _ (Below.refl _ _) | exact hF _ (Below.refl _ _).drew | exact hF _ hb2));clear hK K;(try simp only[nSO]))
      iterate 5 (first | (refine aL ?_;(try simp only[nSO])) | (refine np_n ?_ ?_ ?_;rotate_left 1;(· (intro w hSw;(try dsimp only at hSw);go_simp;all_goals with_reducible rfl));(try simp only[nSO])))
      refine wpAnyH_done (by kernel_rfl) ?_ _
      refine NoPanic.normal ?_
      obtain⟨_,_,c3,c4⟩:=hF _ hb2
      go_wp2
      go_returns
      refine⟨by rw[hB2];(try rfl),hlast _ hb2⟩
     ·have d6:(r2 != 0)=true:=by simpa using h6
      have hB2:B=true:=by rw[hB'];simp[h6]
      subst hB2
      clear h6 hB'
      go_enter Tryz.func108,Tryz.ntmps108
      go_wp2
      refine wp_region_noPanic ?_
      refine wp_region_held_drew (S:=fun W=>W.cell? ⟨b,off+pos.toNat,none⟩=some (.string t)∧W.cell? ⟨w.heap.size,3,none⟩=some (.slice y.da y.ps.length y.dc)∧W.cell? ⟨b,off+y.ito.toNat,none⟩=some (.string u)∧W.cell? ⟨w.heap.size,2,none⟩=some (.int .i64 y.ito)) (by kernel_rfl) ?_ (fun hHeld => ?_)
      ·first | exact hF _ (Below.refl _ _) | exact hF _ (Below.refl _ _).drew | exact hF _ hb2
      iterate 6 (first | (refine aL ?_;(try simp only[nSO])) | ((first | refine np_n ?_ ?_ ?_ | refine np_t 0 ?_ ?_ ?_);rotate_left 1;(· (intro w hSw;(try dsimp only at hSw);go_simp;all_goals with_reducible rfl));(try simp only[nSO])))
      first | (refine np_s 6 ?_;(try simp only[nSO])) | (refine aD (i:=6) rfl (by kernel_rfl) (fun K hK => ?_);rw[if_pos (by rfl)];go_simp;((go_at_call 59;refine hca.mono ?_;rintro e w2 ⟨rfl,hb2'⟩;have hb2:Below (w.heap.size+1) (w.alloc (.cells #[.int .u8 y.ik,.int .i64 y.ifrom,.int .i64 y.ito,.slice y.da y.ps.length y.dc] 49)) w2:=(Below.refl _ _).drew.trans (hb2'.mono (by simp))));(try go_wp2_with fail);refine hK.out _ _ ?_ (fun hHeld => ?_);(· (first | exact hF _ (Below.refl _ _) | exact hF _ (Below.refl _ _).drew | exact hF _ hb2));clear hK K;(try simp only[nSO]))
      iterate 5 (first | (refine aL ?_;(try simp only[nSO])) | (refine np_n ?_ ?_ ?_;rotate_left 1;(· (intro w hSw;(try dsimp only at hSw);go_simp;all_goals with_reducible rfl));(try simp only[nSO])))
      refine wpAnyH_done (by kernel_rfl) ?_ _
      refine NoPanic.normal ?_
      go_wp2
      go_returns
      exact⟨rfl,hlast _ hb2⟩
 ·have d4:(y.ifrom != pos)=true:=by simpa using h4
  rw[if_pos h4] at hB
  obtain rfl:B=true:=(Option.some.inj hB).symm
  clear h1 h2 h3 h4 hB
  go_enter Tryz.func108,Tryz.ntmps108
  go_wp2
  go_returns
  exact⟨rfl,hB0⟩
end Go.Proofs.YtdeiocppghhfdaaGreat.Lin
namespace Go.Proofs.YtdeiocppghhfdaaGreat.Lin
open Go.RowKit Go.Lib Go.Shelf
open Hs
def aJi (cs:List aA) (z:Option Nat) (y:aA):Bool :=
  match z with | none=>false | some z=>decide ((getC cs z).took<y.invoked) && (decide (y.err=0) || decide (y.err=17))
inductive FdR where
  | on (pos:Int)
  | stop
  | open_
deriving DecidableEq
def fdS (ap:ByteArray→List gN→Option (ByteArray × Int)) (cs:List aA) (z:Option Nat) (ts:List ByteArray) (pos:Int) (y:aA):FdR :=
  if y.okind=14 then .on (if y.err=0 then y.rev else pos)
  else if y.okind=15 then
    (if aJi cs z y then .stop
     else if y.err=0 then (match lK ap y pos (numP y.took cs) ts with | none => .open_ | some true => .stop | some false => .on y.ito)
     else .on pos)
  else .on pos
def fdE (ap:ByteArray→List gN→Option (ByteArray × Int)) (cs:List aA) (z:Option Nat) (ts:List ByteArray):Int→List Nat→Option (Option Nat)
  | _,[]=>some none
  | pos,i::r=>match fdS ap cs z ts pos (getC cs i) with
    | .on pos'=>fdE ap cs z ts pos' r
    | .stop=>some (some i)
    | .open_=>none
def posL (cs:List aA):List Int:=0::(cs.map (·.rev)++cs.map (·.ito))
def aOg (ap:ByteArray→List gN→Option (ByteArray × Int)) (cs:List aA) (ts:List ByteArray):Prop:=∀ pos∈posL cs,∀ y∈cs,y.okind=15→y.err=0→lK ap y pos (numP y.took cs) ts≠none
def fdR:Option (Option Nat)→Int × Int | some (some i)=>(i,26) | _=>(0,0)
def pQ (ap:ByteArray→List gN→Option (ByteArray × Int)) (c:CfgV) (client:Int) (cs:List aA):Int × Int :=
  if (aT c cs).2≠0 then aT c cs
  else if client<0∨c.clients≤client then (0,7)
  else fdR (fdE ap cs (iA cs (effC cs)) (iB c cs) 0 (jJ client cs 0))
theorem aQx {cs:List aA} {y:aA} (h:y∈cs):y.rev∈posL cs:=List.mem_cons_of_mem _ (List.mem_append_left _ (List.mem_map_of_mem h))
theorem aQy {cs:List aA} {y:aA} (h:y∈cs):y.ito∈posL cs:=List.mem_cons_of_mem _ (List.mem_append_right _ (List.mem_map_of_mem h))
end Go.Proofs.YtdeiocppghhfdaaGreat.Lin
namespace Go.Proofs.YtdeiocppghhfdaaGreat.Lin
open Hs
def iK:List aA:=[{ kN with okind:=1,oat:=1,otext:=⟨#[120]⟩,took:=9,answered:=12,steps:=6,rev:=1 },{ kN with thread:=1,okind:=5,invoked:=1,took:=8,answered:=8,steps:=4 },{ kN with thread:=1,index:=1,okind:=7,on:=2,invoked:=10,took:=10,answered:=10,steps:=1,rtext:=⟨#[97,98]⟩ }]
def jX:List aA:=[{ kN with okind:=1,otext:=⟨#[120]⟩,took:=9,answered:=11,steps:=6,rev:=1 },{ kN with thread:=1,okind:=16,invoked:=5,took:=5,answered:=5,steps:=1 },{ kN with thread:=1,index:=1,okind:=16,invoked:=6,took:=6,answered:=6,steps:=1,err:=13 }]
theorem v1a:ordC iK=[1,0,2]:=by decide +kernel
theorem v1b:aT iX iK=(0,0):=by decide +kernel
theorem v1c:(nV iX iK).text=⟨#[97,120,98]⟩∧(nV iX iK).marks=[]∧(nV iX iK).number=1:=by decide +kernel
theorem v1d:iB iX iK=[⟨#[97,98]⟩,⟨#[97,120,98]⟩]:=by decide +kernel
theorem v1e:aAt iX iK=(0,0):=by decide +kernel
theorem v2a:ordC jX=[0,1,2]:=by decide +kernel
theorem v2b:aT iX jX=(0,0):=by decide +kernel
theorem v2c:(nV iX jX).text=⟨#[120,97,98]⟩∧(nV iX jX).number=1:=by decide +kernel
def pR (a:Option Addr) (f:Int):List aA:=[{ kN with okind:=1,otext:=⟨#[120]⟩,took:=9,answered:=11,steps:=6,rev:=1 },{ kN with thread:=1,okind:=14,invoked:=1,took:=4,answered:=4,steps:=3 },{ kN with index:=1,okind:=2,oat:=1,on:=1,invoked:=12,took:=20,answered:=25,steps:=6,rev:=2 },
 { kN with thread:=1,index:=1,okind:=15,invoked:=13,took:=18,answered:=18,steps:=5,ik:=1,ifrom:=f,ito:=1,ps:=[⟨2,0,⟨#[120]⟩⟩,⟨1,2,⟨#[]⟩⟩],da:=a,dc:=2 },{ kN with thread:=1,index:=2,okind:=15,invoked:=21,took:=24,answered:=24,steps:=4,ik:=2,ito:=2 },{ kN with thread:=1,index:=3,okind:=15,invoked:=27,took:=29,answered:=29,steps:=3,err:=17 }]
def ap35 (t:ByteArray) (ps:List gN):Option (ByteArray × Int):=if t=⟨#[97,98]⟩∧ps=[⟨2,0,⟨#[120]⟩⟩,⟨1,2,⟨#[]⟩⟩] then some (⟨#[120,97,98]⟩,0) else none
theorem v5a (a:Option Addr):pQ ap35 iX 1 (pR a 0)=(0,0):=by kernel_rfl
theorem v5c (a:Option Addr):iB iX (pR a 0)=[⟨#[97,98]⟩,⟨#[120,97,98]⟩,⟨#[120,98]⟩]:=by kernel_rfl
end Go.Proofs.YtdeiocppghhfdaaGreat.Lin
namespace Go.Proofs.YtdeiocppghhfdaaGreat.Lin
open Go.RowKit Go.Lib Go.Shelf
open Hs
open KitI (iv IRow own_below)
attribute [local go_sem, local simp] Hs.dB Hs.dG Hs.dE Hs.dH Hs.dI Hs.dJ Hs.dK Hs.dL Hs.dM Hs.dF Hs.aR Hs.aW Hs.bB Hs.bC Hs.aS Hs.aV Hs.aY Hs.bD Hs.bE Hs.bF Hs.bG Hs.bH Hs.bI Hs.bJ Hs.bK Hs.aU Hs.aQ Hs.fH Hs.fI Hs.fJ Hs.fK Hs.fM Hs.fO Hs.fP Hs.fQ Hs.fT Hs.fU Hs.dN Hs.dO Hs.dP Hs.dQ Hs.dR Hs.dS Hs.dU Hs.dV Hs.dW Hs.dX Hs.dY Hs.dZ Hs.eB Hs.bL Hs.bM Hs.bN Hs.bO Hs.bP Hs.bQ Hs.bR Hs.bS Hs.bT Hs.bU Hs.bV Hs.bW Hs.bX Hs.bY Hs.bZ Hs.cB Hs.aX Hs.fV Hs.fZ Hs.gB Hs.gD Hs.gF Hs.gG Hs.gH Hs.gI Hs.gJ Hs.gK Hs.eD Hs.eG Hs.eH Hs.aH Hs.aJ
attribute [local go_sem ↓] Hs.aK Hs.aN
attribute [local go_sem] Hs.fF Hs.cK Hs.aP Hs.eO Hs.fD
theorem aGf (c:CfgV) (w:World):Calls Tryz.prog 34 #[c.v] w fun e w'=>e = .returned (uY 200 c).v∧Below w.heap.size w w':=by
 have hm0:0≤min (c.text.size:Int) 200:=by omega
 have hm1:min (c.text.size:Int) 200≤c.text.size:=by omega
 have hmn:(min (c.text.size:Int) 200).toNat=min c.text.size 200:=by omega
 unfold CfgV.v uY
 go_enter Tryz.func34,Tryz.ntmps34
 go_wp2
 exact⟨rfl,_,results_cell_row rfl _ _ _ _ _ _ _ rfl (by rw[← World.size_alloc];exact heap_alloc_new _ _) Tryz.underlying24 rfl (by kernel_rfl),rfl,vE _ _ _⟩
theorem jD (w:World):Calls Tryz.prog 91 #[] w fun e w'=>e = .returned iX.v∧Below w.heap.size w w':=by
 go_enter Tryz.func91,Tryz.ntmps91
 go_wp2
 exact⟨rfl,_,results_cell_row rfl _ _ _ _ _ _ _ rfl (heap_alloc_new _ _) Tryz.underlying24 rfl (by kernel_rfl),rfl,(Below.refl _ _).alloc (Nat.le_refl _) _⟩
def lL (W:World) (B:Nat) (cs:List aA):Prop:=W.heap[B]? = some (.cells (jF cs).toArray 56 (0,0))
theorem lL.on {W W':World} {B:Nat} {cs:List aA} (h:lL W B cs) (hb:Below W.heap.size W W'):lL W' B cs:=gU h hb (Array.getElem?_eq_some_iff.1 h).1
theorem lL.cat {W:World} {B:Nat} {cs:List aA} (h:lL W B cs):CAt W B 0 cs:=fun j u hj=>by rw[Nat.zero_add,aM h];exact hj
theorem lL.crow {W:World} {B n:Nat} {cs:List aA} (h:lL W B cs) (hn:cs.length=n):CRow W (some ⟨B,0,none⟩) n cs := .inr ⟨B,0,rfl,by omega,(Array.getElem?_eq_some_iff.1 h).1,h.cat⟩
theorem jP (w:World):Calls Tryz.prog 90 #[] w fun e w'=>e = .returned (.slice (some ⟨w.heap.size,0,none⟩) 3 3)∧lL w' w.heap.size iK∧Below w.heap.size w w':=by
 go_enter Tryz.func90,Tryz.ntmps90
 go_wp2
 go_returns
 exact⟨rfl,(heap_alloc_new _ _).trans (congrArg some (by kernel_rfl)),(Below.refl _ _).alloc (Nat.le_refl _) _⟩
theorem wM (w:World):Calls Tryz.prog 94 #[] w fun e w'=>e = .returned (.slice (some ⟨w.heap.size,0,none⟩) 3 3)∧lL w' w.heap.size jX∧Below w.heap.size w w':=by
 go_enter Tryz.func94,Tryz.ntmps94
 go_wp2
 go_returns
 exact⟨rfl,(heap_alloc_new _ _).trans (congrArg some (by kernel_rfl)),(Below.refl _ _).alloc (Nat.le_refl _) _⟩
end Go.Proofs.YtdeiocppghhfdaaGreat.Lin
namespace Go.Proofs.YtdeiocppghhfdaaGreat.Lin
open Go.RowKit Go.Lib Go.Shelf
open Hs
open KitI (iv IRow own_below)
attribute [local go_sem, local simp] Hs.dB Hs.dG Hs.dE Hs.dH Hs.dI Hs.dJ Hs.dK Hs.dL Hs.dM Hs.dF Hs.aR Hs.aW Hs.bB Hs.bC Hs.aS Hs.aV Hs.aY Hs.bD Hs.bE Hs.bF Hs.bG Hs.bH Hs.bI Hs.bJ Hs.bK Hs.aU Hs.aQ Hs.fH Hs.fI Hs.fJ Hs.fK Hs.fM Hs.fO Hs.fP Hs.fQ Hs.fT Hs.fU Hs.dN Hs.dO Hs.dP Hs.dQ Hs.dR Hs.dS Hs.dU Hs.dV Hs.dW Hs.dX Hs.dY Hs.dZ Hs.eB Hs.bL Hs.bM Hs.bN Hs.bO Hs.bP Hs.bQ Hs.bR Hs.bS Hs.bT Hs.bU Hs.bV Hs.bW Hs.bX Hs.bY Hs.bZ Hs.cB Hs.aX Hs.fV Hs.fZ Hs.gB Hs.gD Hs.gF Hs.gG Hs.gH Hs.gI Hs.gJ Hs.gK Hs.eD Hs.eG Hs.eH Hs.aH Hs.aJ
attribute [local go_sem ↓] Hs.aK Hs.aN
attribute [local go_sem] Hs.fF Hs.cK Hs.aP Hs.eO Hs.fD
def aCi:List gN:=[⟨2,0,⟨#[120]⟩⟩,⟨1,2,⟨#[]⟩⟩]
theorem aCj (w:World):Calls Tryz.prog 95 #[] w fun e w'=>e = .returned (.slice (some ⟨w.heap.size+1,0,none⟩) 6 6)∧lL w' (w.heap.size+1) (pR (some ⟨w.heap.size,0,none⟩) 0)∧w'.heap[w.heap.size]? = some (.cells (fB aCi).toArray 94 (0,0))∧Below w.heap.size w w':=by
 go_enter Tryz.func95,Tryz.ntmps95
 go_wp2
 go_returns
 refine⟨rfl,?_,?_,vE _ _ _⟩
 ·have h:=heap_alloc_new (w.alloc (.cells (fB aCi).toArray 94)) (.cells (jF (pR (some ⟨w.heap.size,0,none⟩) 0)).toArray 56)
  rw[World.size_alloc] at h
  exact h
 ·exact (Below.heap_alloc _ _ _ (by simp)).trans (heap_alloc_new _ _)
end Go.Proofs.YtdeiocppghhfdaaGreat.Lin
