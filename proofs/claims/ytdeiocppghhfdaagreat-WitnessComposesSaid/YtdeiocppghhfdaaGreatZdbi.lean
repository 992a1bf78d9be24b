/- Texts, one behind another. -/
import Derived.Test.YtdeiocppghhfdaaGreatZdbh
set_option linter.unusedVariables false
set_option linter.unusedSimpArgs false
set_option maxRecDepth 100000
set_option maxHeartbeats 8000000
namespace Go.Proofs.YtdeiocppghhfdaaGreat.Lin
open Go.RowKit Go.Lib Go.Shelf
open Hs
open KitI (iv IRow own_below lS)
attribute [local go_sem] Oper.semAt_some
attribute [local go_sem, local simp] Hs.dB Hs.dG Hs.dE Hs.dH Hs.dI Hs.dJ Hs.dK Hs.dL Hs.dM Hs.dF Hs.aR Hs.aW Hs.bB Hs.bC Hs.aS Hs.aV Hs.aY Hs.bD Hs.bE Hs.bF Hs.bG Hs.bH Hs.bI Hs.bJ Hs.bK Hs.aU Hs.aQ Hs.fH Hs.fI Hs.fJ Hs.fK Hs.fM Hs.fO Hs.fP Hs.fQ Hs.fT Hs.fU Hs.dN Hs.dO Hs.dP Hs.dQ Hs.dR Hs.dS Hs.dU Hs.dV Hs.dW Hs.dX Hs.dY Hs.dZ Hs.eB Hs.bL Hs.bM Hs.bN Hs.bO Hs.bP Hs.bQ Hs.bR Hs.bS Hs.bT Hs.bU Hs.bV Hs.bW Hs.bX Hs.bY Hs.bZ Hs.cB Hs.aX Hs.fV Hs.fZ Hs.gB Hs.gD Hs.gF Hs.gG Hs.gH Hs.gI Hs.gJ Hs.gK Hs.eD Hs.eG Hs.eH Hs.aH Hs.aJ
attribute [local go_sem ↓] Hs.aK Hs.aN
attribute [local go_sem] Hs.fF Hs.cK Hs.aP Hs.eO Hs.fD
attribute [local go_sem, local simp] Hs.nC
attribute [local go_sem ↓] uK
attribute [local go_sem ↓] sG
theorem aOb (c:aA):(opL c).toArray.all (·.oneCell')=true:=by simp[opL,Value.oneCell']
theorem aQp (W:World) (c:aA):(storeCells ⟨W.heap.size,0,none⟩ (opL c)).run Tryz.prog (W.alloc (.cells #[.int .u8 0,.int .i64 0,.int .i64 0,.int .i64 0,.int .u32 0,.int .u8 0,.string ⟨#[]⟩] 54)) = .ok () (W.alloc (.cells (opL c).toArray 54)):=by
 have h:=run_storeCells_new (P := Tryz.prog) W 54 #[.int .u8 0,.int .i64 0,.int .i64 0,.int .i64 0,.int .u32 0,.int .u8 0,.string ⟨#[]⟩] (opL c).toArray (by kernel_rfl) rfl (aOb c)
 simpa using h
theorem aQq {W:World} {b:Nat} (c:aA) (h:W.heap[b]? = some (.cells (opL c).toArray 54 (0,0))):(tN (.pointer (some ⟨b,0,none⟩))).run Tryz.prog W = .ok (.agg (opL c).toArray) W :=
 run_loadAt_mid W b 0 54 (opL c) _ (fun j v hv=>by rw[aM h,Nat.zero_add];exact hv) Tryz.underlying54 rfl (by kernel_rfl)
theorem aOc (c:aA):(opL c).set 1 (.int .i64 0)=opL (nW c):=rfl
attribute [local go_sem, local simp] aOc
structure SnB (g:Nat) (c:CfgV) (k:Nat) (x:aA) (sl:Value) (W:World):Prop where
 cf:W.heap[g]? = some (.cells (cfgL c).toArray 24 (0,0))
 bk:Boxed W (g+1) 3 (.int .i64 k)
 bl:Boxed W (g+1+1) 25 sl
 br:Boxed W (g+1+1+1) 3 (.int .i64 0)
 bx:W.heap[g+1+1+1+1]? = some (.cells (aB x).toArray 56 (0,0))
theorem SnB.on {g:Nat} {c:CfgV} {k:Nat} {x:aA} {sl:Value} {X W:World} (h:SnB g c k x sl X) (hs:X.heap.size=g+5) (hb:Below (g+5) X W):SnB g c k x sl W :=
 ⟨(hb.block g (by omega)).trans h.cf,(hb.block _ (by omega)).trans h.bk,(hb.block _ (by omega)).trans h.bl,(hb.block _ (by omega)).trans h.br,(hb.block _ (by omega)).trans h.bx⟩
theorem aJe (w:World) (c:CfgV) (k:Nat) (x:aA) (sl:Value) (X:World) (hX:((((w.alloc (.cells (cfgL c).toArray 24)).alloc (.cells #[.int .i64 k] 3)).alloc (.cells #[sl] 25)).alloc (.cells #[.int .i64 0] 3)).alloc (.cells (aB x).toArray 56)=X) :
  SnB w.heap.size c k x sl X∧X.heap.size=w.heap.size+5∧Below w.heap.size w X:=by
 subst hX
 have h0:=iM w (cfgL c) 24
 refine⟨⟨?_,?_,?_,?_,?_⟩,by simp,((((Below.refl _ _).alloc (Nat.le_refl _) _).alloc (by simp) _).alloc (by simp;omega) _ |>.alloc (by simp;omega) _).alloc (by simp;omega) _⟩
 ·exact (((((Below.refl _ _).alloc (Nat.le_refl _) _).alloc (by simp) _).alloc (by simp) _).alloc (by simp) _:Below (w.alloc (.cells (cfgL c).toArray 24)).heap.size (w.alloc (.cells (cfgL c).toArray 24)) _).block _ (by simp) |>.trans h0
 ·have h:=Boxed.new (w.alloc (.cells (cfgL c).toArray 24)) 3 (.int .i64 k)
  rw[World.size_alloc] at h
  exact ((h.alloc _).alloc _).alloc _
 ·have h:=Boxed.new ((w.alloc (.cells (cfgL c).toArray 24)).alloc (.cells #[.int .i64 k] 3)) 25 sl
  rw[World.size_alloc,World.size_alloc] at h
  exact (h.alloc _).alloc _
 ·have h:=Boxed.new (((w.alloc (.cells (cfgL c).toArray 24)).alloc (.cells #[.int .i64 k] 3)).alloc (.cells #[sl] 25)) 3 (.int .i64 0)
  rw[World.size_alloc,World.size_alloc,World.size_alloc] at h
  exact h.alloc _
 ·have h:=iM ((((w.alloc (.cells (cfgL c).toArray 24)).alloc (.cells #[.int .i64 k] 3)).alloc (.cells #[sl] 25)).alloc (.cells #[.int .i64 0] 3)) (aB x) 56
  rw[World.size_alloc,World.size_alloc,World.size_alloc,World.size_alloc] at h
  exact h
def aTo (n:Nat) (X:World) (b Bm:Nat) (cs:List aA) (rev:Int) (st0:MS) (o:List Nat) (i:Value) (wr:World):Prop :=
 ∃ j:Nat,i = .int .i64 j∧j≤o.length∧MoAt n X wr b (snS cs rev st0 (o.take j)) j∧Boxed wr Bm tPm (.pointer (some ⟨b,0,none⟩))
theorem aQr {cs:List aA} {rev:Int} {st0:MS} {o:List Nat} {j i:Nat} (h:o[j]? = some i):snS cs rev st0 (o.take (j+1))=xI cs rev (snS cs rev st0 (o.take j)) i:=by
 unfold snS
 rw[List.take_add_one,h,Option.toList_some,List.foldl_append]
 rfl
def SnI (n:Nat) (X:World) (b Bm Bt:Nat) (t:Int) (cs:List aA) (k:Nat) (rs:Int) (st1:MS) (K1 N:Nat) (pre:List (InC N)) (W:World):Prop :=
 ∃ st',(∀ rest,snE cs k rs st1 (pre.map (·.1)++rest)=snE cs k rs st' rest)∧MoAt n X W b st' (K1+pre.length:Nat)∧Boxed W Bm tPm (.pointer (some ⟨b,0,none⟩))∧Boxed W Bt 3 (.int .i64 t)
def SnX (g:Nat) (w:World) (cs:List aA) (k:Nat) (rs:Int) (st1:MS) (N:Nat) (c:Code) (pre:List (InC N)) (W:World):Prop :=
 ∃ r,(∀ rest,snE cs k rs st1 (pre.map (·.1)++rest)=r)∧Below g w W∧((c = .ret∧∃ i:Nat,r=some i∧Boxed W (g+1+1+1) 3 (.int .i64 i))∨(c = .exit 2∧r=none∧Boxed W (g+1+1+1) 3 (.int .i64 0)))
theorem aQs (n:Nat) (X:World) (b Bm Bt:Nat) (t:Int) (cs:List aA) (k:Nat) (rs:Int) (st1:MS) (K1 N B:Nat) (hB:n≤B):OwnFrom B (SnI n X b Bm Bt t cs k rs st1 K1 N):=by
 rintro pre Y Z row ⟨st',h1,h2,h3,h4⟩ hg hr
 exact⟨st',h1,aOa n X b B hB (β:=Unit) (fun _=>st') (fun _=>(K1+pre.length:Nat)) () Y Z row h2 hg hr,(boxed_own (β:=Unit) Bm tPm (fun _ => .pointer (some ⟨b,0,none⟩))).from B () Y Z row h3 hg hr,(boxed_own (β:=Unit) Bt 3 (fun _ => .int .i64 t)).from B () Y Z row h4 hg hr⟩
theorem aQt (g:Nat) (w:World) (cs:List aA) (k:Nat) (rs:Int) (st1:MS) (N B:Nat) (hB:g≤B) (hw:g≤w.heap.size) (c:Code):OwnFrom B (SnX g w cs k rs st1 N c):=by
 rintro pre Y Z row ⟨r,h1,h2,h3⟩ hg hr
 refine⟨r,h1,ownFrom_below (β:=Unit) hw hB () Y Z row h2 hg hr,?_⟩
 rcases h3 with⟨hc,i,hi,hb⟩ | ⟨hc,hi,hb⟩
 ·exact .inl ⟨hc,i,hi,(boxed_own (β:=Unit) (g+1+1+1) 3 (fun _ => .int .i64 i)).from B () Y Z row hb hg hr⟩
 ·exact .inr ⟨hc,hi,(boxed_own (β:=Unit) (g+1+1+1) 3 (fun _ => .int .i64 0)).from B () Y Z row hb hg hr⟩
theorem aD0 (c:CfgV) (k:Nat) (ao:Option Addr) (qo:Nat) (o:List Nat) (p:Option Addr) (cap:Nat) (cs:List aA) (w:World) (hcf:cfgE c=0) (hk:k<cs.length) (hO:IRd w ao (o.map fun (x:Nat)=>(x:Int))) (hoi:∀ i∈o,i<cs.length) (hol:o.length≤1000)
  (hC:CRow w p cap cs) (hs:cs.length≤1000) (hok:∀ x∈cs,x.Ok) (hd:∀ x∈cs,x.ps.length≤1000000) :
  Calls Tryz.prog 97 #[c.v,.int .i64 k,.slice ao o.length qo,.slice p cs.length cap] w fun e w'=>e = .returned (.int .i64 (wG c cs k o))∧Below w.heap.size w w':=by
 have hx:=gM hk
 have hkc:(k:Int)≤1000:=by omega
 have HV:(fun e w'=>e=Ending.returned (.int .i64 (wG c cs k o))∧Below w.heap.size w w')=fun e w'=>e=Ending.returned (.int .i64 (if (getC cs k).rev≠(numP (getC cs k).took cs:Int) then k else snI (snE cs k (getC cs k).rslot (doS (snS cs (getC cs k).rev (newS c) o) (getC cs k).thread (opV (getC cs k))).2 (jJ (getC cs k).thread cs 0))))∧Below w.heap.size w w':=rfl
 rw[HV]
 clear HV
 have hxm:=List.mem_of_getElem? hx
 have hxo:=hok _ hxm
 have hnum:=fun W (hW:Below w.heap.size w W)=>aAr (getC cs k).took p cap cs W (hC.on hW) (by omega)
 generalize getC cs k=x at *
 by_cases hrv:x.rev=(numP x.took cs:Int)
 ·rw[if_neg (by simpa using hrv)]
  have hdr:(x.rev != (numP x.took cs:Int))=false:=by simpa using hrv
  generalize numP x.took cs=N at *
  unfold CfgV.v
  refine (callsIn_wide (n:=4)).1 (callsIn_of_wp_marks Tryz.func97 rfl trivial (wpIn_wide.2 ?_) rfl)
  simp only[Tryz.ntmps97,List.size_toArray,List.length_cons,List.length_nil,Nat.reduceAdd,Nat.reduceSub,Array.replicate_succ,Array.replicate_zero,List.push_toArray,List.append_toArray,List.nil_append,List.cons_append]
  obtain⟨b,off,rfl,hcap,hb,hA⟩:=qF hC (by omega)
  obtain⟨X4,hX4⟩:∃ X4,(((w.alloc (.cells #[.int .i64 c.slots,.int .u64 c.gens,.int .i64 c.clients,.int .i64 c.readers,.int .i64 c.queue,.int .i64 c.batch,.int .i64 c.feed,.string c.text] 24)).alloc (.cells #[.int .i64 k] 3)).alloc (.cells #[.slice (some ⟨b,off,none⟩) cs.length cap] 25)).alloc (.cells #[.int .i64 0] 3)=X4:=⟨_,rfl⟩
  have hB4:Below w.heap.size w X4:=by rw[← hX4];exact ((((Below.refl _ _).alloc (Nat.le_refl _) _).alloc (by simp) _).alloc (by simp;omega) _).alloc (by simp;omega) _
  have hld:=(hA.below hB4 hb).load hx
  have hst:=fD X4 x
  have hz4:X4.heap.size=w.heap.size+1+1+1+1:=by rw[← hX4];simp
  rw[hz4] at hst
  clear hz4
  subst hX4
  go_wp2
  obtain⟨X,hX⟩:∃ X,((((w.alloc (.cells (cfgL c).toArray 24)).alloc (.cells #[.int .i64 k] 3)).alloc (.cells #[.slice (some ⟨b,off,none⟩) cs.length cap] 25)).alloc (.cells #[.int .i64 0] 3)).alloc (.cells (aB x).toArray 56)=X:=⟨_,rfl⟩
  obtain⟨hSB,hXs,hBX⟩:=aJe w c k x _ X hX
  unfold cfgL at hX
  rw[hX]
  clear hst hld hX
  have hS2:∀ W,Below (w.heap.size+5) X W→W.cell? ⟨w.heap.size+1+1+1+1,15,none⟩=some (.int .i64 x.rev)∧W.cell? ⟨w.heap.size+1+1+1+1,10,none⟩=some (.int .i64 x.took)∧W.cell? ⟨w.heap.size+1+1,0,none⟩=some (.slice (some ⟨b,off,none⟩) cs.length cap):=fun W hW =>
   ⟨(aM (hSB.on hXs hW).bx 15).trans (aV x),(aM (hSB.on hXs hW).bx 10).trans (aR x),(hSB.on hXs hW).bl.cell⟩
  refine wp_region_noPanic ?_
  refine wp_region_held_drew (S:=fun W=>W.cell? ⟨w.heap.size+1+1+1+1,15,none⟩=some (.int .i64 x.rev)∧W.cell? ⟨w.heap.size+1+1+1+1,10,none⟩=some (.int .i64 x.took)∧W.cell? ⟨w.heap.size+1+1,0,none⟩=some (.slice (some ⟨b,off,none⟩) cs.length cap)) (by kernel_rfl) ?_ (fun hHeld => ?_)
  ·first | exact hS2 _ (Below.refl _ _) | exact hS2 _ (Below.refl _ _).drew | exact hS2 _ hb2
  iterate 6 (first | (refine aL ?_;(try simp only[nSO])) | ((first | refine np_n ?_ ?_ ?_ | refine np_t 0 ?_ ?_ ?_);rotate_left 1;(· (intro w hSw;(try dsimp only at hSw);go_simp;all_goals with_reducible rfl));(try simp only[nSO])))
  first | (refine np_s 6 ?_;(try simp only[nSO])) | (refine aD (i:=6) rfl (by kernel_rfl) (fun K hK => ?_);rw[if_pos (by rfl)];go_simp;((go_at_call 109;refine (hnum _ hBX.drew).mono ?_;rintro e w2 ⟨rfl,hb2'⟩;have hb2:Below (w.heap.size+5) X w2:=(Below.refl _ _).drew.trans (hb2'.mono (by simp;omega))));(try go_wp2_with fail);refine hK.out _ _ ?_ (fun hHeld => ?_);(· (first | exact hS2 _ (Below.refl _ _) | exact hS2 _ (Below.refl _ _).drew | exact hS2 _ hb2));clear hK K;(try simp only[nSO]))
  first | (refine aL ?_;(try simp only[nSO])) | (refine np_n ?_ ?_ ?_;rotate_left 1;(· (intro w hSw;(try dsimp only at hSw);go_simp;all_goals with_reducible rfl));(try simp only[nSO]))
  refine wpAnyH_done (by kernel_rfl) ?_ _
  refine NoPanic.normal ?_
  have hSB2:=hSB.on hXs hb2
  have ck:=hSB2.bk.cell
  have cr:=hSB2.br.cell
  have fr:=hSB2.br.frozen
  have lc:=sH hSB2.cf
  have hnew:=aNv c X w2 hcf (hb2.mono (by omega))
  clear hnum hS2
  rw[CfgV.v] at hnew
  go_wp2_with (go_at_call 49;refine hnew.mono ?_;rintro e w3 ⟨bm,M,rfl,hR,hst,hb3⟩;clear hb3)
  have hM0:MoAt (w.heap.size+5) X w3 bm (newS c) 0:=⟨⟨M,hR.at_,fun k hk=>by have:=hR.own k hk;omega,hst⟩,aDn hcf,by rw[← hXs];exact hR.bl,by have:=hR.bl.size;omega⟩
  have hbx0:=Boxed.new w3 tPm (.pointer (some ⟨bm,0,none⟩))
  have hM1:=hM0.on ((Below.refl w3.heap.size w3).alloc (Nat.le_refl _) (.cells #[.pointer (some ⟨bm,0,none⟩)] tPm))
  have hBmn:w.heap.size+5≤w3.heap.size:=hM0.le
  clear hM0 hR hst hnew lc ck cr fr hSB2 hb2 hb2'
  have Hrv:=Lib.hid hrv
  clear hrv hdr
  generalize hBme:w3.heap.size=Bm at *
  clear hBme
  go_loopw [13,14,41] (fun x13 x14 i wr=>aTo (w.heap.size+5) X bm Bm cs x.rev (newS c) o i wr) (fun x13 x14 i wr=>o.length-(intOf i).toNat)
  case atStart=>exact⟨0,rfl,by omega,hM1,hbx0⟩
  case round =>
   clear hM1 hbx0
   obtain⟨j,rfl,hj,hM,hBm⟩:=hrel
   have hBw:Below w.heap.size w wr:=hBX.trans (hM.bl.mono (by omega))
   by_cases hlt:j<o.length
   ·obtain⟨i,hi⟩:∃ i,o[j]? = some i:=⟨_,List.getElem?_eq_getElem hlt⟩
    have hic:=hoi i (List.mem_of_getElem? hi)
    obtain⟨bo,oo,rfl,hcc⟩:=yT hO (by rw[List.length_map];omega)
    have hck:=hcc wr hBw j _ (yU hi)
    have hSW:=hSB.on hXs hM.bl
    have hld:=(hA.below hBw hb).load (gM hic)
    have cl:=hSW.bl.cell
    have hyo:=hok _ (List.mem_of_getElem? (gM hic))
    have htk:=aQr (cs:=cs) (rev:=x.rev) (st0:=newS c) hi
    have hgy:getC cs i=getC cs i:=rfl
    generalize hyy:getC cs i=y at hld hyo
    have Hgy:=Lib.hid hyy
    have Htk:=Lib.hid htk
    generalize hSS:snS cs x.rev (newS c) (o.take j)=S at hM
    rw[hSS] at Htk
    clear htk hgy hyy hcc hSS
    have hBa:Below wr.heap.size wr (wr.alloc (.cells (aB y).toArray 56)):=(Below.refl _ _).alloc (Nat.le_refl _) _
    have hMy:=hM.on hBa
    have hz:=iM wr (aB y) 56
    have hF:∀ W,Below (wr.heap.size+1) (wr.alloc (.cells (aB y).toArray 56)) W→W.cell? ⟨Bm,0,none⟩=some (.pointer (some ⟨bm,0,none⟩))∧W.cell? ⟨w.heap.size+1+1+1+1,15,none⟩=some (.int .i64 x.rev)∧W.cell? ⟨wr.heap.size,2,none⟩=some (.int .u8 y.okind)∧W.cell? ⟨wr.heap.size,14,none⟩=some (.int .i64 y.err):=fun W hW=>by
     have hWr:Below wr.heap.size wr W:=hBa.trans (hW.mono (by omega))
     have hx2:=gU hz hW (by omega)
     have hb9:Boxed W Bm tPm (.pointer (some ⟨bm,0,none⟩)):=(hWr.block _ hBm.lt).trans hBm
     exact⟨hb9.cell,(aM (hSB.on hXs (hM.bl.trans (hWr.mono hM.le))).bx 15).trans (aV x),(aM hx2 2).trans (dE y),(aM hx2 14).trans (aS y)⟩
    have hed:=fun W=>aCe y.okind W
    have hek:edK (getC cs i).okind=edK y.okind:=by rw[Hgy.out]
    have hqs:snQ cs x.rev S i=(decide (S.number<x.rev) && edK y.okind && decide (y.err=0)):=by unfold snQ;rw[Hgy.out]
    generalize edK y.okind=ek at hed hqs
    by_cases h1:S.number<x.rev
    ·have d1:decide (S.number<x.rev)=true:=by simpa using h1
     cases ek with
     | false =>
      have hq:snQ cs x.rev S i=false:=by rw[hqs];simp
      clear hqs h1
      have hst2:snS cs x.rev (newS c) (o.take (j+1))=S:=by rw[Htk.out];unfold xI;rw[hq];rfl
      have Hst2:=Lib.hid hst2
      clear hst2 hq
      go_wp2_with fail
      refine wp_region_noPanic ?_
      refine wp_region_held_drew (S:=fun W=>W.cell? ⟨Bm,0,none⟩=some (.pointer (some ⟨bm,0,none⟩))∧W.cell? ⟨w.heap.size+1+1+1+1,15,none⟩=some (.int .i64 x.rev)∧W.cell? ⟨wr.heap.size,2,none⟩=some (.int .u8 y.okind)∧W.cell? ⟨wr.heap.size,14,none⟩=some (.int .i64 y.err)) (by kernel_rfl) ?_ (fun hHeld => ?_)
      ·first | exact hF _ (Below.refl _ _) | exact hF _ (Below.refl _ _).drew
      first | (refine aL ?_;(try simp only[nSO])) | ((first | refine np_n ?_ ?_ ?_ | refine np_t 0 ?_ ?_ ?_);rotate_left 1;(· (intro w hSw;(try dsimp only at hSw);go_simp;all_goals with_reducible rfl));(try simp only[nSO]))
      first | (refine np_s 2 ?_;(try simp only[nSO])) | (refine np_t 2 ?_ ?_ ?_;rotate_left 1;(· (intro w hSw;(try dsimp only at hSw);go_simp;all_goals with_reducible rfl));(try simp only[nSO]))
      iterate 2 (first | (refine aL ?_;(try simp only[nSO])) | (refine np_n ?_ ?_ ?_;rotate_left 1;(· (intro w hSw;(try dsimp only at hSw);go_simp;all_goals with_reducible rfl));(try simp only[nSO])))
      first | (refine np_s 1 ?_;(try simp only[nSO])) | (refine aD (i:=1) rfl (by kernel_rfl) (fun K hK => ?_);rw[if_pos (by rfl)];go_simp;((go_at_call 52;refine (aDz (hMy.on (Below.refl _ _).drew)).mono ?_;rintro e v ⟨rfl,rfl⟩));(try go_wp2_with fail);refine hK.out _ _ ?_ (fun hHeld => ?_);(· (first | exact hF _ (Below.refl _ _) | exact hF _ (Below.refl _ _).drew));clear hK K;(try simp only[nSO]))
      first | (refine np_s 5 ?_;(try simp only[nSO])) | (refine np_t 5 ?_ ?_ ?_;rotate_left 1;(· (intro w hSw;(try dsimp only at hSw);go_simp;all_goals with_reducible rfl));(try simp only[nSO]))
      iterate 4 (first | (refine aL ?_;(try simp only[nSO])) | (refine np_n ?_ ?_ ?_;rotate_left 1;(· (intro w hSw;(try dsimp only at hSw);go_simp;all_goals with_reducible rfl));(try simp only[nSO])))
      first | (refine np_s 10 ?_;(try simp only[nSO])) | (refine aD (i:=10) rfl (by kernel_rfl) (fun K hK => ?_);rw[if_pos (by rfl)];go_simp;((go_at_call 133;refine (hed _).mono ?_;rintro e v ⟨rfl,rfl⟩));(try go_wp2_with fail);refine hK.out _ _ ?_ (fun hHeld => ?_);(· (first | exact hF _ (Below.refl _ _) | exact hF _ (Below.refl _ _).drew));clear hK K;(try simp only[nSO]))
      iterate 7 (first | (refine aL ?_;(try simp only[nSO])) | (refine np_n ?_ ?_ ?_;rotate_left 1;(· (intro w hSw;(try dsimp only at hSw);go_simp;all_goals with_reducible rfl));(try simp only[nSO])))
      refine wpAnyH_done (by kernel_rfl) ?_ _
      refine NoPanic.normal ?_
      go_wp2_with fail
      go_roundw
      case rel=>exact⟨j+1,by go_num,by omega,by rw[Hst2.out];exact ((hMy.on (Below.refl _ _).drew).mono (by push_cast;omega)),hBm.alloc _⟩
      case measure=>simp[intOf];omega
     | true =>
      by_cases h2:y.err=0
      ·have d2:(y.err == 0)=true:=by simpa using h2
       have hq:snQ cs x.rev S i=true:=by rw[hqs,d1];simp[h2]
       clear hqs h1 h2
       have hst2:snS cs x.rev (newS c) (o.take (j+1))=(doS S y.thread (opV y)).2:=by rw[Htk.out];unfold xI;rw[hq,Hgy.out];rfl
       have Hst2:=Lib.hid hst2
       clear hst2 hq
       have hdo:=aRw (hMy.on (Below.refl _ _).drew) (by omega) hyo
       obtain⟨cm,_,_,_⟩:=hF _ (Below.refl _ _)
       obtain⟨cm',_,_,_⟩:=hF _ (Below.refl _ _).drew
       have ct:=(aM hz 0).trans (dB y)
       have lo:=wB y hz
       have lo':(tN (.pointer (some ⟨wr.heap.size,2,none⟩))).run Tryz.prog (wr.alloc (.cells (aB y).toArray 56)).drew = .ok (.agg (opL y).toArray) (wr.alloc (.cells (aB y).toArray 56)).drew:=wB y hz
       go_wp2_with fail
       refine wp_region_noPanic ?_
       refine wp_region_held_drew (S:=fun W=>W.cell? ⟨Bm,0,none⟩=some (.pointer (some ⟨bm,0,none⟩))∧W.cell? ⟨w.heap.size+1+1+1+1,15,none⟩=some (.int .i64 x.rev)∧W.cell? ⟨wr.heap.size,2,none⟩=some (.int .u8 y.okind)∧W.cell? ⟨wr.heap.size,14,none⟩=some (.int .i64 y.err)) (by kernel_rfl) ?_ (fun hHeld => ?_)
       ·first | exact hF _ (Below.refl _ _) | exact hF _ (Below.refl _ _).drew
       first | (refine aL ?_;(try simp only[nSO])) | ((first | refine np_n ?_ ?_ ?_ | refine np_t 0 ?_ ?_ ?_);rotate_left 1;(· (intro w hSw;(try dsimp only at hSw);go_simp;all_goals with_reducible rfl));(try simp only[nSO]))
       first | (refine np_s 2 ?_;(try simp only[nSO])) | (refine np_t 2 ?_ ?_ ?_;rotate_left 1;(· (intro w hSw;(try dsimp only at hSw);go_simp;all_goals with_reducible rfl));(try simp only[nSO]))
       iterate 2 (first | (refine aL ?_;(try simp only[nSO])) | (refine np_n ?_ ?_ ?_;rotate_left 1;(· (intro w hSw;(try dsimp only at hSw);go_simp;all_goals with_reducible rfl));(try simp only[nSO])))
       first | (refine np_s 1 ?_;(try simp only[nSO])) | (refine aD (i:=1) rfl (by kernel_rfl) (fun K hK => ?_);rw[if_pos (by rfl)];go_simp;((go_at_call 52;refine (aDz (hMy.on (Below.refl _ _).drew)).mono ?_;rintro e v ⟨rfl,rfl⟩));(try go_wp2_with fail);refine hK.out _ _ ?_ (fun hHeld => ?_);(· (first | exact hF _ (Below.refl _ _) | exact hF _ (Below.refl _ _).drew));clear hK K;(try simp only[nSO]))
       first | (refine np_s 5 ?_;(try simp only[nSO])) | (refine np_t 5 ?_ ?_ ?_;rotate_left 1;(· (intro w hSw;(try dsimp only at hSw);go_simp;all_goals with_reducible rfl));(try simp only[nSO]))
       iterate 4 (first | (refine aL ?_;(try simp only[nSO])) | (refine np_n ?_ ?_ ?_;rotate_left 1;(· (intro w hSw;(try dsimp only at hSw);go_simp;all_goals with_reducible rfl));(try simp only[nSO])))
       first | (refine np_s 10 ?_;(try simp only[nSO])) | (refine aD (i:=10) rfl (by kernel_rfl) (fun K hK => ?_);rw[if_pos (by rfl)];go_simp;((go_at_call 133;refine (hed _).mono ?_;rintro e v ⟨rfl,rfl⟩));(try go_wp2_with fail);refine hK.out _ _ ?_ (fun hHeld => ?_);(· (first | exact hF _ (Below.refl _ _) | exact hF _ (Below.refl _ _).drew));clear hK K;(try simp only[nSO]))
       iterate 7 (first | (refine aL ?_;(try simp only[nSO])) | (refine np_n ?_ ?_ ?_;rotate_left 1;(· (intro w hSw;(try dsimp only at hSw);go_simp;all_goals with_reducible rfl));(try simp only[nSO])))
       refine wpAnyH_done (by kernel_rfl) ?_ _
       refine NoPanic.normal ?_
       go_wp2_with (go_at_call 50;refine hdo.mono ?_;rintro e w5 ⟨v,rfl,hM5,hfr5,_⟩)
       go_roundw
       case rel=>exact⟨j+1,by go_num,by omega,by rw[Hst2.out];exact hM5.mono (by push_cast;omega),hfr5.box (hBm.alloc (.cells (aB y).toArray 56)) (by decide)⟩
       case measure=>simp[intOf];omega
      ·have d2:(y.err == 0)=false:=by simpa using h2
       have hq:snQ cs x.rev S i=false:=by rw[hqs];simp[h2]
       clear hqs h1 h2
       have hst2:snS cs x.rev (newS c) (o.take (j+1))=S:=by rw[Htk.out];unfold xI;rw[hq];rfl
       have Hst2:=Lib.hid hst2
       clear hst2 hq
       go_wp2_with fail
       refine wp_region_noPanic ?_
       refine wp_region_held_drew (S:=fun W=>W.cell? ⟨Bm,0,none⟩=some (.pointer (some ⟨bm,0,none⟩))∧W.cell? ⟨w.heap.size+1+1+1+1,15,none⟩=some (.int .i64 x.rev)∧W.cell? ⟨wr.heap.size,2,none⟩=some (.int .u8 y.okind)∧W.cell? ⟨wr.heap.size,14,none⟩=some (.int .i64 y.err)) (by kernel_rfl) ?_ (fun hHeld => ?_)
       ·first | exact hF _ (Below.refl _ _) | exact hF _ (Below.refl _ _).drew
       first | (refine aL ?_;(try simp only[nSO])) | ((first | refine np_n ?_ ?_ ?_ | refine np_t 0 ?_ ?_ ?_);rotate_left 1;(· (intro w hSw;(try dsimp only at hSw);go_simp;all_goals with_reducible rfl));(try simp only[nSO]))
       first | (refine np_s 2 ?_;(try simp only[nSO])) | (refine np_t 2 ?_ ?_ ?_;rotate_left 1;(· (intro w hSw;(try dsimp only at hSw);go_simp;all_goals with_reducible rfl));(try simp only[nSO]))
       iterate 2 (first | (refine aL ?_;(try simp only[nSO])) | (refine np_n ?_ ?_ ?_;rotate_left 1;(· (intro w hSw;(try dsimp only at hSw);go_simp;all_goals with_reducible rfl));(try simp only[nSO])))
       first | (refine np_s 1 ?_;(try simp only[nSO])) | (refine aD (i:=1) rfl (by kernel_rfl) (fun K hK => ?_);rw[if_pos (by rfl)];go_simp;((go_at_call 52;refine (aDz (hMy.on (Below.refl _ _).drew)).mono ?_;rintro e v ⟨rfl,rfl⟩));(try go_wp2_with fail);refine hK.out _ _ ?_ (fun hHeld => ?_);(· (first | exact hF _ (Below.refl _ _) | exact hF _ (Below.refl _ _).drew));clear hK K;(try simp only[nSO]))
       first | (refine np_s 5 ?_;(try simp only[nSO])) | (refine np_t 5 ?_ ?_ ?_;rotate_left 1;(· (intro w hSw;(try dsimp only at hSw);go_simp;all_goals with_reducible rfl));(try simp only[nSO]))
       iterate 4 (first | (refine aL ?_;(try simp only[nSO])) | (refine np_n ?_ ?_ ?_;rotate_left 1;(· (intro w hSw;(try dsimp only at hSw);go_simp;all_goals with_reducible rfl));(try simp only[nSO])))
       first | (refine np_s 10 ?_;(try simp only[nSO])) | (refine aD (i:=10) rfl (by kernel_rfl) (fun K hK => ?_);rw[if_pos (by rfl)];go_simp;((go_at_call 133;refine (hed _).mono ?_;rintro e v ⟨rfl,rfl⟩));(try go_wp2_with fail);refine hK.out _ _ ?_ (fun hHeld => ?_);(· (first | exact hF _ (Below.refl _ _) | exact hF _ (Below.refl _ _).drew));clear hK K;(try simp only[nSO]))
       iterate 7 (first | (refine aL ?_;(try simp only[nSO])) | (refine np_n ?_ ?_ ?_;rotate_left 1;(· (intro w hSw;(try dsimp only at hSw);go_simp;all_goals with_reducible rfl));(try simp only[nSO])))
       refine wpAnyH_done (by kernel_rfl) ?_ _
       refine NoPanic.normal ?_
       go_wp2_with fail
       go_roundw
       case rel=>exact⟨j+1,by go_num,by omega,by rw[Hst2.out];exact ((hMy.on (Below.refl _ _).drew).mono (by push_cast;omega)),hBm.alloc _⟩
       case measure=>simp[intOf];omega
    ·have d1:decide (S.number<x.rev)=false:=by simpa using h1
     have hq:snQ cs x.rev S i=false:=by rw[hqs,d1];simp
     clear hqs h1
     have hst2:snS cs x.rev (newS c) (o.take (j+1))=S:=by rw[Htk.out];unfold xI;rw[hq];rfl
     have Hst2:=Lib.hid hst2
     clear hst2 hq
     go_wp2_with fail
     refine wp_region_noPanic ?_
     refine wp_region_held_drew (S:=fun W=>W.cell? ⟨Bm,0,none⟩=some (.pointer (some ⟨bm,0,none⟩))∧W.cell? ⟨w.heap.size+1+1+1+1,15,none⟩=some (.int .i64 x.rev)∧W.cell? ⟨wr.heap.size,2,none⟩=some (.int .u8 y.okind)∧W.cell? ⟨wr.heap.size,14,none⟩=some (.int .i64 y.err)) (by kernel_rfl) ?_ (fun hHeld => ?_)
     ·first | exact hF _ (Below.refl _ _) | exact hF _ (Below.refl _ _).drew
     first | (refine aL ?_;(try simp only[nSO])) | ((first | refine np_n ?_ ?_ ?_ | refine np_t 0 ?_ ?_ ?_);rotate_left 1;(· (intro w hSw;(try dsimp only at hSw);go_simp;all_goals with_reducible rfl));(try simp only[nSO]))
     first | (refine np_s 2 ?_;(try simp only[nSO])) | (refine np_t 2 ?_ ?_ ?_;rotate_left 1;(· (intro w hSw;(try dsimp only at hSw);go_simp;all_goals with_reducible rfl));(try simp only[nSO]))
     iterate 2 (first | (refine aL ?_;(try simp only[nSO])) | (refine np_n ?_ ?_ ?_;rotate_left 1;(· (intro w hSw;(try dsimp only at hSw);go_simp;all_goals with_reducible rfl));(try simp only[nSO])))
     first | (refine np_s 1 ?_;(try simp only[nSO])) | (refine aD (i:=1) rfl (by kernel_rfl) (fun K hK => ?_);rw[if_pos (by rfl)];go_simp;((go_at_call 52;refine (aDz (hMy.on (Below.refl _ _).drew)).mono ?_;rintro e v ⟨rfl,rfl⟩));(try go_wp2_with fail);refine hK.out _ _ ?_ (fun hHeld => ?_);(· (first | exact hF _ (Below.refl _ _) | exact hF _ (Below.refl _ _).drew));clear hK K;(try simp only[nSO]))
     first | (refine np_s 5 ?_;(try simp only[nSO])) | (refine np_t 5 ?_ ?_ ?_;rotate_left 1;(· (intro w hSw;(try dsimp only at hSw);go_simp;all_goals with_reducible rfl));(try simp only[nSO]))
     iterate 4 (first | (refine aL ?_;(try simp only[nSO])) | (refine np_n ?_ ?_ ?_;rotate_left 1;(· (intro w hSw;(try dsimp only at hSw);go_simp;all_goals with_reducible rfl));(try simp only[nSO])))
     first | (refine np_s 10 ?_;(try simp only[nSO])) | (refine aD (i:=10) rfl (by kernel_rfl) (fun K hK => ?_);rw[if_pos (by rfl)];go_simp;((go_at_call 133;refine (hed _).mono ?_;rintro e v ⟨rfl,rfl⟩));(try go_wp2_with fail);refine hK.out _ _ ?_ (fun hHeld => ?_);(· (first | exact hF _ (Below.refl _ _) | exact hF _ (Below.refl _ _).drew));clear hK K;(try simp only[nSO]))
     iterate 7 (first | (refine aL ?_;(try simp only[nSO])) | (refine np_n ?_ ?_ ?_;rotate_left 1;(· (intro w hSw;(try dsimp only at hSw);go_simp;all_goals with_reducible rfl));(try simp only[nSO])))
     refine wpAnyH_done (by kernel_rfl) ?_ _
     refine NoPanic.normal ?_
     go_wp2_with fail
     go_roundw
     case rel=>exact⟨j+1,by go_num,by omega,by rw[Hst2.out];exact ((hMy.on (Below.refl _ _).drew).mono (by push_cast;omega)),hBm.alloc _⟩
     case measure=>simp[intOf];omega
   ·obtain rfl:j=o.length:=by omega
    rw[List.take_length] at hM
    have hSW:=hSB.on hXs hM.bl
    have hdo:=aRw hM (by omega) hxo
    generalize hSS:snS cs x.rev (newS c) o=S at *
    have HS:=Lib.hid hSS
    clear hSS
    have cm:=hBm.cell
    have ct:=(aM hSW.bx 0).trans (dB x)
    have lo:=wB x hSW.bx
    go_wp2_with (first | (go_at_call 50;refine hdo.mono ?_;rintro e w5 ⟨v5,rfl,hM5,hfr5,_⟩;have hBm5:=hfr5.box hBm (by decide);have hS5:=hSB.on hXs hM5.bl;have ct5:=(aM hS5.bx 0).trans (dB x);have cl5:=hS5.bl.cell) | (go_at_call 107;refine (aJd _ _ _ _ _).mono ?_;rintro e w6 ⟨rfl,rfl⟩))
    have hbt:=(Boxed.new w5 3 (.int .i64 x.thread)).alloc (.cells #[.slice (some ⟨b,off,none⟩) cs.length cap] 25)
    have hbl:=Boxed.new (w5.alloc (.cells #[.int .i64 x.thread] 3)) 25 (.slice (some ⟨b,off,none⟩) cs.length cap)
    rw[World.size_alloc] at hbl
    have hM6:=(hM5.on ((Below.refl w5.heap.size w5).alloc (Nat.le_refl _) (.cells #[.int .i64 x.thread] 3))).on ((Below.refl _ _).alloc (Nat.le_refl _) (.cells #[.slice (some ⟨b,off,none⟩) cs.length cap] 25))
    have hBm6:=(hBm5.alloc (.cells #[.int .i64 x.thread] 3)).alloc (.cells #[.slice (some ⟨b,off,none⟩) cs.length cap] 25)
    have hn6:((w5.alloc (.cells #[.int .i64 x.thread] 3)).alloc (.cells #[.slice (some ⟨b,off,none⟩) cs.length cap] 25)).heap.size=w5.heap.size+2:=by simp
    have hle5:=hM5.le
    clear hM5 hBm5 hS5 ct5 cl5 hfr5 hdo hM hBm cm ct lo hSW
    generalize ((w5.alloc (.cells #[.int .i64 x.thread] 3)).alloc (.cells #[.slice (some ⟨b,off,none⟩) cs.length cap] 25))=Y at *
    generalize w5.heap.size=B5 at *
    generalize hS1:(doS S x.thread (opV x)).2=S1 at *
    have HS1:=Lib.hid hS1
    clear hS1
    have hCY:CRow Y (some ⟨b,off,none⟩) cap cs:=hC.on (hBX.trans (hM6.bl.mono (by omega)))
    refine (wpIn_wide (n:=4)).1 ?_
    refine wpIn_rangeFunc_ownF rfl (by omega) (gf:=158) (lb := #[.pointer (some ⟨B5+1,0,none⟩),.pointer (some ⟨B5,0,none⟩)]) rfl trivial (enters_of Tryz.func158 (by kernel_rfl) rfl)
     (yB cs.length 3 (by omega) _ _ cap (fun i=>i<w.heap.size+5∨i=B5) _ cs rfl x.thread (by omega) Y hbl.cell hbt.cell hCY (by intro i hi;omega) (by omega) (by omega) (by intro b' o' e;cases e;omega))
     gL.trans (zC (by intro i hi;omega)) (Below.refl _ _) (fun _=>rfl)
     (SnI (w.heap.size+5) X bm Bm B5 x.thread cs k x.rslot S1 (o.length+1) cs.length) (SnX w.heap.size w cs k x.rslot S1 cs.length) (aQs _ _ _ _ _ _ _ _ _ _ _ _ _ (by omega)) (aQt _ _ _ _ _ _ _ _ (by omega) (by omega)) ⟨S1,fun _=>rfl,hM6.mono (by push_cast;simp),hBm6,hbt⟩ ?a1 ?assign ?body ?done ?stop
    case assign =>
     intro l x W K hK
     gi_wp2
     exact hK
    case body =>
     rintro l pre i W ⟨st',hE,hM,hBm,hBt⟩ hlen
     have hyc:=gM i.2
     have hyo:=hok _ (List.mem_of_getElem? hyc)
     have hyd:=hd _ (List.mem_of_getElem? hyc)
     have hSW:=hSB.on hXs hM.bl
     have hld:=(hA.below (hBX.trans (hM.bl.mono (by omega))) hb).load hyc
     have cl:=hSW.bl.cell
     have ck:=hSW.bk.cell
     have cm:=hBm.cell
     have crs:=(aM hSW.bx 16).trans (aY x)
     have hE2:∀ {r:Nat},True:=trivial
     have hEx:∀ rest,snE cs k x.rslot S1 ((pre++[i]).map (·.1)++rest)=snE cs k x.rslot st' (i.1::rest):=fun rest=>by
      rw[List.map_append,List.append_assoc,hE];rfl
     have hE1:∀ rest,snE cs k x.rslot st' (i.1::rest)=if oC k x.rslot i.1 (getC cs i.1) then snE cs k x.rslot st' rest else if (aAs st' (getC cs i.1)).1 then (if yC (getC cs i.1) then none else snE cs k x.rslot (aAs st' (getC cs i.1)).2 rest) else some i.1:=fun _=>rfl
     have hq:∀ j,(j<w.heap.size+5∨j=B5)→j<W.heap.size:=by have h8:=hBt.lt;have h9:=hM.le;intro j hj;omega
     have hBa:Below W.heap.size W (W.alloc (.cells (aB (getC cs i.1)).toArray 56)):=(Below.refl _ _).alloc (Nat.le_refl _) _
     generalize getC cs i.1=y at *
     have HEx:=Lib.hid hEx
     have HE1:=Lib.hid hE1
     clear hEx hE1 hE hE2
     obtain⟨i,hi⟩:=i
     dsimp only at *
     by_cases s1:i≤k
     ·have e1:decide (i≤k)=true:=by simpa using s1
      have hsk:oC k x.rslot i y=true:=by unfold oC;simp[s1]
      (try clear s1)
      gi_wp2
      exact⟨KeepsOthers.alloc W _,gL.alloc hq _,st',fun rest=>by rw[HEx.out,HE1.out,if_pos hsk],(hM.on hBa).mono (by simp;omega),hBm.alloc _,hBt.alloc _⟩
     ·have e1:decide (i≤k)=false:=by simpa using s1
      by_cases s2:y.oslot=x.rslot
      ·have e2:(y.oslot != x.rslot)=false:=by simpa using s2
       by_cases s3:y.okind<6
       ·have e3:decide (y.okind<6)=true:=by simpa using s3
        have hsk:oC k x.rslot i y=true:=by unfold oC;simp[s3]
        (try clear s1)
        gi_wp2
        exact⟨KeepsOthers.alloc W _,gL.alloc hq _,st',fun rest=>by rw[HEx.out,HE1.out,if_pos hsk],(hM.on hBa).mono (by simp;omega),hBm.alloc _,hBt.alloc _⟩
       ·have e3:decide (y.okind<6)=false:=by simpa using s3
        by_cases s4:13<y.okind
        ·have e4:decide (13<y.okind)=true:=by simpa using s4
         have hsk:oC k x.rslot i y=true:=by unfold oC;simp[s4]
         (try clear s1)
         gi_wp2
         exact⟨KeepsOthers.alloc W _,gL.alloc hq _,st',fun rest=>by rw[HEx.out,HE1.out,if_pos hsk],(hM.on hBa).mono (by simp;omega),hBm.alloc _,hBt.alloc _⟩
        ·have e4:decide (13<y.okind)=false:=by simpa using s4
         have hsk:oC k x.rslot i y=false:=by unfold oC;simp[s1,s2,s3,s4]
         clear s1
         have hz0:=iM W (aB y) 56
         have lo1:=wB y hz0
         have hso:=aQp (W.alloc (.cells (aB y).toArray 56)) y
         rw[World.size_alloc] at hso
         have hB7a:Below (W.heap.size+1) (W.alloc (.cells (aB y).toArray 56)) ((W.alloc (.cells (aB y).toArray 56)).alloc (.cells (opL (nW y)).toArray 54)):=(Below.refl _ _).alloc (by simp) _
         have hB7:=hBa.trans (hB7a.mono (by omega))
         have hM7:=hM.on hB7
         have hz7:=gU hz0 hB7a (by simp)
         have ho7:=iM (W.alloc (.cells (aB y).toArray 56)) (opL (nW y)) 54
         rw[World.size_alloc] at ho7
         have hb7:Boxed ((W.alloc (.cells (aB y).toArray 56)).alloc (.cells (opL (nW y)).toArray 54)) Bm tPm (.pointer (some ⟨bm,0,none⟩)):=(hBm.alloc _).alloc _
         have ht7:Boxed ((W.alloc (.cells (aB y).toArray 56)).alloc (.cells (opL (nW y)).toArray 54)) B5 3 (.int .i64 x.thread):=(hBt.alloc _).alloc _
         have cm7:=hb7.cell
         have ct7:=(aM hz7 0).trans (dB y)
         have lo7:=aQq (nW y) ho7
         have lr7:=aG0 y hz7
         have hacc:Calls Tryz.prog 53 #[.pointer (some ⟨bm,0,none⟩),.int .i64 y.thread,.agg (opL (nW y)).toArray,.agg (Hs.resL y).toArray] ((W.alloc (.cells (aB y).toArray 56)).alloc (.cells (opL (nW y)).toArray 54)) fun e W'=>e = .returned (.bool (aAs st' y).1)∧MoAt (w.heap.size+5) X W' bm (aAs st' y).2 ((o.length+1+pre.length:Nat)+1)∧FrT MTy (w.heap.size+5) ((W.alloc (.cells (aB y).toArray 56)).alloc (.cells (opL (nW y)).toArray 54)) W'∧KeepsOthers ((W.alloc (.cells (aB y).toArray 56)).alloc (.cells (opL (nW y)).toArray 54)) W':=aSk (c:=nW y) hM7 (by push_cast;omega) (aN9 hyo) hyd rfl
         have hko7:KeepsOthers W ((W.alloc (.cells (aB y).toArray 56)).alloc (.cells (opL (nW y)).toArray 54)):=(KeepsOthers.alloc _ _).trans (KeepsOthers.alloc _ _)
         have hkb7:gL (fun i=>i<w.heap.size+5∨i=B5) W ((W.alloc (.cells (aB y).toArray 56)).alloc (.cells (opL (nW y)).toArray 54)):=gL.of_below hB7 hq
         rcases hac:aAs st' y with⟨a,S2⟩
         rw[hac] at hacc
         have Hac:=Lib.hid hac
         clear hac
         cases a with
         | false =>
          gi_wp2_with (refine⟨trivial,?_⟩;refine (CallsIn.inRound l (callsIn_wide.2 hacc)).mono ?_;rintro e W8 ⟨rfl,hM8,hfr8,hko8⟩;have hbr8:=(hSB.on hXs hM8.bl).br;have cr8:=hbr8.cell;have fr8:=hbr8.frozen)
          exact⟨(hko7.trans hko8).trans (KeepsOthers.setCell _ _ _),some i,fun rest=>by rw[HEx.out,HE1.out,hsk,Hac.out];rfl,(hBX.trans (hM8.bl.mono (by omega))).setCell (p:=⟨w.heap.size+1+1+1,0,none⟩) (by simp;omega) _,.inl ⟨rfl,i,rfl,hbr8.set _⟩⟩
         | true =>
          by_cases s5:y.okind=13
          ·have e5:(y.okind == 13)=true:=by simpa using s5
           by_cases s6:y.err=0
           ·have e6:(y.err == 0)=true:=by simpa using s6
            have hen:yC y=true:=by unfold yC;simp[s5,s6]
            clear s5 s6
            gi_wp2_with (refine⟨trivial,?_⟩;refine (CallsIn.inRound l (callsIn_wide.2 hacc)).mono ?_;rintro e W8 ⟨rfl,hM8,hfr8,hko8⟩;have hz8:=hfr8.ty _ _ _ _ hz7 (by decide);have ho8:=hfr8.ty _ _ _ _ ho7 (by decide);have cz8:=(aM hz8 14).trans (aS y);have co8:W8.cell? ⟨W.heap.size+1,0,none⟩=some (.int .u8 y.okind):=aM ho8 0)
            exact⟨hko7.trans hko8,none,fun rest=>by rw[HEx.out,HE1.out,hsk,Hac.out,hen];rfl,hBX.trans (hM8.bl.mono (by omega)),.inr ⟨rfl,rfl,(hSB.on hXs hM8.bl).br⟩⟩
           ·have e6:(y.err == 0)=false:=by simpa using s6
            have hen:yC y=false:=by unfold yC;simp[s6]
            clear s5 s6
            gi_wp2_with (refine⟨trivial,?_⟩;refine (CallsIn.inRound l (callsIn_wide.2 hacc)).mono ?_;rintro e W8 ⟨rfl,hM8,hfr8,hko8⟩;have hz8:=hfr8.ty _ _ _ _ hz7 (by decide);have ho8:=hfr8.ty _ _ _ _ ho7 (by decide);have cz8:=(aM hz8 14).trans (aS y);have co8:W8.cell? ⟨W.heap.size+1,0,none⟩=some (.int .u8 y.okind):=aM ho8 0)
            have hkb8:gL (fun i=>i<w.heap.size+5∨i=B5) ((W.alloc (.cells (aB y).toArray 56)).alloc (.cells (opL (nW y)).toArray 54)) W8:=⟨hfr8.bl.size,fun j hj=>hj.elim (fun h=>hfr8.bl.block j h) (fun h=>by subst h;exact (hfr8.box ht7 (by decide):_=_).trans (Eq.symm ht7))⟩
            exact⟨hko7.trans hko8,hkb7.trans hkb8,S2,fun rest=>by rw[HEx.out,HE1.out,hsk,Hac.out,hen];rfl,hM8.mono (by simp;omega),hfr8.box hb7 (by decide),hfr8.box ht7 (by decide)⟩
          ·have e5:(y.okind == 13)=false:=by simpa using s5
           have hen:yC y=false:=by unfold yC;simp[s5]
           clear s5
           gi_wp2_with (refine⟨trivial,?_⟩;refine (CallsIn.inRound l (callsIn_wide.2 hacc)).mono ?_;rintro e W8 ⟨rfl,hM8,hfr8,hko8⟩;have hz8:=hfr8.ty _ _ _ _ hz7 (by decide);have ho8:=hfr8.ty _ _ _ _ ho7 (by decide);have cz8:=(aM hz8 14).trans (aS y);have co8:W8.cell? ⟨W.heap.size+1,0,none⟩=some (.int .u8 y.okind):=aM ho8 0)
           have hkb8:gL (fun i=>i<w.heap.size+5∨i=B5) ((W.alloc (.cells (aB y).toArray 56)).alloc (.cells (opL (nW y)).toArray 54)) W8:=⟨hfr8.bl.size,fun j hj=>hj.elim (fun h=>hfr8.bl.block j h) (fun h=>by subst h;exact (hfr8.box ht7 (by decide):_=_).trans (Eq.symm ht7))⟩
           exact⟨hko7.trans hko8,hkb7.trans hkb8,S2,fun rest=>by rw[HEx.out,HE1.out,hsk,Hac.out,hen];rfl,hM8.mono (by simp;omega),hfr8.box hb7 (by decide),hfr8.box ht7 (by decide)⟩
      ·have e2:(y.oslot != x.rslot)=true:=by simpa using s2
       have hsk:oC k x.rslot i y=true:=by unfold oC;simp[s2]
       (try clear s1)
       gi_wp2
       exact⟨KeepsOthers.alloc W _,gL.alloc hq _,st',fun rest=>by rw[HEx.out,HE1.out,if_pos hsk],(hM.on hBa).mono (by simp;omega),hBm.alloc _,hBt.alloc _⟩
    case done =>
     rintro D ys W hD hys ⟨st',hE,hM,hBm,hBt⟩ hK
     have hSW:=hSB.on hXs hM.bl
     have cr:=hSW.br.cell
     have fr:=hSW.br.frozen
     have hbr:=hSW.br
     have hE0:=hE []
     rw[List.append_nil,hys] at hE0
     have hBW:=hBX.trans (hM.bl.mono (by omega):Below w.heap.size X W)
     clear hM hSW
     have hBf:=hBW.setCell (p:=⟨w.heap.size+1+1+1,0,none⟩) (by simp;omega) (.int .i64 (-1))
     have hbf:=hbr.set (.int .i64 (-1))
     have hK2:=(Below.heap_setCell W ⟨w.heap.size+1+1+1,0,none⟩ (.int .i64 (-1)) D (by simp;omega)).trans hK
     go_wp2
     refine gQ (n₀:=w.heap.size+5) _ _ ⟨D,rfl,by omega,hK2,fun _ h=>(by cases h),trivial⟩ (fun w' hw' => ?_)
     have hb9:Boxed w' (w.heap.size+1+1+1) 3 (.int .i64 (-1)):=(hw'.block _ (by omega)).trans hbf
     have c9:=hb9.cell
     exact⟨.int .i64 (-1),by simp[results,Tryz.f97,go_sem,c9],by rw[HS.out,HS1.out,hE0];rfl,hBf.trans (hw'.mono (by omega))⟩
    case stop =>
     rintro D c' pre W hD hp ⟨r,hE,hBW,⟨rfl,i,hr,hb⟩ | ⟨rfl,hr,hb⟩⟩ hK
     ·obtain⟨tl,htl⟩:=hp
      have hE0:=hE tl
      rw[htl,hr] at hE0
      gi_wp2
      refine gQ (n₀:=w.heap.size+5) _ _ ⟨D,rfl,by omega,hK,fun _ h=>(by cases h),trivial⟩ (fun w' hw' => ?_)
      have hb9:Boxed w' (w.heap.size+1+1+1) 3 (.int .i64 i):=(hw'.block _ (by omega)).trans hb
      have c9:=hb9.cell
      exact⟨.int .i64 i,by simp[results,Tryz.f97,go_sem,c9],by rw[HS.out,HS1.out,hE0];rfl,hBW.trans (hw'.mono (by omega))⟩
     ·obtain⟨tl,htl⟩:=hp
      have hE0:=hE tl
      rw[htl,hr] at hE0
      have cr:=hb.cell
      have fr:=hb.frozen
      have hbr:=hb
      gi_wp2
      have hBf:=hBW.setCell (p:=⟨w.heap.size+1+1+1,0,none⟩) (by simp;omega) (.int .i64 (-1))
      have hbf:=hbr.set (.int .i64 (-1))
      have hK2:=(Below.heap_setCell W ⟨w.heap.size+1+1+1,0,none⟩ (.int .i64 (-1)) D (by simp;omega)).trans hK
      go_wp2
      refine gQ (n₀:=w.heap.size+5) _ _ ⟨D,rfl,by omega,hK2,fun _ h=>(by cases h),trivial⟩ (fun w' hw' => ?_)
      have hb9:Boxed w' (w.heap.size+1+1+1) 3 (.int .i64 (-1)):=(hw'.block _ (by omega)).trans hbf
      have c9:=hb9.cell
      exact⟨.int .i64 (-1),by simp[results,Tryz.f97,go_sem,c9],by rw[HS.out,HS1.out,hE0];rfl,hBf.trans (hw'.mono (by omega))⟩
 ·rw[if_pos hrv]
  have hdr:(x.rev != (numP x.took cs:Int))=true:=by simpa using hrv
  generalize numP x.took cs=N at *
  unfold CfgV.v
  refine (callsIn_wide (n:=4)).1 (callsIn_of_wp_marks Tryz.func97 rfl trivial (wpIn_wide.2 ?_) rfl)
  simp only[Tryz.ntmps97,List.size_toArray,List.length_cons,List.length_nil,Nat.reduceAdd,Nat.reduceSub,Array.replicate_succ,Array.replicate_zero,List.push_toArray,List.append_toArray,List.nil_append,List.cons_append]
  obtain⟨b,off,rfl,hcap,hb,hA⟩:=qF hC (by omega)
  obtain⟨X4,hX4⟩:∃ X4,(((w.alloc (.cells #[.int .i64 c.slots,.int .u64 c.gens,.int .i64 c.clients,.int .i64 c.readers,.int .i64 c.queue,.int .i64 c.batch,.int .i64 c.feed,.string c.text] 24)).alloc (.cells #[.int .i64 k] 3)).alloc (.cells #[.slice (some ⟨b,off,none⟩) cs.length cap] 25)).alloc (.cells #[.int .i64 0] 3)=X4:=⟨_,rfl⟩
  have hB4:Below w.heap.size w X4:=by rw[← hX4];exact ((((Below.refl _ _).alloc (Nat.le_refl _) _).alloc (by simp) _).alloc (by simp;omega) _).alloc (by simp;omega) _
  have hld:=(hA.below hB4 hb).load hx
  have hst:=fD X4 x
  have hz4:X4.heap.size=w.heap.size+1+1+1+1:=by rw[← hX4];simp
  rw[hz4] at hst
  clear hz4
  subst hX4
  go_wp2
  obtain⟨X,hX⟩:∃ X,((((w.alloc (.cells (cfgL c).toArray 24)).alloc (.cells #[.int .i64 k] 3)).alloc (.cells #[.slice (some ⟨b,off,none⟩) cs.length cap] 25)).alloc (.cells #[.int .i64 0] 3)).alloc (.cells (aB x).toArray 56)=X:=⟨_,rfl⟩
  obtain⟨hSB,hXs,hBX⟩:=aJe w c k x _ X hX
  unfold cfgL at hX
  rw[hX]
  clear hst hld hX
  have hS2:∀ W,Below (w.heap.size+5) X W→W.cell? ⟨w.heap.size+1+1+1+1,15,none⟩=some (.int .i64 x.rev)∧W.cell? ⟨w.heap.size+1+1+1+1,10,none⟩=some (.int .i64 x.took)∧W.cell? ⟨w.heap.size+1+1,0,none⟩=some (.slice (some ⟨b,off,none⟩) cs.length cap):=fun W hW =>
   ⟨(aM (hSB.on hXs hW).bx 15).trans (aV x),(aM (hSB.on hXs hW).bx 10).trans (aR x),(hSB.on hXs hW).bl.cell⟩
  refine wp_region_noPanic ?_
  refine wp_region_held_drew (S:=fun W=>W.cell? ⟨w.heap.size+1+1+1+1,15,none⟩=some (.int .i64 x.rev)∧W.cell? ⟨w.heap.size+1+1+1+1,10,none⟩=some (.int .i64 x.took)∧W.cell? ⟨w.heap.size+1+1,0,none⟩=some (.slice (some ⟨b,off,none⟩) cs.length cap)) (by kernel_rfl) ?_ (fun hHeld => ?_)
  ·first | exact hS2 _ (Below.refl _ _) | exact hS2 _ (Below.refl _ _).drew | exact hS2 _ hb2
  iterate 6 (first | (refine aL ?_;(try simp only[nSO])) | ((first | refine np_n ?_ ?_ ?_ | refine np_t 0 ?_ ?_ ?_);rotate_left 1;(· (intro w hSw;(try dsimp only at hSw);go_simp;all_goals with_reducible rfl));(try simp only[nSO])))
  first | (refine np_s 6 ?_;(try simp only[nSO])) | (refine aD (i:=6) rfl (by kernel_rfl) (fun K hK => ?_);rw[if_pos (by rfl)];go_simp;((go_at_call 109;refine (hnum _ hBX.drew).mono ?_;rintro e w2 ⟨rfl,hb2'⟩;have hb2:Below (w.heap.size+5) X w2:=(Below.refl _ _).drew.trans (hb2'.mono (by simp;omega))));(try go_wp2_with fail);refine hK.out _ _ ?_ (fun hHeld => ?_);(· (first | exact hS2 _ (Below.refl _ _) | exact hS2 _ (Below.refl _ _).drew | exact hS2 _ hb2));clear hK K;(try simp only[nSO]))
  first | (refine aL ?_;(try simp only[nSO])) | (refine np_n ?_ ?_ ?_;rotate_left 1;(· (intro w hSw;(try dsimp only at hSw);go_simp;all_goals with_reducible rfl));(try simp only[nSO]))
  refine wpAnyH_done (by kernel_rfl) ?_ _
  refine NoPanic.normal ?_
  have hSB2:=hSB.on hXs hb2
  have ck:=hSB2.bk.cell
  have cr:=hSB2.br.cell
  have fr:=hSB2.br.frozen
  go_wp2
  have c9:=(hSB2.br.set (.int .i64 k)).cell
  exact⟨.int .i64 k,by simp[results,Tryz.f97,go_sem,c9],rfl,(hBX.trans (hb2.mono (by omega))).setCell (p:=⟨w.heap.size+1+1+1,0,none⟩) (by simp;omega) _⟩
end Go.Proofs.YtdeiocppghhfdaaGreat.Lin
