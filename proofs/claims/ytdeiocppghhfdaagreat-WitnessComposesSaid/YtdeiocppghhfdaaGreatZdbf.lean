/- Texts, one behind another. -/
import Derived.Test.YtdeiocppghhfdaaGreatZdbd
import Derived.Test.YtdeiocppghhfdaaGreatZdbe
set_option linter.unusedVariables false
set_option linter.unusedSimpArgs false
set_option maxRecDepth 100000
set_option maxHeartbeats 8000000
namespace Go.Proofs.YtdeiocppghhfdaaGreat.Lin
open Go.RowKit Go.Lib Go.Shelf
open Hs
open KitI (iv IRow own_below lS)
attribute [local go_sem, local simp] Hs.dB Hs.dG Hs.dE Hs.dH Hs.dI Hs.dJ Hs.dK Hs.dL Hs.dM Hs.dF Hs.aR Hs.aW Hs.bB Hs.bC Hs.aS Hs.aV Hs.aY Hs.bD Hs.bE Hs.bF Hs.bG Hs.bH Hs.bI Hs.bJ Hs.bK Hs.aU Hs.aQ Hs.fH Hs.fI Hs.fJ Hs.fK Hs.fM Hs.fO Hs.fP Hs.fQ Hs.fT Hs.fU Hs.dN Hs.dO Hs.dP Hs.dQ Hs.dR Hs.dS Hs.dU Hs.dV Hs.dW Hs.dX Hs.dY Hs.dZ Hs.eB Hs.bL Hs.bM Hs.bN Hs.bO Hs.bP Hs.bQ Hs.bR Hs.bS Hs.bT Hs.bU Hs.bV Hs.bW Hs.bX Hs.bY Hs.bZ Hs.cB Hs.aX Hs.fV Hs.fZ Hs.gB Hs.gD Hs.gF Hs.gG Hs.gH Hs.gI Hs.gJ Hs.gK Hs.eD Hs.eG Hs.eH Hs.aH Hs.aJ
attribute [local go_sem ↓] Hs.aK Hs.aN
attribute [local go_sem] Hs.fF Hs.cK Hs.aP Hs.eO Hs.fD
attribute [local go_sem ↓] uK
theorem aSh {b:Nat} {M:MM} {c:aA} {n:Nat} {W:World} (h:MdAt W b M) (hf:∀ k,M.fp b k→n≤k) (hn:n≤W.heap.size) (hok:MSok M.st 100000) (hc:c.Ok) (hd:c.ps.length≤maxLen) :
  Calls Tryz.prog 53 #[.pointer (some ⟨b,0,none⟩),.int .i64 c.thread,.agg (opL c).toArray,.agg (Hs.resL c).toArray] W fun e W'=>∃ M',e = .returned (.bool (accS M.st c.thread (opV c) (resV c) (itV c)).1)∧MdAt W' b M'∧(∀ k,M'.fp b k→n≤k)∧M'.st=(accS M.st c.thread (opV c) (resV c) (itV c)).2∧FrT MTy n W W':=by
 refine (aAl b c.thread M (opV c) (resV c) (itV c) W h hok (aF3 hc) hd).mono ?_
 rintro e W' ⟨rfl,M',hM,hst,hk,hf2⟩
 exact⟨M',rfl,hM,fun k hk=>(hf2 k hk).elim (hf k) (fun h'=>Nat.le_trans hn h'),hst,aAp h hk hf hn⟩
theorem aH4 {st:MS} {c:aA} {K:Int} (h:MSok st K) (hc:c.Ok):MSok (accS st c.thread (opV c) (resV c) (itV c)).2 (K+1):=by
 unfold accS
 split
 ·exact aNb h (aF3 hc)
 ·exact h.mono (by omega)
def tQ (m:Nat) (w:World) (c:CfgV) (cs:List aA) (Inv:List (Nat × MS)→World→Prop) (e:Ending) (w':World):Prop :=
 (cfgE c≠0∧e = .returned (.tuple #[.slice none 0 0,.int .i64 0,.int .i64 (cfgE c)])∧Inv [] w'∧Below m w w') ∨
 (cfgE c=0∧(dD cs).2≠0∧e = .returned (.tuple #[.slice none 0 0,.int .i64 (dD cs).1,.int .i64 (dD cs).2])∧Inv [] w'∧Below m w w') ∨
 (cfgE c=0∧(dD cs).2=0∧∃ E b M v,lX cs E∧e = .returned (.tuple #[v,.int .i64 (rC c cs E).1,.int .i64 (rC c cs E).2])∧Inv ((jZ cs (newS c) (ordW cs E)).map fun s=>(b,s)) w'∧Below m w w'∧MdAt w' b M∧MSok M.st 100000 ∧
  ((rC c cs E).2=0→M.st=mZ cs (newS c) (ordW cs E)∧w'.ownsRow w.heap.size tInt 1 v (ordW cs E).length ((ordW cs E).map nv)))
structure PRl (m n:Nat) (w:World) (cs:List aA) (Inv:List (Nat × MS)→World→Prop) (st0:MS) (o:List Nat) (ao:Option Addr) (qo b k:Nat) (M:MM) (L:List MS) (wr:World):Prop where
 at_:MdAt wr b M
 own:∀ j,M.fp b j→n≤j
 ok:MSok M.st k
 inv:Inv (L.map fun s=>(b,s)) wr
 bl:Below m w wr
 le:n≤wr.heap.size
 row:wr.ownsRow n tInt 1 (.slice ao o.length qo) o.length (o.map nv)
 pe:lV cs M.st (o.drop k)=lV cs st0 o
 pl:L++(jZ cs M.st (o.drop k)).tail=jZ cs st0 o
 ps:mZ cs M.st (o.drop k)=mZ cs st0 o
 len:L.length=k+1
def aTn (m n:Nat) (w:World) (cs:List aA) (Inv:List (Nat × MS)→World→Prop) (st0:MS) (o:List Nat) (ao:Option Addr) (qo b:Nat) (x6 x7 x8 i:Value) (wr:World):Prop :=
 ∃ (k:Nat) (M:MM) (L:List MS),i = .int .i64 k∧k≤o.length∧x6 = .slice ao o.length qo∧x7 = .int .i64 0∧x8 = .int .i64 0∧PRl m n w cs Inv st0 o ao qo b k M L wr
theorem aAq (cs:List aA) (st:MS) (o:List Nat):jZ cs st o=st::(jZ cs st o).tail:=by cases o<;>rfl
theorem drop_at {o:List Nat} {k i:Nat} (h:o[k]? = some i):o.drop k=i::o.drop (k+1):=by
 have hlt:=(List.getElem?_eq_some_iff.1 h).1
 rw[List.drop_eq_getElem_cons hlt];congr 1;exact Option.some.inj ((List.getElem?_eq_getElem hlt).symm.trans h)
theorem qG (m:Nat) (c:CfgV) (p:Option Addr) (cap:Nat) (cs:List aA) (f:FuncId) (fs:Array Value) (Inv:List (Nat × MS)→World→Prop) (w:World) (hm:m≤w.heap.size) (hC:∀ W,Below m w W→CRow W p cap cs) (hE:aF4 m w.heap.size f fs Inv) (hI:Inv [] w)
  (hs:cs.length≤1000) (hok:∀ x∈cs,x.Ok) (hd:∀ x∈cs,x.ps.length≤maxLen) :
  Calls Tryz.prog 81 #[c.v,.slice p cs.length cap,.func (.func f) #[] fs] w (tQ m w c cs Inv):=by
 have hB0:Below w.heap.size w (w.alloc (.cells #[.int .i64 c.slots,.int .u64 c.gens,.int .i64 c.clients,.int .i64 c.readers,.int .i64 c.queue,.int .i64 c.batch,.int .i64 c.feed,.string c.text] 24)):=(Below.refl w.heap.size w).alloc (Nat.le_refl _) _
 have hk0:=fun W (h:Below w.heap.size w W)=>hE.keep [] w W hI (FrT.below h (Nat.le_refl _))
 by_cases hc:cfgE c=0
 ·have hnew:=aNv c w _ hc hB0
  unfold CfgV.v at *
  rcases aBp cs with h2 | h2
  ·have hck:=fun W (h:Below w.heap.size w W)=>wX p cap cs W (hC W (h.mono hm)) (by omega) hok
   have hor:=fun W (h:Below w.heap.size w W)=>aCa p cap cs W (hC W (h.mono hm)) hs hok
   have h2c:dD cs=(0,0):=by
    rcases hx:dD cs with⟨a,b⟩
    unfold dD at hx h2
    split at hx
    ·rename_i i hi;rw[hi] at h2;cases h2
    ·exact hx.symm
   rw[h2c] at hck
   go_enter Tryz.func81,Tryz.ntmps81
   go_wp2_with (first | (go_at_call 49;refine hnew.mono ?_;rintro e w1 ⟨b,M,rfl,hR,hst,hb1⟩;clear hb1) | (go_at_call 75;refine (hck _ hR.bl).mono ?_;rintro e w2 ⟨rfl,hb2⟩))
   have hR2:=hR.on hb2
   clear hR hb2 hck hnew
   refine (hor _ hR2.bl).mono ?_
   rintro e w3 (⟨h22,_,_⟩ | ⟨_,v,E,hEff,rfl,hO,hb3⟩)
   ·rw[h2] at h22;cases h22
   ·obtain⟨ao,qo,rfl⟩:=aF hO
    have hR3:=hR2.on hb3
    have hO3:=gP (B:=w.heap.size) (by have:=hR2.bl.size;omega) hO
    clear hO hb3 hor
    have hol:(ordW cs E).length≤1000:=by rw[aI8 hEff];have:=yQ hEff;omega
    have hoi:∀ i∈ordW cs E,i<cs.length:=fun i hi=>((xE hEff).1 hi).1
    have hpe:rC c cs E=match lV cs (newS c) (ordW cs E) with | some i=>((i:Int),26) | none=>(0,0):=by unfold rC;rw[if_neg (by rw[hc];simp),if_neg (by rw[h2];simp)];(try rfl)
    have HP:=Lib.hid hpe
    have HF:=Lib.hid hEff
    clear hpe hEff
    have hIn:=hk0 _ hR3.bl
    have hMok:MSok M.st 0:=by rw[hst];exact aDn hc
    have hcl:=hE.call w3 b M 0 [] hR3.bl.size hIn hR3.at_ hMok (by simp)
    have hent:=hE.ent
    go_wp2_with (go_at_fn f;refine hcl.mono ?_;rintro e w4 ⟨rfl,hIn4,hfr4⟩)
    have hPR:PRl m w.heap.size w cs Inv (newS c) (ordW cs E) ao qo b 0 M [newS c] w4:=⟨hfr4.model hR3.at_,hR3.own,hMok,by rw[hst] at hIn4;exact hIn4,(hR3.bl.mono hm).trans hfr4.bl,Nat.le_trans hR3.bl.size hfr4.bl.size,hfr4.own hO3 (by decide),by rw[hst];rfl,by rw[hst,List.drop_zero];exact (aAq cs (newS c) (ordW cs E)).symm,by rw[hst];rfl,rfl⟩
    clear hfr4 hIn4 hcl hIn hMok hR3 hR2 hO3 hst hk0 hB0
    generalize hoo:ordW cs E=o at *
    have HO:=Lib.hid hoo
    clear hoo
    go_loopw [6,7,8,13,44] (fun x6 x7 x8 x13 i wr=>aTn m w.heap.size w cs Inv (newS c) o ao qo b x6 x7 x8 i wr) (fun x6 x7 x8 x13 i wr=>o.length-(intOf i).toNat)
    case atStart=>exact⟨0,M,[newS c],rfl,by omega,rfl,rfl,rfl,hPR⟩
    case round =>
     clear hPR
     obtain⟨k,M2,L,rfl,hk,rfl,rfl,rfl,hP⟩:=hrel
     by_cases hlt:k<o.length
     ·obtain⟨i,hi⟩:∃ i,o[k]? = some i:=⟨_,List.getElem?_eq_getElem hlt⟩
      have hic:=hoi i (List.mem_of_getElem? hi)
      have hI1:IRd wr ao (o.map fun (x:Nat)=>(x:Int)):=IRd.of (tO hP.row rfl)
      obtain⟨bo,oo,rfl,hcc⟩:=yT hI1 (by rw[List.length_map];omega)
      have hck:=hcc wr (Below.refl _ _) k _ (yU hi)
      obtain⟨bq,off,rfl,hcap,hbq,hA⟩:=qF (hC wr hP.bl) (by omega)
      have hS:=fun W (hb:Below m w W)=>(show W.cell? ⟨bq,off+i*27,none⟩=some (.int .i64 (getC cs i).thread)∧(tN (.pointer (some ⟨bq,off+i*27+2,none⟩))).run Tryz.prog W = .ok (.agg (opL (getC cs i)).toArray) W∧(sJ (.pointer (some ⟨bq,off+i*27+14,none⟩))).run Tryz.prog W = .ok (.agg (Hs.resL (getC cs i)).toArray) W from by
       have hA:=aN1 (hC W hb)
       have h0:=hA.cell (gM hic) 0 (by omega)
       rw[dB,Nat.add_zero] at h0
       exact⟨h0,aSd hA (gM hic),aSe hA (gM hic)⟩)
      have hcm:getC cs i∈cs:=List.mem_of_getElem? (gM hic)
      have hok2:=hok _ hcm
      have hbd:Below m w wr.drew:=hP.bl.drew
      have hMk:MSok M2.st 100000:=hP.ok.mono (by omega)
      have hAcc:=aSh (c:=getC cs i) (hP.at_.below (Below.refl _ _).drew) hP.own hP.le hMk hok2 (hd _ hcm)
      have hAk:=aH4 (c:=getC cs i) hP.ok hok2
      have hac:accO cs M2.st i=accS M2.st (getC cs i).thread (opV (getC cs i)) (resV (getC cs i)) (itV (getC cs i)):=rfl
      have hdr:=drop_at hi
      have hpe1:lV cs M2.st (o.drop k)=if (accO cs M2.st i).1 then lV cs (accO cs M2.st i).2 (o.drop (k+1)) else some i:=by rw[hdr];rfl
      have hpl1:jZ cs M2.st (o.drop k)=M2.st::(if (accO cs M2.st i).1 then jZ cs (accO cs M2.st i).2 (o.drop (k+1)) else[]):=by rw[hdr];rfl
      have hps1:mZ cs M2.st (o.drop k)=mZ cs (accO cs M2.st i).2 (o.drop (k+1)):=by rw[hdr];rfl
      rw[hP.pe] at hpe1
      rw[hP.ps] at hps1
      have hpl2:=hP.pl
      rw[hpl1,List.tail_cons] at hpl2
      have hin3:=hE.keep
      rw[← hac] at hAcc hAk
      have Hpe1:=Lib.hid hpe1
      have Hps1:=Lib.hid hps1
      have Hpl2:=Lib.hid hpl2
      have Hac:=Lib.hid hac
      generalize getC cs i=q at *
      generalize hX:accO cs M2.st i=X at *
      clear hpe1 hps1 hpl2 hpl1 hdr hcc hI1 hA hac
      obtain⟨ya,yst⟩:=X
      have Hx:=Lib.hid hX
      clear hX
      cases ya with
      | true =>
       go_wp2_with fail
       refine wp_region_noPanic ?_
       refine wp_region_held_drew (S:=fun W=>W.cell? ⟨bq,off+i*27,none⟩=some (.int .i64 q.thread)∧(tN (.pointer (some ⟨bq,off+i*27+2,none⟩))).run Tryz.prog W = .ok (.agg (opL q).toArray) W∧(sJ (.pointer (some ⟨bq,off+i*27+14,none⟩))).run Tryz.prog W = .ok (.agg (Hs.resL q).toArray) W) (by kernel_rfl) ?_ (fun hHeld => ?_)
       ·first | exact hS _ hP.bl | exact hS _ hbd | exact hS _ hb5
       iterate 16 (first | (refine aL ?_;(try simp only[nSO])) | ((first | refine np_n ?_ ?_ ?_ | refine np_t 0 ?_ ?_ ?_);rotate_left 1;(· (intro w hSw;(try dsimp only at hSw);go_simp;all_goals with_reducible rfl));(try simp only[nSO])))
       first | (refine np_s 16 ?_;(try simp only[nSO])) | (refine aD (i:=16) rfl (by kernel_rfl) (fun K hK => ?_);rw[if_pos (by rfl)];go_simp;((go_at_call 53;refine hAcc.mono ?_;rintro e w5 ⟨M3,rfl,hM3,hf3,hst3,hfr5⟩;have hb5:=hbd.trans (hfr5.bl.mono hm)));(try go_wp2_with fail);refine hK.out _ _ ?_ (fun hHeld => ?_);(· (first | exact hS _ hP.bl | exact hS _ hbd | exact hS _ hb5));clear hK K;(try simp only[nSO]))
       first | (refine aL ?_;(try simp only[nSO])) | (refine np_n ?_ ?_ ?_;rotate_left 1;(· (intro w hSw;(try dsimp only at hSw);go_simp;all_goals with_reducible rfl));(try simp only[nSO]))
       refine wpAnyH_done (by kernel_rfl) ?_ _
       refine NoPanic.normal ?_
       have hle5:w.heap.size≤w5.heap.size:=Nat.le_trans hP.le hfr5.bl.size
       have hin5:=hE.keep _ _ _ (hE.keep _ _ _ hP.inv (FrT.below (Below.refl _ _).drew hP.le)) hfr5
       have hrow5:=hfr5.own (own_below hP.row (Below.refl _ _).drew) (by decide)
       have hMk3:MSok M3.st ((k:Int)+1):=by rw[hst3];exact hAk
       have hcl:=hE.call w5 b M3 _ _ hle5 hin5 hM3 hMk3 (by rw[List.length_map,hP.len];omega)
       have hPl:=hP.len
       clear hAcc hS hin3
       go_wp2_with (go_at_fn f;refine hcl.mono ?_;rintro e w6 ⟨rfl,hIn6,hfr6⟩)
       go_roundw
       case rel =>
        refine⟨k+1,M3,L++[M3.st],by go_num,by omega,rfl,rfl,rfl,⟨hfr6.model hM3,hf3,by simpa using hMk3,by rw[List.map_append];exact hIn6,hb5.trans hfr6.bl,Nat.le_trans hle5 hfr6.bl.size,hfr6.own hrow5 (by decide),?_,?_,?_,by rw[List.length_append,hPl];rfl⟩⟩
        ·rw[hst3];exact (Hpe1.out).symm
        ·have h9:=Hpl2.out
         simp only[if_true] at h9
         rw[← h9,hst3,List.append_assoc]
         congr 1
         exact (aAq cs yst _).symm
        ·rw[hst3];exact Hps1.out.symm
       case measure=>simp[intOf];omega
      | false =>
       go_wp2_with fail
       refine wp_region_noPanic ?_
       refine wp_region_held_drew (S:=fun W=>W.cell? ⟨bq,off+i*27,none⟩=some (.int .i64 q.thread)∧(tN (.pointer (some ⟨bq,off+i*27+2,none⟩))).run Tryz.prog W = .ok (.agg (opL q).toArray) W∧(sJ (.pointer (some ⟨bq,off+i*27+14,none⟩))).run Tryz.prog W = .ok (.agg (Hs.resL q).toArray) W) (by kernel_rfl) ?_ (fun hHeld => ?_)
       ·first | exact hS _ hP.bl | exact hS _ hbd | exact hS _ hb5
       iterate 16 (first | (refine aL ?_;(try simp only[nSO])) | ((first | refine np_n ?_ ?_ ?_ | refine np_t 0 ?_ ?_ ?_);rotate_left 1;(· (intro w hSw;(try dsimp only at hSw);go_simp;all_goals with_reducible rfl));(try simp only[nSO])))
       first | (refine np_s 16 ?_;(try simp only[nSO])) | (refine aD (i:=16) rfl (by kernel_rfl) (fun K hK => ?_);rw[if_pos (by rfl)];go_simp;((go_at_call 53;refine hAcc.mono ?_;rintro e w5 ⟨M3,rfl,hM3,hf3,hst3,hfr5⟩;have hb5:=hbd.trans (hfr5.bl.mono hm)));(try go_wp2_with fail);refine hK.out _ _ ?_ (fun hHeld => ?_);(· (first | exact hS _ hP.bl | exact hS _ hbd | exact hS _ hb5));clear hK K;(try simp only[nSO]))
       first | (refine aL ?_;(try simp only[nSO])) | (refine np_n ?_ ?_ ?_;rotate_left 1;(· (intro w hSw;(try dsimp only at hSw);go_simp;all_goals with_reducible rfl));(try simp only[nSO]))
       refine wpAnyH_done (by kernel_rfl) ?_ _
       refine NoPanic.normal ?_
       have hin5:=hE.keep _ _ _ (hE.keep _ _ _ hP.inv (FrT.below (Below.refl _ _).drew hP.le)) hfr5
       have hMk3:MSok M3.st ((k:Int)+1):=by rw[hst3];exact hAk
       clear hAcc hS hin3
       go_wp2_with fail
       go_returns
       have hpz:lV cs (newS c) o=some i:=Hpe1.out
       have h8:=HP.out
       rw[hpz] at h8
       have h9:=Hpl2.out
       simp only[Bool.false_eq_true,if_false,List.append_nil] at h9
       refine .inr (.inr ⟨hc,h2,E,b,M3,_,HF.out,by rw[h8];rfl,?_,hb5,hM3,hMk3.mono (by omega),fun h=>by rw[h8] at h;cases h⟩)
       rw[HO.out,← h9]
       exact hin5
     ·have hke:k=o.length:=by omega
      subst hke
      have e1:lV cs (newS c) o=none:=by rw[← hP.pe,List.drop_length];rfl
      have e2:L=jZ cs (newS c) o:=by have:=hP.pl;rw[List.drop_length] at this;rw[← this];exact (List.append_nil L).symm
      have e3:M2.st=mZ cs (newS c) o:=by rw[← hP.ps,List.drop_length];rfl
      have h8:=HP.out
      rw[e1] at h8
      go_wp2_with fail
      go_returns
      refine .inr (.inr ⟨hc,h2,E,b,M2,_,HF.out,by rw[h8];rfl,?_,hP.bl,hP.at_,hP.ok.mono (by omega),fun _=>⟨?_,?_⟩⟩)
      ·rw[HO.out,← e2];exact hP.inv
      ·rw[HO.out];exact e3
      ·rw[HO.out];exact hP.row
  ·have hck:=fun W (h:Below w.heap.size w W)=>wX p cap cs W (hC W (h.mono hm)) (by omega) hok
   have h2n:(dD cs).2≠0:=by rw[h2];decide
   have hdn:((dD cs).2 != 0)=true:=by rw[h2];rfl
   generalize hce:(dD cs).1=ce at *
   generalize hcf:(dD cs).2=cf at *
   subst h2
   go_enter Tryz.func81,Tryz.ntmps81
   go_wp2_with (first | (go_at_call 49;refine hnew.mono ?_;rintro e w1 ⟨b,M,rfl,hR,hst,hb1⟩;clear hb1) | (go_at_call 75;refine (hck _ hR.bl).mono ?_;rintro e w2 ⟨rfl,hb2⟩))
   go_returns
   exact .inr (.inl ⟨hc,by rw[hcf];decide,by rw[hce,hcf];rfl,hk0 _ (hR.on hb2).bl,(hR.on hb2).bl.mono hm⟩)
 ·have hnew:=fun W=>aSc c W hc
  have hd1:(cfgE c != 0)=true:=by simpa using hc
  generalize hce:cfgE c=ce at *
  unfold CfgV.v at *
  go_enter Tryz.func81,Tryz.ntmps81
  go_wp2_with (go_at_call 49;refine (hnew _).mono ?_;rintro e w1 ⟨rfl,hb1⟩)
  go_returns
  have hb2:=hB0.trans (hb1.mono hB0.size)
  exact .inl ⟨by rw[hce];exact hc,by rw[hce];rfl,hk0 _ hb2,hb2.mono hm⟩
end Go.Proofs.YtdeiocppghhfdaaGreat.Lin
namespace Go.Proofs.YtdeiocppghhfdaaGreat.Lin
open Hs
theorem wC {st:MS} {c:Int} {q:OpV} {r:ResV} {i:ItV} (h:(accS st c q r i).1=true):(gY r i (doS st c q).1=true∧(accS st c q r i).2=(doS st c q).2)∨(gY r i (doS st c q).1=false∧accB st c q r i=true∧(accS st c q r i).2=st):=by
 unfold accS at h ⊢
 cases hs:gY r i (doS st c q).1 with
 | true=>rw[if_pos rfl];exact .inl ⟨rfl,rfl⟩
 | false =>
  rw[hs] at h
  simp only[Bool.false_eq_true,if_false] at h ⊢
  exact .inr ⟨trivial,h,trivial⟩
theorem aCb {r s:ResV} {i:ItV} (h:gY r i s=true):r.err=s.err:=by rw[(aFv h).1]
theorem nI {c:CfgV} {cs:List aA} {E:List Nat} (h:(rC c cs E).2=0):cfgE c=0∧(dD cs).2=0∧lV cs (newS c) (ordW cs E)=none:=by
 unfold rC at h
 split at h
 ·rename_i h1;exact absurd h h1
 ·split at h
  ·rename_i h1 h2;exact absurd h h2
  ·split at h
   ·cases h
   ·rename_i h1 h2 _ h3
    exact⟨by simpa using h1,by simpa using h2,h3⟩
end Go.Proofs.YtdeiocppghhfdaaGreat.Lin
namespace Go.Proofs.YtdeiocppghhfdaaGreat.Lin
open Go.RowKit Go.Lib Go.Shelf
open Hs
open KitI (iv IRow)
abbrev tCfg:TypeId:=24
def yV (v:Value):Sem Value:=Instr.loadAt tCfg v
theorem sG (v:Value):Instr.loadAt 24 v=yV v:=rfl
theorem sH {W:World} {b:Nat} {c:CfgV} (h:W.heap[b]? = some (.cells (cfgL c).toArray tCfg (0,0))):(yV (.pointer (some ⟨b,0,none⟩))).run Tryz.prog W = .ok (.agg (cfgL c).toArray) W :=
 run_loadAt_mid W b 0 tCfg (cfgL c) _ (aCq h) Tryz.underlying24 rfl (by kernel_rfl)
theorem aQl (c:CfgV):cfgL c≠[]:=by simp[cfgL]
theorem aSi {W:World} {g:Nat} {cs:Array Value} (h:W.heap[g]? = some (.cells cs tCfg (0,0))) (hs:cs.size=8) (c:CfgV):(storeCells ⟨g,0,none⟩ (cfgL c)).run Tryz.prog W = .ok () (W.setRow g (cfgL c).toArray):=zY h hs (cfgL c) rfl (by simp[cfgL,Value.oneCell'])
structure LawW (w W:World) (c:CfgV) (p:Option Addr) (cap:Nat) (cs:List aA):Prop where
 bl:Below w.heap.size w W
 box:W.heap[w.heap.size]? = some (.cells (cfgL c).toArray tCfg (0,0))
 row:HRow W p cap cs
theorem LawW.on {w W W':World} {c:CfgV} {p:Option Addr} {cap:Nat} {cs:List aA} (h:LawW w W c p cap cs) (hb:Below W.heap.size W W'):LawW w W' c p cap cs :=
 ⟨h.bl.trans (hb.mono h.bl.size),gU h.box hb (Array.getElem?_eq_some_iff.1 h.box).1,h.row.on hb⟩
theorem LawW.ld {w W:World} {c:CfgV} {p:Option Addr} {cap:Nat} {cs:List aA} (h:LawW w W c p cap cs):(yV (.pointer (some ⟨w.heap.size,0,none⟩))).run Tryz.prog W = .ok (.agg (cfgL c).toArray) W:=sH h.box
section
variable {w W:World} {c:CfgV} {p:Option Addr} {cap:Nat} {cs:List aA}
theorem LawW.ps (h:LawW w W c p cap cs):∀ x∈cs,x.ps.length≤1000000:=fun x hx=>(h.row.dat x hx).1
end
end Go.Proofs.YtdeiocppghhfdaaGreat.Lin
namespace Go.Proofs.YtdeiocppghhfdaaGreat.Lin
open Go.RowKit Go.Lib Go.Shelf
open Hs
open KitI (iv IRow own_below lS)
attribute [local go_sem, local simp] Hs.dB Hs.dG Hs.dE Hs.dH Hs.dI Hs.dJ Hs.dK Hs.dL Hs.dM Hs.dF Hs.aR Hs.aW Hs.bB Hs.bC Hs.aS Hs.aV Hs.aY Hs.bD Hs.bE Hs.bF Hs.bG Hs.bH Hs.bI Hs.bJ Hs.bK Hs.aU Hs.aQ Hs.fH Hs.fI Hs.fJ Hs.fK Hs.fM Hs.fO Hs.fP Hs.fQ Hs.fT Hs.fU Hs.dN Hs.dO Hs.dP Hs.dQ Hs.dR Hs.dS Hs.dU Hs.dV Hs.dW Hs.dX Hs.dY Hs.dZ Hs.eB Hs.bL Hs.bM Hs.bN Hs.bO Hs.bP Hs.bQ Hs.bR Hs.bS Hs.bT Hs.bU Hs.bV Hs.bW Hs.bX Hs.bY Hs.bZ Hs.cB Hs.aX Hs.fV Hs.fZ Hs.gB Hs.gD Hs.gF Hs.gG Hs.gH Hs.gI Hs.gJ Hs.gK Hs.eD Hs.eG Hs.eH Hs.aH Hs.aJ
attribute [local go_sem ↓] Hs.aK Hs.aN
attribute [local go_sem] Hs.fF Hs.cK Hs.aP Hs.eO Hs.fD
def insW (cs:List aA) (i:Nat):List Nat→List Nat
 | []=>[i]
 | j::r=>if lexB cs i j then i::j::r else j::insW cs i r
def effC (cs:List aA):List Nat:=(places eP cs 0).foldr (insW cs) []
theorem xG (cs:List aA) (i:Nat):∀ l:List Nat,(insW cs i l).Perm (i::l)
 | []=>List.Perm.refl _
 | j::r=>by
  unfold insW
  split
  ·exact List.Perm.refl _
  ·exact ((xG cs i r).cons j).trans (List.Perm.swap i j r)
theorem aK0 {cs:List aA} {a b c:Nat} (h1:lexB cs b a=false) (h2:lexB cs c b=false):lexB cs c a=false:=by
 unfold lexB at *
 simp only[decide_eq_false_iff_not] at *
 omega
theorem xZ (cs:List aA) (i:Nat):∀ l:List Nat,l.Pairwise (fun a b=>lexB cs b a=false)→(insW cs i l).Pairwise fun a b=>lexB cs b a=false
 | [],_=>List.pairwise_singleton _ _
 | j::r,h=>by
  obtain⟨h1,h2⟩:=List.pairwise_cons.1 h
  unfold insW
  split
  ·rename_i hl
   refine List.pairwise_cons.2 ⟨fun b hb => ?_,h⟩
   rcases List.mem_cons.1 hb with rfl | hb
   ·exact xD hl
   ·exact aK0 (xD hl) (h1 b hb)
  ·rename_i hl
   refine List.pairwise_cons.2 ⟨fun b hb => ?_,xZ cs i r h2⟩
   rcases List.mem_cons.1 ((xG cs i r).mem_iff.1 hb) with rfl | hb
   ·simpa using hl
   ·exact h1 b hb
theorem oL (cs:List aA):(effC cs).Perm (places eP cs 0):=by
 unfold effC
 generalize places eP cs 0=l
 induction l with
 | nil=>exact List.Perm.refl _
 | cons a l ih=>exact (xG cs a _).trans (ih.cons a)
theorem yA (cs:List aA):(effC cs).Pairwise fun a b=>lexB cs b a=false:=by
 unfold effC
 generalize places eP cs 0=l
 induction l with
 | nil=>exact List.Pairwise.nil
 | cons a l ih=>exact xZ cs a _ ih
theorem mK {cs:List aA} {E:List Nat} (h:lX cs E):effC cs=E:=by
 refine ((oL cs).trans h.1.symm).eq_of_pairwise (le:=fun a b=>lexB cs b a=false) (fun a b ha hb h1 h2 => ?_) (yA cs) (h.2.imp fun hl=>xD hl)
 have ha':=((oL cs).trans h.1.symm).mem_iff.1 ha
 rcases Nat.lt_trichotomy (E.idxOf a) (E.idxOf b) with h3 | h3 | h3
 ·have:=aI5 h.2 ha' hb h3
  rw[h2] at this;cases this
 ·have e1:=List.getElem_idxOf (List.idxOf_lt_length_iff.2 ha')
  have e2:=List.getElem_idxOf (List.idxOf_lt_length_iff.2 hb)
  rw[← e1,← e2]
  congr 1
 ·have:=aI5 h.2 hb ha' h3
  rw[h1] at this;cases this
def ordC (cs:List aA):List Nat:=ordW cs (effC cs)
def aT (c:CfgV) (cs:List aA):Int × Int:=rC c cs (effC cs)
def nV (c:CfgV) (cs:List aA):MS:=mZ cs (newS c) (ordC cs)
def iB (c:CfgV) (cs:List aA):List ByteArray:=kE (jZ cs (newS c) (ordC cs))
theorem pM {c:CfgV} {cs:List aA} (h:cfgE c≠0) (E:List Nat):rC c cs E=(0,cfgE c):=by unfold rC;rw[if_pos h]
theorem pO {c:CfgV} {cs:List aA} (h1:cfgE c=0) (h:(dD cs).2≠0) (E:List Nat):rC c cs E=dD cs:=by unfold rC;rw[if_neg (by rw[h1];simp),if_pos h]
theorem aH5 (m n:Nat) (hm:m≤n):aF4 m n 82 #[] (fun _ _=>True) where
 ent:=enters_of Tryz.func82 (by kernel_rfl) rfl
 keep:=fun _ _ _ _ _=>trivial
 call:=fun W b M K l hn _ _ _ _=>by
  go_enter Tryz.func82,Tryz.ntmps82
  go_wp2
  go_end0
  exact⟨rfl,trivial,FrT.refl _ _ _⟩
theorem aDx {cs:List aA} (hd:∀ x∈cs,x.ps.length≤1000000):∀ x∈cs,x.ps.length≤maxLen:=fun x hx=>Nat.le_trans (hd x hx) (by unfold maxLen;decide)
theorem aDy (c:CfgV) (p:Option Addr) (cap:Nat) (cs:List aA) (w:World) (hC:CRow w p cap cs) (hs:cs.length≤1000) (hok:∀ x∈cs,x.Ok) (hd:∀ x∈cs,x.ps.length≤maxLen) :
  Calls Tryz.prog 38 #[c.v,.slice p cs.length cap] w fun e w'=>e = .returned (.tuple #[.int .i64 (aT c cs).1,.int .i64 (aT c cs).2])∧Below w.heap.size w w':=by
 have hB0:Below w.heap.size w (w.alloc (.cells #[.int .i64 c.slots,.int .u64 c.gens,.int .i64 c.clients,.int .i64 c.readers,.int .i64 c.queue,.int .i64 c.batch,.int .i64 c.feed,.string c.text] 24)):=(Below.refl w.heap.size w).alloc (Nat.le_refl _) _
 have hpf:=qG w.heap.size c p cap cs 82 #[] (fun _ _=>True) (w.alloc (.cells #[.int .i64 c.slots,.int .u64 c.gens,.int .i64 c.clients,.int .i64 c.readers,.int .i64 c.queue,.int .i64 c.batch,.int .i64 c.feed,.string c.text] 24)) hB0.size (fun W hb=>hC.on (hB0.trans hb)) (aH5 _ _ hB0.size) trivial hs hok hd
 have hfin:∀ e w',tQ w.heap.size (w.alloc (.cells #[.int .i64 c.slots,.int .u64 c.gens,.int .i64 c.clients,.int .i64 c.readers,.int .i64 c.queue,.int .i64 c.batch,.int .i64 c.feed,.string c.text] 24)) c cs (fun _ _=>True) e w'→∃ v,e = .returned (.tuple #[v,.int .i64 (aT c cs).1,.int .i64 (aT c cs).2])∧Below w.heap.size w w':=by
  rintro e w' (⟨h1,rfl,_,hb⟩ | ⟨h1,h2,rfl,_,hb⟩ | ⟨h1,h2,E,b,M,v,hE,rfl,_,hb,_⟩)
  ·exact⟨_,by unfold aT;rw[pM h1],hB0.trans hb⟩
  ·exact⟨_,by unfold aT;rw[pO h1 h2],hB0.trans hb⟩
  ·exact⟨_,by unfold aT;rw[mK hE],hB0.trans hb⟩
 have hpf2:=hpf.mono hfin
 clear hpf hfin
 generalize (aT c cs).1=x1 at *
 generalize (aT c cs).2=x2 at *
 unfold CfgV.v at *
 go_enter Tryz.func38,Tryz.ntmps38
 go_wp2_with (go_at_call 81;refine hpf2.mono ?_;rintro e w1 ⟨v,rfl,hb1⟩)
 go_returns
 exact⟨rfl,hb1⟩
theorem sI (c:CfgV) (p:Option Addr) (cap:Nat) (cs:List aA) (w:World) (hC:CRow w p cap cs) (hs:cs.length≤1000) (hok:∀ x∈cs,x.Ok) (hd:∀ x∈cs,x.ps.length≤1000000) :
  Calls Tryz.prog 38 #[c.v,.slice p cs.length cap] w fun e w'=>e = .returned (.tuple #[.int .i64 (aT c cs).1,.int .i64 (aT c cs).2])∧Below w.heap.size w w':=aDy c p cap cs w hC hs hok (aDx hd)
section
variable {w W:World} {c:CfgV} {p:Option Addr} {cap:Nat} {cs:List aA}
end
end Go.Proofs.YtdeiocppghhfdaaGreat.Lin
namespace Go.Proofs.YtdeiocppghhfdaaGreat.Lin
open Hs
def qO (a b:ByteArray):Prop:=∃ p t q:List UInt8,(a.data.toList=p++q∧b.data.toList=p++t++q)∨(a.data.toList=p++t++q∧b.data.toList=p++q)
theorem qO.refl (a:ByteArray):qO a a:=⟨a.data.toList,[],[],.inl ⟨by simp,by simp⟩⟩
def edK (k:Int):Bool:=decide (1≤k) && decide (k≤4)
theorem aF5 (t x:ByteArray) (a n:Int):(repT t a n x).data.toList=t.data.toList.take a.toNat++x.data.toList++t.data.toList.drop (a+n).toNat:=rfl
theorem aF6 {t x:ByteArray} {a:Int}:qO t (repT t a 0 x):=by
 refine⟨t.data.toList.take a.toNat,x.data.toList,t.data.toList.drop a.toNat,.inl ⟨(List.take_append_drop _ _).symm,?_⟩⟩
 rw[aF5,Int.add_zero]
theorem aF7 {t:ByteArray} {a n:Int} (ha:0≤a) (hn:0≤n):qO t (repT t a n ⟨#[]⟩):=by
 refine⟨t.data.toList.take a.toNat,(t.data.toList.drop a.toNat).take n.toNat,t.data.toList.drop (a+n).toNat,.inr ⟨?_,?_⟩⟩
 ·rw[List.append_assoc,show (a+n).toNat=a.toNat+n.toNat by omega,← List.drop_drop,List.take_append_drop,List.take_append_drop]
 ·rw[aF5]
  show _++[]++_=_
  rw[List.append_nil]
theorem aQm {st:MS} {c:Nat} {q:OpV} (hq:opE q=0):(edK q.kind=true∧(opS st c q).1.err=0∧(opS st c q).2.number=st.number+1∧qO st.text (opS st c q).2.text)∨(¬ (edK q.kind=true∧(opS st c q).1.err=0)∧(opS st c q).2.number=st.number∧(opS st c q).2.text=st.text):=by
 obtain⟨⟨k0,k1,g1,g2,_⟩,_,_⟩:=uV hq
 have no:∀ e:Int,e≠0→¬ (edK q.kind=true∧(fA e).err=0):=fun e he h=>he h.2
 unfold opS
 split
 ·rename_i hk
  have hk2:edK q.kind=true:=by rw[hk];rfl
  unfold insS;split
  ·rename_i he;exact .inr ⟨no _ he,rfl,rfl⟩
  ·exact .inl ⟨hk2,rfl,rfl,aF6⟩
 split
 ·rename_i hk
  have hk2:edK q.kind=true:=by rw[hk];rfl
  unfold delS;split
  ·rename_i he;exact .inr ⟨no _ he,rfl,rfl⟩
  ·exact .inl ⟨hk2,rfl,rfl,aF7 g1 g2⟩
 split
 ·rename_i hk
  have hk2:edK q.kind=true:=by rw[hk];rfl
  unfold setS;split
  ·rename_i he;exact .inr ⟨no _ he,rfl,rfl⟩
  ·split
   ·exact .inl ⟨hk2,rfl,rfl,qO.refl _⟩
   ·exact .inr ⟨no _ (by decide),rfl,rfl⟩
 split
 ·rename_i hk
  have hk2:edK q.kind=true:=by rw[hk];rfl
  unfold drpS;split
  ·exact .inr ⟨no _ (by decide),rfl,rfl⟩
  ·split
   ·exact .inl ⟨hk2,rfl,rfl,qO.refl _⟩
   ·exact .inr ⟨no _ (by decide),rfl,rfl⟩
 rename_i n1 n2 n3 n4
 have hk2:edK q.kind=false:=by
  unfold edK
  by_cases h:q.kind≤4
  ·omega
  ·simp[h]
 refine .inr ⟨fun h=>(by rw[hk2] at h;cases h.1),?_⟩
 split
 ·unfold acqS;split
  ·exact⟨rfl,rfl⟩
  ·split<;>exact⟨rfl,rfl⟩
 split
 ·unfold subS;split
  ·exact⟨rfl,rfl⟩
  ·split<;>exact⟨rfl,rfl⟩
 split
 ·unfold recS;split
  ·exact⟨rfl,rfl⟩
  ·split<;>exact⟨rfl,rfl⟩
 split
 ·unfold cloS;split<;>exact⟨rfl,rfl⟩
 ·unfold reaS;split<;>exact⟨rfl,rfl⟩
def eoQ (c:aA):Bool:=edK c.okind && decide (c.err=0)
theorem aF8 {cs:List aA} {st:MS} {i:Nat} (h:(accO cs st i).1=true):(eoQ (getC cs i)=true∧(accO cs st i).2.number=st.number+1∧qO st.text (accO cs st i).2.text)∨(eoQ (getC cs i)=false∧(accO cs st i).2.number=st.number∧(accO cs st i).2.text=st.text):=by
 have hres:∀ s:ResV,gY (resV (getC cs i)) (itV (getC cs i)) s=true→(getC cs i).err=s.err:=fun s hs=>aCb hs
 unfold accO at h ⊢
 rcases wC h with⟨h1,h2⟩ | ⟨_,hb,h2⟩
 ·rw[h2]
  have he:=hres _ h1
  unfold doS at he ⊢
  split
  ·rename_i hs
   rw[if_pos hs] at he
   refine .inr ⟨?_,rfl,rfl⟩
   have:(getC cs i).err≠0:=by rw[he];exact hs
   unfold eoQ
   simp[this]
  ·rename_i hs
   rw[if_neg hs] at he
   obtain⟨_,_,ho⟩:=tJ (Decidable.not_not.1 hs)
   rcases aQm (st:=st) (c:=(getC cs i).thread.toNat) ho with⟨a1,a2,a3,a4⟩ | ⟨a1,a3,a4⟩
   ·refine .inl ⟨?_,a3,a4⟩
    rw[a2] at he
    have a5:edK (getC cs i).okind=true:=a1
    unfold eoQ
    rw[a5,he];rfl
   ·refine .inr ⟨?_,a3,a4⟩
    rw[← he] at a1
    unfold eoQ
    cases hk:edK (getC cs i).okind with
    | false=>rfl
    | true =>
     by_cases h0:(getC cs i).err=0
     ·exact absurd ⟨hk,h0⟩ a1
     ·simp[h0]
 ·rw[h2]
  refine .inr ⟨?_,rfl,rfl⟩
  have hk:∀ e:Int,e≠0→gY (resV (getC cs i)) (itV (getC cs i)) (fA e)=true→eoQ (getC cs i)=false:=fun e he hs=>by
   have h3:=hres _ hs
   unfold eoQ
   have h4:(getC cs i).err≠0:=by rw[h3];exact he
   simp[h4]
  unfold Go.Proofs.YtdeiocppghhfdaaGreat.accB at hb
  split at hb
  ·cases hb
  ·split at hb
   ·rename_i h15
    have h15':(getC cs i).okind=15:=h15
    unfold eoQ
    rw[h15'];rfl
   ·split at hb
    ·simp only[Bool.or_eq_true,Bool.and_eq_true] at hb
     rcases hb with hb | hb
     ·exact hk 6 (by decide) hb.1
     ·exact hk 14 (by decide) hb.1
    ·split at hb
     ·simp only[Bool.and_eq_true] at hb
      exact hk 14 (by decide) hb.1
     ·cases hb
def lJ (out:List ByteArray) (m:MS):List ByteArray:=if m.number=(out.length:Int) then out++[m.text] else out
theorem wD (l:List MS):kE l=l.foldl lJ []:=rfl
structure TxOk (out:List ByteArray) (t0:ByteArray) (st:MS):Prop where
 len:(out.length:Int)=st.number+1
 last:out.getLast? = some st.text
 head:out[0]? = some t0
 cut:∀ i a b,out[i]? = some a→out[i+1]? = some b→qO a b
theorem TxOk.step {out:List ByteArray} {t0:ByteArray} {st st':MS} (h:TxOk out t0 st) (hs:(st'.number=st.number+1∧qO st.text st'.text)∨(st'.number=st.number∧st'.text=st.text)):TxOk (lJ out st') t0 st':=by
 have hl:=h.len
 have h0:=h.head
 have hpos:0<out.length:=(List.getElem?_eq_some_iff.1 h0).1
 unfold lJ
 rcases hs with⟨h1,h2⟩ | ⟨h1,h2⟩
 ·rw[if_pos (by omega)]
  refine⟨by rw[List.length_append];simp;omega,by simp,by rw[List.getElem?_append_left hpos,h0],fun i a b ha hb => ?_⟩
  have hlt:=(List.getElem?_eq_some_iff.1 hb).1
  rw[List.length_append,List.length_singleton] at hlt
  rw[List.getElem?_append_left (by omega)] at ha
  by_cases hi:i+1<out.length
  ·rw[List.getElem?_append_left hi] at hb
   exact h.cut i a b ha hb
  ·have e:i+1=out.length:=by omega
   rw[e,List.getElem?_append_right (Nat.le_refl _),Nat.sub_self] at hb
   simp at hb
   have hla:=h.last
   rw[List.getLast?_eq_getElem?,show out.length-1=i by omega,ha] at hla
   injection hla with hla
   rw[hla,← hb]
   exact h2
 ·rw[if_neg (by omega)]
  exact⟨by omega,by rw[h2];exact h.last,h0,h.cut⟩
theorem uZ {cs:List aA} {t0:ByteArray}:∀ (o:List Nat) (st:MS) (out:List ByteArray),lV cs st o=none→TxOk (lJ out st) t0 st →
  TxOk ((jZ cs st o).foldl lJ out) t0 (mZ cs st o)∧(mZ cs st o).number=st.number+((o.filter fun i=>eoQ (getC cs i)).length:Int)∧(jZ cs st o).getLast? = some (mZ cs st o)
 | [],st,out,_,h=>by
  refine⟨h,?_,rfl⟩
  show st.number=st.number+(([]:List Nat).length:Int)
  simp
 | i::r,st,out,hp,h=>by
  unfold lV at hp
  cases ha:(accO cs st i).1 with
  | false=>rw[ha] at hp;cases hp
  | true =>
   rw[ha,if_pos rfl] at hp
   have e1:jZ cs st (i::r)=st::jZ cs (accO cs st i).2 r:=by show st::(if (accO cs st i).1=true then _ else _)=_;rw[ha,if_pos rfl]
   have e2:mZ cs st (i::r)=mZ cs (accO cs st i).2 r:=rfl
   rw[e1,e2,List.foldl_cons]
   have hne:jZ cs (accO cs st i).2 r≠[]:=by cases r<;>simp[jZ]
   rcases aF8 ha with⟨a1,a2,a3⟩ | ⟨a1,a2,a3⟩
   ·obtain⟨b1,b2,b3⟩:=uZ r _ _ hp (h.step (.inl ⟨a2,a3⟩))
    refine⟨b1,?_,?_⟩
    ·rw[b2,a2]
     have e:(i::r).filter (fun i=>eoQ (getC cs i))=i::r.filter fun i=>eoQ (getC cs i):=List.filter_cons_of_pos a1
     rw[e,List.length_cons];omega
    ·rw[List.getLast?_cons_of_ne_nil hne];exact b3
   ·obtain⟨b1,b2,b3⟩:=uZ r _ _ hp (h.step (.inr ⟨a2,a3⟩))
    refine⟨b1,?_,?_⟩
    ·rw[b2,a2]
     have e:(i::r).filter (fun i=>eoQ (getC cs i))=r.filter fun i=>eoQ (getC cs i):=List.filter_cons_of_neg (by rw[a1];simp)
     rw[e]
    ·rw[List.getLast?_cons_of_ne_nil hne];exact b3
def aF9 (cs:List aA):Nat:=(cs.filter fun c=>eP c && eoQ c).length
theorem wE (q:aA→Bool) (L:List aA):∀ (cs:List aA) (k:Nat),(∀ j,j<cs.length→getC L (k+j)=getC cs j)→((places eP cs k).filter fun i=>q (getC L i)).length=(cs.filter fun c=>eP c && q c).length
 | [],_,_=>rfl
 | c::cs,k,h=>by
  have ih:=wE q L cs (k+1) fun j hj=>by
   have:=h (j+1) (by simpa using hj)
   rw[show k+1+j=k+(j+1) by omega,this]
   rfl
  have h0:getC L k=c:=h 0 (by simp)
  show ((if eP c then k::places eP cs (k+1) else places eP cs (k+1)).filter fun i=>q (getC L i)).length=_
  cases ht:eP c with
  | false=>simp[ht,ih]
  | true =>
   rw[if_pos rfl]
   cases hq:q c with
   | false=>rw[List.filter_cons_of_neg (by rw[h0,hq];simp),List.filter_cons_of_neg (by simp[hq]),ih]
   | true=>rw[List.filter_cons_of_pos (by rw[h0,hq]),List.filter_cons_of_pos (by simp[ht,hq]),List.length_cons,List.length_cons,ih]
theorem aK1 {cs:List aA} {E:List Nat} (hE:lX cs E):((ordW cs E).filter fun i=>eoQ (getC cs i)).length=aF9 cs:=by
 rw[(((aAn hE).trans hE.1).filter _).length_eq]
 exact wE eoQ cs cs 0 fun j _=>by rw[Nat.zero_add]
theorem aK2 {c:CfgV} {cs:List aA} {E:List Nat} (hE:lX cs E) (h:(rC c cs E).2=0) :
  TxOk (kE (jZ cs (newS c) (ordW cs E))) c.text (mZ cs (newS c) (ordW cs E))∧(mZ cs (newS c) (ordW cs E)).number=aF9 cs∧(jZ cs (newS c) (ordW cs E)).getLast? = some (mZ cs (newS c) (ordW cs E)):=by
 obtain⟨h1,h0,h3⟩:=nI h
 have hst:TxOk (lJ [] (newS c)) c.text (newS c):=by
  have e:lJ [] (newS c)=[c.text]:=rfl
  rw[e]
  refine⟨rfl,rfl,rfl,fun i a b ha hb => ?_⟩
  simp at hb
 obtain⟨b1,b2,b3⟩:=uZ (ordW cs E) (newS c) [] h3 hst
 refine⟨b1,?_,b3⟩
 rw[b2,aK1 hE]
 show (0:Int)+_=_
 omega
end Go.Proofs.YtdeiocppghhfdaaGreat.Lin
