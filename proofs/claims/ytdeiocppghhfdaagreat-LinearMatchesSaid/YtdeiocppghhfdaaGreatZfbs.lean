/- Texts, one behind another. -/
import Derived.Test.YtdeiocppghhfdaaGreatZfbr
set_option linter.unusedVariables false
set_option linter.unusedSimpArgs false
set_option maxRecDepth 100000
set_option maxHeartbeats 40000000
namespace Go.Proofs.YtdeiocppghhfdaaGreat.Hs
open Go.RowKit Go.Lib Go.Shelf
open KitI (iv IRow own_below kH)
attribute [local go_sem, local simp] dP
attribute [local go_sem ↓] aN aR
attribute [local go_sem] bX bB aX bH cK
def RaI (w:World) (p po:Option Addr) (cap co:Nat) (cs:List aA) (order:List Int) (g:Nat) (a:Act) (wr:World):Prop :=
 ∃ (i:Nat) (u:Nat→Value),a={ tmps := #[.slice po order.length co,.slice p cs.length cap,u 2,u 3,u 4,u 5,u 6,u 7,.slice (some ⟨g,0,none⟩) cs.length cs.length,u 9,.int .i64 i,u 11,u 12,u 13,u 14,u 15,u 16,u 17,u 18,u 19,u 20,u 21,u 22,u 23,u 24,u 25,u 26,u 27,u 28,u 29,u 30,u 31,u 32,u 33,u 34,u 35,u 36,u 37,u 38,u 39,u 40,u 41,u 42,u 43,u 44,u 45,u 46,u 47,u 48,u 49,u 50,u 51,u 52,u 53,u 54,u 55,u 56,u 57,u 58,u 59,u 60,u 61,u 62,u 63,u 64,u 65,u 66,u 67,u 68,u 69,u 70,u 71,u 72,u 73,u 74,u 75,u 76,u 77,u 78,u 79,u 80,u 81,u 82,u 83,u 84,u 85,u 86,u 87,u 88,u 89,u 90,u 91,u 92,u 93,u 94,u 95,u 96,u 97,u 98,u 99,u 100,u 101,u 102,u 103,u 104],defers:=[] }∧i≤cs.length∧(∀ x y,x<i→y<cs.length→dO order cs x y=true)∧AInv w p cs order g g wr
theorem RaI.intro {w:World} {p po:Option Addr} {cap co:Nat} {cs:List aA} {order:List Int} {g:Nat} {a:Act} {wr:World} (i:Nat) {uu:Nat→Value} (_:uu=fun i=>a.tmps.getD i undef) (h:a={ tmps := #[.slice po order.length co,.slice p cs.length cap,uu 2,uu 3,uu 4,uu 5,uu 6,uu 7,.slice (some ⟨g,0,none⟩) cs.length cs.length,uu 9,.int .i64 i,uu 11,uu 12,uu 13,uu 14,uu 15,uu 16,uu 17,uu 18,uu 19,uu 20,uu 21,uu 22,uu 23,uu 24,uu 25,uu 26,uu 27,uu 28,uu 29,uu 30,uu 31,uu 32,uu 33,uu 34,uu 35,uu 36,uu 37,uu 38,uu 39,uu 40,uu 41,uu 42,uu 43,uu 44,uu 45,uu 46,uu 47,uu 48,uu 49,uu 50,uu 51,uu 52,uu 53,uu 54,uu 55,uu 56,uu 57,uu 58,uu 59,uu 60,uu 61,uu 62,uu 63,uu 64,uu 65,uu 66,uu 67,uu 68,uu 69,uu 70,uu 71,uu 72,uu 73,uu 74,uu 75,uu 76,uu 77,uu 78,uu 79,uu 80,uu 81,uu 82,uu 83,uu 84,uu 85,uu 86,uu 87,uu 88,uu 89,uu 90,uu 91,uu 92,uu 93,uu 94,uu 95,uu 96,uu 97,uu 98,uu 99,uu 100,uu 101,uu 102,uu 103,uu 104],defers:=[] })
  (hi:i≤cs.length) (hg:∀ x y,x<i→y<cs.length→dO order cs x y=true) (hA:AInv w p cs order g g wr):RaI w p po cap co cs order g a wr:=⟨i,uu,h,hi,hg,hA⟩
def RaJ (w:World) (p po:Option Addr) (cap co:Nat) (cs:List aA) (order:List Int) (g i:Nat) (a:Act) (wr:World):Prop :=
 ∃ (j:Nat) (u:Nat→Value),a={ tmps := #[.slice po order.length co,.slice p cs.length cap,u 2,u 3,u 4,u 5,u 6,u 7,.slice (some ⟨g,0,none⟩) cs.length cs.length,u 9,.int .i64 i,.int .i64 j,u 12,u 13,u 14,u 15,u 16,u 17,u 18,u 19,u 20,u 21,u 22,u 23,u 24,u 25,u 26,u 27,u 28,u 29,u 30,u 31,u 32,u 33,u 34,u 35,u 36,u 37,u 38,u 39,u 40,u 41,u 42,u 43,u 44,u 45,u 46,u 47,u 48,u 49,u 50,u 51,u 52,u 53,u 54,u 55,u 56,u 57,u 58,u 59,u 60,u 61,u 62,u 63,u 64,u 65,u 66,u 67,u 68,u 69,u 70,u 71,u 72,u 73,u 74,u 75,u 76,u 77,u 78,u 79,u 80,u 81,u 82,u 83,u 84,u 85,u 86,u 87,u 88,u 89,u 90,u 91,u 92,u 93,u 94,u 95,u 96,u 97,u 98,u 99,u 100,u 101,u 102,u 103,u 104],defers:=[] }∧j≤cs.length∧(∀ y,y<j→dO order cs i y=true)∧AInv w p cs order g g wr
theorem RaJ.intro {w:World} {p po:Option Addr} {cap co:Nat} {cs:List aA} {order:List Int} {g i:Nat} {a:Act} {wr:World} (j:Nat) {uu:Nat→Value} (_:uu=fun i=>a.tmps.getD i undef) (h:a={ tmps := #[.slice po order.length co,.slice p cs.length cap,uu 2,uu 3,uu 4,uu 5,uu 6,uu 7,.slice (some ⟨g,0,none⟩) cs.length cs.length,uu 9,.int .i64 i,.int .i64 j,uu 12,uu 13,uu 14,uu 15,uu 16,uu 17,uu 18,uu 19,uu 20,uu 21,uu 22,uu 23,uu 24,uu 25,uu 26,uu 27,uu 28,uu 29,uu 30,uu 31,uu 32,uu 33,uu 34,uu 35,uu 36,uu 37,uu 38,uu 39,uu 40,uu 41,uu 42,uu 43,uu 44,uu 45,uu 46,uu 47,uu 48,uu 49,uu 50,uu 51,uu 52,uu 53,uu 54,uu 55,uu 56,uu 57,uu 58,uu 59,uu 60,uu 61,uu 62,uu 63,uu 64,uu 65,uu 66,uu 67,uu 68,uu 69,uu 70,uu 71,uu 72,uu 73,uu 74,uu 75,uu 76,uu 77,uu 78,uu 79,uu 80,uu 81,uu 82,uu 83,uu 84,uu 85,uu 86,uu 87,uu 88,uu 89,uu 90,uu 91,uu 92,uu 93,uu 94,uu 95,uu 96,uu 97,uu 98,uu 99,uu 100,uu 101,uu 102,uu 103,uu 104],defers:=[] })
  (hj:j≤cs.length) (hg:∀ y,y<j→dO order cs i y=true) (hA:AInv w p cs order g g wr):RaJ w p po cap co cs order g i a wr:=⟨j,uu,h,hj,hg,hA⟩
set_option linter.unusedSimpArgs false in
theorem aAs (p po:Option Addr) (cap co:Nat) (cs:List aA) (order:List Int) (w:World) (hC:CRow w p cap cs) (hO:IRd w po order) (hs:cs.length≤1000000) (hs2:order.length≤1000000) (hok:∀ c∈cs,c.Ok) (hd:∀ c∈cs,DAt w c) (h0:(bF cs).2=0) :
  Calls Tryz.prog 72 #[.slice po order.length co,.slice p cs.length cap] w fun e w'=>e = .returned (.tuple #[.bool (aQ order cs).1,.int .i64 (aQ order cs).2])∧Below w.heap.size w w':=by
 obtain⟨i0,hi,hz0,hz1,hz2⟩:=info_parts kH
 have ck:=lW p cap cs w hC hs hok hd
 obtain⟨k1,hk1⟩:∃ k1,(bF cs).1=k1:=⟨_,rfl⟩
 rw[hk1,h0] at ck
 have H0:=Lib.hid h0
 clear h0 hk1
 have hag:aQ order cs=if ordE cs.length [] order=0 then (fV order cs,0) else (false,ordE cs.length [] order):=by unfold aQ;rw[if_pos H0.out]
 have Hag:=Lib.hid hag
 clear hag
 go_enter Tryz.func72,Tryz.ntmps72
 go_wp2_with fail
 refine ck.mono ?_
 clear ck
 rintro e w1 ⟨rfl,hB1⟩
 obtain⟨w2,hmk,hown,hgr⟩:=run_make_full (P := Tryz.prog) w1 w1.heap.size 28 3 i0 (.int .i64 0) 1 Tryz.underlying28 hi hz0 hz1 .i64 .i64 cs.length (by rw[hz2];omega) (by unfold maxLen;omega) (Nat.le_refl _)
 have hB2:=hB1.grown hgr hB1.size (fun k hk=>by cases hk)
 have hb2:Below w1.heap.size w1 w2:=(Below.refl _ _).grown hgr (Nat.le_refl _) (fun k hk=>by cases hk)
 have hpl:(madeCells (Value.cells (.int .i64 0)) (cs.length*1)).toList=plV [] cs.length:=by
  rw[Nat.mul_one]
  have e:Value.cells (.int .i64 0) = #[.int .i64 0]:=rfl
  rw[e,toList_madeCells_one]
  unfold plV
  apply List.ext_getElem?
  intro j
  by_cases hj:j<cs.length
  ·simp[hj,aFt]
  ·rw[List.getElem?_eq_none (by simp;omega),List.getElem?_eq_none (by simp;omega)]
 rw[hpl] at hown
 have hA:AInv w p cs [] w1.heap.size w1.heap.size w2:=⟨fun b off e=>by
  rcases hC with⟨h,_⟩ | ⟨b',off',h,_,hbb,hc⟩
  ·rw[h] at e;cases e
  ·rw[h] at e;cases e;exact hc.on hB2,hown,hB2⟩
 have hO2:∀ b off,po=some ⟨b,off,none⟩→∀ j u,order[j]? = some u→w2.cell? ⟨b,off+j,none⟩=some (iv u):=by
  intro b off e j u hj
  rcases hO with h2 | ⟨b',off',h,hc⟩
  ·rw[h2] at hj;simp at hj
  ·rw[e] at h
   simp only[Option.some.injEq,Addr.mk.injEq,and_true] at h
   obtain⟨rfl,rfl⟩:=h
   rw[hB2.cell (KitI.cO (hc j u hj))]
   exact hc j u hj
 have hz1:w1.heap.size≤w2.heap.size:=hgr.size
 have hgw:w.heap.size≤w1.heap.size:=hB1.size
 have Hgw:=Lib.hid hgw
 have hpB:∀ b off,p=some (⟨b,off,none⟩:Addr)→b<w1.heap.size:=fun b off e=>by
  rcases hC with⟨h,_⟩ | ⟨b',off',h,_,hbb,hc⟩
  ·rw[h] at e;cases e
  ·rw[h] at e;cases e;omega
 have hoB:∀ b off,po=some (⟨b,off,none⟩:Addr)→∀ {k:Nat},k<order.length→b<w1.heap.size:=fun b off e k hk=>by
  rcases hO with h2 | ⟨b',off',h,hc⟩
  ·rw[h2] at hk;simp at hk
  ·rw[e] at h
   simp only[Option.some.injEq,Addr.mk.injEq,and_true] at h
   obtain⟨rfl,rfl⟩:=h
   have:=KitI.cO (hc k _ (gEz hk))
   simp at this
   omega
 have HpB:=Lib.hid hpB
 have HoB:=Lib.hid hoB
 have hkeep:∀ (W:World) (n:Nat) (v:Value) (q:Addr),q.block<w1.heap.size→(W.setCell ⟨w1.heap.size,n,none⟩ v).cell? q=W.cell? q:=fun W n v q hq=>((Below.refl _ _).setCell (p:=⟨w1.heap.size,n,none⟩) (Nat.le_refl _) v).cell hq
 have HKeep:=Lib.hid hkeep
 clear hgw hpB hoB hkeep
 generalize hg1:w1.heap.size=g at *
 have Hg1:=Lib.hid hg1
 clear hg1 hown hgr hpl hB1 hB2 hb2
 go_wp2
 go_loopw [9] (fun i wr=>ORel w p cs order g g po i wr) (fun i wr=>order.length-(intOf i).toNat)
 case atStart=>exact⟨0,rfl,by omega,rfl,hA,hO2⟩
 case round =>
  clear hA hO2 hmk
  obtain⟨k,rfl,hk,he,hA,hO2⟩:=hrel
  by_cases hlt:k<order.length
  ·obtain⟨x,hx⟩:∃ x,order[k]? = some x:=⟨_,gEz hlt⟩
   have hst:=xK he x hx
   rw[he] at hst
   obtain⟨bo,oo,rfl⟩:∃ bo oo,po=some ⟨bo,oo,none⟩:=by
    rcases hO with h2 | ⟨b',off',h,_⟩
    ·rw[h2] at hlt;simp at hlt
    ·exact⟨b',off',h⟩
   have cx:=hO2 bo oo rfl k x hx
   unfold iv at cx
   have Hx:=Lib.hid hx
   have HO2:=Lib.hid hO2
   clear hO2 hO he hx
   by_cases hr:x<0∨(cs.length:Int)≤x
   ·rw[if_pos hr] at hst
    have Hst:=Lib.hid hst
    have hres:aQ order cs=(false,3):=by rw[Hag.out,Hst.out];rfl
    have Hres:=Lib.hid hres
    clear hst hres
    by_cases hx0:x<0
    ·clear hr
     go_wp2
     go_returns
     exact⟨kC (by rw[Hres.out]) (by rw[Hres.out]),hA.bl⟩
    ·have hx1:(cs.length:Int)≤x:=by omega
     have hx2:0≤x:=by omega
     clear hr hx0
     go_wp2
     go_returns
     exact⟨kC (by rw[Hres.out]) (by rw[Hres.out]),hA.bl⟩
   ·rw[if_neg hr] at hst
    obtain⟨n,rfl⟩:∃ n:Nat,x=n:=⟨x.toNat,by omega⟩
    have hn:n<cs.length:=by omega
    have cz:=hA.own.cellAt n (by omega)
    rw[rP hn] at cz
    have fz:=hA.own.frozenAt n
    by_cases hm:(n:Int)∈order.take k
    ·rw[if_pos hm] at hst
     have Hst:=Lib.hid hst
     have hz:¬ plc (order.take k) n=0:=fun e=>(pY.1 e) hm
     have hz2:decide (0<plc (order.take k) n)=true:=by have:=oW (order.take k) n;simp;omega
     have hres:aQ order cs=(false,9):=by rw[Hag.out,Hst.out];rfl
     have Hres:=Lib.hid hres
     clear hst hr hm hres hz
     go_wp2
     go_returns
     exact⟨kC (by rw[Hres.out]) (by rw[Hres.out]),hA.bl⟩
    ·rw[if_neg hm] at hst
     have hz:plc (order.take k) n=0:=pY.2 hm
     rw[hz] at cz
     have hset:=aFu (n:=cs.length) hm
     have hlen:(order.take k).length=k:=by rw[List.length_take];omega
     rw[hlen] at hset
     have hst2:=hA.own.stored n (.int .i64 ((k:Int)+1))
     rw[hset] at hst2
     have htk:order.take k++[(n:Int)]=order.take (k+1):=by rw[List.take_add_one,Hx.out];rfl
     rw[htk] at hst2
     have hbl:=hA.bl
     have Hst:=Lib.hid hst
     have HA:=Lib.hid hA
     clear hst hr hm hz hset hlen htk hA
     go_wp2
     have hA':AInv w p cs (order.take (k+1)) g g (wr.setCell ⟨g,n,none⟩ (.int .i64 ((k:Int)+1))) :=
      ⟨fun b off e j u hj=>by rw[HKeep.out wr n _ _ (HpB.out b off e)];exact HA.out.row b off e j u hj,hst2.1,hbl.setCell (by simpa using Hgw.out) _⟩
     have hO':∀ b off,some (⟨bo,oo,none⟩:Addr)=some ⟨b,off,none⟩→∀ j u,order[j]? = some u→(wr.setCell ⟨g,n,none⟩ (.int .i64 ((k:Int)+1))).cell? ⟨b,off+j,none⟩=some (iv u) :=
      fun b off e j u hj=>by rw[HKeep.out wr n _ _ (HoB.out b off e hlt)];exact HO2.out b off e j u hj
     exact⟨⟨k+1,by go_num,by omega,Hst.out.symm,hA',hO'⟩,by simp[intOf];omega⟩
  ·have hkk:k=order.length:=by omega
   rw[hkk,List.take_length,List.drop_length] at he
   rw[hkk,List.take_length] at hA
   have hres:aQ order cs=(fV order cs,0):=by rw[Hag.out,if_pos (he.symm.trans (by simp[ordE]))]
   have Hres:=Lib.hid hres
   clear hres he hO2 hkk hk hO
   go_wp2
   refine wp_loop (RaI w p po cap co cs order g) (fun a _=>cs.length-(intOf (a.tmps.getD 10 undef)).toNat) ?_ ?_
   ·exact RaI.intro 0 rfl rfl (by omega) (fun x y hx=>by omega) hA
   ·clear hA
    rintro a wo ⟨i,u,rfl,hi9,hgood,hA⟩
    have Hg:=Lib.hid hgood
    clear hgood
    by_cases hlt:i<cs.length
    ·obtain⟨c,hc⟩:∃ c,cs[i]? = some c:=⟨_,gEz hlt⟩
     obtain⟨b,off,rfl,hcap⟩:∃ b off,p=some ⟨b,off,none⟩∧cs.length≤cap:=by
      rcases hC with⟨_,_,h⟩ | ⟨b,off,h,h2,_⟩
      ·rw[h] at hlt;simp at hlt
      ·exact⟨b,off,h,h2⟩
     have Hc:=Lib.hid hc
     clear hc hC
     go_wp2
     refine wp_loop (RaJ w (some ⟨b,off,none⟩) po cap co cs order g i) (fun a _=>cs.length-(intOf (a.tmps.getD 11 undef)).toNat) ?_ ?_
     ·exact RaJ.intro 0 rfl rfl (by omega) (fun y hy=>by omega) hA
     ·clear hA
      rintro a wr ⟨j,u,rfl,hj9,hgood,hA⟩
      have Hj:=Lib.hid hgood
      clear hgood
      by_cases hjl:j<cs.length
      ·obtain⟨d,hd⟩:∃ d,cs[j]? = some d:=⟨_,gEz hjl⟩
       have hpair:dO order cs i j = !(decide (plc order j≠0) && befB c d && (decide (plc order i=0) || decide (plc order j<plc order i))):=by unfold dO;rw[Hc.out,hd]
       have hnj:=oW order j
       have hni:=oW order i
       obtain⟨zj,hzj⟩:∃ z,plc order j=z:=⟨_,rfl⟩
       obtain⟨zi,hzi⟩:∃ z,plc order i=z:=⟨_,rfl⟩
       have kx:∀ W,AInv w (some ⟨b,off,none⟩) cs order g g W→((aM (.pointer (some ⟨b,off+i*27,none⟩))).run Tryz.prog W = .ok (.agg (aB c).toArray) W∧(aM (.pointer (some ⟨b,off+j*27,none⟩))).run Tryz.prog W = .ok (.agg (aB d).toArray) W∧W.cell? ⟨g,j,none⟩=some (.int .i64 zj)∧W.cell? ⟨g,i,none⟩=some (.int .i64 zi))∧AInv w (some ⟨b,off,none⟩) cs order g g W:=fun W h =>
        ⟨⟨(h.row b off rfl).load Hc.out,(h.row b off rfl).load hd,by have:=h.own.cellAt j (by omega);rwa [rP hjl,hzj] at this,by have:=h.own.cellAt i (by omega);rwa [rP hlt,hzi] at this⟩,h⟩
       have Kx:=Lib.hid kx
       have bc:=fun W=>kG c d W
       have hx0:=hA.on (Below.refl _ _).drew
       rw[hzj,hzi] at hpair
       rw[hzj] at hnj
       rw[hzi] at hni
       generalize befB c d=x at *
       have Hpair:=Lib.hid hpair
       clear kx hd hA hpair hzj hzi
       have hcase:(x=false∧dO order cs i j=true)∨(x=true∧decide (0<zj)=false∧dO order cs i j=true)∨(x=true∧decide (0<zj)=true∧(zi == 0)=true∧dO order cs i j=false)∨(x=true∧decide (0<zj)=true∧(zi == 0)=false∧decide (zj<zi)=true∧dO order cs i j=false)∨(x=true∧decide (0<zj)=true∧(zi == 0)=false∧decide (zj<zi)=false∧dO order cs i j=true):=by
        rw[Hpair.out]
        cases x
        ·simp
        by_cases a:zj=0
        ·simp[a]
        by_cases b:zi=0
        ·simp[a,b];omega
        by_cases d:zj<zi
        ·simp[a,b,d];omega
        simp[a,b,d];omega
       rcases hcase with⟨rfl,hp⟩ | ⟨rfl,e1,hp⟩ | ⟨rfl,e1,e2,hp⟩ | ⟨rfl,e1,e2,e3,hp⟩ | ⟨rfl,e1,e2,e3,hp⟩
       all_goals
        have Hp:=Lib.hid hp
        clear hp
        go_wp2
        refine aP (S:=fun W=>((aM (.pointer (some ⟨b,off+i*27,none⟩))).run Tryz.prog W = .ok (.agg (aB c).toArray) W∧(aM (.pointer (some ⟨b,off+j*27,none⟩))).run Tryz.prog W = .ok (.agg (aB d).toArray) W∧W.cell? ⟨g,j,none⟩=some (.int .i64 zj)∧W.cell? ⟨g,i,none⟩=some (.int .i64 zi))∧AInv w (some ⟨b,off,none⟩) cs order g g W) ?_ (fun hHeld => ?_)
        ·first | exact Kx.out _ hx1 | exact Kx.out _ hx0
        iterate 8 ((first | refine aJ ?_ | refine np_q ?_ | refine aL 0 ?_);(try simp only[nSO]))
        first | (refine np_s 8 ?_;(try simp only[nSO])) | (refine np_c 8 (fun K hK => ?_);go_simp;((go_at_call 126;refine (bc _).mono ?_;rintro e v9 ⟨rfl,hbc⟩;have hx1:=hHeld.2.on hbc));(try go_wp2_with fail);refine hK.out _ _ ?_ (fun hHeld => ?_);(· (first | exact Kx.out _ hx1 | exact Kx.out _ hx0));clear hK K;(try simp only[nSO]))
        iterate 25 ((first | refine aJ ?_ | refine np_q ?_);(try simp only[nSO]))
        refine np_z ?_
        have hA:=hHeld.2
        clear hHeld bc hx0
        first
        |have _:_=true:=Hp.out
         go_wp2
         exact⟨RaJ.intro (j+1) rfl rfl (by omega) (aA2 Hj.out Hp.out) hA,by simp[intOf];omega⟩
        |skip
         have hbl:=hA.bl
         have hno:=aA1 hlt hjl Hp.out
         have Hno:=Lib.hid hno
         clear hno
         go_wp2
         go_returns
         exact⟨kC (by rw[Hres.out,Hno.out]) (by rw[Hres.out]),hbl⟩
      ·have hjj:j=cs.length:=by omega
       subst hjj
       go_wp2
       refine⟨RaI.intro (i+1) rfl rfl (by omega) (fun x y hx hy => ?_) hA,by simp[intOf];omega⟩
       by_cases e:x=i
       ·rw[e];exact Hj.out y hy
       ·exact Hg.out x y (by omega) hy
    ·have hkk:i=cs.length:=by omega
     have hyes:fV order cs=true:=xL (fun x y hx hy=>Hg.out x y (by omega) hy)
     have Hyes:=Lib.hid hyes
     clear hyes
     go_wp2
     go_returns
     exact⟨kC (by rw[Hres.out,Hyes.out]) (by rw[Hres.out]),hA.bl⟩
theorem xH (p po:Option Addr) (cap co:Nat) (cs:List aA) (order:List Int) (w:World) (hC:CRow w p cap cs) (hs:cs.length≤1000000) (hok:∀ c∈cs,c.Ok) (hd:∀ c∈cs,DAt w c) (h0:(bF cs).2=22) :
  Calls Tryz.prog 72 #[.slice po order.length co,.slice p cs.length cap] w fun e w'=>e = .returned (.tuple #[.bool (aQ order cs).1,.int .i64 (aQ order cs).2])∧Below w.heap.size w w':=by
 have ck:=lW p cap cs w hC hs hok hd
 obtain⟨k1,hk1⟩:∃ k1,(bF cs).1=k1:=⟨_,rfl⟩
 rw[hk1,h0] at ck
 have hres:aQ order cs=(false,22):=by unfold aQ;rw[if_neg (by rw[h0];decide)]
 rw[hres]
 clear h0 hk1 hres
 go_enter Tryz.func72,Tryz.ntmps72
 go_wp2_with fail
 refine ck.mono ?_
 clear ck
 rintro e w1 ⟨rfl,hB1⟩
 go_wp2
 go_returns
 exact⟨rfl,hB1⟩
theorem xI (p po:Option Addr) (cap co:Nat) (cs:List aA) (order:List Int) (w:World) (hC:CRow w p cap cs) (hO:IRd w po order) (hs:cs.length≤1000000) (hs2:order.length≤1000000) (hok:∀ c∈cs,c.Ok) (hd:∀ c∈cs,DAt w c) :
  Calls Tryz.prog 72 #[.slice po order.length co,.slice p cs.length cap] w fun e w'=>e = .returned (.tuple #[.bool (aQ order cs).1,.int .i64 (aQ order cs).2])∧Below w.heap.size w w':=by
 rcases nL cs with h0 | h22
 ·exact aAs p po cap co cs order w hC hO hs hs2 hok hd h0
 ·exact xH p po cap co cs order w hC hs hok hd h22
end Go.Proofs.YtdeiocppghhfdaaGreat.Hs
