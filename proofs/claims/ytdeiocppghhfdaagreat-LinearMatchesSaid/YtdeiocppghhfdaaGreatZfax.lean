/- Texts, one behind another. -/
import Derived.Test.YtdeiocppghhfdaaGreatZfat
import Derived.Test.YtdeiocppghhfdaaGreatZfaw
set_option linter.unusedVariables false
set_option linter.unusedSimpArgs false
set_option maxRecDepth 100000
set_option maxHeartbeats 40000000
namespace Go.Proofs.YtdeiocppghhfdaaGreat.Hs
open Go.RowKit Go.WideShapes Go.ChangeShapes Go.Deep
section
variable {H:Type} {enc:TypeId × Value→H} {w:World} {base:Nat} {spare:Nat→Bool} {held:Bool}
theorem aB6 {fuel:Nat} {cs:List Value} {x:DataW H × List MemPlace} (h:DataW.trod enc Tryz.prog w base spare held fuel 94 cs=some x):∃ p:dZ,cs=gL p:=by
 have hlen:cs.length=3:=by
  obtain⟨_,_,_,_,hl,_⟩:=DataW.trod_struct Tryz.underlying94 h
  rw[hl]
  kernel_rfl
 obtain⟨_,_,h0⟩:=aT Tryz.underlying94 h 0 _ rfl
 obtain⟨z0,x0,w0⟩:=bA Tryz.underlying5 h0
 obtain⟨_,_,h1⟩:=aT Tryz.underlying94 h 1 _ rfl
 obtain⟨z1,x1,w1⟩:=bA Tryz.underlying3 h1
 obtain⟨_,_,h2⟩:=aT Tryz.underlying94 h 2 _ rfl
 obtain⟨z2,x2⟩:=qP Tryz.underlying9 h2
 refine⟨⟨z0,z1,z2⟩,?_⟩
 apply List.ext_getElem?
 intro j
 match j with
 |0=>exact x0
 |1=>exact x1
 |2=>exact x2
 |n+3=>rw[List.getElem?_eq_none (by omega),List.getElem?_eq_none (by rw[jH];omega)]
theorem aLj {fuel k m:Nat} {cs:List Value} {x:DataW H × List MemPlace} (h:DataW.trod enc Tryz.prog w base spare held fuel 47 ((cs.drop k).take m)=some x):∃ (a:Option Addr) (n c:Nat) (ps:List dZ),cs[k]? = some (.slice a n c)∧ps.length=n ∧
  ((ps=[]∧(a=none→c=0))∨∃ b off,a=some ⟨b,off,none⟩∧ps.length≤c∧ps.length<9223372036854775808∧b<w.heap.size∧∀ j u,(bO ps)[j]? = some u→w.cell? ⟨b,off+j,none⟩=some u):=by
 rcases open_slice Tryz.underlying47 h with⟨h1,_⟩ | ⟨a,len,cap,q,n,D,Pl,h1,hb,hlc,hcap,hq,_,hel⟩
 ·exact⟨_,_,_,[],cell_of h1,rfl,.inl ⟨rfl,fun _=>rfl⟩⟩
 ·have hc3 : Tryz.prog.cellsOf 94=3:=by kernel_rfl
  rw[hc3] at hel
  have hlq:len≤q:=by rw[hq];split<;>omega
  obtain⟨ps,hl,_,hcell⟩:=uC (w:=w) (base:=base) gL 3 jH a (fun _=>True) len (fun i hi=>by
   obtain⟨cs',h1,h2⟩:=hel i (by omega)
   obtain⟨p,rfl⟩:=aB6 h2
   exact⟨p,h1,trivial⟩)
  refine⟨_,_,_,ps,cell_of h1,hl,?_⟩
  by_cases h0:ps=[]
  ·exact .inl ⟨h0,fun e=>by cases e⟩
  ·right
   obtain⟨b,off,spot⟩:=a
   have hpos:0<ps.length:=by
    rcases ps with _ | ⟨p,ps⟩
    ·exact absurd rfl h0
    ·simp
   obtain⟨u,hu⟩:∃ u,(bO ps)[0]? = some u:=⟨_,gEz (by rw[jT];omega)⟩
   have g0:=hcell 0 u hu
   have hspot:spot=none:=by simpa [Addr.add] using World.cell?_spot g0
   subst hspot
   have hblk:b<w.heap.size:=by
    have:=cO g0
    simpa [Addr.add] using this
   have hml:maxLen<9223372036854775808:=by unfold maxLen;omega
   exact⟨b,off,rfl,by omega,by omega,hblk,fun j u hj=>by have:=hcell j u hj;rwa [add_plain] at this⟩
theorem aIj {fuel:Nat} {cs:List Value} {x:DataW H × List MemPlace} (h:DataW.trod enc Tryz.prog w base spare held fuel 56 cs=some x):∃ c:aA,cs=aB c∧c.Ok∧DRaw w c:=by
 have hlen:cs.length=27:=by
  obtain⟨_,_,_,_,hl,_⟩:=DataW.trod_struct Tryz.underlying56 h
  rw[hl]
  kernel_rfl
 obtain⟨_,_,h_0⟩:=aT Tryz.underlying56 h 0 _ rfl
 obtain⟨z0,x0,w0⟩:=bA Tryz.underlying3 h_0
 obtain⟨_,_,h_1⟩:=aT Tryz.underlying56 h 1 _ rfl
 obtain⟨z1,x1,w1⟩:=bA Tryz.underlying3 h_1
 obtain⟨_,_,h_2⟩:=aT Tryz.underlying56 h 2 _ rfl
 obtain⟨_,_,h_2_0⟩:=aT Tryz.underlying54 h_2 0 _ rfl
 obtain⟨z2,x2,w2⟩:=bA Tryz.underlying5 h_2_0
 replace x2:=bC x2
 obtain⟨_,_,h_2_1⟩:=aT Tryz.underlying54 h_2 1 _ rfl
 obtain⟨z3,x3,w3⟩:=bA Tryz.underlying3 h_2_1
 replace x3:=bC x3
 obtain⟨_,_,h_2_2⟩:=aT Tryz.underlying54 h_2 2 _ rfl
 obtain⟨z4,x4,w4⟩:=bA Tryz.underlying3 h_2_2
 replace x4:=bC x4
 obtain⟨_,_,h_2_3⟩:=aT Tryz.underlying54 h_2 3 _ rfl
 obtain⟨z5,x5,w5⟩:=bA Tryz.underlying3 h_2_3
 replace x5:=bC x5
 obtain⟨_,_,h_2_4⟩:=aT Tryz.underlying54 h_2 4 _ rfl
 obtain⟨z6,x6,w6⟩:=bA Tryz.underlying52 h_2_4
 replace x6:=bC x6
 obtain⟨_,_,h_2_5⟩:=aT Tryz.underlying54 h_2 5 _ rfl
 obtain⟨z7,x7,w7⟩:=bA Tryz.underlying5 h_2_5
 replace x7:=bC x7
 obtain⟨_,_,h_2_6⟩:=aT Tryz.underlying54 h_2 6 _ rfl
 obtain⟨z8,x8⟩:=qP Tryz.underlying9 h_2_6
 replace x8:=bC x8
 obtain⟨_,_,h_3⟩:=aT Tryz.underlying56 h 3 _ rfl
 obtain⟨z9,x9,w9⟩:=bA Tryz.underlying3 h_3
 obtain⟨_,_,h_4⟩:=aT Tryz.underlying56 h 4 _ rfl
 obtain⟨z10,x10,w10⟩:=bA Tryz.underlying3 h_4
 obtain⟨_,_,h_5⟩:=aT Tryz.underlying56 h 5 _ rfl
 obtain⟨z11,x11,w11⟩:=bA Tryz.underlying3 h_5
 obtain⟨_,_,h_6⟩:=aT Tryz.underlying56 h 6 _ rfl
 obtain⟨z12,x12,w12⟩:=bA Tryz.underlying3 h_6
 obtain⟨_,_,h_7⟩:=aT Tryz.underlying56 h 7 _ rfl
 obtain⟨z13,x13,w13⟩:=bA Tryz.underlying3 h_7
 obtain⟨_,_,h_8⟩:=aT Tryz.underlying56 h 8 _ rfl
 obtain⟨_,_,h_8_0⟩:=aT Tryz.underlying51 h_8 0 _ rfl
 obtain⟨z14,x14,w14⟩:=bA Tryz.underlying29 h_8_0
 replace x14:=bC x14
 obtain⟨_,_,h_8_1⟩:=aT Tryz.underlying51 h_8 1 _ rfl
 obtain⟨z15,x15,w15⟩:=bA Tryz.underlying3 h_8_1
 replace x15:=bC x15
 obtain⟨_,_,h_8_2⟩:=aT Tryz.underlying51 h_8 2 _ rfl
 obtain⟨z16,x16,w16⟩:=bA Tryz.underlying3 h_8_2
 replace x16:=bC x16
 obtain⟨_,_,h_8_3⟩:=aT Tryz.underlying51 h_8 3 _ rfl
 obtain⟨z17,x17,w17⟩:=bA Tryz.underlying3 h_8_3
 replace x17:=bC x17
 obtain⟨_,_,h_8_4⟩:=aT Tryz.underlying51 h_8 4 _ rfl
 obtain⟨z18,x18,w18⟩:=bA Tryz.underlying5 h_8_4
 replace x18:=bC x18
 obtain⟨_,_,h_8_5⟩:=aT Tryz.underlying51 h_8 5 _ rfl
 obtain⟨z19,x19⟩:=qP Tryz.underlying9 h_8_5
 replace x19:=bC x19
 obtain⟨_,_,h_8_6⟩:=aT Tryz.underlying51 h_8 6 _ rfl
 obtain⟨_,_,h_8_6_0⟩:=aT Tryz.underlying46 h_8_6 0 _ rfl
 obtain⟨z20,x20,w20⟩:=bA Tryz.underlying3 h_8_6_0
 replace x20:=bC x20
 replace x20:=bC x20
 obtain⟨_,_,h_8_6_1⟩:=aT Tryz.underlying46 h_8_6 1 _ rfl
 obtain⟨z21,x21,w21⟩:=bA Tryz.underlying3 h_8_6_1
 replace x21:=bC x21
 replace x21:=bC x21
 obtain⟨_,_,h_8_6_2⟩:=aT Tryz.underlying46 h_8_6 2 _ rfl
 obtain⟨z22,x22,w22⟩:=bA Tryz.underlying3 h_8_6_2
 replace x22:=bC x22
 replace x22:=bC x22
 obtain⟨_,_,h_8_7⟩:=aT Tryz.underlying51 h_8 7 _ rfl
 obtain⟨_,_,h_8_7_0⟩:=aT Tryz.underlying49 h_8_7 0 _ rfl
 obtain⟨z23,x23,w23⟩:=bA Tryz.underlying5 h_8_7_0
 replace x23:=bC x23
 replace x23:=bC x23
 obtain⟨_,_,h_8_7_1⟩:=aT Tryz.underlying49 h_8_7 1 _ rfl
 obtain⟨z24,x24,w24⟩:=bA Tryz.underlying3 h_8_7_1
 replace x24:=bC x24
 replace x24:=bC x24
 obtain⟨_,_,h_8_7_2⟩:=aT Tryz.underlying49 h_8_7 2 _ rfl
 obtain⟨z25,x25,w25⟩:=bA Tryz.underlying3 h_8_7_2
 replace x25:=bC x25
 replace x25:=bC x25
 obtain⟨_,_,h_8_7_3⟩:=aT Tryz.underlying49 h_8_7 3 _ rfl
 obtain⟨da,ln,dc,ps,x26,hps,hraw⟩:=aLj h_8_7_3
 replace x26:=bC x26
 replace x26:=bC x26
 refine⟨{ thread:=z0,index:=z1,okind:=z2,oslot:=z3,oat:=z4,on:=z5,oid:=z6,ograv:=z7,otext:=z8,invoked:=z9,took:=z10,rank:=z11,answered:=z12,steps:=z13,err:=z14,rev:=z15,rslot:=z16,rat:=z17,rgrav:=z18,rtext:=z19,mb:=z20,mr:=z21,ml:=z22,ik:=z23,ifrom:=z24,ito:=z25,ps:=ps,da:=da,dc:=dc },?_,⟨(wf64 w9).1,(wf64 w9).2,(wf64 w12).1,(wf64 w12).2,(wf64 w13).1,(wf64 w13).2,(wf64 w10).1,(wf64 w10).2,(wf64 w11).1,(wf64 w11).2,wf8 w2,wf32 w6,(wf8 w7).1,wf64 w3,wf64 w4,wf64 w5⟩,hraw⟩
 apply List.ext_getElem?
 intro j
 match j with
 |0=>exact x0
 |1=>exact x1
 |2=>exact x2
 |3=>exact x3
 |4=>exact x4
 |5=>exact x5
 |6=>exact x6
 |7=>exact x7
 |8=>exact x8
 |9=>exact x9
 |10=>exact x10
 |11=>exact x11
 |12=>exact x12
 |13=>exact x13
 |14=>exact x14
 |15=>exact x15
 |16=>exact x16
 |17=>exact x17
 |18=>exact x18
 |19=>exact x19
 |20=>exact x20
 |21=>exact x21
 |22=>exact x22
 |23=>exact x23
 |24=>exact x24
 |25=>exact x25
 |26 =>
  refine x26.trans ?_
  rw[jS]
  rw[hps]
 |n+27=>rw[List.getElem?_eq_none (by omega),List.getElem?_eq_none (by rw[dM];omega)]
theorem aEr {b0:Nat} {v:Value} {d:DataW H} {ps:List MemPlace} (hval:Value.okWide Tryz.prog w .any b0 25 v) (hd:DataW.Trod enc Tryz.prog w base spare held 25 v d ps):∃ (p:Option Addr) (cap:Nat) (cs:List aA),v = .slice p cs.length cap∧nA w p cs:=by
 obtain⟨fuel,hf⟩:=hd
 obtain⟨a0,n0,c0,rfl⟩:=okWide_slice Tryz.underlying25 hval
 rcases open_slice Tryz.underlying25 hf with⟨h1,_⟩ | ⟨a,len,cap,q,n,D,Pl,h1,hb,hlc,hcap,hq,_,hel⟩
 ·simp[Value.cells] at h1
  obtain⟨rfl,rfl,rfl⟩:=h1
  exact⟨none,0,[],rfl,.inl rfl⟩
 ·simp[Value.cells] at h1
  obtain⟨rfl,rfl,rfl⟩:=h1
  have hc27 : Tryz.prog.cellsOf 56=27:=by kernel_rfl
  rw[hc27] at hel
  have hlq:n0≤q:=by rw[hq];split<;>omega
  obtain⟨cs,hl,hQ,hcell⟩:=uC (w:=w) (base:=base) aB 27 dM a (fun c=>c.Ok∧DRaw w c) n0 (fun i hi=>by
   obtain⟨cs',h1,h2⟩:=hel i (by omega)
   obtain⟨c,rfl,hc⟩:=aIj h2
   exact⟨c,h1,hc⟩)
  refine⟨_,_,cs,by rw[hl],?_⟩
  by_cases h0:cs=[]
  ·exact .inl h0
  ·right
   obtain⟨b,off,spot⟩:=a
   have hpos:0<cs.length:=by
    rcases cs with _ | ⟨p,cs⟩
    ·exact absurd rfl h0
    ·simp
   obtain⟨u,hu⟩:∃ u,(fF cs)[0]? = some u:=⟨_,gEz (by rw[pW];omega)⟩
   have g0:=hcell 0 u hu
   have hspot:spot=none:=by simpa [Addr.add] using World.cell?_spot g0
   subst hspot
   have hblk:b<w.heap.size:=by
    have:=cO g0
    simpa [Addr.add] using this
   have hml:maxLen<9223372036854775808:=by unfold maxLen;omega
   exact⟨b,off,rfl,hblk,fun j u hj=>by have:=hcell j u hj;rwa [add_plain] at this,by omega,hQ⟩
end
end Go.Proofs.YtdeiocppghhfdaaGreat.Hs
