/- WitnessComposes: the law returns true for every input, and leaves its arguments as they were. -/
import Derived.Test.YtdeiocppghhfdaaGreatZdbw
set_option linter.unusedVariables false
set_option linter.unusedSimpArgs false
set_option maxRecDepth 100000
set_option maxHeartbeats 8000000
namespace Go.Proofs.YtdeiocppghhfdaaGreat
open Go.RowKit Go.WideShapes Go.ChangeShapes
section
variable {H:Type} {enc:TypeId × Value→H} {P:Program}
theorem aA5 {f:Func} {s:ChangeSpec} {apart fresh handsOn again:Bool} {W W':World} {args:Array Value} {v:Value} {ds gs:List (DataW H)} {before pa pv:List MemPlace}
  (hW:DataW.Whole enc P f.params.toList s.vars apart W args.toList ds gs before)
  (hres:∀ (b:Nat) (sp:Nat→Bool) (hd:Bool),DataW.TrodAll enc P W' b sp hd f.resultTypes.toList (v.resultList f.resultTypes.size) (s.fn H (ds++gs)).results [])
  (hargs:∀ sp:Nat→Bool,(∀ p∈before,sp p.block=true)→DataW.TrodAll enc P W' 0 sp true f.params.toList args.toList (s.fn H (ds++gs)).args pa)
  (hvars:∀ sp:Nat→Bool,(∀ p∈before,sp p.block=true)→DataW.TrodVars enc P W' sp s.vars (s.fn H (ds++gs)).vars pv)
  (hps:before=pa++pv) (hb:Below W.heap.size W W')
  (hok:∀ (j:Nat) (t:TypeId) (r:Value),f.resultTypes[j]? = some t→(v.resultList f.resultTypes.size)[j]? = some r→Value.okWide P W' .any 0 t r) :
  s.post enc P f apart fresh handsOn again W args v W':=by
 have hlt:∀ p∈before,p.block<W.heap.size:=fun p hp=>hW.lt p hp
 have hold:∀ p∈before,(fun b=>decide (b<W.heap.size)) p.block=true:=fun p hp=>by simpa using hlt p hp
 refine⟨ds,gs,before,[],pa,pv,hW,hres _ _ _,hargs _ hold,hvars _ hold,World.keptBut_mono (fun p hp=>⟨hp,?_⟩) (hb.frame (· ∈ before)),fun _ => ?_⟩
 ·rw[hps,List.mem_append] at hp
  exact Or.inr hp
 ·obtain⟨_,_,_,_,_,hz,hn⟩:=hW
  refine⟨hok,_,_,([]++pa)++pv,⟨[]++pa,pv,trodAll_append (hargs _ (fun _ _=>rfl)) (hres _ _ _),hvars _ (fun _ _=>rfl),rfl,?_,?_⟩,?_⟩
  ·intro b off hp
   have hin:MemPlace.cell b off∈before:=by rw[hps];simpa using hp
   rw[hb.frozen (hlt _ hin)]
   exact hz b off hin
  ·intro ha
   have:=hn ha
   rw[hps] at this
   simpa using this
  ·intro p hp _
   rw[hps]
   simpa using hp
end
end Go.Proofs.YtdeiocppghhfdaaGreat
namespace Go.Proofs.YtdeiocppghhfdaaGreat
open Go.RowKit Go.WideShapes Go.ChangeShapes Go.Deep
section
variable {H:Type} {enc:TypeId × Value→H} {P:Program} {w:World} {base:Nat} {spare:Nat→Bool} {held:Bool}
theorem bA {t:TypeId} {fs:Array Field} {fuel:Nat} {cs:List Value} {x:DataW H × List MemPlace} (hs:P.underlying t=some (.struct fs)) (h:DataW.trod enc P w base spare held fuel t cs=some x) (i:Nat) (f:Field) (hf:fs[i]? = some f) :
  ∃ n y,DataW.trod enc P w base spare held n f.type ((cs.drop f.offset).take (P.cellsOf f.type))=some y:=by
 obtain⟨xs,n,_,_,_,hl,hx⟩:=DataW.trod_struct hs h
 have h1:=hx i f hf
 have hlt:=(Array.getElem?_eq_some_iff.1 hf).1
 rw[List.getElem?_eq_getElem (by omega)] at h1
 exact⟨n,_,h1⟩
theorem cell_of {cs:List Value} {k m:Nat} {v:Value} (h:(cs.drop k).take m=[v]):cs[k]? = some v:=by
 have h1:((cs.drop k).take m)[0]? = some v:=by rw[h];rfl
 rw[List.getElem?_take] at h1
 split at h1
 ·rwa [List.getElem?_drop,Nat.add_zero] at h1
 ·cases h1
theorem eQ {t:TypeId} {κ:IntKind} {fuel k m:Nat} {cs:List Value} {x:DataW H × List MemPlace} (ht:P.underlying t=some (.int κ)) (h:DataW.trod enc P w base spare held fuel t ((cs.drop k).take m)=some x):∃ z,cs[k]? = some (.int κ z)∧(Lit.int κ z).wf=true:=by
 obtain⟨z,h1,_,h2⟩:=DataW.trod_int ht h
 exact⟨z,cell_of h1,h2⟩
theorem vH {t:TypeId} {fuel k m:Nat} {cs:List Value} {x:DataW H × List MemPlace} (ht:P.underlying t=some .string) (h:DataW.trod enc P w base spare held fuel t ((cs.drop k).take m)=some x):∃ z,cs[k]? = some (.string z):=by
 obtain⟨z,h1,_,_⟩:=DataW.trod_string ht h
 exact⟨z,cell_of h1⟩
theorem eY {cs:List Value} {o m k:Nat} {v:Value} (h:((cs.drop o).take m)[k]? = some v):cs[o+k]? = some v:=by
 rw[List.getElem?_take] at h
 split at h
 ·rwa [List.getElem?_drop] at h
 ·cases h
theorem aCs {α:Type} (f:α→List Value) (k:Nat) (hk:∀ x,(f x).length=k) (a:Addr) (Q:α→Prop):∀ (n:Nat),(∀ i,i<n→∃ x,w.cells? base (a.add (i*k)) k=some (f x)∧Q x) →
  ∃ xs:List α,xs.length=n∧(∀ x∈xs,Q x)∧∀ j u,(xs.flatMap f)[j]? = some u→w.cell? (a.add j)=some u
 | 0,_=>⟨[],rfl,fun _ h=>by (cases h),fun j u h=>by simp at h⟩
 | n+1,h=>by
  obtain⟨xs,hl,hQ,hx⟩:=aCs f k hk a Q n (fun i hi=>h i (by omega))
  obtain⟨x,hc,hq⟩:=h n (by omega)
  obtain⟨_,hlen,hcell⟩:=World.cells?_some hc
  have hfl:(xs.flatMap f).length=n*k:=by
   clear hx h
   rw[← hl]
   clear hl hQ
   induction xs with
   | nil=>simp
   | cons y ys ih=>rw[List.flatMap_cons,List.length_append,ih,hk,List.length_cons,Nat.succ_mul];omega
  refine⟨xs++[x],by simp[hl],fun y hy => ?_,fun j u hj => ?_⟩
  ·rcases List.mem_append.1 hy with h | h
   ·exact hQ y h
   ·rw[List.mem_singleton.1 h];exact hq
  ·rw[List.flatMap_append] at hj
   by_cases hlt:j<n*k
   ·rw[List.getElem?_append_left (by omega)] at hj
    exact hx j u hj
   ·rw[List.getElem?_append_right (by omega),hfl] at hj
    have hj2:(f x)[j-n*k]? = some u:=by simpa using hj
    have hlt2:j-n*k<k:=by
     have:=(List.getElem?_eq_some_iff.1 hj2).1
     rwa [hk] at this
    have:=hcell (j-n*k) hlt2
    rw[hj2,Deep.add_add,show n*k+(j-n*k)=j from by omega] at this
    exact this
theorem wf64 {z:Int} (h:(Lit.int .i64 z).wf=true) : -9223372036854775808≤z∧z≤9223372036854775807:=by
 simp only[Lit.wf,Bool.and_eq_true,decide_eq_true_eq] at h
 exact h
theorem wf8 {z:Int} (h:(Lit.int .u8 z).wf=true):0≤z∧z≤255:=by
 simp only[Lit.wf,Bool.and_eq_true,decide_eq_true_eq] at h
 exact h
theorem wf32 {z:Int} (h:(Lit.int .u32 z).wf=true):0≤z∧z≤4294967295:=by
 simp only[Lit.wf,Bool.and_eq_true,decide_eq_true_eq] at h
 exact h
end
end Go.Proofs.YtdeiocppghhfdaaGreat
namespace Go.Proofs.YtdeiocppghhfdaaGreat.Hs
open Go.RowKit Go.WideShapes Go.ChangeShapes Go.Deep
section
variable {H:Type} {enc:TypeId × Value→H} {w:World} {base:Nat} {spare:Nat→Bool} {held:Bool}
theorem aEf {fuel:Nat} {cs:List Value} {x:DataW H × List MemPlace} (h:DataW.trod enc Tryz.prog w base spare held fuel 94 cs=some x):∃ p:gN,cs=mQ p:=by
 have hlen:cs.length=3:=by
  obtain⟨_,_,_,_,hl,_⟩:=DataW.trod_struct Tryz.underlying94 h
  rw[hl]
  kernel_rfl
 obtain⟨_,_,h0⟩:=bA Tryz.underlying94 h 0 _ rfl
 obtain⟨z0,x0,w0⟩:=eQ Tryz.underlying5 h0
 obtain⟨_,_,h1⟩:=bA Tryz.underlying94 h 1 _ rfl
 obtain⟨z1,x1,w1⟩:=eQ Tryz.underlying3 h1
 obtain⟨_,_,h2⟩:=bA Tryz.underlying94 h 2 _ rfl
 obtain⟨z2,x2⟩:=vH Tryz.underlying9 h2
 refine⟨⟨z0,z1,z2⟩,?_⟩
 apply List.ext_getElem?
 intro j
 match j with
 | 0=>exact x0
 | 1=>exact x1
 | 2=>exact x2
 | n+3=>rw[List.getElem?_eq_none (by omega),List.getElem?_eq_none (by rw[rH];omega)]
theorem aLo {fuel k m:Nat} {cs:List Value} {x:DataW H × List MemPlace} (h:DataW.trod enc Tryz.prog w base spare held fuel 47 ((cs.drop k).take m)=some x):∃ (a:Option Addr) (n c:Nat) (ps:List gN),cs[k]? = some (.slice a n c)∧ps.length=n ∧
  ((ps=[]∧(a=none→c=0))∨∃ b off,a=some ⟨b,off,none⟩∧ps.length≤c∧ps.length<9223372036854775808∧b<w.heap.size∧∀ j u,(fB ps)[j]? = some u→w.cell? ⟨b,off+j,none⟩=some u):=by
 rcases open_slice Tryz.underlying47 h with⟨h1,_⟩ | ⟨a,len,cap,q,n,D,Pl,h1,hb,hlc,hcap,hq,_,hel⟩
 ·exact⟨_,_,_,[],cell_of h1,rfl,.inl ⟨rfl,fun _=>rfl⟩⟩
 ·have hc3 : Tryz.prog.cellsOf 94=3:=by kernel_rfl
  rw[hc3] at hel
  have hlq:len≤q:=by rw[hq];split<;>omega
  obtain⟨ps,hl,_,hcell⟩:=aCs (w:=w) (base:=base) mQ 3 rH a (fun _=>True) len (fun i hi=>by
   obtain⟨cs',h1,h2⟩:=hel i (by omega)
   obtain⟨p,rfl⟩:=aEf h2
   exact⟨p,h1,trivial⟩)
  refine⟨_,_,_,ps,cell_of h1,hl,?_⟩
  by_cases h0:ps=[]
  ·exact .inl ⟨h0,fun e=>by cases e⟩
  ·right
   obtain⟨b,off,spot⟩:=a
   have hpos:0<ps.length:=by
    rcases ps with _ | ⟨p,ps⟩
    ·exact absurd rfl h0
    ·simp
   obtain⟨u,hu⟩:∃ u,(fB ps)[0]? = some u:=⟨_,List.getElem?_eq_getElem (by rw[lT];omega)⟩
   have g0:=hcell 0 u hu
   have hspot:spot=none:=by simpa [Addr.add] using World.cell?_spot g0
   subst hspot
   have hblk:b<w.heap.size:=by
    have:=iD g0
    simpa [Addr.add] using this
   have hml:maxLen<9223372036854775808:=by unfold maxLen;omega
   exact⟨b,off,rfl,by omega,by omega,hblk,fun j u hj=>by have:=hcell j u hj;rwa [add_plain] at this⟩
theorem aJy {fuel:Nat} {cs:List Value} {x:DataW H × List MemPlace} (h:DataW.trod enc Tryz.prog w base spare held fuel 56 cs=some x):∃ c:aA,cs=aB c∧c.Ok∧DRaw w c:=by
 have hlen:cs.length=27:=by
  obtain⟨_,_,_,_,hl,_⟩:=DataW.trod_struct Tryz.underlying56 h
  rw[hl]
  kernel_rfl
 obtain⟨_,_,h_0⟩:=bA Tryz.underlying56 h 0 _ rfl
 obtain⟨z0,x0,w0⟩:=eQ Tryz.underlying3 h_0
 obtain⟨_,_,h_1⟩:=bA Tryz.underlying56 h 1 _ rfl
 obtain⟨z1,x1,w1⟩:=eQ Tryz.underlying3 h_1
 obtain⟨_,_,h_2⟩:=bA Tryz.underlying56 h 2 _ rfl
 obtain⟨_,_,h_2_0⟩:=bA Tryz.underlying54 h_2 0 _ rfl
 obtain⟨z2,x2,w2⟩:=eQ Tryz.underlying5 h_2_0
 replace x2:=eY x2
 obtain⟨_,_,h_2_1⟩:=bA Tryz.underlying54 h_2 1 _ rfl
 obtain⟨z3,x3,w3⟩:=eQ Tryz.underlying3 h_2_1
 replace x3:=eY x3
 obtain⟨_,_,h_2_2⟩:=bA Tryz.underlying54 h_2 2 _ rfl
 obtain⟨z4,x4,w4⟩:=eQ Tryz.underlying3 h_2_2
 replace x4:=eY x4
 obtain⟨_,_,h_2_3⟩:=bA Tryz.underlying54 h_2 3 _ rfl
 obtain⟨z5,x5,w5⟩:=eQ Tryz.underlying3 h_2_3
 replace x5:=eY x5
 obtain⟨_,_,h_2_4⟩:=bA Tryz.underlying54 h_2 4 _ rfl
 obtain⟨z6,x6,w6⟩:=eQ Tryz.underlying52 h_2_4
 replace x6:=eY x6
 obtain⟨_,_,h_2_5⟩:=bA Tryz.underlying54 h_2 5 _ rfl
 obtain⟨z7,x7,w7⟩:=eQ Tryz.underlying5 h_2_5
 replace x7:=eY x7
 obtain⟨_,_,h_2_6⟩:=bA Tryz.underlying54 h_2 6 _ rfl
 obtain⟨z8,x8⟩:=vH Tryz.underlying9 h_2_6
 replace x8:=eY x8
 obtain⟨_,_,h_3⟩:=bA Tryz.underlying56 h 3 _ rfl
 obtain⟨z9,x9,w9⟩:=eQ Tryz.underlying3 h_3
 obtain⟨_,_,h_4⟩:=bA Tryz.underlying56 h 4 _ rfl
 obtain⟨z10,x10,w10⟩:=eQ Tryz.underlying3 h_4
 obtain⟨_,_,h_5⟩:=bA Tryz.underlying56 h 5 _ rfl
 obtain⟨z11,x11,w11⟩:=eQ Tryz.underlying3 h_5
 obtain⟨_,_,h_6⟩:=bA Tryz.underlying56 h 6 _ rfl
 obtain⟨z12,x12,w12⟩:=eQ Tryz.underlying3 h_6
 obtain⟨_,_,h_7⟩:=bA Tryz.underlying56 h 7 _ rfl
 obtain⟨z13,x13,w13⟩:=eQ Tryz.underlying3 h_7
 obtain⟨_,_,h_8⟩:=bA Tryz.underlying56 h 8 _ rfl
 obtain⟨_,_,h_8_0⟩:=bA Tryz.underlying51 h_8 0 _ rfl
 obtain⟨z14,x14,w14⟩:=eQ Tryz.underlying29 h_8_0
 replace x14:=eY x14
 obtain⟨_,_,h_8_1⟩:=bA Tryz.underlying51 h_8 1 _ rfl
 obtain⟨z15,x15,w15⟩:=eQ Tryz.underlying3 h_8_1
 replace x15:=eY x15
 obtain⟨_,_,h_8_2⟩:=bA Tryz.underlying51 h_8 2 _ rfl
 obtain⟨z16,x16,w16⟩:=eQ Tryz.underlying3 h_8_2
 replace x16:=eY x16
 obtain⟨_,_,h_8_3⟩:=bA Tryz.underlying51 h_8 3 _ rfl
 obtain⟨z17,x17,w17⟩:=eQ Tryz.underlying3 h_8_3
 replace x17:=eY x17
 obtain⟨_,_,h_8_4⟩:=bA Tryz.underlying51 h_8 4 _ rfl
 obtain⟨z18,x18,w18⟩:=eQ Tryz.underlying5 h_8_4
 replace x18:=eY x18
 obtain⟨_,_,h_8_5⟩:=bA Tryz.underlying51 h_8 5 _ rfl
 obtain⟨z19,x19⟩:=vH Tryz.underlying9 h_8_5
 replace x19:=eY x19
 obtain⟨_,_,h_8_6⟩:=bA Tryz.underlying51 h_8 6 _ rfl
 obtain⟨_,_,h_8_6_0⟩:=bA Tryz.underlying46 h_8_6 0 _ rfl
 obtain⟨z20,x20,w20⟩:=eQ Tryz.underlying3 h_8_6_0
 replace x20:=eY x20
 replace x20:=eY x20
 obtain⟨_,_,h_8_6_1⟩:=bA Tryz.underlying46 h_8_6 1 _ rfl
 obtain⟨z21,x21,w21⟩:=eQ Tryz.underlying3 h_8_6_1
 replace x21:=eY x21
 replace x21:=eY x21
 obtain⟨_,_,h_8_6_2⟩:=bA Tryz.underlying46 h_8_6 2 _ rfl
 obtain⟨z22,x22,w22⟩:=eQ Tryz.underlying3 h_8_6_2
 replace x22:=eY x22
 replace x22:=eY x22
 obtain⟨_,_,h_8_7⟩:=bA Tryz.underlying51 h_8 7 _ rfl
 obtain⟨_,_,h_8_7_0⟩:=bA Tryz.underlying49 h_8_7 0 _ rfl
 obtain⟨z23,x23,w23⟩:=eQ Tryz.underlying5 h_8_7_0
 replace x23:=eY x23
 replace x23:=eY x23
 obtain⟨_,_,h_8_7_1⟩:=bA Tryz.underlying49 h_8_7 1 _ rfl
 obtain⟨z24,x24,w24⟩:=eQ Tryz.underlying3 h_8_7_1
 replace x24:=eY x24
 replace x24:=eY x24
 obtain⟨_,_,h_8_7_2⟩:=bA Tryz.underlying49 h_8_7 2 _ rfl
 obtain⟨z25,x25,w25⟩:=eQ Tryz.underlying3 h_8_7_2
 replace x25:=eY x25
 replace x25:=eY x25
 obtain⟨_,_,h_8_7_3⟩:=bA Tryz.underlying49 h_8_7 3 _ rfl
 obtain⟨da,ln,dc,ps,x26,hps,hraw⟩:=aLo h_8_7_3
 replace x26:=eY x26
 replace x26:=eY x26
 refine⟨{ thread:=z0,index:=z1,okind:=z2,oslot:=z3,oat:=z4,on:=z5,oid:=z6,ograv:=z7,otext:=z8,invoked:=z9,took:=z10,rank:=z11,answered:=z12,steps:=z13,err:=z14,rev:=z15,rslot:=z16,rat:=z17,rgrav:=z18,rtext:=z19,mb:=z20,mr:=z21,ml:=z22,ik:=z23,ifrom:=z24,ito:=z25,ps:=ps,da:=da,dc:=dc },?_,⟨(wf64 w9).1,(wf64 w9).2,(wf64 w12).1,(wf64 w12).2,(wf64 w13).1,(wf64 w13).2,(wf64 w10).1,(wf64 w10).2,(wf64 w11).1,(wf64 w11).2,wf8 w2,wf32 w6,(wf8 w7).1,wf64 w3,wf64 w4,wf64 w5⟩,hraw⟩
 apply List.ext_getElem?
 intro j
 match j with
 | 0=>exact x0
 | 1=>exact x1
 | 2=>exact x2
 | 3=>exact x3
 | 4=>exact x4
 | 5=>exact x5
 | 6=>exact x6
 | 7=>exact x7
 | 8=>exact x8
 | 9=>exact x9
 | 10=>exact x10
 | 11=>exact x11
 | 12=>exact x12
 | 13=>exact x13
 | 14=>exact x14
 | 15=>exact x15
 | 16=>exact x16
 | 17=>exact x17
 | 18=>exact x18
 | 19=>exact x19
 | 20=>exact x20
 | 21=>exact x21
 | 22=>exact x22
 | 23=>exact x23
 | 24=>exact x24
 | 25=>exact x25
 | 26 =>
  refine x26.trans ?_
  rw[aQ]
  rw[hps]
 | n+27=>rw[List.getElem?_eq_none (by omega),List.getElem?_eq_none (by rw[aH];omega)]
theorem aG1 {b0:Nat} {v:Value} {d:DataW H} {ps:List MemPlace} (hval:Value.okWide Tryz.prog w .any b0 25 v) (hd:DataW.Trod enc Tryz.prog w base spare held 25 v d ps):∃ (p:Option Addr) (cap:Nat) (cs:List aA),v = .slice p cs.length cap∧mJ w p cs:=by
 obtain⟨fuel,hf⟩:=hd
 obtain⟨a0,n0,c0,rfl⟩:=okWide_slice Tryz.underlying25 hval
 rcases open_slice Tryz.underlying25 hf with⟨h1,_⟩ | ⟨a,len,cap,q,n,D,Pl,h1,hb,hlc,hcap,hq,_,hel⟩
 ·simp[Value.cells] at h1
  obtain⟨rfl,rfl,rfl⟩:=h1
  exact⟨none,0,[],rfl,.inl rfl⟩
 ·simp[Value.cells] at h1
  obtain⟨rfl,rfl,rfl⟩:=h1
  have hc27 : Tryz.prog.cellsOf 56=27:=by kernel_rfl
  rw[hc27] at hel
  have hlq:n0≤q:=by rw[hq];split<;>omega
  obtain⟨cs,hl,hQ,hcell⟩:=aCs (w:=w) (base:=base) aB 27 aH a (fun c=>c.Ok∧DRaw w c) n0 (fun i hi=>by
   obtain⟨cs',h1,h2⟩:=hel i (by omega)
   obtain⟨c,rfl,hc⟩:=aJy h2
   exact⟨c,h1,hc⟩)
  refine⟨_,_,cs,by rw[hl],?_⟩
  by_cases h0:cs=[]
  ·exact .inl h0
  ·right
   obtain⟨b,off,spot⟩:=a
   have hpos:0<cs.length:=by
    rcases cs with _ | ⟨p,cs⟩
    ·exact absurd rfl h0
    ·simp
   obtain⟨u,hu⟩:∃ u,(jF cs)[0]? = some u:=⟨_,List.getElem?_eq_getElem (by rw[vF];omega)⟩
   have g0:=hcell 0 u hu
   have hspot:spot=none:=by simpa [Addr.add] using World.cell?_spot g0
   subst hspot
   have hblk:b<w.heap.size:=by
    have:=iD g0
    simpa [Addr.add] using this
   have hml:maxLen<9223372036854775808:=by unfold maxLen;omega
   exact⟨b,off,rfl,hblk,fun j u hj=>by have:=hcell j u hj;rwa [add_plain] at this,by omega,hQ⟩
end
end Go.Proofs.YtdeiocppghhfdaaGreat.Hs
namespace Go.Proofs.YtdeiocppghhfdaaGreat
open Go.RowKit Go.WideShapes Go.ChangeShapes Go.Deep
section
variable {H:Type} {enc:TypeId × Value→H} {w:World} {base:Nat} {spare:Nat→Bool} {held:Bool}
theorem aJz {fuel:Nat} {cs:List Value} {x:DataW H × List MemPlace} (h:DataW.trod enc Tryz.prog w base spare held fuel 24 cs=some x):∃ c:CfgV,cs=cfgL c:=by
 have hlen:cs.length=8:=by
  obtain⟨_,_,_,_,hl,_⟩:=DataW.trod_struct Tryz.underlying24 h
  rw[hl]
  kernel_rfl
 obtain⟨_,_,h_0⟩:=bA Tryz.underlying24 h 0 _ rfl
 obtain⟨z0,x0,w0⟩:=eQ Tryz.underlying3 h_0
 obtain⟨_,_,h_1⟩:=bA Tryz.underlying24 h 1 _ rfl
 obtain⟨z1,x1,w1⟩:=eQ Tryz.underlying22 h_1
 obtain⟨_,_,h_2⟩:=bA Tryz.underlying24 h 2 _ rfl
 obtain⟨z2,x2,w2⟩:=eQ Tryz.underlying3 h_2
 obtain⟨_,_,h_3⟩:=bA Tryz.underlying24 h 3 _ rfl
 obtain⟨z3,x3,w3⟩:=eQ Tryz.underlying3 h_3
 obtain⟨_,_,h_4⟩:=bA Tryz.underlying24 h 4 _ rfl
 obtain⟨z4,x4,w4⟩:=eQ Tryz.underlying3 h_4
 obtain⟨_,_,h_5⟩:=bA Tryz.underlying24 h 5 _ rfl
 obtain⟨z5,x5,w5⟩:=eQ Tryz.underlying3 h_5
 obtain⟨_,_,h_6⟩:=bA Tryz.underlying24 h 6 _ rfl
 obtain⟨z6,x6,w6⟩:=eQ Tryz.underlying3 h_6
 obtain⟨_,_,h_7⟩:=bA Tryz.underlying24 h 7 _ rfl
 obtain⟨z7,x7⟩:=vH Tryz.underlying9 h_7
 refine⟨⟨z0,z1,z2,z3,z4,z5,z6,z7⟩,?_⟩
 apply List.ext_getElem?
 intro j
 match j with
 | 0=>exact x0
 | 1=>exact x1
 | 2=>exact x2
 | 3=>exact x3
 | 4=>exact x4
 | 5=>exact x5
 | 6=>exact x6
 | 7=>exact x7
 | n+8=>rw[List.getElem?_eq_none (by omega),List.getElem?_eq_none (by rw[aAk];omega)]
theorem aLp {b0:Nat} {v:Value} {d:DataW H} {ps:List MemPlace} (hval:Value.okWide Tryz.prog w .any b0 24 v) (hd:DataW.Trod enc Tryz.prog w base spare held 24 v d ps):∃ c:CfgV,v=c.v:=by
 obtain⟨cs,rfl,_⟩:=okWide_struct Tryz.underlying24 hval
 obtain⟨fuel,hf⟩:=hd
 obtain⟨c,hc⟩:=aJz hf
 have hc2:cs.toList=cfgL c:=hc
 refine⟨c,?_⟩
 show Value.agg cs = .agg (cfgL c).toArray
 rw[← hc2]
end
end Go.Proofs.YtdeiocppghhfdaaGreat
namespace Go.Proofs.YtdeiocppghhfdaaGreat.Lin
open Go.RowKit Go.Lib Go.Shelf
open Hs
open KitI (iv IRow own_below)
attribute [local go_sem, local simp] Hs.dB Hs.dG Hs.dE Hs.dH Hs.dI Hs.dJ Hs.dK Hs.dL Hs.dM Hs.dF Hs.aR Hs.aW Hs.bB Hs.bC Hs.aS Hs.aV Hs.aY Hs.bD Hs.bE Hs.bF Hs.bG Hs.bH Hs.bI Hs.bJ Hs.bK Hs.aU Hs.aQ Hs.fH Hs.fI Hs.fJ Hs.fK Hs.fM Hs.fO Hs.fP Hs.fQ Hs.fT Hs.fU Hs.dN Hs.dO Hs.dP Hs.dQ Hs.dR Hs.dS Hs.dU Hs.dV Hs.dW Hs.dX Hs.dY Hs.dZ Hs.eB Hs.bL Hs.bM Hs.bN Hs.bO Hs.bP Hs.bQ Hs.bR Hs.bS Hs.bT Hs.bU Hs.bV Hs.bW Hs.bX Hs.bY Hs.bZ Hs.cB Hs.aX Hs.fV Hs.fZ Hs.gB Hs.gD Hs.gF Hs.gG Hs.gH Hs.gI Hs.gJ Hs.gK Hs.eD Hs.eG Hs.eH Hs.aH Hs.aJ
attribute [local go_sem ↓] Hs.aK Hs.aN
attribute [local go_sem] Hs.fF Hs.cK Hs.aP Hs.eO Hs.fD
attribute [local go_sem ↓] sG
attribute [local go_sem, local simp] aAk aQl
attribute [local go_sem ↓] aAu
def WXAt (W:World) (g:Nat) (X:List ByteArray):Prop:=∀ j u,X[j]? = some u→W.cell? ⟨g,j,none⟩=some (.string u)
theorem WXAt.on {W W':World} {g:Nat} {X:List ByteArray} (h:WXAt W g X) (hb:Below W.heap.size W W'):WXAt W' g X:=fun j u hj=>by rw[hb.cell (KitI.iD (h j u hj))];exact h j u hj
structure WcM (w:World) (C:CfgV) (p:Option Addr) (cap:Nat) (hs:List aA) (g:Nat) (X:List ByteArray) (po:Option Addr) (co:Nat) (os:List aA) (ad:Option Addr) (cd:Nat) (d:List PcV) (W:World):Prop where
 law:LawW w W C p cap hs
 row:WXAt W g X
 own:HRow W po co os
 del:PRow W ad d
 nil:ad=none→cd=0
theorem WcM.on {w:World} {C:CfgV} {p:Option Addr} {cap:Nat} {hs:List aA} {g:Nat} {X:List ByteArray} {po:Option Addr} {co:Nat} {os:List aA} {ad:Option Addr} {cd:Nat} {d:List PcV} {W W':World} (h:WcM w C p cap hs g X po co os ad cd d W) (hb:Below W.heap.size W W'):WcM w C p cap hs g X po co os ad cd d W':=⟨h.law.on hb,h.row.on hb,h.own.on hb,h.del.on hb,h.nil⟩
theorem WcM.to {w:World} {C:CfgV} {p:Option Addr} {cap:Nat} {hs:List aA} {g:Nat} {X:List ByteArray} {po:Option Addr} {co:Nat} {os:List aA} {ad ad':Option Addr} {cd cd':Nat} {d d':List PcV} {W:World} (h:WcM w C p cap hs g X po co os ad cd d W) (hd:PRow W ad' d') (hn:ad'=none→cd'=0):WcM w C p cap hs g X po co os ad' cd' d' W:=⟨h.law,h.row,h.own,hd,hn⟩
theorem aO4 {W:World} {b off k:Nat} {cs:List aA} {y:aA} (h:CAt W b off cs) (hy:cs[k]? = some y):(kP (.pointer (some ⟨b,off+k*27+23,none⟩))).run Tryz.prog W = .ok (.agg #[.int .u8 y.ik,.int .i64 y.ifrom,.int .i64 y.ito,.slice y.da y.ps.length y.dc]) W :=
 run_loadAt_mid W b (off+k*27+23) 49 (itmL y) _ (fun j v hv=>by
  have hlt:j<4:=(List.getElem?_eq_some_iff.1 hv).1
  have h1:=h.cell hy (23+j) (by omega)
  rw[Nat.add_assoc,h1]
  have:(itmL y)[j]? = (aB y)[23+j]? := by
   rw[show itmL y=(aB y).drop 23 from rfl,List.getElem?_drop]
  rw[← this]
  exact hv) Tryz.underlying49 rfl (by kernel_rfl)
theorem aLq {W:World} {B n cp s:Nat} {e:TypeId} {ao:Option Addr} {xs:List Value} (h:W.ownsRow B e s (.slice ao n cp) n xs):ao=none→cp=0:=by
 rintro rfl
 rcases h.2 with⟨h1,_⟩ | ⟨g,cap,cur,h1,_⟩
 ·injection h1
 ·cases h1
theorem aLr (W:World) (k m:Int) (s:ByteArray):PRow (W.alloc (.cells #[.int .u8 k,.int .i64 m,.string s] 94)) (some ⟨W.heap.size,0,none⟩) [⟨k,m,s⟩]:=by
 refine .inr ⟨W.heap.size,0,rfl,by simp,fun j q hq i u hu => ?_⟩
 have h:=fC W (pcL ⟨k,m,s⟩) 94 i u
 match j,hq with
 | 0,hq =>
  have hq:(⟨k,m,s⟩:PcV)=q:=by simpa using hq
  subst hq
  have h2:=h hu
  rw[Addr.add_lit] at h2
  rw[Nat.zero_mul,Nat.zero_add]
  exact h2
 | j+1,hq=>simp at hq
def WcL (w:World) (C:CfgV) (p:Option Addr) (cap:Nat) (hs:List aA) (g gx:Nat) (X:List ByteArray) (po:Option Addr) (co:Nat) (os:List aA) (z:Option Nat) (a:Act) (wr:World):Prop :=
 ∃ (k:Nat) (fr to_:Int) (sm:Bool) (ad:Option Addr) (cd:Nat) (d:List PcV) (u:Nat→Value),a={ tmps := #[u 0,u 1,u 2,u 3,u 4,u 5,u 6,u 7,u 8,u 9,.slice (some ⟨g,0,none⟩) X.length gx,u 11,.slice po os.length co,.slice ad d.length cd,.int .i64 fr,.int .i64 to_,.bool sm,.int .i64 k,u 18,u 19,u 20,u 21,u 22,u 23,u 24,u 25,u 26,u 27,u 28,u 29,u 30,u 31,u 32,u 33,u 34,u 35,u 36,u 37,u 38,u 39,u 40,u 41,u 42,u 43,u 44,u 45,u 46,u 47,u 48,u 49,u 50,u 51,u 52,u 53,u 54,u 55,u 56,u 57,u 58,u 59,u 60,u 61,u 62,u 63,u 64,u 65,u 66,u 67,u 68,u 69,u 70,u 71,u 72,u 73,u 74,u 75,u 76,u 77,u 78,u 79,u 80,u 81,u 82,u 83,u 84,u 85,u 86,u 87,u 88,u 89,u 90,u 91,u 92,u 93,u 94,u 95,u 96,u 97,u 98,u 99,u 100,u 101,u 102,u 103,u 104,u 105,u 106,u 107,u 108,u 109,u 110,u 111,u 112,u 113,u 114,u 115,u 116,u 117,u 118,u 119,u 120,u 121,u 122,u 123,u 124,u 125,u 126,u 127,u 128,u 129,u 130,u 131,u 132,u 133,u 134,u 135,u 136,u 137,u 138,u 139,u 140,u 141,u 142,u 143,u 144,u 145,u 146,u 147,u 148,u 149,u 150,u 151,u 152,u 153,u 154,u 155,u 156,u 157,u 158,u 159,u 160,u 161,u 162,u 163,u 164,u 165,u 166,u 167,u 168,u 169,u 170,u 171,u 172,u 173,u 174,u 175,u 176,u 177,u 178,u 179,u 180,u 181,u 182,u 183,u 184,u 185,u 186],defers:=[] } ∧
  k≤os.length∧WcI hs z X os k fr to_ sm d∧WcM w C p cap hs g X po co os ad cd d wr
theorem WcL.intro {w:World} {C:CfgV} {p:Option Addr} {cap:Nat} {hs:List aA} {g gx:Nat} {X:List ByteArray} {po:Option Addr} {co:Nat} {os:List aA} {z:Option Nat} {a:Act} {wr:World} (k:Nat) (fr to_:Int) (sm:Bool) (ad:Option Addr) (cd:Nat) (d:List PcV) {n:Nat} (hn:n=d.length) (h:a={ tmps := #[a.tmps.getD 0 undef,a.tmps.getD 1 undef,a.tmps.getD 2 undef,a.tmps.getD 3 undef,a.tmps.getD 4 undef,a.tmps.getD 5 undef,a.tmps.getD 6 undef,a.tmps.getD 7 undef,a.tmps.getD 8 undef,a.tmps.getD 9 undef,.slice (some ⟨g,0,none⟩) X.length gx,a.tmps.getD 11 undef,.slice po os.length co,.slice ad n cd,.int .i64 fr,.int .i64 to_,.bool sm,.int .i64 k,a.tmps.getD 18 undef,a.tmps.getD 19 undef,a.tmps.getD 20 undef,a.tmps.getD 21 undef,a.tmps.getD 22 undef,a.tmps.getD 23 undef,a.tmps.getD 24 undef,a.tmps.getD 25 undef,a.tmps.getD 26 undef,a.tmps.getD 27 undef,a.tmps.getD 28 undef,a.tmps.getD 29 undef,a.tmps.getD 30 undef,a.tmps.getD 31 undef,a.tmps.getD 32 undef,a.tmps.getD 33 undef,a.tmps.getD 34 undef,a.tmps.getD 35 undef,a.tmps.getD 36 undef,a.tmps.getD 37 undef,a.tmps.getD 38 undef,a.tmps.getD 39 undef,a.tmps.getD 40 undef,a.tmps.getD 41 undef,a.tmps.getD 42 undef,a.tmps.getD 43 undef,a.tmps.getD 44 undef,a.tmps.getD 45 undef,a.tmps.getD 46 undef,a.tmps.getD 47 undef,a.tmps.getD 48 undef,a.tmps.getD 49 undef,a.tmps.getD 50 undef,a.tmps.getD 51 undef,a.tmps.getD 52 undef,a.tmps.getD 53 undef,a.tmps.getD 54 undef,a.tmps.getD 55 undef,a.tmps.getD 56 undef,a.tmps.getD 57 undef,a.tmps.getD 58 undef,a.tmps.getD 59 undef,a.tmps.getD 60 undef,a.tmps.getD 61 undef,a.tmps.getD 62 undef,a.tmps.getD 63 undef,a.tmps.getD 64 undef,a.tmps.getD 65 undef,a.tmps.getD 66 undef,a.tmps.getD 67 undef,a.tmps.getD 68 undef,a.tmps.getD 69 undef,a.tmps.getD 70 undef,a.tmps.getD 71 undef,a.tmps.getD 72 undef,a.tmps.getD 73 undef,a.tmps.getD 74 undef,a.tmps.getD 75 undef,a.tmps.getD 76 undef,a.tmps.getD 77 undef,a.tmps.getD 78 undef,a.tmps.getD 79 undef,a.tmps.getD 80 undef,a.tmps.getD 81 undef,a.tmps.getD 82 undef,a.tmps.getD 83 undef,a.tmps.getD 84 undef,a.tmps.getD 85 undef,a.tmps.getD 86 undef,a.tmps.getD 87 undef,a.tmps.getD 88 undef,a.tmps.getD 89 undef,a.tmps.getD 90 undef,a.tmps.getD 91 undef,a.tmps.getD 92 undef,a.tmps.getD 93 undef,a.tmps.getD 94 undef,a.tmps.getD 95 undef,a.tmps.getD 96 undef,a.tmps.getD 97 undef,a.tmps.getD 98 undef,a.tmps.getD 99 undef,a.tmps.getD 100 undef,a.tmps.getD 101 undef,a.tmps.getD 102 undef,a.tmps.getD 103 undef,a.tmps.getD 104 undef,a.tmps.getD 105 undef,a.tmps.getD 106 undef,a.tmps.getD 107 undef,a.tmps.getD 108 undef,a.tmps.getD 109 undef,a.tmps.getD 110 undef,a.tmps.getD 111 undef,a.tmps.getD 112 undef,a.tmps.getD 113 undef,a.tmps.getD 114 undef,a.tmps.getD 115 undef,a.tmps.getD 116 undef,a.tmps.getD 117 undef,a.tmps.getD 118 undef,a.tmps.getD 119 undef,a.tmps.getD 120 undef,a.tmps.getD 121 undef,a.tmps.getD 122 undef,a.tmps.getD 123 undef,a.tmps.getD 124 undef,a.tmps.getD 125 undef,a.tmps.getD 126 undef,a.tmps.getD 127 undef,a.tmps.getD 128 undef,a.tmps.getD 129 undef,a.tmps.getD 130 undef,a.tmps.getD 131 undef,a.tmps.getD 132 undef,a.tmps.getD 133 undef,a.tmps.getD 134 undef,a.tmps.getD 135 undef,a.tmps.getD 136 undef,a.tmps.getD 137 undef,a.tmps.getD 138 undef,a.tmps.getD 139 undef,a.tmps.getD 140 undef,a.tmps.getD 141 undef,a.tmps.getD 142 undef,a.tmps.getD 143 undef,a.tmps.getD 144 undef,a.tmps.getD 145 undef,a.tmps.getD 146 undef,a.tmps.getD 147 undef,a.tmps.getD 148 undef,a.tmps.getD 149 undef,a.tmps.getD 150 undef,a.tmps.getD 151 undef,a.tmps.getD 152 undef,a.tmps.getD 153 undef,a.tmps.getD 154 undef,a.tmps.getD 155 undef,a.tmps.getD 156 undef,a.tmps.getD 157 undef,a.tmps.getD 158 undef,a.tmps.getD 159 undef,a.tmps.getD 160 undef,a.tmps.getD 161 undef,a.tmps.getD 162 undef,a.tmps.getD 163 undef,a.tmps.getD 164 undef,a.tmps.getD 165 undef,a.tmps.getD 166 undef,a.tmps.getD 167 undef,a.tmps.getD 168 undef,a.tmps.getD 169 undef,a.tmps.getD 170 undef,a.tmps.getD 171 undef,a.tmps.getD 172 undef,a.tmps.getD 173 undef,a.tmps.getD 174 undef,a.tmps.getD 175 undef,a.tmps.getD 176 undef,a.tmps.getD 177 undef,a.tmps.getD 178 undef,a.tmps.getD 179 undef,a.tmps.getD 180 undef,a.tmps.getD 181 undef,a.tmps.getD 182 undef,a.tmps.getD 183 undef,a.tmps.getD 184 undef,a.tmps.getD 185 undef,a.tmps.getD 186 undef],defers:=[] })
  (hk:k≤os.length) (hI:WcI hs z X os k fr to_ sm d) (hM:WcM w C p cap hs g X po co os ad cd d wr):WcL w C p cap hs g gx X po co os z a wr:=by
 subst hn
 exact⟨k,fr,to_,sm,ad,cd,d,fun i=>a.tmps.getD i undef,h,hk,hI,hM⟩
theorem LawW.wfeed {w W:World} {c:CfgV} {p:Option Addr} {cap:Nat} {cs:List aA} (h:LawW w W c p cap cs) (t:Int):Calls Tryz.prog 56 #[.agg (cfgL c).toArray,.int .i64 t,.slice p cs.length cap] W fun e w'=>e = .returned (.tuple #[.int .i64 (pQ apG c t cs).1,.int .i64 (pQ apG c t cs).2])∧Below W.heap.size W w' :=
 aGg (P:=fun pos=>0≤pos) aSu c t p cap cs W h.row.row (by have:=h.row.len;omega) h.row.ok (oG h.row) h.row.dat (Int.le_refl _) (fun hp y hy=>aD7 hp hy) (fun _ pos h0 y _ _ _ hw=>by have:=(tV hw).1;omega) (fun hp pos h0 y hy _ _=>aJu hp h0 (oG h.row y hy))
attribute [local irreducible] cfgL
theorem walkWitnessComposes (c:CfgV) (t:Int) (p:Option Addr) (cap:Nat) (cs:List aA) (w:World) (_ : -9223372036854775808≤t∧t≤9223372036854775807) (hA:mJ w p cs) :
  Calls Tryz.prog 16 #[.agg (cfgL c).toArray,.int .i64 t,.slice p cs.length cap] w fun e w'=>e = .returned (.bool true)∧Below w.heap.size w w':=by
 have hB0:Below w.heap.size w (w.alloc (.cells (cfgL c).toArray tCfg)):=(Below.refl _ _).alloc (Nat.le_refl _) _
 have hz0:=iM w (cfgL c) tCfg
 have hl0:=sH hz0
 go_enter Tryz.func16,Tryz.ntmps16
 go_wp2_with fail
 refine (aLc c _).mono ?_
 rintro e w1 ⟨rfl,hb1⟩
 have hz1:=gU hz0 hb1 (by simp)
 have hs1:=aSi hz1 (by simp[aAk]) (uY 200 c)
 have hz2:=setRow_heap _ _ _ (cfgL (uY 200 c)).toArray _ _ hz1
 have hB1:Below w.heap.size w (w1.setRow w.heap.size (cfgL (uY 200 c)).toArray):=iE (hB0.trans (hb1.mono hB0.size)) (Nat.le_refl _) _
 clear hl0 hz0 hb1 hz1
 generalize uY 200 c=C at *
 go_wp2_with fail
 refine (aTm p cap cs _ (hA.on hB1)).mono ?_
 rintro e w3 ⟨p',cap',hs,rfl,hpure,hrow,hb3⟩
 have hL:LawW w w3 C p' cap' hs:=⟨hB1.trans (hb3.mono hB1.size),gU hz2 hb3 (Array.getElem?_eq_some_iff.1 hz2).1,hrow⟩
 clear hs1 hz2 hB1 hb3 hrow hpure hA
 have hld:=hL.ld
 have hTx:=fun W (h:LawW w W C p' cap' hs)=>h.wtexts
 have hFd:=hL.wfeed t
 have hown:=fun (h:(pQ apG C t hs).2=0) (os:List aA) (hm:os.map aA.pure=(thF t hs).map aA.pure)=>aSv h hL.row.ok (oG hL.row) hm
 have hOf:=fun W (h:LawW w W C p' cap' hs)=>aO6 p' cap' t hs W h.row.row (by have:=h.row.len;omega) h.row.dat
 unfold yX at hTx
 rw[aSg] at hOf
 generalize (pQ apG C t hs).1=at_ at *
 generalize (pQ apG C t hs).2=er at *
 have HTx:=Lib.hid hTx
 have HFd:=Lib.hid hFd
 have Hown:=Lib.hid hown
 have HOf:=Lib.hid hOf
 clear hTx hFd hown hOf
 go_wp2_with fail
 refine HFd.out.mono ?_
 rintro e w4 ⟨rfl,hb⟩
 have hL4:=hL.on hb
 have hld:=hL4.ld
 clear hb hL HFd
 by_cases he:er=0
 rotate_left
 ·have de:(er != 0)=true:=by simpa using he
  go_wp2_with fail
  refine hL4.awake35.mono ?_
  rintro e w9 ⟨rfl,hb⟩
  go_wp2_with fail
  go_returns
  exact⟨rfl,hb⟩
 subst he
 have hth:(thF t hs).length≤24:=Nat.le_trans (List.length_filter_le _ _) hL4.row.len
 have hthok:∀ x∈(thF t hs).map aA.pure,x.Ok:=fun x hx=>by
  obtain⟨y,hy,rfl⟩:=List.mem_map.1 hx
  exact pure_ok (d:=y) rfl (hL4.row.ok y (List.mem_filter.1 hy).1)
 generalize thF t hs=th at *
 have Hth:=Lib.hid (And.intro hth hthok)
 clear hth hthok
 go_wp2_with fail
 refine (HTx.out _ hL4).mono ?_
 rintro e w5 (⟨hp,-⟩ | ⟨hp,vx,rfl,hX,hb⟩)
 ·exact absurd (Hown.out (by first | rfl | trivial) th rfl).1 hp
 have hXl:=vB hp
 have hL5:=hL4.on hb
 have hld:=hL5.ld
 clear hb hL4 HTx
 generalize iB C hs=X at *
 generalize iA hs (effC hs)=z at *
 obtain⟨g,qx,rfl,hXA,hXs⟩:∃ g q,vx = .slice (some ⟨g,0,none⟩) X.length q∧WXAt w5 g X∧g<w5.heap.size:=by
  rcases hX.2 with⟨_,h2⟩ | ⟨g,cap',cur,h1,h2,h3,_⟩
  ·omega
  ·refine⟨g,cap',h1,fun j u hj => ?_,(Array.getElem?_eq_some_iff.1 h3).1⟩
   subst h1
   have hlt:=(List.getElem?_eq_some_iff.1 hj).1
   rw[hX.cellAt j (by omega),List.getElem?_map,hj]
   rfl
 have HXA:=Lib.hid hXA
 clear hX hXA hXs hp hXl
 go_wp2_with fail
 refine (HOf.out _ hL5).mono ?_
 rintro e w6 ⟨vo,rfl,hO,hb⟩
 obtain⟨po,co,os,rfl,hm,hOR⟩:=aI3 hO Hth.out.2 (by rw[List.length_map];exact Hth.out.1)
 have HOK:=Lib.hid (Hown.out (by first | rfl | trivial) os hm).2
 have hM:WcM w C p' cap' hs g X po co os none 0 [] w6:=⟨hL5.on hb,HXA.out.on hb,hOR,.inl ⟨rfl,rfl⟩,fun _=>rfl⟩
 have hol:=hOR.len
 clear hb hL5 HXA hO hm hOR Hown HOf Hth hld
 go_wp2_with fail
 refine wp_loop (WcL w C p' cap' hs g qx X po co os z) (fun a _=>os.length-(intOf (a.tmps.getD 17 undef)).toNat) ?_ ?_
 ·exact WcL.intro 0 0 0 false none 0 [] rfl rfl (Nat.zero_le _) (aOw HOK.out) hM
 clear hM
 rintro a wr ⟨k,fr,to_,sm,ad,cd,d,u,rfl,hk,hI,hM⟩
 have HI:=Lib.hid hI
 have HM:=Lib.hid hM
 clear hI hM
 by_cases hlt:k<os.length
 rotate_left
 ·cases sm with
  | false =>
   go_wp2_with fail
   refine HM.out.law.awake35.mono ?_
   rintro e w9 ⟨rfl,hb⟩
   go_wp2_with fail
   go_returns
   exact⟨rfl,hb⟩
  | true =>
   obtain⟨f0,f1,t0,t1,dl,s,tt,hs1,ht1,hap⟩:=aSw HI.out
   have e1:decide (fr<0)=false:=decide_eq_false (by omega)
   have e2:decide ((X.length:Int)≤fr)=false:=decide_eq_false (by omega)
   have e3:decide (to_<0)=false:=decide_eq_false (by omega)
   have e4:decide ((X.length:Int)≤to_)=false:=decide_eq_false (by omega)
   have x1:wr.cell? ⟨g,fr.toNat,none⟩=some (.string s):=HM.out.row _ _ hs1
   have hA:=aJs s ad cd d wr HM.out.del (by omega)
   rw[hap] at hA
   have HA:=Lib.hid hA
   have Hht:=Lib.hid ht1
   clear hA hap hs1 ht1
   go_wp2_with fail
   refine HA.out.mono ?_
   rintro e w7 ⟨rfl,hb⟩
   have hM7:=HM.out.on hb
   have x2:w7.cell? ⟨g,to_.toNat,none⟩=some (.string tt):=hM7.row _ _ Hht.out
   have HL7:=Lib.hid hM7.law
   clear hM7 hb
   go_wp2_with fail
   refine HL7.out.awake35.mono ?_
   rintro e w9 ⟨rfl,hb⟩
   go_wp2_with fail
   go_returns
   exact⟨rfl,hb⟩
 obtain⟨y,hy⟩:∃ y,os[k]? = some y:=⟨_,List.getElem?_eq_getElem hlt⟩
 obtain⟨b,off,rfl,hcap,hbl,hcat⟩:∃ b off,po=some ⟨b,off,none⟩∧os.length≤co∧b<wr.heap.size∧CAt wr b off os:=by
  rcases HM.out.own.row with⟨_,_,h⟩ | h
  ·rw[h] at hy;simp at hy
  ·exact h
 have hdat:=HM.out.own.dat y (List.mem_of_getElem? hy)
 have hli:=aO4 hcat hy
 have c2:=Lib.cell?_alloc_some (.cells #[.int .u8 y.ik,.int .i64 y.ifrom,.int .i64 y.ito,.slice y.da y.ps.length y.dc] 49) (show wr.cell? ⟨b,off+k*27+2,none⟩=some (.int .u8 y.okind) from hcat.cell hy 2 (by omega))
 have c10:=Lib.cell?_alloc_some (.cells #[.int .u8 y.ik,.int .i64 y.ifrom,.int .i64 y.ito,.slice y.da y.ps.length y.dc] 49) (show wr.cell? ⟨b,off+k*27+10,none⟩=some (.int .i64 y.took) from hcat.cell hy 10 (by omega))
 have c14:=Lib.cell?_alloc_some (.cells #[.int .u8 y.ik,.int .i64 y.ifrom,.int .i64 y.ito,.slice y.da y.ps.length y.dc] 49) (show wr.cell? ⟨b,off+k*27+14,none⟩=some (.int .i64 y.err) from hcat.cell hy 14 (by omega))
 have HMI:=Lib.hid (HM.out.on ((Below.refl wr.heap.size wr).alloc (Nat.le_refl _) (.cells #[.int .u8 y.ik,.int .i64 y.ifrom,.int .i64 y.ito,.slice y.da y.ps.length y.dc] 49)))
 have Hdat:=Lib.hid (hdat.on ((Below.refl wr.heap.size wr).alloc (Nat.le_refl _) (.cells #[.int .u8 y.ik,.int .i64 y.ifrom,.int .i64 y.ito,.slice y.da y.ps.length y.dc] 49)))
 have Hy:=Lib.hid hy
 clear hy hcat hdat
 by_cases hq:y.okind=15∧0≤y.took∧y.err=0
 rotate_left
 ·by_cases h1:y.okind=15
  rotate_left
  ·have e1:(y.okind != 15)=true:=by simpa using h1
   go_wp2_with fail
   exact⟨WcL.intro (k+1) fr to_ sm ad cd d rfl rfl (by omega) (aEb HOK.out Hy.out HI.out hq) HMI.out,by simp[intOf];omega⟩
  have e1:(y.okind != 15)=false:=by simpa using h1
  by_cases h2:0≤y.took
  rotate_left
  ·have e2:decide (y.took<0)=true:=decide_eq_true (by omega)
   go_wp2_with fail
   exact⟨WcL.intro (k+1) fr to_ sm ad cd d rfl rfl (by omega) (aEb HOK.out Hy.out HI.out hq) HMI.out,by simp[intOf];omega⟩
  have e2:decide (y.took<0)=false:=decide_eq_false (by omega)
  have e3:(y.err != 0)=true:=by
   have:y.err≠0:=fun h=>hq ⟨h1,h2,h⟩
   simpa using this
  go_wp2_with fail
  exact⟨WcL.intro (k+1) fr to_ sm ad cd d rfl rfl (by omega) (aEb HOK.out Hy.out HI.out hq) HMI.out,by simp[intOf];omega⟩
 obtain⟨t1,t2,t3,t4,t5,t6⟩:=aRj HOK.out Hy.out HI.out hq
 obtain⟨q1,q2,q3⟩:=hq
 have e1:(y.okind != 15)=false:=by simpa using q1
 have e2:decide (y.took<0)=false:=decide_eq_false (by omega)
 have e3:(y.err != 0)=false:=by simpa using q3
 have e4:decide (y.ito≤to_)=false:=decide_eq_false (by omega)
 have e5:decide ((X.length:Int)≤y.ito)=false:=decide_eq_false (by omega)
 have T4:=Lib.hid t4
 have T5:=Lib.hid t5
 have T6:=Lib.hid t6
 clear t4 t5 t6 q1 q3
 have hz0:=iM wr [.int .u8 y.ik,.int .i64 y.ifrom,.int .i64 y.ito,.slice y.da y.ps.length y.dc] 49
 have z0:=aM hz0 0
 have z1:=aM hz0 1
 have z2:=aM hz0 2
 have z3:=aM hz0 3
 by_cases h2:y.ik=2
 ·have e6:(y.ik == 2)=true:=by simpa using h2
  have e7:decide (y.ito<0)=false:=decide_eq_false (by omega)
  obtain⟨tx,htx⟩:∃ tx,X[y.ito.toNat]? = some tx:=⟨_,List.getElem?_eq_getElem (by omega)⟩
  have xc:(wr.alloc (.cells #[.int .u8 y.ik,.int .i64 y.ifrom,.int .i64 y.ito,.slice y.da y.ps.length y.dc] 49)).cell? ⟨g,y.ito.toNat,none⟩=some (.string tx):=HMI.out.row _ _ htx
  have T5':=Lib.hid (T5.out h2 tx htx)
  clear htx h2
  by_cases hz:tx.size=0
  ·have ht0:tx=⟨#[]⟩:=by
    have:tx.data.toList=[]:=List.eq_nil_of_length_eq_zero (by rw[oH];exact hz)
    exact ByteArray.ext (by simpa using this)
   have Hz:=Lib.hid hz
   subst ht0
   clear hz
   go_wp2_with fail
   exact⟨WcL.intro (k+1) y.ito y.ito true none 0 [] rfl rfl (by omega) (T5'.out.1 Hz.out) (HMI.out.to (.inl ⟨rfl,rfl⟩) (fun _=>rfl)),by simp[intOf];omega⟩
  ·have hne:tx.toList≠[]:=by
    rw[toList_data]
    intro h
    exact hz (by rw[← oH,h];rfl)
   have e8:(tx.toList == ([]:List UInt8))=false:=by simpa using hne
   have e9:(tx.toList != ([]:List UInt8))=true:=by simpa using hne
   have e10:(tx.toList == (⟨#[]⟩:ByteArray).toList)=false:=by rw[toList_data (⟨#[]⟩:ByteArray)];exact e8
   have e11:(tx.toList != (⟨#[]⟩:ByteArray).toList)=true:=by rw[toList_data (⟨#[]⟩:ByteArray)];exact e9
   have zz2:=Lib.cell?_alloc_some (.cells #[.int .u8 1,.int .i64 tx.size,.string ⟨#[]⟩] 94) z2
   have HP:=Lib.hid (aLr (wr.alloc (.cells #[.int .u8 y.ik,.int .i64 y.ifrom,.int .i64 y.ito,.slice y.da y.ps.length y.dc] 49)) 1 tx.size ⟨#[]⟩)
   have HMP:=Lib.hid (HMI.out.on ((Below.refl (wr.alloc (.cells #[.int .u8 y.ik,.int .i64 y.ifrom,.int .i64 y.ito,.slice y.da y.ps.length y.dc] 49)).heap.size (wr.alloc (.cells #[.int .u8 y.ik,.int .i64 y.ifrom,.int .i64 y.ito,.slice y.da y.ps.length y.dc] 49))).alloc (Nat.le_refl _) (.cells #[.int .u8 1,.int .i64 tx.size,.string ⟨#[]⟩] 94)))
   have Hz:=Lib.hid hz
   clear hz hne
   go_wp2_with fail
   have hP:=HP.out
   rw[World.size_alloc] at hP
   exact⟨WcL.intro (k+1) y.ito y.ito true _ 1 [⟨1,tx.size,⟨#[]⟩⟩] rfl rfl (by omega) (T5'.out.2 Hz.out) (HMP.out.to hP (fun h=>by cases h)),by simp[intOf];omega⟩
 have e6:(y.ik == 2)=false:=by simpa using h2
 have T6':=Lib.hid (T6.out h2)
 clear h2
 cases sm with
 | false =>
  go_wp2_with fail
  go_region
  go_wp2_with fail
  exact⟨WcL.intro (k+1) y.ifrom y.ito true y.da y.dc (y.ps.map pcOf) (List.length_map ..).symm rfl (by omega) (T6'.out.1 (by first | rfl | trivial)) ((HMI.out.on (Below.refl _ _).drew).to (aA0 (Hdat.out.on (Below.refl _ _).drew)) (aJt Hdat.out)),by simp[intOf];omega⟩
 | true =>
  obtain⟨h1,h2,h3,h4,h5⟩:=T6'.out.2 rfl
  have hC:=aGz ad y.da cd y.dc d (y.ps.map pcOf) _ HMI.out.del (aA0 Hdat.out) HMI.out.nil (aJt Hdat.out) h2 h3 h4
  rw[List.length_map] at hC
  have eF:(y.ifrom != to_)=false:=by simpa using h1
  have HC:=Lib.hid hC
  have H5:=Lib.hid h5
  clear hC h1 h2 h3 h4 h5
  go_wp2_with fail
  refine HC.out.mono ?_
  rintro e w7 ⟨⟨h0,v,rfl,ho⟩ | ⟨h0,rfl⟩,hb⟩
  ·obtain⟨ao,cp,rfl⟩:=aF ho
   have hM7:=HMI.out.on hb
   have x1:w7.cell? ⟨wr.heap.size,1,none⟩=some (.int .i64 y.ifrom):=(hb.cell (p:=⟨wr.heap.size,1,none⟩) (by simp)).trans z1
   have x2:w7.cell? ⟨wr.heap.size,2,none⟩=some (.int .i64 y.ito):=(hb.cell (p:=⟨wr.heap.size,2,none⟩) (by simp)).trans z2
   have HM7:=Lib.hid (hM7.to (nR rfl ho).1 (aLq ho))
   have HI7:=Lib.hid (H5.out h0)
   clear hM7 ho hb h0 z0 z1 z2 z3
   go_wp2_with fail
   exact⟨WcL.intro (k+1) fr y.ito true ao cp _ rfl rfl (by omega) HI7.out HM7.out,by simp[intOf];omega⟩
  ·have HL7:=Lib.hid (HMI.out.law.on hb)
   clear hb h0 z0 z1 z2 z3
   go_wp2_with fail
   refine HL7.out.awake35.mono ?_
   rintro e w9 ⟨rfl,hb⟩
   go_wp2_with fail
   go_returns
   exact⟨rfl,hb⟩
end Go.Proofs.YtdeiocppghhfdaaGreat.Lin
namespace Go.Proofs.YtdeiocppghhfdaaGreat.witnessComposes
open Go.ChangeShapes Go.WideShapes Go.ChangeAt Go.RowKit
open Go.ChangeMaps (open_string shut_string)
open Lin Hs
set_option linter.unusedVariables false
theorem lifted (os : Os) (started : os.Started) (H : Type) (enc : TypeId × Value → H) :
    ReturnsInHanded {} Tryz.checked os 16 .any (Rows.witnessComposesSpec.pre6 enc Tryz.prog Tryz.f16 Rows.witnessComposesRow.domain false) (Rows.witnessComposesSpec.post enc Tryz.prog Tryz.f16 false true false false):=by
  refine returnsInHanded_of_change_sized (C := Tryz.checked) own started (by kernel_rfl) Tryz.func16
    (ChangeSpec.witness6 (enc:=enc) (C := Tryz.checked) false ⟨#[],#[.agg #[.int .i64 0,.int .u64 0,.int .i64 0,.int .i64 0,.int .i64 0,.int .i64 0,.int .i64 0,.string ⟨#[]⟩],.int .i64 0,.slice none 0 0],[]⟩ 8 (by kernel_rfl) (by kernel_rfl) (by kernel_rfl) (by kernel_rfl)) ?_
  intro W base args ds gs before hval0 hW hcnd hsz0 _
  have hval:∀ (j:Nat) t v,Tryz.f16.params[j]? = some t→args[j]? = some v→Value.okWide Tryz.prog W .any base t v:=hval0
  have hW':=hW
  obtain⟨p,q,hA0,hV,rfl,hfz,hnd⟩:=hW
  have hA:DataW.TrodAll enc Tryz.prog W 0 (fun _=>true) true Tryz.f16.params.toList args.toList ds p:=hA0
  rw[Tryz.params16] at hA hval
  obtain⟨v0,vs0,d0,ds0,p0,q0,hargs,rfl,rfl,h0,r0⟩:=trodAll_cons hA
  obtain⟨v1,vs1,d1,ds1,p1,q1,rfl,rfl,rfl,h1,r1⟩:=trodAll_cons r0
  obtain⟨v2,vs2,d2,ds2,p2,q2,rfl,rfl,rfl,h2,r2⟩:=trodAll_cons r1
  obtain⟨rfl,rfl,rfl⟩:=trodAll_nil r2
  obtain rfl:args = #[v0,v1,v2]:=by cases args;simp_all
  obtain⟨rfl,rfl⟩:=trodVars_none hV
  obtain⟨c0,rfl⟩:=aLp (hval 0 24 v0 rfl rfl) h0
  obtain⟨a1,rfl,rfl,rfl,w1⟩:=open_int Tryz.underlying3 (hval 1 3 v1 rfl rfl) h1
  obtain⟨q2,c2,l2,rfl,w2⟩:=aG1 (hval 2 25 v2 rfl rfl) h2
  clear hA0 hval0
  (try simp only[List.append_nil,List.nil_append] at hW')
  refine (walkWitnessComposes c0 a1 q2 c2 l2 W (wf64 w1) w2).mono fun e W' ⟨he,hg⟩ => ?_
  subst he
  have hlt0:∀ x∈p0,x.block<W.heap.size:=fun x hx=>hW'.lt x (by simp[hx])
  have hlt2:∀ x∈p2,x.block<W.heap.size:=fun x hx=>hW'.lt x (by simp[hx])
  exact⟨_,rfl,aA5 (pa:=(p0++([]++(p2++[])))) (pv:=[]) hW' (fun _ _ _=>(trodAll_cons_mk (shut_bool Tryz.underlying4 _) trodAll_mk0)) (fun sp hsp=>(trodAll_cons_mk (WideElems.Trod_stays (by kernel_rfl) (by kernel_rfl) (of_decide_eq_true (by kernel_rfl)) h0 (fun x hx=>hg.same (hlt0 x hx)) (fun x hx=>hsp x (by simp[hx]))) (trodAll_cons_mk (shut_int Tryz.underlying3 w1) (trodAll_cons_mk (WideElems.Trod_stays (by kernel_rfl) (by kernel_rfl) (of_decide_eq_true (by kernel_rfl)) h2 (fun x hx=>hg.same (hlt2 x hx)) (fun x hx=>hsp x (by simp[hx]))) trodAll_mk0)))) (fun _ _=>rfl) (by simp)
    hg (ok_one (by kernel_rfl) rfl (okWide_bool_mk Tryz.underlying4 _))⟩
theorem facts:joinedFacts Tryz.prog 16 Tryz.f16 Rows.witnessComposesSpec Rows.witnessComposesRow=true:=by
  unfold joinedFacts
  simp only[Bool.and_eq_true]
  repeat' apply And.intro
  all_goals (as_aux_lemma=>kernel_rfl)
theorem proved:Rows.WitnessComposesSaid :=
  OpenClaim.holds_of_wide 16 Tryz.f16 rfl rfl rfl rfl rfl rfl rfl ⟨rfl,rfl,rfl,rfl,rfl⟩ rfl rfl rfl rfl rfl (by kernel_rfl) Tryz.func16 facts
    (of_decide_eq_true (by kernel_rfl)) (by unfold Func.isWrapper;first | (rw[if_pos (by decide +kernel)];kernel_rfl) | (rw[if_neg (by decide +kernel)];exact⟨rfl,rfl⟩))
    (fun os started H enc _=>lifted os started H enc)
#print axioms proved
end Go.Proofs.YtdeiocppghhfdaaGreat.witnessComposes
