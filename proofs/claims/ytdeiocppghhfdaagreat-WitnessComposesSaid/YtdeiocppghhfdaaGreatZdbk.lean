/- Texts, one behind another. -/
import Derived.Test.YtdeiocppghhfdaaGreatZdbj
set_option linter.unusedVariables false
set_option linter.unusedSimpArgs false
set_option maxRecDepth 100000
set_option maxHeartbeats 8000000
namespace Go.Proofs.YtdeiocppghhfdaaGreat
open Go.RowKit Go.Lib Go.Shelf
def Rb (w:World) (lo b:Nat) (l:List UInt8):Prop :=
 ∃ p v,w.heap[b]? = some (.cells #[p,v] 205 (0,0))∧((l=[]∧v = .slice none 0 0)∨(l≠[]∧∃ g cap m,v = .slice (some ⟨g,0,none⟩) l.length cap∧lo≤g∧l.length≤cap∧w.shape? g=some (5,m)∧l.length≤m∧∀ (j:Nat) (x:UInt8),l[j]? = some x→w.cell? ((⟨g,0,none⟩:Addr).add j)=some (.int .u8 x.toNat)))
theorem Bv.rb {w:World} {b lo:Nat} {v:Value} {l:List UInt8} (h:Bv w b v lo (Lib.byteCells l)):Rb w lo b l:=by
 obtain⟨p,hp⟩:∃ p,w.heap[b]? = some (.cells #[p,v] 205 (0,0)):=h.blk.elim (fun h=>⟨_,h⟩) (fun h=>⟨_,h⟩)
 refine⟨p,v,hp,?_⟩
 by_cases hl:l=[]
 ·exact .inl ⟨hl,h.nil_ (by rw[hl];rfl)⟩
 ·have ho:=h.own
  rw[Lib.byteCells_length] at ho
  refine .inr ⟨hl,?_⟩
  have ho2:=ho.2
  rcases ho2 with⟨_,h0⟩ | ⟨g,cap,cur,fz,rfl,hb,hg,hf,hc,hm,hs,ht⟩
  ·exact absurd (List.eq_nil_of_length_eq_zero h0) hl
  ·exact⟨g,cap,cur.size,rfl,hb,hc,by simp[World.shape?,hg],by omega,fun j x hx=>ho.cells (g:=g) rfl j (.int .u8 x.toNat) (by simp[Lib.byteCells,hx])⟩
theorem yE (w:World) (a:Addr) (n k:Nat):(w.freeze a n).heap[k]? = w.heap[k]? ∨ ∃ c e f f',w.heap[k]? = some (.cells c e f)∧(w.freeze a n).heap[k]? = some (.cells c e f'):=by
 unfold World.freeze
 split
 ·exact .inl rfl
 ·simp only[Array.getElem?_modify]
  split
  ·cases h2:w.heap[k]? with
   | none=>exact .inl rfl
   | some o =>
    cases o with
    | cells c e f=>obtain⟨lo,hi⟩:=f;exact .inr ⟨c,e,_,_,rfl,rfl⟩
    | _=>exact .inl rfl
  ·exact .inl rfl
theorem aGe (w:World) (a p:Addr) (n:Nat):(w.freeze a n).cell? p=w.cell? p:=by
 unfold World.cell?
 rcases yE w a n p.block with h | ⟨c,e,f,f',h1,h2⟩
 ·rw[h]
 ·rw[h1,h2]
theorem aD2 (w:World) (a:Addr) (k n:Nat):(w.freeze a n).shape? k=w.shape? k:=by
 unfold World.shape?
 rcases yE w a n k with h | ⟨c,e,f,f',h1,h2⟩
 ·rw[h]
 ·rw[h1,h2]
theorem aD3 (w:World) (a:Addr) (k n:Nat) (h:k≠a.block):(w.freeze a n).heap[k]? = w.heap[k]? := by
 unfold World.freeze
 split
 ·rfl
 ·simp only[Array.getElem?_modify]
  rw[if_neg (fun e=>h e.symm)]
theorem Rb.freeze {w:World} {lo b g m n:Nat} {l:List UInt8} (h:Rb w lo b l) (hs:w.shape? g=some (5,m)):Rb (w.drew.freeze ⟨g,0,none⟩ n) lo b l:=by
 obtain⟨p,v,hb,hr⟩:=h
 have hne:b≠g:=by
  rintro rfl
  have hb2:w.heap[b]? = some (.cells #[p,v] 205 (0,0)):=hb
  simp[World.shape?,hb2] at hs
 refine⟨p,v,(aD3 _ _ _ _ hne).trans hb,?_⟩
 rcases hr with hr | ⟨h1,g2,cap,m2,h2,h3,h4,h5,h6,h7⟩
 ·exact .inl hr
 ·exact .inr ⟨h1,g2,cap,m2,h2,h3,h4,(aD2 _ _ _ _).trans h5,h6,fun j x hx=>(aGe _ _ _ _).trans (h7 j x hx)⟩
theorem Rb.drew {w:World} {lo b:Nat} {l:List UInt8} (h:Rb w lo b l):Rb w.drew lo b l:=h
theorem aD4 (lo b:Nat) (l:List UInt8) (w:World) (h:Rb w lo b l) (hl:l.length≤1000000) :
  Calls Tryz.prog 174 #[.pointer (some ⟨b,0,none⟩)] w fun e w'=>e = .returned (.string ⟨l.toArray⟩)∧(∀ b2 l2,Rb w lo b2 l2→Rb w' lo b2 l2)∧Below lo w w':=by
 obtain⟨p,v,hb,hr⟩:=h
 rcases hr with⟨rfl,rfl⟩ | ⟨h1,g,cap,m,rfl,h3,h4,h5,h6,h7⟩
 ·refine (aGa b p w hb).mono ?_
  rintro e w' ⟨rfl,rfl⟩
  exact⟨rfl,fun b2 l2 h=>h.drew,Below.drew (Below.refl _ w)⟩
 ·refine (aOd b g cap m l p w hb h1 h4 hl h5 h6 h7).mono ?_
  rintro e w' ⟨rfl,rfl⟩
  exact⟨rfl,fun b2 l2 h=>h.freeze h5,Lib.below_freeze (Below.drew (Below.refl _ w)) (p:=⟨g,0,none⟩) h3 _⟩
theorem aOf (s:List UInt8):∀ (d:List PcV),(paF s d).rest.length≤s.length:=by
 have key:∀ (d:List PcV) (st:PaS),(d.foldl aZ st).rest.length≤st.rest.length:=by
  intro d
  induction d with
  | nil=>intro st;exact Nat.le_refl _
  | cons p d ih =>
   intro st
   rw[List.foldl_cons]
   refine Nat.le_trans (ih _) ?_
   unfold aZ
   (repeat' split)<;>simp
 intro d
 exact key d _
theorem aJh (N:Nat):∀ (d:List PcV) (st:PaS),st.rest.length≤N→(∀ p∈d,p.text.size≤N)→(d.foldl aZ st).out.length≤st.out.length+d.length*N∧(d.foldl aZ st).gone.length≤st.gone.length+d.length*N∧(d.foldl aZ st).ins.length≤st.ins.length+d.length*N
 | [],st,_,_=>by simp
 | p::d,st,h1,h2=>by
  have hp:=h2 p (by simp)
  have ht:p.text.data.toList.length=p.text.size:=Array.length_toList
  have hr:(aZ st p).rest.length≤N:=by unfold aZ;(repeat' split)<;>simp<;>omega
  have h3:(aZ st p).out.length≤st.out.length+N∧(aZ st p).gone.length≤st.gone.length+N∧(aZ st p).ins.length≤st.ins.length+N:=by
   unfold aZ;(repeat' split)<;>simp only[List.length_append,List.length_take]<;>omega
  obtain⟨i1,i2,i3⟩:=aJh N d (aZ st p) hr (fun q hq=>h2 q (by simp[hq]))
  rw[List.foldl_cons,List.length_cons,Nat.succ_mul]
  omega
theorem jO {F:Nat→Prop} {B:Nat} {w0 w w':World} (h:Below B w0 w) (hk:aC F w w') (hF:∀ k,F k→B≤k) (hB:B≤w.heap.size):Below B w0 w' :=
 ⟨hk.os.trans h.os,hk.tape.trans h.tape,hk.output.trans h.output,Nat.le_trans h.size hk.size,fun k hk'=>(hk.block k (by omega) (fun hf=>absurd (hF k hf) (by omega))).trans (h.block k hk')⟩
structure PaI (w:World) (wr:World) (s:ByteArray) (d:List PcV) (k:Nat) (r:ByteArray) (vo vg vi:Value):Prop where
 pa:PaW wr w.heap.size (paF s.data.toList (d.take k)) r vo vg vi
 sep:k<d.length→aGd vo vg vi
 bl:Below w.heap.size w wr
theorem aCf {w W:World} {s:ByteArray} {es:Array MapEntry} (hm:W.heap[w.heap.size+5]? = some (.map es 3)) (he:es=paE w.heap.size)
  (hB:Below (w.heap.size+5) (((((w.alloc (.cells #[.string s] 9)).alloc (.cells #[.pointer none,.slice none 0 0] 205)).alloc (.cells #[.pointer none,.slice none 0 0] 205)).alloc (.cells #[.pointer none,.slice none 0 0] 205)).alloc (.cells #[.func (.func 169) #[] #[.pointer (some ⟨w.heap.size,0,none⟩)]] 206)) W) :
  PaW W w.heap.size ⟨[],[],[],s.data.toList⟩ s (.slice none 0 0) (.slice none 0 0) (.slice none 0 0):=by
 have b0:W.heap[w.heap.size]? = some (.cells #[.string s] 9 (0,0)):=by
  rw[hB.block _ (by omega),heap_alloc_old _ _ (by simp[World.size_alloc];try omega),heap_alloc_old _ _ (by simp[World.size_alloc];try omega),heap_alloc_old _ _ (by simp[World.size_alloc];try omega),heap_alloc_old _ _ (by simp[World.size_alloc];try omega),heap_alloc_new]
 have b1:W.heap[w.heap.size+1]? = some (.cells #[.pointer none,.slice none 0 0] 205 (0,0)):=by
  rw[hB.block _ (by omega),heap_alloc_old _ _ (by simp;try omega),heap_alloc_old _ _ (by simp;try omega),heap_alloc_old _ _ (by simp)]
  have:=heap_alloc_new (w.alloc (.cells #[.string s] 9)) (.cells #[.pointer none,.slice none 0 0] 205)
  rwa [World.size_alloc] at this
 have b2:W.heap[w.heap.size+2]? = some (.cells #[.pointer none,.slice none 0 0] 205 (0,0)):=by
  rw[hB.block _ (by omega),heap_alloc_old _ _ (by simp;try omega),heap_alloc_old _ _ (by simp)]
  have:=heap_alloc_new ((w.alloc (.cells #[.string s] 9)).alloc (.cells #[.pointer none,.slice none 0 0] 205)) (.cells #[.pointer none,.slice none 0 0] 205)
  rwa [World.size_alloc,World.size_alloc] at this
 have b3:W.heap[w.heap.size+3]? = some (.cells #[.pointer none,.slice none 0 0] 205 (0,0)):=by
  rw[hB.block _ (by omega),heap_alloc_old _ _ (by simp)]
  have:=heap_alloc_new (((w.alloc (.cells #[.string s] 9)).alloc (.cells #[.pointer none,.slice none 0 0] 205)).alloc (.cells #[.pointer none,.slice none 0 0] 205)) (.cells #[.pointer none,.slice none 0 0] 205)
  rwa [World.size_alloc,World.size_alloc,World.size_alloc] at this
 have b4:Tak W w.heap.size:=by
  show W.heap[w.heap.size+4]? = _
  rw[hB.block _ (by omega)]
  have:=heap_alloc_new ((((w.alloc (.cells #[.string s] 9)).alloc (.cells #[.pointer none,.slice none 0 0] 205)).alloc (.cells #[.pointer none,.slice none 0 0] 205)).alloc (.cells #[.pointer none,.slice none 0 0] 205)) (.cells #[.func (.func 169) #[] #[.pointer (some ⟨w.heap.size,0,none⟩)]] 206)
  rwa [World.size_alloc,World.size_alloc,World.size_alloc,World.size_alloc] at this
 exact⟨rfl,b0,⟨.inl b1,World.ownsRowF_nil _ _ _ _,fun _=>rfl⟩,⟨.inl b2,World.ownsRowF_nil _ _ _ _,fun _=>rfl⟩,⟨.inl b3,World.ownsRowF_nil _ _ _ _,fun _=>rfl⟩,b4,by rw[← he];exact hm⟩
theorem aK8 (s:ByteArray) (a:Option Addr) (c:Nat) (d:List PcV) (w:World) (hr:PRow w a d) (hok:qH d ⟨[],[],[],s.data.toList⟩=true) (hlen:d.length≤4) (hs:s.size≤100000) :
  Calls Tryz.prog 115 #[.string s,.slice a d.length c] w fun e w'=>∃ x y,e = .returned (.tuple #[.string ⟨(paF s.data.toList d).out.toArray⟩,.string x,.string y])∧Below w.heap.size w w':=by
 obtain⟨W5,hW5⟩:∃ W5,W5=(((((w.alloc (.cells #[.string s] 9)).alloc (.cells #[.pointer none,.slice none 0 0] 205)).alloc (.cells #[.pointer none,.slice none 0 0] 205)).alloc (.cells #[.pointer none,.slice none 0 0] 205)).alloc (.cells #[.func (.func 169) #[] #[.pointer (some ⟨w.heap.size,0,none⟩)]] 206)):=⟨_,rfl⟩
 have hsz:W5.heap.size=w.heap.size+1+1+1+1+1:=by rw[hW5];simp
 have hBw:Below w.heap.size w W5:=by rw[hW5];exact (((((Below.refl _ w).alloc (Nat.le_refl _) _).alloc (by simp) _).alloc (by simp;try omega) _).alloc (by simp;try omega) _).alloc (by simp;try omega) _
 have hmb:=heap_alloc_new W5 (.map #[] 0)
 rw[hsz] at hmb
 have hB:=(Below.refl (w.heap.size+5) W5).alloc (by omega) (.map #[] 0)
 have HBw:=Lib.hid hBw
 have hlens:(paF s.data.toList d).out.length≤1000000∧(paF s.data.toList d).gone.length≤1000000∧(paF s.data.toList d).ins.length≤1000000:=by
  have h:=aJh 100000 d ⟨[],[],[],s.data.toList⟩ (by show s.data.toList.length≤_;rw[Array.length_toList];exact hs) (fun p hp=>by
   obtain⟨k,hk⟩:=List.getElem?_of_mem hp
   exact (yD (xK hok hk)).2.1)
  have h4:d.length*100000≤400000:=by omega
  obtain⟨a1,a2,a3⟩:=h
  refine⟨Nat.le_trans a1 ?_,Nat.le_trans a2 ?_,Nat.le_trans a3 ?_⟩<;>simp only[List.length_nil]<;>omega
 have HL:=Lib.hid hlens
 clear hBw hsz hlens
 subst hW5
 go_enter Tryz.func115,Tryz.ntmps115
 go_wp2_with (first | (refine lH _ rfl _ rfl ?_) | (refine mI _ rfl _ _ _ _ rfl _ _ Tryz.underlying212 _ Tryz.underlying5 _ _ _ _ hmb rfl rfl _ rfl (by rfl) ?_;intro v hm;replace hB:=uW hB (by omega) hm;replace hmb:=hm.blk;clear hm))
 have hP0:=aCf (s:=s) hmb rfl hB
 have hBl:Below w.heap.size w _:=HBw.out.trans (hB.mono (by omega))
 clear hB hmb HBw
 go_loopw [13,22,23,24,25,26,27,28,29,30,31,32] (fun x13 i x23 x24 x25 x26 x27 x28 x29 x30 x31 x32 wr=>∃ (k:Nat) (r:ByteArray) (vo vg vi:Value),i = .int .i64 k∧k≤d.length∧PaI w wr s d k r vo vg vi) (fun x13 i x23 x24 x25 x26 x27 x28 x29 x30 x31 x32 wr=>d.length-(intOf i).toNat)
 case atStart=>exact⟨0,s,_,_,_,rfl,by omega,hP0,fun _=>by rintro g (h | h)<;>simp[Value.ownBlock] at h,hBl⟩
 case round =>
  clear hP0 hBl
  obtain⟨k,r,vo,vg,vi,rfl,hk,hI⟩:=hrel
  by_cases hlt:k<d.length
  ·have hx:=List.getElem?_eq_getElem hlt
   generalize d[k]=p at hx
   have hone:=yD (xK hok hx)
   have hnx:=aGc (s:=s.data.toList) hx
   have hrest:=aOf s.data.toList (d.take k)
   have hpa:=hI.pa
   have hsep:=hI.sep hlt
   have hbl:=hI.bl
   change (0≤p.n∧p.n≤100000)∧p.text.size≤100000∧(paF s.data.toList (d.take k)).out.length≤300000∧(paF s.data.toList (d.take k)).gone.length≤300000∧(paF s.data.toList (d.take k)).ins.length≤300000∧(p.kind=2∨(p.kind=1∨p.kind=3)∧p.n.toNat≤(paF s.data.toList (d.take k)).rest.length)∧((decide (k+1=d.length)=true∧p.kind=1)∨((paF s.data.toList (d.take k)).gone=[]∧(paF s.data.toList (d.take k)).ins=[])) at hone
   generalize paF s.data.toList (d.take k)=S at hone hnx hrest hpa
   obtain⟨⟨hn0,hn1⟩,htx,ho1,ho2,ho3,hkd,hlast⟩:=hone
   have hrs:r.size=S.rest.length:=by rw[← hpa.rest];exact Array.length_toList.symm
   have hss:s.data.toList.length=s.size:=Array.length_toList
   have hrz:r.size≤300000:=by omega
   rcases hr.on hbl with⟨_,h2⟩ | ⟨b,off,rfl,hb,hcell⟩
   ·rw[h2] at hlt;simp at hlt
   have c0:wr.cell? ⟨b,off+k*3,none⟩=some (.int .u8 p.kind):=hcell k p hx 0 _ rfl
   have c1:wr.cell? ⟨b,off+k*3+1,none⟩=some (.int .i64 p.n):=hcell k p hx 1 _ rfl
   have c2:wr.cell? ⟨b,off+k*3+2,none⟩=some (.string p.text):=hcell k p hx 2 _ rfl
   have hsz:=hbl.size
   have hb1:=(Below.refl wr.heap.size wr).alloc (Nat.le_refl _) (.cells #[.int .u8 p.kind,.int .i64 p.n,.string p.text] 94)
   have hP1:=hpa.below hb1
   have hm1:=hP1.map
   have hbl1:=hbl.trans (hb1.mono hsz)
   have hss1:(wr.alloc (.cells #[.int .u8 p.kind,.int .i64 p.n,.string p.text] 94)).heap.size=wr.heap.size+1:=by simp
   clear hI hpa hcell hok hr hbl hb1
   have HNX:=Lib.hid hnx
   have HLA:=Lib.hid hlast
   clear hnx hlast hss
   have hown:∀ v lo bs b',Bv wr b' v lo bs→True:=fun _ _ _ _ _=>trivial
   clear hown
   have kO:=fun k hk=>(aD1 hP1.out k hk).1
   have kG:=fun k hk=>(aD1 hP1.gone k hk).1
   rcases hkd with hk2 | ⟨hk1 | hk3,hfit⟩
   ·obtain⟨pk,pn,pt⟩:=p
    obtain rfl:pk=2:=hk2
    have he:=HLA.out.resolve_left (fun h=>by have:=h.2;dsimp only at this;omega)
    have HE:=Lib.hid he
    clear he
    go_wp2_with (first | (refine iY _ rfl _ _ _ rfl _ _ Tryz.underlying212 _ Tryz.underlying5 _ _ _ _ hm1 rfl rfl _ _ (by rfl) ?_) | (go_at_call 173;refine (aId w.heap.size ⟨2,pn,pt⟩ _ _ _ _ _ hP1.out hP1.ins (by rw[HE.out.2];rfl) (by dsimp only at htx ⊢;omega) (by rw[Lib.byteCells_length];exact ho1)).mono ?_;rintro e w2 ⟨rfl,⟨vo',vi',hq1,hq2,hq3⟩,hkf⟩;obtain⟨hP2,hS2⟩:=aSm hP1 HE.out rfl hq1 hq2 hq3 hkf;have hbl2:=jO hbl1 hkf (by rintro k (rfl | rfl | hk);omega;omega;exact kO k hk) (by omega)))
    go_roundw
    case rel=>exact⟨k+1,r,vo',vg,vi',by go_num,by omega,by rw[HNX.out];exact hP2,fun _=>hS2,hbl2⟩
    case measure=>simp[intOf];omega
   ·obtain⟨pk,pn,pt⟩:=p
    obtain rfl:pk=1:=hk1
    dsimp only at hn0 hn1 hfit
    go_wp2_with (first | (refine iY _ rfl _ _ _ rfl _ _ Tryz.underlying212 _ Tryz.underlying5 _ _ _ _ hm1 rfl rfl _ _ (by rfl) ?_) | (go_at_call 170;refine (aIb w.heap.size w.heap.size ⟨1,pn,pt⟩ r _ _ _ hP1.text hP1.take hP1.out (by omega) hn0 (by dsimp only;omega) (by omega) (by rw[Lib.byteCells_length];exact ho1)).mono ?_;rintro e w2 ⟨rfl,hq1,⟨vo',hq2⟩,hkf⟩;have hP2:=aQu hP1 hsep rfl hq1 hq2 hkf;have hbl2:=jO hbl1 hkf (by rintro k (rfl | rfl | hk);omega;omega;exact kO k hk) (by omega)))
    go_roundw
    case rel =>
     exact⟨k+1,_,vo',vg,vi,by go_num,by omega,by rw[HNX.out];exact hP2,fun hl=>by
      rcases HLA.out with⟨h1,_⟩ | he
      ·have:=of_decide_eq_true h1;omega
      ·exact aQw hP1 he,hbl2⟩
    case measure=>simp[intOf];omega
   ·obtain⟨pk,pn,pt⟩:=p
    obtain rfl:pk=3:=hk3
    dsimp only at hn0 hn1 hfit
    have he:=HLA.out.resolve_left (fun h=>by have:=h.2;dsimp only at this;omega)
    have HE:=Lib.hid he
    clear he
    go_wp2_with (first | (refine iY _ rfl _ _ _ rfl _ _ Tryz.underlying212 _ Tryz.underlying5 _ _ _ _ hm1 rfl rfl _ _ (by rfl) ?_) | (go_at_call 172;refine (aIc w.heap.size _ ⟨3,pn,pt⟩ r _ _ _ hP1.text hP1.take (hP1.gone.fresh (by rw[HE.out.1];rfl) _) (Nat.le_refl _) hn0 (by dsimp only;omega) (by omega) (by rw[Lib.byteCells_length];exact ho2)).mono ?_;rintro e w2 ⟨rfl,hq1,⟨vg',hq2⟩,hkf⟩;obtain⟨hP2,hS2⟩:=aQv hP1 HE.out rfl hq1 hq2 (by omega) hkf;have hbl2:=jO hbl1 hkf (by rintro k (rfl | rfl | hk);omega;omega;exact kG k hk) (by omega)))
    go_roundw
    case rel=>exact⟨k+1,_,vo,vg',vi,by go_num,by omega,by rw[HNX.out];exact hP2,fun _=>hS2,hbl2⟩
    case measure=>simp[intOf];omega
  ·obtain rfl:k=d.length:=by omega
   have hP:=hI.pa
   have hbl:=hI.bl
   rw[List.take_length] at hP
   have r1:=hP.out.rb
   have r2:=hP.gone.rb
   have r3:=hP.ins.rb
   have hsz:=hbl.size
   obtain⟨l1,l2,l3⟩:=HL.out
   clear hP hI HL hok
   obtain⟨xo,hxo⟩:∃ xo,(paF s.data.toList d).out=xo:=⟨_,rfl⟩
   rw[hxo] at r1 l1
   have HXO:=Lib.hid hxo
   clear hxo
   generalize (paF s.data.toList d).gone=xg at r2 l2
   generalize (paF s.data.toList d).ins=xi at r3 l3
   go_wp2_with (first | (go_at_call 174;have h2:=q2;refine (aD4 w.heap.size (w.heap.size+3) xi _ q2 l3).mono ?_;rintro e w3 ⟨rfl,_,hb3⟩) | (go_at_call 174;have h1:=q1;refine (aD4 w.heap.size (w.heap.size+2) xg _ q1 l2).mono ?_;rintro e w2 ⟨rfl,hk2,hb2⟩;have q2:=hk2 _ _ (hk1 _ _ r3)) | (go_at_call 174;refine (aD4 w.heap.size (w.heap.size+1) xo _ r1 l1).mono ?_;rintro e w1 ⟨rfl,hk1,hb1⟩;have q1:=hk1 _ _ r2))
   go_returns
   exact⟨⟨xg.toArray⟩,⟨xi.toArray⟩,by rw[HXO.out];rfl,((hbl.trans hb1).trans hb2).trans hb3⟩
theorem aK9 (s:ByteArray) (at_ n:Int) (x:ByteArray) (a:Option Addr) (c:Nat) (w:World) (hrep:uP s.size at_ n x) (hr:PRow w a (repD s.size at_ n x)) :
  Calls Tryz.prog 59 #[.string s,.slice a (repD s.size at_ n x).length c] w fun e w'=>e = .returned (.tuple #[.string (repT s at_ n x),.int .i64 0])∧Below w.heap.size w w':=by
 obtain⟨_,_,_,hlen⟩:=aC7 hrep
 obtain⟨hpa,hout⟩:=aSl s at_ n x hrep
 have hl4:=zU s.size at_ n x
 have hsz:s.size≤100000:=by have:=hrep.2.2.2.1;omega
 have hf:=aOe s a c (repD s.size at_ n x) w hr (by omega) (by rw[hlen])
 have hp:=fun W (hW:PRow W a (repD s.size at_ n x))=>aK8 s a c (repD s.size at_ n x) W hW hpa hl4 hsz
 have he:(⟨(paF s.data.toList (repD s.size at_ n x)).out.toArray⟩:ByteArray)=repT s at_ n x:=by rw[hout]
 rw[he] at hp
 have HF:=Lib.hid hf;have HP:=Lib.hid hp
 clear hf hp he hout hpa hlen
 generalize repD s.size at_ n x=D at *
 go_enter Tryz.func59,Tryz.ntmps59
 go_wp2_with (first | (go_at_call 114;refine HF.out.mono ?_;rintro e w1 ⟨rfl,hB1⟩) | (go_at_call 115;refine (HP.out _ (hr.on hB1)).mono ?_;rintro e w2 ⟨x1,x2,rfl,hB2⟩))
 go_returns
 exact⟨rfl,hB1.trans (hB2.mono hB1.size)⟩
end Go.Proofs.YtdeiocppghhfdaaGreat
