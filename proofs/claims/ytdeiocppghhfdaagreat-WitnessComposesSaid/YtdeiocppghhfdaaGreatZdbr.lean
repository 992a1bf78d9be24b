/- Texts, one behind another. -/
import Derived.Test.YtdeiocppghhfdaaGreatZdbq
set_option linter.unusedVariables false
set_option linter.unusedSimpArgs false
set_option maxRecDepth 100000
set_option maxHeartbeats 8000000
namespace Go.Proofs.YtdeiocppghhfdaaGreat
open Go.RowKit Go.Lib Go.Shelf
structure PaX (w:World) (B:Nat) (s:PaS) (r:ByteArray) (vo vg vi:Value):Prop where
 rest:r.data.toList=s.rest
 text:Txt w B r
 out:Bo w (B+1) vo B (Lib.byteCells s.out)
 gone:Bo w (B+2) vg B (Lib.byteCells s.gone)
 ins:Bo w (B+3) vi B (Lib.byteCells s.ins)
 take:Tak w B
 map:w.heap[B+5]? = some (.map (paE B) 3)
 og:Apt vo vg
 oi:Apt vo vi
 gi:Apt vg vi
theorem PaX.below {w w':World} {B:Nat} {s:PaS} {r:ByteArray} {vo vg vi:Value} (h:PaX w B s r vo vg vi) (hb:Below w.heap.size w w'):PaX w' B s r vo vg vi :=
 ⟨h.rest,(hb.block _ (Array.getElem?_eq_some_iff.1 h.text).1).trans h.text,h.out.below hb,h.gone.below hb,h.ins.below hb,(hb.block _ (Array.getElem?_eq_some_iff.1 h.take).1).trans h.take,(hb.block _ (Array.getElem?_eq_some_iff.1 h.map).1).trans h.map,h.og,h.oi,h.gi⟩
theorem aRg {w w':World} {B:Nat} {s:PaS} {r:ByteArray} {vo vg vi vo':Value} {p:PcV} (h:PaX w B s r vo vg vi) (hk:p.kind=1) (ht:Txt w' B (r.extract p.n.toNat r.size)) (ho:Bo w' (B+1) vo' B (Lib.byteCells s.out++Lib.strCells (r.extract 0 p.n.toNat))) (hn:Near w vo vo') (hkf:aC (fun k=>k=B∨k=B+1∨vo.ownBlock=some k) w w') :
  PaX w' B (aZ s p) (r.extract p.n.toNat r.size) vo' vg vi:=by
 have e:aZ s p={ s with out:=s.out++s.rest.take p.n.toNat,rest:=s.rest.drop p.n.toNat }:=by unfold aZ;rw[if_pos hk]
 rw[e]
 rw[wJ,← Lib.byteCells_append,h.rest] at ho
 refine⟨by rw[wK,h.rest],ht,ho,h.gone.keep hkf (by rintro (h' | h' | h');omega;omega;exact h.out.obl h.gone h') (fun k hk' => ?_),h.ins.keep hkf (by rintro (h' | h' | h');omega;omega;exact h.out.obl h.ins h') (fun k hk' => ?_),(hkf.block _ (Array.getElem?_eq_some_iff.1 h.take).1 (by rintro (h' | h' | h');omega;omega;exact h.out.oty h.take (by decide) h')).trans h.take,(hkf.block _ (Array.getElem?_eq_some_iff.1 h.map).1 (by rintro (h' | h' | h');omega;omega;exact h.out.omap h.map h')).trans h.map,h.og.near hn (fun k hk=>(h.gone.olt k hk).2),h.oi.near hn (fun k hk=>(h.ins.olt k hk).2),h.gi⟩
 ·rintro (h' | h' | h')
  ·exact h.gone.oty h.text (by decide) (by rw[hk',h'])
  ·exact h.gone.obl h.out (by rw[hk',h'])
  ·exact h.og k hk' h'
 ·rintro (h' | h' | h')
  ·exact h.ins.oty h.text (by decide) (by rw[hk',h'])
  ·exact h.ins.obl h.out (by rw[hk',h'])
  ·exact h.oi k hk' h'
theorem aRh {w w':World} {B:Nat} {s:PaS} {r:ByteArray} {vo vg vi vg':Value} {p:PcV} (h:PaX w B s r vo vg vi) (hk:p.kind=3) (ht:Txt w' B (r.extract p.n.toNat r.size)) (ho:Bo w' (B+2) vg' B (Lib.byteCells s.gone++Lib.strCells (r.extract 0 p.n.toNat))) (hn:Near w vg vg') (hkf:aC (fun k=>k=B∨k=B+2∨vg.ownBlock=some k) w w') :
  PaX w' B (aZ s p) (r.extract p.n.toNat r.size) vo vg' vi:=by
 have e:aZ s p={ s with gone:=s.gone++s.rest.take p.n.toNat,rest:=s.rest.drop p.n.toNat }:=by unfold aZ;rw[if_neg (by omega),if_neg (by omega)]
 rw[e]
 rw[wJ,← Lib.byteCells_append,h.rest] at ho
 refine⟨by rw[wK,h.rest],ht,h.out.keep hkf (by rintro (h' | h' | h');omega;omega;exact h.gone.obl h.out h') (fun k hk' => ?_),ho,h.ins.keep hkf (by rintro (h' | h' | h');omega;omega;exact h.gone.obl h.ins h') (fun k hk' => ?_),(hkf.block _ (Array.getElem?_eq_some_iff.1 h.take).1 (by rintro (h' | h' | h');omega;omega;exact h.gone.oty h.take (by decide) h')).trans h.take,(hkf.block _ (Array.getElem?_eq_some_iff.1 h.map).1 (by rintro (h' | h' | h');omega;omega;exact h.gone.omap h.map h')).trans h.map,(h.og.symm.near hn (fun k hk=>(h.out.olt k hk).2)).symm,h.oi,h.gi.near hn (fun k hk=>(h.ins.olt k hk).2)⟩
 ·rintro (h' | h' | h')
  ·exact h.out.oty h.text (by decide) (by rw[hk',h'])
  ·exact h.out.obl h.gone (by rw[hk',h'])
  ·exact h.og k h' hk'
 ·rintro (h' | h' | h')
  ·exact h.ins.oty h.text (by decide) (by rw[hk',h'])
  ·exact h.ins.obl h.gone (by rw[hk',h'])
  ·exact h.gi k hk' h'
theorem aSs {w w':World} {B:Nat} {s:PaS} {r:ByteArray} {vo vg vi vo' vi':Value} {p:PcV} (h:PaX w B s r vo vg vi) (hk:p.kind=2) (ho:Bo w' (B+1) vo' B (Lib.byteCells s.out++Lib.strCells p.text)) (hi:Bo w' (B+3) vi' B (Lib.byteCells s.ins++Lib.strCells p.text)) (hn:Near w vo vo') (hn2:Near w vi vi') (hs:Apt vo' vi') (hkf:aC (fun k=>k=B+1∨k=B+3∨vo.ownBlock=some k∨vi.ownBlock=some k) w w') :
  PaX w' B (aZ s p) r vo' vg vi':=by
 have e:aZ s p={ s with out:=s.out++p.text.data.toList,ins:=s.ins++p.text.data.toList }:=by unfold aZ;rw[if_neg (by omega),if_pos hk]
 rw[e]
 rw[Lib.strCells_eq,← Lib.byteCells_append] at ho hi
 refine⟨h.rest,(hkf.block _ (Array.getElem?_eq_some_iff.1 h.text).1 (by rintro (h' | h' | h' | h');omega;omega;exact h.out.oty h.text (by decide) h';exact h.ins.oty h.text (by decide) h')).trans h.text,ho,h.gone.keep hkf (by rintro (h' | h' | h' | h');omega;omega;exact h.out.obl h.gone h';exact h.ins.obl h.gone h') (fun k hk' => ?_),hi,(hkf.block _ (Array.getElem?_eq_some_iff.1 h.take).1 (by rintro (h' | h' | h' | h');omega;omega;exact h.out.oty h.take (by decide) h';exact h.ins.oty h.take (by decide) h')).trans h.take,(hkf.block _ (Array.getElem?_eq_some_iff.1 h.map).1 (by rintro (h' | h' | h' | h');omega;omega;exact h.out.omap h.map h';exact h.ins.omap h.map h')).trans h.map,h.og.near hn (fun k hk=>(h.gone.olt k hk).2),hs,(h.gi.symm.near hn2 (fun k hk=>(h.gone.olt k hk).2)).symm⟩
 rintro (h' | h' | h' | h')
 ·exact h.gone.obl h.out (by rw[hk',h'])
 ·exact h.gone.obl h.ins (by rw[hk',h'])
 ·exact h.og k hk' h'
 ·exact h.gi k h' hk'
structure PxI (w:World) (wr:World) (s:ByteArray) (d:List PcV) (k:Nat) (r:ByteArray) (vo vg vi:Value):Prop where
 pa:PaX wr w.heap.size (paF s.data.toList (d.take k)) r vo vg vi
 bl:Below w.heap.size w wr
theorem aLi (b g cap m:Nat) (l:List UInt8) (p:Value) (w:World) (hbk:w.heap[b]? = some (.cells #[p,.slice (some ⟨g,0,none⟩) l.length cap] 205 (0,0))) (h0:l≠[]) (hcap:l.length≤cap) (hlen:l.length≤10000000) (hsh:w.shape? g=some (5,m)) (hm:l.length≤m) (hc:∀ (j:Nat) (x:UInt8),l[j]? = some x→w.cell? ((⟨g,0,none⟩:Addr).add j)=some (.int .u8 x.toNat)) :
  Calls Tryz.prog 174 #[.pointer (some ⟨b,0,none⟩)] w fun e w'=>e = .returned (.string ⟨l.toArray⟩)∧w'=w.drew.freeze ⟨g,0,none⟩ l.length:=by
 have hl0:l.length≠0:=by simpa using h0
 have c1:w.drew.cell? ⟨b,1,none⟩=some (.slice (some ⟨g,0,none⟩) l.length cap):=by
  have:w.drew.heap[b]? = some (.cells #[p,.slice (some ⟨g,0,none⟩) l.length cap] 205 (0,0)):=hbk
  rw[Lib.cell_of_heap this];rfl
 have hSD:(Builtin.unsafeSliceData_ #[162] 250 #[.slice (some ⟨g,0,none⟩) l.length cap]).run Tryz.prog w.drew = .ok (.pointer (some ⟨g,0,none⟩)) w.drew :=
  Lib.run_unsafeSliceData_row _ _ _ _ _ _ (by omega)
 have hUS:(Builtin.unsafeString_ #[250,3] 9 #[.pointer (some ⟨g,0,none⟩),.int .i64 l.length]).run Tryz.prog w.drew = .ok (.string ⟨l.toArray⟩) (w.drew.freeze ⟨g,0,none⟩ l.length):=by
  refine Lib.run_unsafeString_row w.drew 250 3 9 5 Tryz.underlying250 (by kernel_rfl) g m hsh l h0 (by omega) (by omega) ?_
  intro j x hx
  exact hc j x hx
 have mixed : Tryz.prog.follows Departure.mixedOrders=true:=by kernel_rfl
 go_enter Tryz.func174,Tryz.ntmps174
 go_wp2
 go_region_o
 all_goals (go_wp2;go_ret;exact⟨rfl,rfl⟩)
theorem aLj {w:World} {B:Nat} {s:PaS} {r:ByteArray} (h:PaW w B s r (.slice none 0 0) (.slice none 0 0) (.slice none 0 0)):PaX w B s r (.slice none 0 0) (.slice none 0 0) (.slice none 0 0):=by
 have hv:∀ {b:Nat} {l:List Value},Bv w b (.slice none 0 0) B l→Bo w b (.slice none 0 0) B l:=fun hb=>⟨hb.blk,by
  have h1:=hb.own
  refine⟨h1.1,.inl ⟨rfl,?_⟩⟩
  rcases h1.2 with⟨_,h2⟩ | ⟨g,cap,cur,fz,h2,_⟩
  ·exact h2
  ·simp at h2,hb.nil_⟩
 have ha:Apt (.slice none 0 0) (.slice none 0 0):=fun g hg=>by simp[Value.ownBlock] at hg
 exact⟨h.rest,h.text,hv h.out,hv h.gone,hv h.ins,h.take,h.map,ha,ha,ha⟩
theorem aAy (lo b:Nat) (l:List UInt8) (w:World) (h:Rb w lo b l) (hl:l.length≤10000000) :
  Calls Tryz.prog 174 #[.pointer (some ⟨b,0,none⟩)] w fun e w'=>e = .returned (.string ⟨l.toArray⟩)∧(∀ b2 l2,Rb w lo b2 l2→Rb w' lo b2 l2)∧Below lo w w':=by
 obtain⟨p,v,hb,hr⟩:=h
 rcases hr with⟨rfl,rfl⟩ | ⟨h1,g,cap,m,rfl,h3,h4,h5,h6,h7⟩
 ·refine (aGa b p w hb).mono ?_
  rintro e w' ⟨rfl,rfl⟩
  exact⟨rfl,fun b2 l2 h=>h.drew,Below.drew (Below.refl _ w)⟩
 ·refine (aLi b g cap m l p w hb h1 h4 hl h5 h6 h7).mono ?_
  rintro e w' ⟨rfl,rfl⟩
  exact⟨rfl,fun b2 l2 h=>h.freeze h5,Lib.below_freeze (Below.drew (Below.refl _ w)) (p:=⟨g,0,none⟩) h3 _⟩
theorem aIk {d:List PcV} (h:∀ p∈d,pcP p) {k:Nat} {p:PcV} (hk:d[k]? = some p):fE p≤outS d:=by
 obtain⟨hlt,hp⟩:=List.getElem?_eq_some_iff.1 hk
 have e:outS d=outS (d.take k)+outS (d.drop k):=by rw[← kS,List.take_append_drop]
 rw[List.drop_eq_getElem_cons hlt,cZ,hp] at e
 have:=mO (d:=d.take k) (fun q hq=>h q (List.mem_of_mem_take hq))
 have:=mO (d:=d.drop (k+1)) (fun q hq=>h q (List.mem_of_mem_drop hq))
 omega
theorem aRi (s:ByteArray) (a:Option Addr) (c:Nat) (d:List PcV) (w:World) (hr:PRow w a d) (hok:PaOK s.data.toList d) (hlen:d.length≤1000000) :
  Calls Tryz.prog 115 #[.string s,.slice a d.length c] w fun e w'=>∃ x y,e = .returned (.tuple #[.string ⟨(paF s.data.toList d).out.toArray⟩,.string x,.string y])∧Below w.heap.size w w':=by
 obtain⟨W5,hW5⟩:∃ W5,W5=(((((w.alloc (.cells #[.string s] 9)).alloc (.cells #[.pointer none,.slice none 0 0] 205)).alloc (.cells #[.pointer none,.slice none 0 0] 205)).alloc (.cells #[.pointer none,.slice none 0 0] 205)).alloc (.cells #[.func (.func 169) #[] #[.pointer (some ⟨w.heap.size,0,none⟩)]] 206)):=⟨_,rfl⟩
 have hsz:W5.heap.size=w.heap.size+1+1+1+1+1:=by rw[hW5];simp
 have hBw:Below w.heap.size w W5:=by rw[hW5];exact (((((Below.refl _ w).alloc (Nat.le_refl _) _).alloc (by simp) _).alloc (by simp;try omega) _).alloc (by simp;try omega) _).alloc (by simp;try omega) _
 have hmb:=heap_alloc_new W5 (.map #[] 0)
 rw[hsz] at hmb
 have hB:=(Below.refl (w.heap.size+5) W5).alloc (by omega) (.map #[] 0)
 have HBw:=Lib.hid hBw
 have hlens:(paF s.data.toList d).out.length≤1048576∧(paF s.data.toList d).gone.length≤1048576∧(paF s.data.toList d).ins.length≤1048576:=by
  have h:=aR0 hok (Nat.le_refl d.length)
  rw[List.take_length] at h
  exact⟨h.2.1,h.2.2.1,h.2.2.2.1⟩
 have HL:=Lib.hid hlens
 clear hBw hsz hlens
 subst hW5
 go_enter Tryz.func115,Tryz.ntmps115
 go_wp2_with (first | (refine lH _ rfl _ rfl ?_) | (refine mI _ rfl _ _ _ _ rfl _ _ Tryz.underlying212 _ Tryz.underlying5 _ _ _ _ hmb rfl rfl _ rfl (by rfl) ?_;intro v hm;replace hB:=uW hB (by omega) hm;replace hmb:=hm.blk;clear hm))
 have hP0:=aLj (aCf (s:=s) hmb rfl hB)
 have hBl:Below w.heap.size w _:=HBw.out.trans (hB.mono (by omega))
 clear hB hmb HBw
 go_loopw [13,22,23,24,25,26,27,28,29,30,31,32] (fun x13 i x23 x24 x25 x26 x27 x28 x29 x30 x31 x32 wr=>∃ (k:Nat) (r:ByteArray) (vo vg vi:Value),i = .int .i64 k∧k≤d.length∧PxI w wr s d k r vo vg vi) (fun x13 i x23 x24 x25 x26 x27 x28 x29 x30 x31 x32 wr=>d.length-(intOf i).toNat)
 case atStart=>exact⟨0,s,_,_,_,rfl,by omega,hP0,hBl⟩
 case round =>
  clear hP0 hBl
  obtain⟨k,r,vo,vg,vi,rfl,hk,hI⟩:=hrel
  by_cases hlt:k<d.length
  ·have hx:=List.getElem?_eq_getElem hlt
   generalize d[k]=p at hx
   have hpc:=hok.pc p (List.mem_of_getElem? hx)
   have hnx:=aGc (s:=s.data.toList) hx
   have hat:=aR0 hok hk
   have hpa:=hI.pa
   have hbl:=hI.bl
   generalize paF s.data.toList (d.take k)=S at hnx hat hpa
   obtain⟨hr1,ho1,ho2,ho3,hfit⟩:=hat
   have hfit:=hfit p hx
   have hpt:p.text.size≤1048576:=by
    have h5:=hok.out
    obtain⟨hlt,hp⟩:=List.getElem?_eq_some_iff.1 hx
    have h6:=aIk hok.pc hx
    rcases hpc with⟨_,_,h7⟩ | ⟨h7,h8,h9⟩
    ·omega
    ·have:fE p=p.text.size:=by unfold fE;rw[if_neg (by omega),if_neg (by omega)]
     omega
   have hkd:p.kind=2∨(p.kind=1∨p.kind=3)∧0≤p.n∧p.n≤S.rest.length:=by
    rcases hpc with⟨h7,h8,h9⟩ | ⟨h7,h8,h9⟩
    ·have:pcIn p=p.n:=by unfold pcIn;rw[if_pos h7]
     exact .inr ⟨h7,by omega,by omega⟩
    ·exact .inl h7
   have hrs:r.size=S.rest.length:=by rw[← hpa.rest];exact Array.length_toList.symm
   have hrz:r.size≤2000000:=by omega
   rcases hr.on hbl with⟨_,h2⟩ | ⟨b,off,rfl,hb,hcell⟩
   ·rw[h2] at hlt;simp at hlt
   have c0:wr.cell? ⟨b,off+k*3,none⟩=some (.int .u8 p.kind):=hcell k p hx 0 _ rfl
   have c1:wr.cell? ⟨b,off+k*3+1,none⟩=some (.int .i64 p.n):=hcell k p hx 1 _ rfl
   have c2:wr.cell? ⟨b,off+k*3+2,none⟩=some (.string p.text):=hcell k p hx 2 _ rfl
   have hsz:=hbl.size
   have hb1:=(Below.refl wr.heap.size wr).alloc (Nat.le_refl _) (.cells #[.int .u8 p.kind,.int .i64 p.n,.string p.text] 94)
   have hP1:=hpa.below hb1
   have hm1:=hP1.map
   have hbl1:=hbl.trans (hb1.mono hsz)
   have hss1:(wr.alloc (.cells #[.int .u8 p.kind,.int .i64 p.n,.string p.text] 94)).heap.size=wr.heap.size+1:=by simp
   clear hI hpa hcell hok hr hbl hb1 hpc
   have HNX:=Lib.hid hnx
   clear hnx
   have kO:=fun k hk=>(hP1.out.olt k hk).1
   have kG:=fun k hk=>(hP1.gone.olt k hk).1
   have kI:=fun k hk=>(hP1.ins.olt k hk).1
   have lO:=(Lib.byteCells_length S.out);have lG:=(Lib.byteCells_length S.gone);have lI:=(Lib.byteCells_length S.ins)
   rcases hkd with hk2 | ⟨hk1 | hk3,hn0,hfit⟩
   ·obtain⟨pk,pn,pt⟩:=p
    obtain rfl:pk=2:=hk2
    dsimp only at hpt
    go_wp2_with (first | (refine iY _ rfl _ _ _ rfl _ _ Tryz.underlying212 _ Tryz.underlying5 _ _ _ _ hm1 rfl rfl _ _ (by rfl) ?_) | (go_at_call 173;refine (aOv w.heap.size w.heap.size ⟨2,pn,pt⟩ _ _ _ _ _ hP1.out hP1.ins hP1.oi (by omega) (by dsimp only;omega) (by omega) (by omega)).mono ?_;rintro e w2 ⟨rfl,⟨vo',vi',hq1,hq2,hn1,hn2,hq3⟩,hkf⟩;have hP2:=aSs hP1 rfl hq1 hq2 hn1 hn2 hq3 hkf;have hbl2:=jO hbl1 hkf (by rintro k (rfl | rfl | hk | hk);omega;omega;exact kO k hk;exact kI k hk) (by omega)))
    go_roundw
    case rel=>exact⟨k+1,r,vo',vg,vi',by go_num,by omega,by rw[HNX.out];exact hP2,hbl2⟩
    case measure=>simp[intOf];omega
   ·obtain⟨pk,pn,pt⟩:=p
    obtain rfl:pk=1:=hk1
    dsimp only at hn0 hfit
    go_wp2_with (first | (refine iY _ rfl _ _ _ rfl _ _ Tryz.underlying212 _ Tryz.underlying5 _ _ _ _ hm1 rfl rfl _ _ (by rfl) ?_) | (go_at_call 170;refine (aOt w.heap.size w.heap.size ⟨1,pn,pt⟩ r _ _ _ hP1.text hP1.take hP1.out (by omega) hn0 (by dsimp only;omega) (by omega) (by omega)).mono ?_;rintro e w2 ⟨rfl,hq1,⟨vo',hq2,hn1⟩,hkf⟩;have hP2:=aRg hP1 rfl hq1 hq2 hn1 hkf;have hbl2:=jO hbl1 hkf (by rintro k (rfl | rfl | hk);omega;omega;exact kO k hk) (by omega)))
    go_roundw
    case rel =>
     exact⟨k+1,_,vo',vg,vi,by go_num,by omega,by rw[HNX.out];exact hP2,hbl2⟩
    case measure=>simp[intOf];omega
   ·obtain⟨pk,pn,pt⟩:=p
    obtain rfl:pk=3:=hk3
    dsimp only at hn0 hfit
    go_wp2_with (first | (refine iY _ rfl _ _ _ rfl _ _ Tryz.underlying212 _ Tryz.underlying5 _ _ _ _ hm1 rfl rfl _ _ (by rfl) ?_) | (go_at_call 172;refine (aOu w.heap.size w.heap.size ⟨3,pn,pt⟩ r _ _ _ hP1.text hP1.take hP1.gone (by omega) hn0 (by dsimp only;omega) (by omega) (by omega)).mono ?_;rintro e w2 ⟨rfl,hq1,⟨vg',hq2,hn1⟩,hkf⟩;have hP2:=aRh hP1 rfl hq1 hq2 hn1 hkf;have hbl2:=jO hbl1 hkf (by rintro k (rfl | rfl | hk);omega;omega;exact kG k hk) (by omega)))
    go_roundw
    case rel=>exact⟨k+1,_,vo,vg',vi,by go_num,by omega,by rw[HNX.out];exact hP2,hbl2⟩
    case measure=>simp[intOf];omega
  ·obtain rfl:k=d.length:=by omega
   have hP:=hI.pa
   have hbl:=hI.bl
   rw[List.take_length] at hP
   have r1:=hP.out.rb
   have r2:=hP.gone.rb
   have r3:=hP.ins.rb
   have hsz:=hbl.size
   obtain⟨l1,l2,l3⟩:=HL.out
   clear hP hI HL hok
   obtain⟨xo,hxo⟩:∃ xo,(paF s.data.toList d).out=xo:=⟨_,rfl⟩
   rw[hxo] at r1 l1
   have HXO:=Lib.hid hxo
   clear hxo
   generalize (paF s.data.toList d).gone=xg at r2 l2
   generalize (paF s.data.toList d).ins=xi at r3 l3
   go_wp2_with (first | (go_at_call 174;have h2:=q2;refine (aAy w.heap.size (w.heap.size+3) xi _ q2 (by omega)).mono ?_;rintro e w3 ⟨rfl,_,hb3⟩) | (go_at_call 174;have h1:=q1;refine (aAy w.heap.size (w.heap.size+2) xg _ q1 (by omega)).mono ?_;rintro e w2 ⟨rfl,hk2,hb2⟩;have q2:=hk2 _ _ (hk1 _ _ r3)) | (go_at_call 174;refine (aAy w.heap.size (w.heap.size+1) xo _ r1 (by omega)).mono ?_;rintro e w1 ⟨rfl,hk1,hb1⟩;have q1:=hk1 _ _ r2))
   go_returns
   exact⟨⟨xg.toArray⟩,⟨xi.toArray⟩,by rw[HXO.out];rfl,((hbl.trans hb1).trans hb2).trans hb3⟩
theorem aSt (s:ByteArray) (a:Option Addr) (c:Nat) (d:List PcV) (w:World) (hr:PRow w a d) (hs:d.length≤1000000) (e0:Int) (he:e0=if (lenS d).2.2=0 then (if (lenS d).1=s.size then 0 else 21) else (lenS d).2.2) :
  Calls Tryz.prog 114 #[.string s,.slice a d.length c] w fun e w'=>e = .returned (.int .i64 e0)∧Below w.heap.size w w':=by
 have h1:=lZ a c d w hr hs
 generalize hL:lenS d=L at *
 obtain⟨x,y,z⟩:=L
 dsimp only at h1 he
 have H1:=Lib.hid h1
 have HE:=Lib.hid he
 clear h1 he hL hr
 by_cases hz:z=0
 ·subst hz
  by_cases hx:x=s.size
  ·have d1:(x != (s.size:Int))=false:=by simp[hx]
   have he:=HE.out
   rw[if_pos rfl,if_pos hx] at he
   clear hx
   go_enter Tryz.func114,Tryz.ntmps114
   go_wp2_with (first | (go_at_call 111;refine H1.out.mono ?_;rintro e w1 ⟨rfl,hB1⟩))
   go_returns
   exact⟨by rw[he];rfl,hB1⟩
  ·have d1:(x != (s.size:Int))=true:=by simp[hx]
   have he:=HE.out
   rw[if_pos rfl,if_neg hx] at he
   clear hx
   go_enter Tryz.func114,Tryz.ntmps114
   go_wp2_with (first | (go_at_call 111;refine H1.out.mono ?_;rintro e w1 ⟨rfl,hB1⟩))
   go_returns
   exact⟨by rw[he];rfl,hB1⟩
 ·have d1:(z == 0)=false:=by simpa using hz
  have he:=HE.out
  rw[if_neg hz] at he
  clear hz
  go_enter Tryz.func114,Tryz.ntmps114
  go_wp2_with (first | (go_at_call 111;refine H1.out.mono ?_;rintro e w1 ⟨rfl,hB1⟩))
  go_returns
  exact⟨by rw[he];rfl,hB1⟩
theorem aJs (s:ByteArray) (a:Option Addr) (c:Nat) (d:List PcV) (w:World) (hr:PRow w a d) (hs:d.length≤1000000) :
  Calls Tryz.prog 59 #[.string s,.slice a d.length c] w fun e w'=>e = .returned (.tuple #[.string (nK s d).1,.int .i64 (nK s d).2])∧Below w.heap.size w w':=by
 have hf:=aSt s a c d w hr hs _ rfl
 by_cases hok:(lenS d).2.2=0∧(lenS d).1=s.size
 ·obtain⟨h1,h2⟩:=hok
  rw[if_pos h1,if_pos h2] at hf
  have hp:=fun W (hW:PRow W a d)=>aRi s a c d W hW (aLd h1 h2) hs
  have hR:nK s d=(⟨(paF s.data.toList d).out.toArray⟩,0):=by unfold nK;rw[if_neg (by omega),if_neg (by omega)]
  rw[hR]
  have HF:=Lib.hid hf;have HP:=Lib.hid hp;have HR:=Lib.hid hr
  clear hf hp hR h1 h2 hr
  go_enter Tryz.func59,Tryz.ntmps59
  go_wp2_with (first | (go_at_call 114;refine HF.out.mono ?_;rintro e w1 ⟨rfl,hB1⟩) | (go_at_call 115;refine (HP.out _ (HR.out.on hB1)).mono ?_;rintro e w2 ⟨x1,x2,rfl,hB2⟩))
  go_returns
  exact⟨rfl,hB1.trans (hB2.mono hB1.size)⟩
 ·obtain⟨e0,he0,hR,hne⟩:∃ e0,(if (lenS d).2.2=0 then (if (lenS d).1=s.size then 0 else 21) else (lenS d).2.2)=e0∧nK s d=(⟨#[]⟩,e0)∧e0≠0:=by
   unfold nK
   by_cases h1:(lenS d).2.2=0
   ·have h2:¬ (lenS d).1=s.size:=fun h=>hok ⟨h1,h⟩
    rw[if_pos h1,if_neg h2,if_neg (by omega),if_pos h2]
    exact⟨_,rfl,rfl,by decide⟩
   ·rw[if_neg h1,if_pos h1]
    exact⟨_,rfl,rfl,h1⟩
  rw[he0] at hf
  rw[hR]
  have d1:(e0 != 0)=true:=by simpa using hne
  have HF:=Lib.hid hf
  clear hf he0 hR hne hok hr
  go_enter Tryz.func59,Tryz.ntmps59
  go_wp2_with (first | (go_at_call 114;refine HF.out.mono ?_;rintro e w1 ⟨rfl,hB1⟩))
  go_returns
  exact⟨rfl,hB1⟩
end Go.Proofs.YtdeiocppghhfdaaGreat
namespace Go.Proofs.YtdeiocppghhfdaaGreat.Lin
open Go.RowKit Go.Lib Go.Shelf
open Hs
def pcOf (p:gN):PcV:=⟨p.kind,p.n,p.text⟩
theorem aAz:∀ ps:List gN,fB ps=pcsL (ps.map pcOf)
 | []=>rfl
 | p::ps=>by
  have h:=aAz ps
  unfold fB at h ⊢
  unfold pcsL at h ⊢
  rw[List.flatMap_cons,List.map_cons,List.flatMap_cons,h]
  rfl
theorem aA0 {W:World} {y:aA} (h:DAt W y):PRow W y.da (y.ps.map pcOf):=by
 rcases h with⟨_,⟨h1,h2,_⟩ | ⟨b,off,h1,h2,h3⟩⟩
 ·exact .inl ⟨h1,by rw[h2];rfl⟩
 ·refine .inr ⟨b,off,h1,h2,fun k p hk i u hi=>h3 (k*3+i) u ?_⟩
  have hlt:i<3:=(List.getElem?_eq_some_iff.1 hi).1
  rw[aAz,qQ _ k i hlt,hk]
  exact hi
theorem aJt {W:World} {y:aA} (h:DAt W y):y.da=none→y.dc=0:=by
 rcases h with⟨_,⟨_,_,h3⟩ | ⟨b,off,h1,_⟩⟩
 ·exact fun _=>h3
 ·intro h;rw[h1] at h;cases h
def apG (t:ByteArray) (ps:List gN):Option (ByteArray × Int):=if ps.length≤1000000 then some (nK t (ps.map pcOf)) else none
theorem aSu:ApOK apG where
 call:=fun t y r W h hD=>by
  unfold apG at h
  split at h
  ·rename_i hl
   injection h with h
   subst h
   have:=aJs t y.da y.dc (y.ps.map pcOf) W (aA0 hD) (by rw[List.length_map];exact hl)
   rw[List.length_map] at this
   exact this
  ·cases h
theorem aJu {c:CfgV} {cs:List aA} (h:(aT c cs).2=0) {pos:Int} (hp:0≤pos) {y:aA} (hl:y.ps.length≤1000000):lK apG y pos (numP y.took cs) (iB c cs)≠none:=by
 have h1:=aGn y.took cs
 have h2:=vB h
 unfold lK
 split
 ·simp
 rename_i h3
 split
 ·simp
 split
 ·simp
 rename_i h4 h5
 rw[if_neg (by omega)]
 obtain⟨t,ht⟩:∃ t,(iB c cs)[pos.toNat]? = some t:=⟨_,List.getElem?_eq_getElem (by omega)⟩
 obtain⟨u,hu⟩:∃ u,(iB c cs)[y.ito.toNat]? = some u:=⟨_,List.getElem?_eq_getElem (by omega)⟩
 rw[ht,hu]
 simp[apG,hl]
theorem aEa {cs:List aA} {z:Option Nat} {ts:List ByteArray}:∀ (L:List aA) (pos:Int),FdOk apG cs z ts pos (L.map aA.pure)↔FdOk apG cs z ts pos L
 | [],_=>Iff.rfl
 | _::L,_=>exists_congr fun p=>and_congr Iff.rfl (aEa L p)
theorem yH (L:List aA):(L.filter eP).map aA.pure=(L.map aA.pure).filter eP:=by
 rw[List.filter_map];rfl
structure aJv (cs:List aA) (z:Option Nat) (ts:List ByteArray) (os:List aA):Prop where
 fd:FdOk apG cs z ts 0 (os.filter eP)
 rev:∀ y∈os,y.okind=14→y.err=0→0≤y.rev
 nosub:∀ (A B:List aA) (x y:aA),os=A++x::B→x.okind=15∧x.err=0∧0≤x.took→y∈B→y.okind=14∧y.err=0∧0≤y.took→False
 most:∀ s:Int,(numP s cs:Int)<ts.length
 size:∀ t∈ts,t.size≤65536
theorem aSv {c:CfgV} {t:Int} {cs os:List aA} (h:(pQ apG c t cs).2=0) (hok:∀ x∈cs,x.Ok) (hl:∀ x∈cs,x.ps.length≤1000000) (hm:os.map aA.pure=(thF t cs).map aA.pure):(aT c cs).2=0∧aJv cs (iA cs (effC cs)) (iB c cs) os:=by
 have hp0:(aT c cs).2=0:=by
  unfold pQ at h
  split at h
  ·rename_i h1;exact absurd h h1
  ·rename_i h1;exact Decidable.not_not.1 h1
 obtain⟨hp,hF⟩:=aRe h (fun pos h0 y hy _ _=>aJu hp0 h0 (hl y hy))
 refine⟨hp,?_,?_,?_,fun s => ?_,aGo hp hok⟩
 ·rw[← aEa,yH,hm,← yH,aEa];exact hF
 ·intro y hy hk he
  have h1:y.pure∈(thF t cs).map aA.pure:=by rw[← hm];exact List.mem_map_of_mem hy
  obtain⟨x,hx,hxy⟩:=List.mem_map.1 h1
  have h2:=aD7 hp ((List.mem_filter.1 hx).1) ((congrArg aA.okind hxy).trans hk) ((congrArg aA.err hxy).trans he)
  have h3:x.rev=y.rev:=show x.pure.rev=y.pure.rev from congrArg aA.rev hxy
  omega
 ·intro A B x y e hx hy hy2
  rw[e,List.map_append,List.map_cons] at hm
  obtain⟨A',R',e1,e2,e3⟩:=List.map_eq_append_iff.1 hm.symm
  obtain⟨x',B',e4,e5,e6⟩:=List.map_eq_cons_iff.1 e3
  subst e4
  have h1:y.pure∈B'.map aA.pure:=by rw[e6];exact List.mem_map_of_mem hy
  obtain⟨y',hy',hyy⟩:=List.mem_map.1 h1
  refine aSr hp e1 (x:=x') ⟨(congrArg aA.okind e5).trans hx.1,(congrArg aA.err e5).trans hx.2.1,?_⟩ hy' ⟨(congrArg aA.okind hyy).trans hy2.1,(congrArg aA.err hyy).trans hy2.2.1,?_⟩
  ·have:x'.took=x.took:=show x'.pure.took=x.pure.took from congrArg aA.took e5
   omega
  ·have:y'.took=y.took:=show y'.pure.took=y.pure.took from congrArg aA.took hyy
   omega
 ·have h1:=aGn s cs
  have h2:=vB hp
  omega
def WcI (cs:List aA) (z:Option Nat) (ts:List ByteArray) (os:List aA) (k:Nat) (fr to_:Int) (sm:Bool) (d:List PcV):Prop :=
 ∃ pos:Int,0≤pos∧FdOk apG cs z ts pos ((os.drop k).filter eP)∧((sm=false∧fr=0∧to_=0∧d=[]) ∨
  (sm=true∧to_=pos∧0≤fr∧(∀ y∈os.drop k,¬ (y.okind=14∧y.err=0∧0≤y.took))∧∃ s t,ts[fr.toNat]? = some s∧ts[to_.toNat]? = some t∧iR d s t))
theorem aOw {cs:List aA} {z:Option Nat} {ts:List ByteArray} {os:List aA} (h:aJv cs z ts os):WcI cs z ts os 0 0 0 false []:=⟨0,Int.le_refl _,h.fd,.inl ⟨rfl,rfl,rfl,rfl⟩⟩
theorem aGr {os:List aA} {k:Nat} {y:aA} (hy:os[k]? = some y):os.drop k=y::os.drop (k+1):=by
 obtain⟨hlt,rfl⟩:=List.getElem?_eq_some_iff.1 hy
 exact List.drop_eq_getElem_cons hlt
theorem aEb {cs:List aA} {z:Option Nat} {ts:List ByteArray} {os:List aA} (hO:aJv cs z ts os) {k:Nat} {fr to_:Int} {sm:Bool} {d:List PcV} {y:aA} (hy:os[k]? = some y) (h:WcI cs z ts os k fr to_ sm d) (hn:¬ (y.okind=15∧0≤y.took∧y.err=0)):WcI cs z ts os (k+1) fr to_ sm d:=by
 obtain⟨pos,h0,hF,h1⟩:=h
 have hd:=aGr hy
 have hsub:∀ x∈os.drop (k+1),x∈os.drop k:=fun x hx=>by rw[hd];exact List.mem_cons_of_mem _ hx
 rw[hd] at hF
 by_cases ht:0≤y.took
 ·rw[List.filter_cons_of_pos (by unfold eP;simpa using ht)] at hF
  obtain⟨p,hp,hF⟩:=hF
  rcases aJp hp with⟨a,b,_⟩ | ⟨a,b,rfl⟩ | ⟨_,rfl⟩
  ·exact absurd ⟨a,ht,b⟩ hn
  ·refine⟨y.rev,hO.rev y (List.mem_of_getElem? hy) a b,hF,?_⟩
   rcases h1 with h1 | ⟨_,_,_,h5,_⟩
   ·exact .inl h1
   ·exact absurd ⟨a,b,ht⟩ (h5 y (by rw[hd];simp))
  ·refine⟨p,h0,hF,?_⟩
   rcases h1 with h1 | ⟨h2,h3,h4,h5,h6⟩
   ·exact .inl h1
   ·exact .inr ⟨h2,h3,h4,fun x hx=>h5 x (hsub x hx),h6⟩
 ·rw[List.filter_cons_of_neg (by unfold eP;simpa using ht)] at hF
  refine⟨pos,h0,hF,?_⟩
  rcases h1 with h1 | ⟨h2,h3,h4,h5,h6⟩
  ·exact .inl h1
  ·exact .inr ⟨h2,h3,h4,fun x hx=>h5 x (hsub x hx),h6⟩
theorem aRj {cs:List aA} {z:Option Nat} {ts:List ByteArray} {os:List aA} (hO:aJv cs z ts os) {k:Nat} {fr to_:Int} {sm:Bool} {d:List PcV} {y:aA} (hy:os[k]? = some y) (h:WcI cs z ts os k fr to_ sm d) (hn:y.okind=15∧0≤y.took∧y.err=0) :
  to_<y.ito∧0≤y.ito∧y.ito<ts.length∧((sm=false∧d=[])∨(sm=true∧0≤fr)) ∧
  (y.ik=2→(∀ t,ts[y.ito.toNat]? = some t→(t.size=0→WcI cs z ts os (k+1) y.ito y.ito true [])∧(t.size≠0→WcI cs z ts os (k+1) y.ito y.ito true [⟨1,t.size,⟨#[]⟩⟩]))) ∧
  (y.ik≠2→(sm=false→WcI cs z ts os (k+1) y.ifrom y.ito true (y.ps.map pcOf))∧(sm=true→y.ifrom=to_∧(lenS d).2.2=0∧(lenS (y.ps.map pcOf)).2.2=0∧outS d=inS (y.ps.map pcOf)∧((cmpR d (y.ps.map pcOf)).2=0→WcI cs z ts os (k+1) fr y.ito true (cmpR d (y.ps.map pcOf)).1))):=by
 obtain⟨pos,h0,hF,h1⟩:=h
 have hd:=aGr hy
 have hns:∀ x∈os.drop (k+1),¬ (x.okind=14∧x.err=0∧0≤x.took):=fun x hx hc=>by
  refine hO.nosub (os.take k) (os.drop (k+1)) y x ?_ ⟨hn.1,hn.2.2,hn.2.1⟩ hx hc
  rw[← hd,List.take_append_drop]
 rw[hd,List.filter_cons_of_pos (by unfold eP;simpa using hn.2.1)] at hF
 obtain⟨p,hp,hF⟩:=hF
 rcases aJp hp with⟨_,_,rfl,hw⟩ | ⟨a,_⟩ | ⟨a,_⟩
 rotate_left
 ·have:=hn.1;omega
 ·exact absurd ⟨hn.1,hn.2.2⟩ a
 obtain⟨w1,w2,w3⟩:=tV hw
 have hm:=hO.most y.took
 have hto:to_≤pos:=by rcases h1 with⟨_,_,h,_⟩ | ⟨_,h,_⟩<;>omega
 refine⟨by omega,by omega,by omega,?_,fun hk t ht => ?_,fun hk => ?_⟩
 ·rcases h1 with⟨a,_,_,b⟩ | ⟨a,_,b,_⟩
  ·exact .inl ⟨a,b⟩
  ·exact .inr ⟨a,b⟩
 ·have hs:=hO.size t (List.mem_of_getElem? ht)
  exact⟨fun hz=>⟨y.ito,by omega,hF,.inr ⟨rfl,rfl,by omega,hns,t,t,ht,ht,iR.nil hz⟩⟩,fun hz=>⟨y.ito,by omega,hF,.inr ⟨rfl,rfl,by omega,hns,t,t,ht,ht,iR.keep hz hs⟩⟩⟩
 ·rcases w3 with w3 | ⟨_,w4,w5,t,u,r,ht,hu,hr,r2,r1⟩
  ·exact absurd w3 hk
  have hD:iR (y.ps.map pcOf) t u:=by
   unfold apG at hr
   split at hr
   ·injection hr with hr
    subst hr
    exact iR.of_apply r2 r1
   ·cases hr
  refine⟨fun _=>⟨y.ito,by omega,hF,.inr ⟨rfl,rfl,by omega,hns,t,u,by rw[w4];exact ht,hu,hD⟩⟩,fun hsm => ?_⟩
  rcases h1 with⟨a,_⟩ | ⟨_,a,b,_,s,t',hs,ht',hDd⟩
  ·rw[hsm] at a;cases a
  subst a
  rw[ht] at ht'
  injection ht' with ht'
  subst ht'
  refine⟨w4,by rw[hDd.ok],by rw[hD.ok],by rw[hDd.outs,hD.ins],fun hc=>⟨y.ito,by omega,hF,.inr ⟨rfl,rfl,b,hns,s,u,hs,hu,hDd.comp hD hc⟩⟩⟩
theorem aSw {cs:List aA} {z:Option Nat} {ts:List ByteArray} {os:List aA} {k:Nat} {fr to_:Int} {d:List PcV} (h:WcI cs z ts os k fr to_ true d):0≤fr∧fr<ts.length∧0≤to_∧to_<ts.length∧d.length≤4096∧∃ s t,ts[fr.toNat]? = some s∧ts[to_.toNat]? = some t∧nK s d=(t,0):=by
 obtain⟨pos,h0,_,h1⟩:=h
 rcases h1 with⟨a,_⟩ | ⟨_,a,b,_,s,t,hs,ht,hD⟩
 ·cases a
 have l1:=(List.getElem?_eq_some_iff.1 hs).1
 have l2:=(List.getElem?_eq_some_iff.1 ht).1
 exact⟨b,by omega,by omega,by omega,hD.len,s,t,hs,ht,hD.apply⟩
end Go.Proofs.YtdeiocppghhfdaaGreat.Lin
namespace Go.Proofs.YtdeiocppghhfdaaGreat
open Go.RowKit Go.Lib Go.Shelf
def rdV (a:Option Addr) (n c:Nat):Array Value := #[.slice a n c,.func (.func 167) #[] #[],.func (.func 216) #[] #[]]
def aCm (W:World) (lo g:Nat) (a:Option Addr) (ps:List PcV):Prop:=ps=[]∨∃ off cur,a=some ⟨g,off,none⟩∧lo≤g∧W.heap[g]? = some (.cells cur 94 (0,0))∧∀ (k:Nat) (p:PcV),ps[k]? = some p→∀ (i:Nat) (u:Value),(pcL p)[i]? = some u→cur[off+(k*3+i)]? = some u
def Rdr (W:World) (lo b g:Nat) (ps:List PcV):Prop:=∃ a c,W.heap[b]? = some (.cells (rdV a ps.length c) 248 (0,0))∧ps.length≤c∧aCm W lo g a ps
theorem Rdr.keep {F:Nat→Prop} {W W':World} {lo b g:Nat} {ps:List PcV} (h:Rdr W lo b g ps) (hk:aC F W W') (hb:¬ F b) (hg:ps≠[]→¬ F g):Rdr W' lo b g ps:=by
 obtain⟨a,c,h1,h2,h3⟩:=h
 refine⟨a,c,(hk.block _ (Array.getElem?_eq_some_iff.1 h1).1 hb).trans h1,h2,?_⟩
 rcases h3 with h3 | ⟨off,cur,h4,h5,h6,h7⟩
 ·exact .inl h3
 ·by_cases he:ps=[]
  ·exact .inl he
  ·exact .inr ⟨off,cur,h4,h5,(hk.block _ (Array.getElem?_eq_some_iff.1 h6).1 (hg he)).trans h6,h7⟩
theorem Rdr.below {W W':World} {lo b g:Nat} {ps:List PcV} (h:Rdr W lo b g ps) (hb:Below W.heap.size W W'):Rdr W' lo b g ps:=h.keep (F:=fun _=>False) (aC.of_below hb) (fun h=>h) (fun _ h=>h)
theorem Rdr.lt {W:World} {lo b g:Nat} {ps:List PcV} (h:Rdr W lo b g ps):b<W.heap.size:=by
 obtain⟨a,c,h1,_⟩:=h
 exact (Array.getElem?_eq_some_iff.1 h1).1
theorem wV {W:World} {b n c:Nat} {a:Option Addr} (h:W.heap[b]? = some (.cells (rdV a n c) 248 (0,0))):W.cell? ⟨b,0,none⟩=some (.slice a n c)∧W.cell? ⟨b,1,none⟩=some (.func (.func 167) #[] #[])∧W.cell? ⟨b,2,none⟩=some (.func (.func 216) #[] #[])∧W.frozen? ⟨b,0,none⟩=false:=by
 refine⟨?_,?_,?_,?_⟩<;>simp[World.cell?,World.frozen?,h,rdV]
theorem aCm.head {W:World} {lo g:Nat} {a:Option Addr} {p:PcV} {ps:List PcV} (h:aCm W lo g a (p::ps)):∃ off cur,a=some ⟨g,off,none⟩∧lo≤g∧W.heap[g]? = some (.cells cur 94 (0,0))∧(W.cell? ⟨g,off,none⟩=some (.int .u8 p.kind)∧W.cell? ⟨g,off+1,none⟩=some (.int .i64 p.n)∧W.cell? ⟨g,off+2,none⟩=some (.string p.text))∧∀ (k:Nat) (q:PcV),(p::ps)[k]? = some q→∀ (i:Nat) (u:Value),(pcL q)[i]? = some u→cur[off+(k*3+i)]? = some u:=by
 rcases h with h | ⟨off,cur,h4,h5,h6,h7⟩
 ·cases h
 ·refine⟨off,cur,h4,h5,h6,⟨?_,?_,?_⟩,h7⟩
  ·rw[Lib.cell_of_heap h6];exact h7 0 p rfl 0 _ rfl
  ·rw[Lib.cell_of_heap h6];exact h7 0 p rfl 1 _ rfl
  ·rw[Lib.cell_of_heap h6];exact h7 0 p rfl 2 _ rfl
theorem aCn (lo b g:Nat) (ps:List PcV) (w:World) (h:Rdr w lo b g ps) :
  Calls Tryz.prog 164 #[.pointer (some ⟨b,0,none⟩)] w fun e w'=>e = .returned (.bool ps.isEmpty)∧w'=w:=by
 obtain⟨a,c,h1,h2,h3⟩:=h
 obtain⟨c0,_,_,_⟩:=wV h1
 have hR:((ps.length:Int) == 0)=ps.isEmpty:=by cases ps<;>simp;omega
 clear h1 h3 h2
 go_enter Tryz.func164,Tryz.ntmps164
 go_wp2
 go_returns
 exact⟨by rw[← hR];rfl,rfl⟩
theorem jG (lo b g:Nat) (p:PcV) (ps:List PcV) (w:World) (h:Rdr w lo b g (p::ps)) :
  Calls Tryz.prog 165 #[.pointer (some ⟨b,0,none⟩)] w fun e w'=>e = .returned (.agg #[.int .u8 p.kind,.int .i64 p.n,.string p.text])∧Below w.heap.size w w':=by
 obtain⟨a,c,h1,h2,h3⟩:=h
 obtain⟨c0,_,_,_⟩:=wV h1
 obtain⟨off,cur,rfl,_,hg,⟨p0,p1,p2⟩,_⟩:=h3.head
 have hlg:=(Array.getElem?_eq_some_iff.1 hg).1
 have hlb:=(Array.getElem?_eq_some_iff.1 h1).1
 have hB:=(Below.refl w.heap.size w).alloc (Nat.le_refl _) (.cells #[.int .u8 p.kind,.int .i64 p.n,.string p.text] 94)
 rw[List.length_cons] at c0 h2
 clear h1 h3
 go_enter Tryz.func165,Tryz.ntmps165
 go_wp2
 go_returns
 exact⟨rfl,hB⟩
theorem wW (p:PcV) (w:World) (h:(p.n+p.text.size:Int)≤4000000) (h0 : -4000000≤p.n) :
  Calls Tryz.prog 167 #[.agg #[.int .u8 p.kind,.int .i64 p.n,.string p.text]] w fun e w'=>e = .returned (.int .i64 (p.n+p.text.size))∧Below w.heap.size w w':=by
 obtain⟨pk,pn,pt⟩:=p
 have hB:=(Below.refl w.heap.size w).alloc (Nat.le_refl _) (.cells #[.int .u8 pk,.int .i64 pn,.string pt] 94)
 dsimp only at h h0 ⊢
 go_enter Tryz.func167,Tryz.ntmps167
 go_wp2
 go_returns
 exact⟨rfl,hB⟩
end Go.Proofs.YtdeiocppghhfdaaGreat
namespace Go.Proofs.YtdeiocppghhfdaaGreat
open Go.RowKit Go.Lib Go.Shelf
theorem aSx {W:World} {b n c n' c':Nat} {a a':Option Addr} (h:W.heap[b]? = some (.cells (rdV a n c) 248 (0,0))):(W.setCell ⟨b,0,none⟩ (.slice a' n' c')).heap[b]? = some (.cells (rdV a' n' c') 248 (0,0)):=by
 simp[World.setCell,Array.getElem?_modify,h,rdV]
theorem aGs {w:World} {lo b g n c c':Nat} {a a':Option Addr} {ps:List PcV} (h:w.heap[b]? = some (.cells (rdV a n c) 248 (0,0))) (hr:aCm (w.setCell ⟨b,0,none⟩ (.slice a' ps.length c')) lo g a' ps) (hc:ps.length≤c') (o1 o2:Obj) :
  Rdr (((w.setCell ⟨b,0,none⟩ (.slice a' ps.length c')).alloc o1).alloc o2) lo b g ps :=
 Rdr.below (Rdr.below ⟨a',c',aSx h,hc,hr⟩ ((Below.refl _ _).alloc (Nat.le_refl _) _)) ((Below.refl _ _).alloc (Nat.le_refl _) _)
theorem aJw (w:World) (b:Nat) (v:Value) (o1 o2:Obj):aC (fun k=>k=b) w (((w.setCell ⟨b,0,none⟩ v).alloc o1).alloc o2) :=
 ((aC.set (F:=fun k=>k=b) (a:=⟨b,0,none⟩) rfl v).trans (aC.of_below ((Below.refl _ _).alloc (Nat.le_refl _) _))).trans (aC.of_below ((Below.refl _ _).alloc (Nat.le_refl _) _))
theorem pY (lo b g:Nat) (p:PcV) (ps:List PcV) (w:World) (h:Rdr w lo b g (p::ps)) :
  Calls Tryz.prog 166 #[.pointer (some ⟨b,0,none⟩)] w fun e w'=>e = .returned (.agg #[.int .u8 p.kind,.int .i64 p.n,.string p.text])∧Rdr w' lo b g ps∧aC (fun k=>k=b) w w':=by
 obtain⟨a,c,h1,h2,h3⟩:=h
 obtain⟨c0,_,_,f0⟩:=wV h1
 obtain⟨off,cur,rfl,hlo,hg,⟨p0,p1,p2⟩,hcur⟩:=h3.head
 have hlg:=(Array.getElem?_eq_some_iff.1 hg).1
 have hlb:=(Array.getElem?_eq_some_iff.1 h1).1
 have hgb:g≠b:=by rintro rfl;rw[hg] at h1;injection h1 with h1;injection h1 with _ h1 _;exact absurd h1 (by decide)
 have hB:=(Below.refl w.heap.size w).alloc (Nat.le_refl _) (.cells #[.int .u8 p.kind,.int .i64 p.n,.string p.text] 94)
 rw[List.length_cons] at c0 h2 h1
 clear h3
 go_enter Tryz.func166,Tryz.ntmps166
 go_wp2
 all_goals go_returns
 ·have hps:ps=[]:=List.eq_nil_of_length_eq_zero (by omega)
  subst hps
  exact⟨rfl,aGs (ps:=[]) (a':=some ⟨g,off,none⟩) (c':=0) h1 (.inl rfl) (Nat.zero_le _) _ _,aJw w b _ _ _⟩
 ·refine⟨rfl,aGs (ps:=ps) (a':=some ⟨g,off+3,none⟩) (c':=c-1) h1 (.inr ⟨off+3,cur,rfl,hlo,(aO _ _ _ _ hgb).trans hg,fun k q hq i u hu => ?_⟩) (by omega) _ _,aJw w b _ _ _⟩
  have:=hcur (k+1) q (by simpa using hq) i u hu
  rw[← this];congr 1;omega
theorem nM {w W:World} (h:Below w.heap.size w W) (o:Obj):Below w.heap.size w (W.alloc o):=h.alloc h.size o
theorem aJx (w:World) (a b c d e:Obj):Below w.heap.size w (((((w.alloc a).alloc b).alloc c).alloc d).alloc e).drew.drew.drew:=(nM (nM (nM (nM (nM (Below.refl _ _) a) b) c) d) e).drew.drew.drew
theorem mP {w W:World} (h:Below w.heap.size w W) (o:Obj):Below w.heap.size w (W.alloc o):=h.alloc h.size o
theorem rG (p:PcV) (n:Nat) (w:World) (h:p.kind=2→n≤p.text.size) (hn:n≤2000000) (hp:0≤p.n∧p.n≤2000000) (hs:p.text.size≤2000000) :
  Calls Tryz.prog 216 #[.agg #[.int .u8 p.kind,.int .i64 p.n,.string p.text],.int .i64 n] w fun e w'=>e = .returned (.tuple #[.agg #[.int .u8 (aI p n).kind,.int .i64 (aI p n).n,.string (aI p n).text],.agg #[.int .u8 (aG p n).kind,.int .i64 (aG p n).n,.string (aG p n).text]])∧Below w.heap.size w w':=by
 obtain⟨pk,pn,pt⟩:=p
 obtain⟨hp1,hp2⟩:=hp
 dsimp only at h hp1 hp2 hs ⊢
 have mixed : Tryz.prog.follows Departure.mixedOrders=true:=by kernel_rfl
 by_cases hk:pk=2
 ·subst hk
  have hn2:=h rfl
  clear h
  unfold aI aG
  rw[if_pos rfl,if_pos rfl]
  go_enter Tryz.func216,Tryz.ntmps216
  go_wp2
  iterate 3 (all_goals go_region;all_goals go_wp2)
  all_goals go_returns
  all_goals exact⟨rfl,aJx _ _ _ _ _ _⟩
 ·have e1:(pk == 2)=false:=by simpa using hk
  unfold aI aG
  rw[if_neg hk,if_neg hk]
  clear h hk
  go_enter Tryz.func216,Tryz.ntmps216
  go_wp2
  iterate 3 (all_goals go_region;all_goals go_wp2)
  all_goals go_returns
  all_goals exact⟨rfl,aJx _ _ _ _ _ _⟩
end Go.Proofs.YtdeiocppghhfdaaGreat
