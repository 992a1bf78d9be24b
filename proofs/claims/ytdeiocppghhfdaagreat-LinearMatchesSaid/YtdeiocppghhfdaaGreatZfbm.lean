/- Texts, one behind another. -/
import Derived.Test.YtdeiocppghhfdaaGreatZfbl
import Derived.Test.YtdeiocppghhfdaaGreatZfya
import Derived.Test.YtdeiocppghhfdaaGreatZfba
set_option linter.unusedVariables false
set_option linter.unusedSimpArgs false
set_option maxRecDepth 100000
set_option maxHeartbeats 40000000
namespace Go.Proofs.YtdeiocppghhfdaaGreat
open Go.RowKit Go.Lib Go.Shelf
theorem aPv (b:Nat) (M:RM) (o:OpV) (w:World) (h:RdAt w b M) (hok:MSok M.st 100000) (hi:OpIn o) (hx:opP o∧o.text.size≤256) (hc:M.closed=false) (hk:o.kind=1) :
  Calls Tryz.prog 183 #[.pointer (some ⟨b,0,none⟩),.agg #[.int .u8 o.kind,.int .i64 o.slot,.int .i64 o.at_,.int .i64 o.n,.int .u32 o.id,.int .u8 o.grav,.string o.text]] w (fP b w (insS M.st o) M):=by
 obtain⟨g0,g1,g2,g3,g4,g5,g6,g7,g8,g9,g10,g11,g12⟩:=hx.1
 have hn:o.n=0:=by omega
 have hsz:M.text.size≤65536:=hok.size
 have hT:M.st.text=M.text:=rfl
 have hC:M.st.closed=false:=hc
 by_cases h1:(M.text.size:Int)<o.at_
 ·have e:insS M.st o=(aS 3,M.st):=by simp[insS,insE,bndE,hT,hC,h1]
  rw[e];exact sZ b M o w h hok ⟨g2,hi.at_.2⟩ (.inl h1)
 ·cases hb:bndB M.text.data.toList o.at_ with
  |false =>
   have e:insS M.st o=(aS 12,M.st):=by simp[insS,insE,bndE,hT,hC,h1,hb]
   rw[e];exact wD b M o w h hok g2 (by omega) (by omega) hb
  |true =>
   have hb2:bndB M.text.data.toList (o.at_+o.n)=true:=by rw[hn,Int.add_zero];exact hb
   by_cases h2:65536<(M.text.size:Int)+o.text.size
   ·have e:insS M.st o=(aS 5,M.st):=by simp[insS,insE,bndE,hT,hC,h1,hb,h2]
    rw[e];exact aE9 b M o w h hok g2 (by omega) g3 (by omega) hb hb2 hx.2 (by omega)
   ·have e:insS M.st o=repS M.st o.at_ o.n o.text:=by simp[insS,insE,bndE,hT,hC,h1,hb,h2,hn]
    rw[e];exact aCk b M o w h hok g2 (by omega) g3 (by omega) hb hb2 hx.2 (by omega) ⟨g2,g3,by omega,by omega,by omega,.inl ⟨hn,by omega⟩⟩
theorem aPw (b:Nat) (M:RM) (o:OpV) (w:World) (h:RdAt w b M) (hok:MSok M.st 100000) (hi:OpIn o) (hx:opP o∧o.text.size≤256) (hc:M.closed=false) (hk:o.kind=2) :
  Calls Tryz.prog 183 #[.pointer (some ⟨b,0,none⟩),.agg #[.int .u8 o.kind,.int .i64 o.slot,.int .i64 o.at_,.int .i64 o.n,.int .u32 o.id,.int .u8 o.grav,.string o.text]] w (fP b w (delS M.st o) M):=by
 obtain⟨g0,g1,g2,g3,g4,g5,g6,g7,g8,g9,g10,g11,g12⟩:=hx.1
 have hn:o.n≠0:=g12 hk
 have ht:o.text=⟨#[]⟩:=by
  have h0:o.text.size=0:=by omega
  have h1:o.text.data = #[]:=Array.eq_empty_of_size_eq_zero h0
  cases ht:o.text with | mk d=>rw[ht] at h1;exact congrArg ByteArray.mk h1
 have hsz:M.text.size≤65536:=hok.size
 have hT:M.st.text=M.text:=rfl
 have hC:M.st.closed=false:=hc
 by_cases h1:(M.text.size:Int)<o.at_∨(M.text.size:Int)-o.at_<o.n
 ·have e:delS M.st o=(aS 3,M.st):=by simp[delS,delE,hT,hC,h1]
  rw[e];exact sZ b M o w h hok ⟨g2,hi.at_.2⟩ (by rcases h1 with h1 | h1<;>omega)
 ·have h1a:¬ (M.text.size:Int)<o.at_:=by omega
  have h1b:¬ (M.text.size:Int)-o.at_<o.n:=by omega
  have h1c:¬ (M.text.size:Int)<o.at_+o.n:=by omega
  cases hb:bndB M.text.data.toList o.at_ with
  |false =>
   have e:delS M.st o=(aS 12,M.st):=by simp[delS,delE,bndE,hT,hC,h1a,h1b,hb]
   rw[e];exact wD b M o w h hok g2 (by omega) (by omega) hb
  |true =>
   cases hb2:bndB M.text.data.toList (o.at_+o.n) with
   |false =>
    have e:delS M.st o=(aS 12,M.st):=by simp[delS,delE,bndE,hT,hC,h1a,h1b,h1c,hb,hb2]
    rw[e];exact aE8 b M o w h hok g2 (by omega) g3 (by omega) hb hb2
   |true =>
    have e:delS M.st o=repS M.st o.at_ o.n o.text:=by rw[ht];simp[delS,delE,bndE,hT,hC,h1a,h1b,h1c,hb,hb2]
    rw[e];exact aCk b M o w h hok g2 (by omega) g3 (by omega) hb hb2 hx.2 (by omega) ⟨g2,g3,by omega,by omega,by omega,.inr ⟨by omega,by omega⟩⟩
theorem aPx (b:Nat) (M:RM) (o:OpV) (w:World) (h:RdAt w b M) (hok:MSok M.st 100000) (hi:OpIn o) (hx:opP o) (hc:M.closed=false) (hk:o.kind=3) :
  Calls Tryz.prog 184 #[.pointer (some ⟨b,0,none⟩),.agg #[.int .u8 o.kind,.int .i64 o.slot,.int .i64 o.at_,.int .i64 o.n,.int .u32 o.id,.int .u8 o.grav,.string o.text]] w (fP b w (setS M.st o) M):=by
 obtain⟨g0,g1,g2,g3,g4,g5,g6,g7,g8,g9,g10,g11,g12⟩:=hx
 have hsz:M.text.size≤65536:=hok.size
 have i0:=hi.id0
 have i1:=hi.id1
 have i2:=hi.g0
 by_cases h1:(M.text.size:Int)<o.at_
 ·exact tO b M o w h hok hk hc h1
 ·cases hb:bndB M.text.data.toList o.at_ with
  |false=>exact xE b M o w h hok hk hc (by omega) hb
  |true =>
   have hm:MkIn bigN ⟨o.id,o.at_,o.grav⟩:=⟨by show 1≤o.id;omega,i1,by show o.grav=0∨o.grav=1;omega,g2,by show o.at_≤bigN;unfold bigN;omega⟩
   by_cases hl:hasM o.id M.marks=true∨M.marks.length<64
   ·exact aAh b M o w h hok hk hc (by omega) hb hm hl
   ·exact wF b M o w h hok hk hc (by omega) hb hm hl
theorem aPy (b:Nat) (M:RM) (o:OpV) (w:World) (h:RdAt w b M) (hok:MSok M.st 100000) (hc:M.closed=false) (hk:o.kind=4) :
  Calls Tryz.prog 184 #[.pointer (some ⟨b,0,none⟩),.agg #[.int .u8 o.kind,.int .i64 o.slot,.int .i64 o.at_,.int .i64 o.n,.int .u32 o.id,.int .u8 o.grav,.string o.text]] w (fP b w (drpS M.st o) M):=by
 cases hs:hasM o.id M.marks with
 |false=>exact tN b M o w h hok hk hc hs
 |true=>exact wC b M o w h hok hk hc hs
attribute [local go_sem, local simp] aLb aLc aLd resF bD bS fK fM fO dQ eX eY snF uA zS
theorem aAi (b c:Nat) (M:RM) (w:World) (h:RdAt w b M) (S:SeM) (hS:M.seats[c]? = some S) (hl:S.sl.length=M.readers) (hr8:M.readers≤8) (hcl:M.seats.length≤8) (hs:M.closed=false) :
  Calls Tryz.prog 185 #[.pointer (some ⟨b,0,none⟩),.int .i64 (c:Int)] w (fP b w (acqS M.st c) M):=by
 obtain⟨hc,_⟩:=gLz hS
 have hz0:=heap_alloc_new w (.cells (resL {}).toArray 51)
 have hB0:Below w.heap.size w (w.alloc (.cells (resL {}).toArray 51)):=(Below.refl _ w).alloc (Nat.le_refl _) _
 have hM0:=h.below hB0
 obtain⟨gs,cs,g,cp,gb,cb,cur,hA⟩:=hM0.seatAt hS
 have e0:M.st.seat c=S.st:=RM.seat_st hS
 obtain⟨hbg,hgsg,_⟩:=hA.ne hM0
 obtain⟨am,cm,hmv⟩:=aC hM0.marks
 have c7:=hM0.c7 hA.sv
 have c1:=hM0.cs.2.1
 have r1:=hA.c1
 have HM0:=Lib.hid hM0
 have HL:=Lib.hid hl
 clear hl hM0
 go_enter Tryz.func185,Tryz.ntmps185
 go_wp2
 generalize hW0:w.alloc (.cells (resL {}).toArray 51)=W0 at *
 go_loopw [5,6,7,8,9,10,11,12,13,14,15,16,17,18,19,20,21,22,23,24,25] (fun i x6 x7 x8 x9 x10 x11 x12 x13 x14 x15 x16 x17 x18 x19 x20 x21 x22 x23 x24 x25 wr=>∃ k:Nat,i = .int .i64 k∧k≤S.sl.length∧(∀ j,j<k→∀ x,S.sl[j]? = some x→x.s.held=true)∧wr=W0) (fun i x6 x7 x8 x9 x10 x11 x12 x13 x14 x15 x16 x17 x18 x19 x20 x21 x22 x23 x24 x25 wr=>S.sl.length-(intOf i).toNat)
 case atStart=>exact⟨0,rfl,by omega,fun j hj=>absurd hj (by omega),rfl⟩
 case round =>
  obtain⟨k,rfl,hk,hf,rfl⟩:=hrel
  have HF:=Lib.hid hf;clear hf
  have hl:=HL.out
  by_cases hlt:k<S.sl.length
  ·have hx:=gEz hlt
   generalize S.sl[k]=x at hx
   have hSn:=hA.sn k x hx
   obtain⟨⟨s0,s1,s2,s3⟩,_⟩:=hSn.cells
   have hlt2:k<M.readers:=by omega
   have hcap:=hA.cap
   clear hl
   cases hh:x.s.held with
   |true =>
    rw[hh] at s0
    go_wp2
    go_roundw
    case rel=>exact⟨k+1,by go_num,by omega,fun j hj y hy=>(by
     by_cases hjk:j=k
     ·subst hjk;rw[hx] at hy;injection hy with hy;subst hy;exact hh
     ·exact HF.out j (by omega) y hy),trivial⟩
    case measure=>simp[intOf];omega
   |false =>
    rw[hh] at s0
    have hR:acqS M.st c=({ slot:=k,rev:=M.number },M.st.putSlot c k ⟨true,M.text,M.marks,0⟩):=by
     unfold acqS
     rw[if_neg (by show ¬ (M.closed=true);simp[hs]),e0]
     have hn:S.st.slots.findIdx? (fun s => !s.held)=some k:=by
      rw[List.findIdx?_eq_some_iff_getElem]
      have h2:S.st.slots.length=S.sl.length:=List.length_map ..
      have h3:∀ j (hj:j<S.st.slots.length),S.st.slots[j]=(S.sl[j]'(by omega)).s:=fun j hj=>List.getElem_map ..
      refine⟨by omega,?_,fun j hj => ?_⟩
      ·rw[h3]
       have:=(gLz hx).2
       rw[this,hh];rfl
      ·rw[h3 j (by omega)]
       have:=HF.out j hj _ (gEz (by omega))
       simp[this]
     rw[hn]
     rfl
    rw[hR]
    have kx:∀ W,aF (fun k=>k=g) wr W→W.cell? ⟨b,7,none⟩=some (.slice (some ⟨gs,0,none⟩) M.seats.length cs)∧W.cell? ⟨gs,c,none⟩=some (.slice (some ⟨g,0,none⟩) S.sl.length cp)∧W.cell? ⟨b,2,none⟩=some (.string M.text)∧W.cell? ⟨b,3,none⟩=some (.slice am M.marks.length cm):=fun W hW =>
     ⟨hW.cell hbg c7,hW.cell hgsg r1,hW.cell hbg HM0.out.cs.2.2.1,hW.cell hbg (HM0.out.c3 hmv)⟩
    have Kx:=Lib.hid kx
    clear kx
    have hx0:aF (fun k=>k=g) wr wr.drew:=(aF.refl _ _).drew
    have hA7:=hA.below (Below.refl _ _).drew
    have hM7:=Lib.hid (HM0.out.below (Below.refl _ _).drew)
    have hsn:=(hA7.sn k x hx).stP ⟨⟨true,M.text,[],0⟩,.slice am M.marks.length cm⟩ rfl
    clear hbg hgsg
    go_wp2
    refine aP (S:=fun W=>W.cell? ⟨b,7,none⟩=some (.slice (some ⟨gs,0,none⟩) M.seats.length cs)∧W.cell? ⟨gs,c,none⟩=some (.slice (some ⟨g,0,none⟩) S.sl.length cp)∧W.cell? ⟨b,2,none⟩=some (.string M.text)∧W.cell? ⟨b,3,none⟩=some (.slice am M.marks.length cm)) ?_ (fun hHeld => ?_)
    ·first | exact Kx.out _ hx3 | exact Kx.out _ hx0
    iterate 18 (((first | refine np_q ?_ | refine aL 0 ?_);(try simp only[nSO])))
    (refine np_c 18 (fun K hK => ?_);go_simp;((have hx3:=hx0.trans (aF.putSn wr.drew g (k*4) ⟨⟨true,M.text,[],0⟩,.slice am M.marks.length cm⟩)));(try go_wp2_with fail);refine hK.out _ _ ?_ (fun hHeld => ?_);(· (first | exact Kx.out _ hx3 | exact Kx.out _ hx0));clear hK K;(try simp only[nSO]))
    refine np_z ?_
    have hN8:=(hA7.sn k x hx).put (y:=⟨⟨true,M.text,M.marks,0⟩,.slice am M.marks.length cm⟩) (by have:=hM7.out.marks;rw[hmv] at this;exact this)
    rw[sU wr.drew g (k*4) true M.text M.marks [] 0 (.slice am M.marks.length cm)] at hN8
    have hK8:=aF.putSn wr.drew g (k*4) ⟨⟨true,M.text,[],0⟩,.slice am M.marks.length cm⟩
    have hM8:=hM7.out.putSlot hS hA7 hx hN8 hK8
    have hz8:=(mZ wr.drew g (k*4) ⟨⟨true,M.text,[],0⟩,.slice am M.marks.length cm⟩ _ (jB hA7.blk hz0).symm).trans hz0
    have hst:=aK hz8 rfl
    have d4:(putSn wr.drew g (k*4) ⟨⟨true,M.text,[],0⟩,.slice am M.marks.length cm⟩).cell? ⟨b,4,none⟩=some (.int .i64 M.number):=hM8.cs.2.2.2.2.1
    have hfp:M.fp b g := .inr (.inr ⟨S,mGz hS,by rw[hA7.v];rfl⟩)
    clear hHeld hsn Kx
    go_wp2
    exact⟨rfl,_,results_cell_row rfl _ _ _ _ _ _ _ rfl (setRow_heap _ _ _ _ _ _ hz8) Tryz.underlying51 rfl (by kernel_rfl),(by first | rfl | rw[hR]),_,hM8.row hz8 _,(by first | exact RM.putSlot_st hS | (rw[hR];exact RM.putSlot_st hS)),((aF.of_below hB0.drew).trans (hK8.fp (F:=M.fp b) hfp)).row (Nat.le_refl _) _,fun k hk => .inl (vW hS k hk)⟩
  ·have hR:acqS M.st c=(aS 15,M.st):=by
    unfold acqS
    rw[if_neg (by show ¬ (M.closed=true);simp[hs]),e0]
    have hn:S.st.slots.findIdx? (fun s => !s.held)=none:=by
     rw[List.findIdx?_eq_none_iff]
     intro s hsm
     obtain⟨x,hxm,rfl⟩:=List.mem_map.1 hsm
     obtain⟨j,hj,hxe⟩:=List.getElem_of_mem hxm
     have:=HF.out j (by omega) x (by rw[gEz hj,hxe])
     simp[this]
    rw[hn]
   have hlt2:¬ k<M.readers:=by omega
   clear hl
   rw[hR]
   go_wp2_with (go_at_call 181;refine (bG _ _).mono ?_;rintro e v7 ⟨rfl,hb7⟩;have hz7:=(hb7.block w.heap.size (gAz hz0).1).trans hz0;have hst:=aK hz7 rfl)
   exact⟨rfl,_,results_cell_row rfl _ _ _ _ _ _ _ rfl (setRow_heap _ _ _ _ _ _ hz7) Tryz.underlying51 rfl (by kernel_rfl),(by first | rfl | rw[hR]),M,(HM0.out.below hb7).row hz7 _,(by first | rfl | rw[hR]),(aF.of_below (hB0.trans (hb7.mono hB0.size))).row (Nat.le_refl _) _,fun k hk => .inl hk⟩
end Go.Proofs.YtdeiocppghhfdaaGreat
namespace Go.Proofs.YtdeiocppghhfdaaGreat
open Go.RowKit Go.Lib Go.Shelf
attribute [local go_sem, local simp] resF bD bS fK fM fO dQ eX eY
theorem RdAt.fp_lt {W:World} {b k:Nat} {M:RM} (h:RdAt W b M) (hk:M.fp b k):k<W.heap.size:=by
 rcases hk with rfl | hk | ⟨S,hS,hk⟩
 ·exact (gAz h.blk).1
 ·exact lN h.subs hk
 ·exact lN (h.slots S hS) hk
theorem RdS.bd {w W:World} {o:OpV} {b c:Nat} {M:RM} {S:SeM} {gs cs g cp gb cb:Nat} {cur:Array Value} (h:RdS w o b c M S gs cs g cp gb cb cur W):W.cell? ⟨b,4,none⟩=some (.int .i64 M.number)∧W.cell? ⟨b,5,none⟩=some (.bool M.closed)∧W.cell? ⟨b,6,none⟩=some (.slice (some ⟨gb,0,none⟩) M.seats.length cb)∧W.cell? ⟨gb,c,none⟩=some (.bool S.sub)∧W.frozen? ⟨gb,c,none⟩=false:=⟨h.hM.cs.2.2.2.2.1,h.hM.cs.2.2.2.2.2.1,h.hM.c6 h.hA.bv,h.hA.b0,h.hA.bf⟩
theorem RdS.gbne {w W:World} {o:OpV} {b c:Nat} {M:RM} {S:SeM} {gs cs g cp gb cb:Nat} {cur:Array Value} (h:RdS w o b c M S gs cs g cp gb cb cur W):w.heap.size+1≠gb∧w.heap.size+1≠b:=by
 obtain⟨_,h1⟩:=h.hA.bblk
 refine⟨fun e => ?_,fun e => ?_⟩
 ·have h2:=h.hE.res;rw[e,h1] at h2;injection h2 with h2;injection h2 with _ h3 _;exact absurd h3 (by decide)
 ·have h2:=h.hE.res;rw[e,h.hM.blk] at h2;injection h2 with h2;injection h2 with _ h3 _;exact absurd h3 (by decide)
theorem aRg (b c:Nat) (M:RM) (q:OpV) (w:World) (h:RdAt w b M) (hok:MSok M.st 100000) (hi:OpIn q) (hc:c<M.seats.length) (hcl:M.seats.length≤8) (hst0:dL M.st c q=0) (hx:opP q∧q.text.size≤256) :
  Calls Tryz.prog 128 #[.pointer (some ⟨b,0,none⟩),.int .i64 (c:Int),.agg #[.int .u8 q.kind,.int .i64 q.slot,.int .i64 q.at_,.int .i64 q.n,.int .u32 q.id,.int .u8 q.grav,.string q.text]] w (fP b w (opS M.st c q) M):=by
 have hS:=gEz hc
 generalize M.seats[c]=S at hS
 have hmem:=mGz hS
 have hl:S.sl.length=M.readers:=by
  have h1:=(hok.slots S.st (List.mem_map.2 ⟨S,hmem,rfl⟩)).1
  have h2:S.st.slots.length=S.sl.length:=List.length_map ..
  have h3:M.st.readers=M.readers:=rfl
  omega
 have hr8:M.readers≤8:=hok.readers
 have e0:M.st.seat c=S.st:=RM.seat_st hS
 have eb:(M.st.seat c).sub=S.sub:=by rw[e0];rfl
 have eC:M.st.closed=M.closed:=rfl
 have hxx:=hx.1
 obtain⟨g0,g1,_⟩:=hxx
 have hk:q.kind=1∨q.kind=2∨q.kind=3∨q.kind=4∨q.kind=5∨(6≤q.kind∧q.kind≤13)∨q.kind=14∨q.kind=15∨q.kind=16:=by omega
 obtain⟨gs,cs,g,cp,gb,cb,cur,hD0⟩:=RdS.start w q h hS
 have hsta:=rZ b M c q _ hD0.hM
 rw[hst0] at hsta
 unfold OpV.v at hsta
 have hfp:=fun k (hk:M.fp b k)=>h.fp_lt hk
 clear hst0
 obtain⟨V,hV⟩:∃ V,opS M.st c q=V:=⟨_,rfl⟩
 rw[hV]
 have HV:=Lib.hid hV
 clear hV
 go_enter Tryz.func128,Tryz.ntmps128
 go_wp2_with fail
 (go_at_call 180;refine hsta.mono ?_;rintro e w1 ⟨rfl,hb1⟩;have hD1:=hD0.on hb1;obtain⟨y0,y1,y2,y3,y4,y5,y6⟩:=hD1.hE.o7;obtain⟨k4,k5,k6,kb,kf⟩:=hD1.bd;clear hsta)
 rcases hk with hk | hk | hk | hk | hk | ⟨h1,h2⟩ | hk | hk | hk
 all_goals first | (have _:=h1;have t1:decide (6≤q.kind)=true:=by simpa using h1) | cases hs:M.closed
 all_goals first | (have _:q.kind=14:=hk;cases hb:S.sub) | (have _:q.kind=15:=hk;cases hb:S.sub) | skip
 all_goals
  have hv:=HV.out
  try rw[hs] at k5
  try rw[hb] at kb
  try rw[hk] at y0
  first
  |(have _:q.kind=14:=hk;have _:S.sub=true:=hb;rw[show opS M.st c q=(aS 18,M.st) by simp[opS,hk,subS,eb,hb]] at hv)
  |(have _:q.kind=15:=hk;have _:S.sub=false:=hb;rw[show opS M.st c q=(aS 19,M.st) by simp[opS,hk,recS,eb,hb]] at hv)
  |(have _:M.closed=true:=hs;have _:=hb;rw[show opS M.st c q=(aS 13,M.st) by simp[opS,hk,subS,recS,eb,hb,eC,hs]] at hv)
  |(have _:M.closed=true:=hs;rw[show opS M.st c q=(aS 13,M.st) by simp[opS,hk,insS,insE,delS,delE,setS,setE,drpS,acqS,cloS,eC,hs]] at hv)
  |(have _:q.kind=15:=hk;rw[show opS M.st c q=(aS 17,M.st) by simp[opS,hk,recS,eb,hb,eC,hs]] at hv)
  |(have _:q.kind=1:=hk;have HC:=fun W (hW:RdAt W b M)=>aPv b M q W hW hok hi hx hs hk;rw[show opS M.st c q=insS M.st q by simp[opS,hk]] at hv)
  |(have _:q.kind=2:=hk;have HC:=fun W (hW:RdAt W b M)=>aPw b M q W hW hok hi hx hs hk;rw[show opS M.st c q=delS M.st q by simp[opS,hk]] at hv)
  |(have _:q.kind=3:=hk;have HC:=fun W (hW:RdAt W b M)=>aPx b M q W hW hok hi hx.1 hs hk;rw[show opS M.st c q=setS M.st q by simp[opS,hk]] at hv)
  |(have _:q.kind=4:=hk;have HC:=fun W (hW:RdAt W b M)=>aPy b M q W hW hok hs hk;rw[show opS M.st c q=drpS M.st q by simp[opS,hk]] at hv)
  |(have _:q.kind=5:=hk;have HC:=fun W (hW:RdAt W b M)=>aAi b c M W hW S hS hl hr8 hcl hs;rw[show opS M.st c q=acqS M.st c by simp[opS,hk]] at hv)
  |(have HC:=fun W (hW:RdAt W b M)=>aI0 b c M q W hW hok hi hx.1 S hS hl hr8 hcl h1 h2;rw[show opS M.st c q=reaS M.st c q by unfold opS;repeat rw[if_neg (by omega)]] at hv;have t2:decide (q.kind≤13)=true:=by simpa using h2)
  |(rw[show opS M.st c q=({ rev:=M.number },M.st.put c { M.st.seat c with sub:=true }) by simp only[opS,subS,show q.kind=14 from hk,eb,eC,hs,hb];rfl] at hv;have hM2:=hD1.hM.putSub hS hD1.hA;have d4:=hM2.cs.2.2.2.2.1;have hz2:=(aG w1 ⟨gb,c,none⟩ (.bool true) (w.heap.size+1) hD1.gbne.1).trans hD1.hE.res;have hst:=aK hz2 rfl)
  |(rw[show opS M.st c q=({},{ M.st with closed:=true }) by simp only[opS,cloS,show q.kind=16 from hk,eC,hs];rfl] at hv;have f5:=hD1.hM.f 5;have hM2:=hD1.hM.setShut true;have hz2:=(aG w1 ⟨b,5,none⟩ (.bool true) (w.heap.size+1) hD1.gbne.2).trans hD1.hE.res;have hst:=aK hz2 rfl)
  subst hv
  try rw[hk] at HC
  go_wp2_with (first | (go_at_call 181;refine (bG _ _).mono ?_;rintro e v7 ⟨rfl,hb7⟩;have hD7:=hD1.on hb7;have hst:=aK hD7.hE.res rfl) | ((first | go_at_call 183 | go_at_call 184 | go_at_call 185 | go_at_call 182);refine (HC _ hD1.hM).mono ?_;rintro e w9 ⟨rfl,M',hM',hst',hK',hfp'⟩;have hz9:=(hK'.block _ (gAz hD1.hE.res).1 (fun hk=>absurd (hfp _ hk) (by omega))).trans hD1.hE.res;have hst:=aK hz9 rfl))
  first
  |exact⟨rfl,_,results_cell_row rfl _ _ _ _ _ _ _ rfl (setRow_heap _ _ _ _ _ _ hD7.hE.res) Tryz.underlying51 rfl (by kernel_rfl),hD7.closeF _ _⟩
  |exact⟨rfl,_,results_cell_row rfl _ _ _ _ _ _ _ rfl (setRow_heap _ _ _ _ _ _ hz9) Tryz.underlying51 rfl (by kernel_rfl),rfl,M',hM'.row hz9 _,hst',((aF.of_below hD1.hE.bl).trans hK').row (by omega) _,fun k hk=>(hfp' k hk).imp (fun h=>h) (fun hk=>by have:=hD1.hE.bl.size;omega)⟩
  |exact⟨rfl,_,results_cell_row rfl _ _ _ _ _ _ _ rfl (setRow_heap _ _ _ _ _ _ hz2) Tryz.underlying51 rfl (by kernel_rfl),rfl,_,hM2.row hz2 _,RM.putSub_st hS,((aF.of_below hD1.hE.bl).trans (aF.set (F:=M.fp b) (a:=⟨gb,c,none⟩) (.inr (.inl (by rw[hD1.hA.bv];rfl))) _)).row (by omega) _,fun k hk => .inl (aPp hS k hk)⟩
  |exact⟨rfl,_,results_cell_row rfl _ _ _ _ _ _ _ rfl (setRow_heap _ _ _ _ _ _ hz2) Tryz.underlying51 rfl (by kernel_rfl),rfl,_,hM2.row hz2 _,rfl,((aF.of_below hD1.hE.bl).trans (aF.set (F:=M.fp b) (a:=⟨b,5,none⟩) (.inl rfl) _)).row (by omega) _,fun k hk => .inl hk⟩
theorem aPz (b:Nat) (c:Int) (M:RM) (q:OpV) (w:World) (h:RdAt w b M) (E:Int) (hs:dL M.st c q=E) (hE0:E≠0) :
  Calls Tryz.prog 128 #[.pointer (some ⟨b,0,none⟩),.int .i64 c,.agg #[.int .u8 q.kind,.int .i64 q.slot,.int .i64 q.at_,.int .i64 q.n,.int .u32 q.id,.int .u8 q.grav,.string q.text]] w (fP b w (aS E,M.st) M):=by
 have hd:(E == 0)=false:=by simpa using hE0
 have hE:=aY w q
 have hM0:=h.below hE.bl
 have hrB:w.heap.size≤w.heap.size+1:=by omega
 have hsta:=rZ b M c q _ hM0
 rw[hs] at hsta
 unfold OpV.v at hsta
 clear hs hE0
 go_enter Tryz.func128,Tryz.ntmps128
 go_wp2_with (first | (go_at_call 180;refine hsta.mono ?_;rintro e w1 ⟨rfl,hb1⟩;have hE1:=hE.on hb1;have hM1:=hM0.below hb1;clear hsta) | (go_at_call 181;refine (bG _ _).mono ?_;rintro e v7 ⟨rfl,hb7⟩;have hE7:=hE1.on hb7;have hst:=aK hE7.res rfl))
 exact⟨rfl,_,results_cell_row rfl _ _ _ _ _ _ _ rfl (setRow_heap _ _ _ _ _ _ hE7.res) Tryz.underlying51 rfl (by kernel_rfl),rfl,M,(hM1.below hb7).row hE7.res _,rfl,(aF.of_below hE7.bl).row hrB _,fun k hk => .inl hk⟩
theorem aGp (b:Nat) (c:Int) (M:RM) (q:OpV) (w:World) (h:RdAt w b M) (hok:MSok M.st 100000) (hi:OpIn q) :
  Calls Tryz.prog 128 #[.pointer (some ⟨b,0,none⟩),.int .i64 c,.agg #[.int .u8 q.kind,.int .i64 q.slot,.int .i64 q.at_,.int .i64 q.n,.int .u32 q.id,.int .u8 q.grav,.string q.text]] w (fP b w (doS M.st c q) M):=by
 have hlen:M.st.seats.length=M.seats.length:=List.length_map ..
 have hcl:M.seats.length≤8:=by have:=hok.clients;omega
 by_cases hs:dL M.st c q=0
 ·obtain⟨h0,h1,h2⟩:=qH hs
  have hx:=pG h2
  obtain⟨n,rfl⟩:∃ n:Nat,c=n:=⟨c.toNat,by omega⟩
  have hR:doS M.st n q=opS M.st n q:=by unfold doS;rw[if_neg (by simpa using hs),Int.toNat_natCast]
  rw[hR]
  exact aRg b n M q w h hok hi (by omega) hcl hs ⟨hx.1,hx.2.1⟩
 ·have hR:doS M.st c q=(aS (dL M.st c q),M.st):=by unfold doS;rw[if_pos hs]
  rw[hR]
  exact aPz b c M q w h _ rfl hs
end Go.Proofs.YtdeiocppghhfdaaGreat
namespace Go.Proofs.YtdeiocppghhfdaaGreat
open Go.RowKit Go.Lib Go.Shelf
attribute [local go_sem, local simp] resF bD bS
theorem RdAt.fp_ty {W:World} {b k:Nat} {M:RM} (h:RdAt W b M) (hk:M.fp b k):∃ cs T,W.heap[k]? = some (.cells cs T (0,0))∧(T=178∨T=4∨T=253):=by
 rcases hk with rfl | hk | ⟨S,hS,hk⟩
 ·exact⟨_,_,h.blk,.inl rfl⟩
 ·rcases h.subs.2 with⟨e,_⟩ | ⟨g,cap,cur,e,_,hg,_⟩
  ·rw[e] at hk;cases hk
  ·rw[e] at hk;injection hk with hk;subst hk;exact⟨_,_,hg,.inr (.inl rfl)⟩
 ·rcases (h.slots S hS).2 with⟨e,_⟩ | ⟨g,cap,cur,e,_,hg,_⟩
  ·rw[e] at hk;cases hk
  ·rw[e] at hk;injection hk with hk;subst hk;exact⟨_,_,hg,.inr (.inr rfl)⟩
theorem RdAt.keep {W W':World} {b g:Nat} {M:RM} {cs:Array Value} {T:TypeId} (h:RdAt W b M) (hk:aF (M.fp b) W W') (hg:W.heap[g]? = some (.cells cs T (0,0))) (h1:T≠178) (h2:T≠4) (h3:T≠253):W'.heap[g]? = some (.cells cs T (0,0)):=by
 refine (hk.block g (gAz hg).1 fun hf => ?_).trans hg
 obtain⟨cs',T',hg',hT⟩:=h.fp_ty hf
 rw[hg] at hg';injection hg' with hg';injection hg' with _ e _
 subst e
 rcases hT with e | e | e
 ·exact h1 e
 ·exact h2 e
 ·exact h3 e
structure RRun (w0 W:World) (b:Nat) (M:RM):Prop where
 at_:RdAt W b M
 own:∀ k,M.fp b k→w0.heap.size≤k
 bl:Below w0.heap.size w0 W
theorem RRun.on {w0 W W':World} {b:Nat} {M:RM} (h:RRun w0 W b M) (hb:Below W.heap.size W W'):RRun w0 W' b M:=⟨h.at_.below hb,h.own,h.bl.trans (hb.mono h.bl.size)⟩
theorem RRun.keep {w0 W W':World} {b:Nat} {M:RM} (h:RRun w0 W b M) (hk:aF (M.fp b) W W'):Below w0.heap.size w0 W' :=
 ⟨hk.os.trans h.bl.os,hk.tape.trans h.bl.tape,hk.output.trans h.bl.output,Nat.le_trans h.bl.size hk.size,fun k hk'=>(hk.block k (by have:=h.bl.size;omega) (fun hf=>absurd (h.own k hf) (by omega))).trans (h.bl.block k hk')⟩
end Go.Proofs.YtdeiocppghhfdaaGreat
namespace Go.Proofs.YtdeiocppghhfdaaGreat
open Go.RowKit Go.Lib Go.Shelf
theorem aGq:(Tryz.prog.info? 253).map (fun i=>(i.zero,i.size,i.bytes))=some (some (.agg #[.bool false,.string ⟨#[]⟩,.slice none 0 0,.int .i64 0]),4,56):=by kernel_rfl
theorem aMj:(Tryz.prog.info? 4).map (fun i=>(i.zero,i.size,i.bytes))=some (some (.bool false),1,1):=by kernel_rfl
theorem aMk:(Tryz.prog.info? 213).map (fun i=>(i.zero,i.size,i.bytes))=some (some (.slice none 0 0),1,24):=by kernel_rfl
@[irreducible] def aMl (w:World) (n:Nat):World:=w.alloc (.cells (slL (List.replicate n zSn)).toArray 253)
@[irreducible] def aMm (w:World) (n:Nat):World:=w.alloc (.cells (List.replicate n (Value.bool false)).toArray 4)
theorem rE (w:World) (n:Nat):aMl w n=w.alloc (.cells (slL (List.replicate n zSn)).toArray 253):=by unfold aMl;rfl
theorem rF (w:World) (n:Nat):aMm w n=w.alloc (.cells (List.replicate n (Value.bool false)).toArray 4):=by unfold aMm;rfl
theorem aMn (n:Nat):(madeCells (Value.cells (.bool false)) (n*1)).toList=List.replicate n (Value.bool false):=by
 rw[Nat.mul_one]
 apply List.ext_getElem?
 intro i
 simp[madeCells,Value.cells,Nat.mod_one]
 by_cases h:i<n
 ·simp[h]
 ·simp[h]
theorem aP0 (w:World) (n:Nat) (hn:n≤1000):(Instr.makeSlice 213 (.int .i64 n) (.int .i64 n)).run Tryz.prog w = .ok (.slice (some ⟨w.heap.size,0,none⟩) n n) (aMl w n):=by
 obtain⟨i0,hi0,hz0,hz1,hz2⟩:=info_parts aGq
 have:=run_make (P := Tryz.prog) w 213 253 i0 _ Tryz.underlying213 hi0 hz0 .i64 .i64 n n (by omega) (Int.le_refl _) (by rw[hz2];omega) (by omega)
 have e:madeCells (Value.cells (.agg #[.bool false,.string ⟨#[]⟩,.slice none 0 0,.int .i64 0])) ((n:Int).toNat*i0.size)=(slL (List.replicate n zSn)).toArray:=by rw[hz1,Int.toNat_natCast];exact Array.toList_inj.1 (vI n)
 rw[this,e,rE,Int.toNat_natCast]
theorem aP1 (w:World) (n:Nat) (hn:n≤1000):(Instr.makeSlice 90 (.int .i64 n) (.int .i64 n)).run Tryz.prog w = .ok (.slice (some ⟨w.heap.size,0,none⟩) n n) (aMm w n):=by
 obtain⟨i0,hi0,hz0,hz1,hz2⟩:=info_parts aMj
 have:=run_make (P := Tryz.prog) w 90 4 i0 _ Tryz.underlying90 hi0 hz0 .i64 .i64 n n (by omega) (Int.le_refl _) (by rw[hz2];omega) (by omega)
 have e:madeCells (Value.cells (.bool false)) ((n:Int).toNat*i0.size)=(List.replicate n (Value.bool false)).toArray:=by rw[hz1,Int.toNat_natCast];exact Array.toList_inj.1 (aMn n)
 rw[this,e,rF,Int.toNat_natCast]
theorem aMo (w:World) (n:Nat) (hn:n≤1000):∃ V,(Instr.makeSlice 213 (.int .i64 n) (.int .i64 n)).run Tryz.prog w = .ok (.slice (some ⟨w.heap.size,0,none⟩) n n) V∧V.heap.size=w.heap.size+1∧V.heap[w.heap.size]? = some (.cells (slL (List.replicate n zSn)).toArray 253 (0,0))∧Below w.heap.size w V :=
 ⟨_,aP0 w n hn,by rw[rE,World.size_alloc],by rw[rE];exact heap_alloc_new _ _,by rw[rE];exact (Below.refl _ w).alloc (Nat.le_refl _) _⟩
theorem aCm (w:World) (n:Nat) (hn:n≤1000):∃ V,(Instr.makeSlice 90 (.int .i64 n) (.int .i64 n)).run Tryz.prog w = .ok (.slice (some ⟨w.heap.size,0,none⟩) n n) V∧V.heap.size=w.heap.size+1∧V.heap[w.heap.size]? = some (.cells (List.replicate n (Value.bool false)).toArray 4 (0,0))∧Below w.heap.size w V :=
 ⟨_,aP1 w n hn,by rw[rF,World.size_alloc],by rw[rF];exact heap_alloc_new _ _,by rw[rF];exact (Below.refl _ w).alloc (Nat.le_refl _) _⟩
theorem aP2 {W:World} {g n:Nat} (h:W.heap[g]? = some (.cells (slL (List.replicate n zSn)).toArray 253 (0,0))) (hn:n≤1000):W.ownsRow g 253 4 (.slice (some ⟨g,0,none⟩) n n) (List.replicate n zSn).length (slL (List.replicate n zSn)):=by
 have e:(List.replicate n zSn).length=n:=List.length_replicate ..
 refine⟨gX _,.inr ⟨g,n,_,by rw[e],Nat.le_refl _,h,by omega,by unfold maxLen;omega,by show (slL _).length=_;rw[gX,e],?_⟩⟩
 show (slL _).take _=_
 rw[List.take_of_length_le (by rw[gX];exact Nat.le_refl _)]
theorem aP3 {W:World} {g n:Nat} (h:W.heap[g]? = some (.cells (List.replicate n (Value.bool false)).toArray 4 (0,0))) (hn:n≤1000):W.ownsRow g 4 1 (.slice (some ⟨g,0,none⟩) n n) n (List.replicate n (Value.bool false)):=by
 refine⟨by simp,.inr ⟨g,n,_,rfl,Nat.le_refl _,h,by omega,by unfold maxLen;omega,by simp,?_⟩⟩
 rw[List.take_of_length_le (by simp)]
def rdC (n:Nat) (M:RM):List Value:=[.int .i64 n,.int .i64 M.readers,.string M.text,M.mv,.int .i64 M.number,.bool M.closed,M.bv,M.sv]
structure RBld (s:Nat) (W:World) (b n:Nat) (M:RM):Prop where
 blk:W.heap[b]? = some (.cells (rdC n M).toArray 178 (0,0))
 marks:MOwn W 0 M.mv M.marks
 subs:W.ownsRow s 4 1 M.bv n (List.replicate n (Value.bool false))
 snaps:W.ownsRow s 213 1 M.sv M.seats.length (rowL M.seats)
 slots:∀ S∈M.seats,W.ownsRow s 253 4 S.v S.sl.length (slL S.sl)
 smarks:∀ S∈M.seats,∀ x∈S.sl,MOwn W 0 x.mv x.s.marks
 some_:M.bv.ownBlock≠none∧∀ S∈M.seats,S.v.ownBlock≠none
 nosub:∀ S∈M.seats,S.sub=false
 nodup:(M.seats.map (·.v.ownBlock)).Nodup
theorem RBld.below {s:Nat} {W W':World} {b n:Nat} {M:RM} (h:RBld s W b n M) (hb:Below W.heap.size W W'):RBld s W' b n M :=
 ⟨(hb.block b (gAz h.blk).1).trans h.blk,aI h.marks hb,aI h.subs hb,aI h.snaps hb,fun S hS=>aI (h.slots S hS) hb,fun S hS x hx=>aI (h.smarks S hS x hx) hb,h.some_,h.nosub,h.nodup⟩
theorem wG:∀ (D:List SeM),(∀ S∈D,S.sub=false)→subL D=List.replicate D.length (Value.bool false)
 |[],_=>rfl
 |S::D,h=>by
  show Value.bool S.sub::subL D=_
  rw[h S (by simp),wG D (fun x hx=>h x (List.mem_cons_of_mem _ hx))];rfl
theorem RBld.rdAt {s:Nat} {W:World} {b n:Nat} {M:RM} (h:RBld s W b n M) (hn:M.seats.length=n):RdAt W b M:=by
 subst hn
 refine⟨h.blk,h.marks,?_,aV (Nat.zero_le _) h.snaps,fun S hS=>aV (Nat.zero_le _) (h.slots S hS),h.smarks,h.some_,h.nodup⟩
 rw[wG _ h.nosub]
 exact aV (Nat.zero_le _) h.subs
theorem wH {w:World} {B s n:Nat} {e:TypeId} {v:Value} {xs:List Value} (h:w.ownsRow B e s v n xs):∀ g,v.ownBlock=some g→∃ cs,w.heap[g]? = some (.cells cs e (0,0)):=by
 intro g hg
 rcases h.2 with⟨e1,_⟩ | ⟨g',_,cu,e1,_,hg',_⟩
 ·rw[e1] at hg;cases hg
 ·rw[e1] at hg;injection hg with hg;have hg2:g'=g:=hg;subst hg2;exact⟨cu,hg'⟩
theorem dV {w w':World} {B s n:Nat} {e:TypeId} {v:Value} {xs:List Value} (h:w.ownsRow B e s v n xs) (hk:∀ (k:Nat) (cs:Array Value),w.heap[k]? = some (Obj.cells cs e (0,0))→w'.heap[k]? = w.heap[k]?):w'.ownsRow B e s v n xs:=by
 refine⟨h.1,?_⟩
 rcases h.2 with hn | ⟨g,cap,cur,rfl,hB,hg,rest⟩
 ·exact .inl hn
 ·exact .inr ⟨g,cap,cur,rfl,hB,(hk g _ hg).trans hg,rest⟩
theorem RBld.push {s:Nat} {W w6:World} {b n:Nat} {M:RM} (h:RBld s W b n M) (S:SeM) (v6:Value) (o:Obj) (hsz:s≤W.heap.size-1)
  (hg6:(W.alloc o).grownBy w6 M.sv.ownBlock) (hn6:w6.ownsRow s 213 1 v6 (M.seats.length+1) (rowL M.seats++[S.v]))
  (hslot:W.ownsRow (W.heap.size-1) 253 4 S.v S.sl.length (slL S.sl)) (hold:∀ S'∈M.seats,∀ g,S'.v.ownBlock=some g→g<W.heap.size-1)
  (hsome:S.v.ownBlock≠none) (hsub:S.sub=false) (hsm:∀ x∈S.sl,MOwn W 0 x.mv x.s.marks) :
  RBld s (w6.setCell ⟨b,7,none⟩ v6) b n { M with sv:=v6,seats:=M.seats++[S] }:=by
 have hlt:∀ (k:Nat) (cs:Array Value) (e:TypeId),W.heap[k]? = some (Obj.cells cs e (0,0))→k<W.heap.size:=fun k cs e h=>(gAz h).1
 have hk6:∀ (k:Nat) (cs:Array Value) (e:TypeId),e≠213→W.heap[k]? = some (Obj.cells cs e (0,0))→w6.heap[k]? = W.heap[k]? := fun k cs e he hk=>by
  refine (hg6.block k (by have:=hlt _ _ _ hk;simp;omega) (fun hc => ?_)).trans (heap_alloc_old _ _ (hlt _ _ _ hk))
  obtain⟨cs2,h2⟩:=wH h.snaps k hc.symm
  rw[hk] at h2;injection h2 with h2;injection h2 with _ h2 _;exact he h2
 have hb6:=(hk6 b _ _ (by decide) h.blk).trans h.blk
 have hkf:∀ (e:TypeId),e≠213→e≠178→∀ (k:Nat) (cs:Array Value),W.heap[k]? = some (Obj.cells cs e (0,0))→(w6.setCell ⟨b,7,none⟩ v6).heap[k]? = W.heap[k]? := fun e he he2 k cs hk =>
  (aG _ _ _ _ (fun hkb=>by have hkb:k=b:=hkb;subst hkb;rw[h.blk] at hk;injection hk with hk;injection hk with _ h2 _;exact he2 h2.symm)).trans (hk6 k cs e he hk)
 refine⟨?_,dV h.marks (hkf _ (by decide) (by decide)),dV h.subs (hkf _ (by decide) (by decide)),?_,?_,?_,⟨h.some_.1,?_⟩,?_,?_⟩
 ·exact bZ hb6 7 v6
 ·show World.ownsRow _ s _ 1 v6 (M.seats++[S]).length (rowL (M.seats++[S]))
  rw[List.length_append,show rowL (M.seats++[S])=rowL M.seats++[S.v] from by simp[rowL]]
  exact aH hn6 hb6 (by decide) (fun k _ hk=>aG _ _ _ _ hk)
 ·intro S' hS'
  rcases List.mem_append.1 hS' with h1 | h1
  ·exact dV (h.slots S' h1) (hkf _ (by decide) (by decide))
  ·rw[List.mem_singleton.1 h1];exact dV (aV hsz hslot) (hkf _ (by decide) (by decide))
 ·intro S' hS' x hx
  rcases List.mem_append.1 hS' with h1 | h1
  ·exact dV (h.smarks S' h1 x hx) (hkf _ (by decide) (by decide))
  ·rw[List.mem_singleton.1 h1] at hx;exact dV (hsm x hx) (hkf _ (by decide) (by decide))
 ·intro S' hS'
  rcases List.mem_append.1 hS' with h1 | h1
  ·exact h.some_.2 S' h1
  ·rw[List.mem_singleton.1 h1];exact hsome
 ·intro S' hS'
  rcases List.mem_append.1 hS' with h1 | h1
  ·exact h.nosub S' h1
  ·rw[List.mem_singleton.1 h1];exact hsub
 ·show ((M.seats++[S]).map (·.v.ownBlock)).Nodup
  rw[List.map_append,List.nodup_append]
  refine⟨h.nodup,by simp,fun a ha c hc e => ?_⟩
  obtain⟨S',hS',rfl⟩:=List.mem_map.1 ha
  have hc2:c=S.v.ownBlock:=by simpa using hc
  rw[hc2] at e
  cases ho:S.v.ownBlock with
  |none=>exact hsome ho
  |some g =>
   rw[ho] at e
   have h1:=hold S' hS' g e
   have h2:=(World.ownsRow.lt hslot g ho).1
   omega
structure RCp (s:Nat) (W:World) (b n:Nat) (X:List Value) (M:RM):Prop where
 blk:W.heap[b]? = some (.cells (rdC n M).toArray 178 (0,0))
 marks:MOwn W 0 M.mv M.marks
 subs:W.ownsRow s 4 1 M.bv n X
 snaps:W.ownsRow s 213 1 M.sv M.seats.length (rowL M.seats)
 slots:∀ S∈M.seats,W.ownsRow s 253 4 S.v S.sl.length (slL S.sl)
 smarks:∀ S∈M.seats,∀ x∈S.sl,MOwn W 0 x.mv x.s.marks
 some_:M.bv.ownBlock≠none∧∀ S∈M.seats,S.v.ownBlock≠none
 nodup:(M.seats.map (·.v.ownBlock)).Nodup
theorem RCp.below {s:Nat} {W W':World} {b n:Nat} {X:List Value} {M:RM} (h:RCp s W b n X M) (hb:Below W.heap.size W W'):RCp s W' b n X M :=
 ⟨(hb.block b (gAz h.blk).1).trans h.blk,aI h.marks hb,aI h.subs hb,aI h.snaps hb,fun S hS=>aI (h.slots S hS) hb,fun S hS x hx=>aI (h.smarks S hS x hx) hb,h.some_,h.nodup⟩
theorem RCp.rdAt {s:Nat} {W:World} {b n:Nat} {X:List Value} {M:RM} (h:RCp s W b n X M) (hn:M.seats.length=n) (hX:X=subL M.seats):RdAt W b M:=by
 subst hn
 subst hX
 exact⟨h.blk,h.marks,aV (Nat.zero_le _) h.subs,aV (Nat.zero_le _) h.snaps,fun S hS=>aV (Nat.zero_le _) (h.slots S hS),h.smarks,h.some_,h.nodup⟩
theorem RCp.keep6 {s:Nat} {W w6:World} {b n:Nat} {X:List Value} {M:RM} (h:RCp s W b n X M) {o:Obj} (hg6:(W.alloc o).grownBy w6 M.sv.ownBlock) {k:Nat} {cs:Array Value} {e:TypeId} (he:e≠213) (hk:W.heap[k]? = some (Obj.cells cs e (0,0))):w6.heap[k]? = some (Obj.cells cs e (0,0)):=by
 have hlt:=(gAz hk).1
 refine ((hg6.block k (by simp;omega) (fun hc => ?_)).trans (heap_alloc_old _ _ hlt)).trans hk
 obtain⟨cs2,h2⟩:=wH h.snaps k hc.symm
 rw[hk] at h2;injection h2 with h2;injection h2 with _ h2 _;exact he h2
theorem RCp.push {s z:Nat} {W w6:World} {b n:Nat} {X:List Value} {M:RM} (h:RCp s W b n X M) (S:SeM) (v6:Value) (o:Obj) (hsz:s≤z)
  (hg6:(W.alloc o).grownBy w6 M.sv.ownBlock) (hn6:w6.ownsRow s 213 1 v6 (M.seats.length+1) (rowL M.seats++[S.v]))
  (hslot:W.ownsRow z 253 4 S.v S.sl.length (slL S.sl)) (hold:∀ S'∈M.seats,∀ g,S'.v.ownBlock=some g→g<z)
  (hsome:S.v.ownBlock≠none) (hsm:∀ x∈S.sl,MOwn W 0 x.mv x.s.marks) :
  RCp s (w6.setCell ⟨b,7,none⟩ v6) b n X { M with sv:=v6,seats:=M.seats++[S] }:=by
 have hlt:∀ (k:Nat) (cs:Array Value) (e:TypeId),W.heap[k]? = some (Obj.cells cs e (0,0))→k<W.heap.size:=fun k cs e h=>(gAz h).1
 have hk6:∀ (k:Nat) (cs:Array Value) (e:TypeId),e≠213→W.heap[k]? = some (Obj.cells cs e (0,0))→w6.heap[k]? = W.heap[k]? := fun k cs e he hk=>(h.keep6 hg6 he hk).trans hk.symm
 have hb6:=(hk6 b _ _ (by decide) h.blk).trans h.blk
 have hkf:∀ (e:TypeId),e≠213→e≠178→∀ (k:Nat) (cs:Array Value),W.heap[k]? = some (Obj.cells cs e (0,0))→(w6.setCell ⟨b,7,none⟩ v6).heap[k]? = W.heap[k]? := fun e he he2 k cs hk =>
  (aG _ _ _ _ (fun hkb=>by have hkb:k=b:=hkb;subst hkb;rw[h.blk] at hk;injection hk with hk;injection hk with _ h2 _;exact he2 h2.symm)).trans (hk6 k cs e he hk)
 refine⟨?_,dV h.marks (hkf _ (by decide) (by decide)),dV h.subs (hkf _ (by decide) (by decide)),?_,?_,?_,⟨h.some_.1,?_⟩,?_⟩
 ·exact bZ hb6 7 v6
 ·show World.ownsRow _ s _ 1 v6 (M.seats++[S]).length (rowL (M.seats++[S]))
  rw[List.length_append,show rowL (M.seats++[S])=rowL M.seats++[S.v] from by simp[rowL]]
  exact aH hn6 hb6 (by decide) (fun k _ hk=>aG _ _ _ _ hk)
 ·intro S' hS'
  rcases List.mem_append.1 hS' with h1 | h1
  ·exact dV (h.slots S' h1) (hkf _ (by decide) (by decide))
  ·rw[List.mem_singleton.1 h1];exact dV (aV hsz hslot) (hkf _ (by decide) (by decide))
 ·intro S' hS' x hx
  rcases List.mem_append.1 hS' with h1 | h1
  ·exact dV (h.smarks S' h1 x hx) (hkf _ (by decide) (by decide))
  ·rw[List.mem_singleton.1 h1] at hx;exact dV (hsm x hx) (hkf _ (by decide) (by decide))
 ·intro S' hS'
  rcases List.mem_append.1 hS' with h1 | h1
  ·exact h.some_.2 S' h1
  ·rw[List.mem_singleton.1 h1];exact hsome
 ·show ((M.seats++[S]).map (·.v.ownBlock)).Nodup
  rw[List.map_append,List.nodup_append]
  refine⟨h.nodup,by simp,fun a ha c hc e => ?_⟩
  obtain⟨S',hS',rfl⟩:=List.mem_map.1 ha
  have hc2:c=S.v.ownBlock:=by simpa using hc
  rw[hc2] at e
  cases ho:S.v.ownBlock with
  |none=>exact hsome ho
  |some g =>
   rw[ho] at e
   have h1:=hold S' hS' g e
   have h2:=(World.ownsRow.lt hslot g ho).1
   omega
theorem rcp7 {W:World} {b n:Nat} {M:RM} (h:W.heap[b]? = some (Obj.cells (rdC n M).toArray 178 (0,0))):W.cell? ⟨b,7,none⟩=some M.sv∧W.frozen? ⟨b,7,none⟩=false:=by
 constructor<;>simp[World.cell?,World.frozen?,h,rdC]
theorem wI (W:World) (T:TypeId) (s:Nat):(W.alloc (.cells #[] T)).ownsRow W.heap.size T s (.slice (some ⟨W.heap.size,0,none⟩) 0 0) 0 [] :=
 ⟨by simp,.inr ⟨W.heap.size,0,#[],rfl,Nat.le_refl _,heap_alloc_new W _,Nat.le_refl _,by unfold maxLen;omega,by simp,by simp⟩⟩
theorem tC {w:World} {B s n:Nat} {e:TypeId} {v:Value} {xs:List Value} (h:w.ownsRow B e s v n xs) (hv:v ≠ .slice none 0 0):v.ownBlock≠none:=by
 rcases h.2 with⟨e1,_⟩ | ⟨g,_,_,e1,_⟩
 ·exact absurd e1 hv
 ·rw[e1];simp[Value.ownBlock]
theorem aI2 (l:List SeM):∀ u∈subL l,u.oneCell'=true:=by
 intro u hu;obtain⟨S,_,rfl⟩:=List.mem_map.1 hu;rfl
theorem aMp (l:List SeM):(subL l).length=l.length:=by simp[subL]
end Go.Proofs.YtdeiocppghhfdaaGreat
