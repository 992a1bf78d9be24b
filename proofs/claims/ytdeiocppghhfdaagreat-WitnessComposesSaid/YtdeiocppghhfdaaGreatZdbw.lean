/- Texts, one behind another. -/
import Derived.Test.YtdeiocppghhfdaaGreatZdbv
import Derived.Laws.MakeOwn
set_option linter.unusedVariables false
set_option linter.unusedSimpArgs false
set_option maxRecDepth 100000
set_option maxHeartbeats 8000000
namespace Go.Proofs.YtdeiocppghhfdaaGreat
open Go.RowKit Go.Lib Go.Shelf
theorem aS2:(Tryz.prog.info? 47).map (fun i=>(i.zero,i.size,i.bytes))=some (some (.slice none 0 0),1,24):=by kernel_rfl
def JdI (w:World) (d:List PcV) (v i:Value) (wr:World):Prop :=
 ∃ (k:Nat) (L:List Value),i = .int .i64 k∧k≤d.length∧wr.ownsRow w.heap.size 47 1 v k L∧(∀ j p,d[j]? = some p→j<k→∃ g,w.heap.size≤g∧L[j]? = some (.slice (some ⟨g,0,none⟩) 1 1)∧wr.heap[g]? = some (.cells (pcL p).toArray 94 (0,0)))∧Below w.heap.size w wr
theorem aIo (a:Option Addr) (c:Nat) (d:List PcV) (w:World) (hr:PRow w a d) (hb:∀ p∈d,Bdp p) (hl:d.length≤8192) (hc:d.length≤c) :
  Calls Tryz.prog 112 #[.slice a d.length c] w fun e w'=>JnR w d e w'∧Below w.heap.size w w':=by
 obtain⟨i1,hi,hz0,hz1,hz2⟩:=info_parts aS2
 have HR:=Lib.hid hr
 have HB:=Lib.hid hb
 clear hr hb
 obtain⟨ROW,hROW⟩:∃ ROW:Array Value,ROW=madeCells (Value.cells (.slice none 0 0)) ((d.length:Int).toNat*i1.size):=⟨_,rfl⟩
 have hmk:=run_make (P := Tryz.prog) w 196 47 i1 _ Tryz.underlying196 hi hz0 .i64 .i64 0 d.length (Int.le_refl _) (by omega) (by rw[hz2];omega) (by omega)
 rw[← hROW,Int.toNat_natCast] at hmk
 have hRs:ROW.size=d.length*1:=by rw[hROW,size_madeCells,hz1,Int.toNat_natCast]
 have hw0:(w.alloc (.cells ROW 47)).ownsRow w.heap.size 47 1 (.slice (some ⟨w.heap.size,0,none⟩) 0 d.length) 0 []:=⟨rfl,.inr ⟨w.heap.size,d.length,ROW,rfl,Nat.le_refl _,heap_alloc_new w _,Nat.zero_le _,by unfold maxLen;omega,hRs,by simp⟩⟩
 have hB0:Below w.heap.size w (w.alloc (.cells ROW 47)):=(Below.refl _ _).alloc (Nat.le_refl _) _
 clear hROW
 go_enter Tryz.func112,Tryz.ntmps112
 go_wp2
 go_loopw [4,6,12,13,14,15,16,17,18,19,20,21] (fun v x6 i x13 x14 x15 x16 x17 x18 x19 x20 x21 wr=>JdI w d v i wr) (fun v x6 i x13 x14 x15 x16 x17 x18 x19 x20 x21 wr=>d.length-(intOf i).toNat)
 case atStart=>exact⟨0,[],rfl,Nat.zero_le _,hw0,fun j p _ hj=>by omega,hB0⟩
 case round =>
  obtain⟨k,L,rfl,hk,ho,hL,hB⟩:=hrel
  by_cases hlt:k<d.length
  ·have hp:d[k]? = some d[k]:=List.getElem?_eq_getElem hlt
   generalize d[k]=p at hp
   rcases HR.out with⟨_,h⟩ | ⟨b,off,rfl,hbl,hcell⟩
   ·rw[h] at hlt;simp at hlt
   have c0:wr.cell? ⟨b,off+(k*3+0),none⟩=some (.int .u8 p.kind):=by rw[hB.cell (p:=⟨b,off+(k*3+0),none⟩) hbl];exact hcell k p hp 0 _ rfl
   have c1:wr.cell? ⟨b,off+(k*3+1),none⟩=some (.int .i64 p.n):=by rw[hB.cell (p:=⟨b,off+(k*3+1),none⟩) hbl];exact hcell k p hp 1 _ rfl
   have c2:wr.cell? ⟨b,off+(k*3+2),none⟩=some (.string p.text):=by rw[hB.cell (p:=⟨b,off+(k*3+2),none⟩) hbl];exact hcell k p hp 2 _ rfl
   simp only[Nat.add_zero,← Nat.add_assoc] at c0 c1 c2
   have HL:=Lib.hid hL
   have Hp:=Lib.hid hp
   clear hcell hp hL
   have hsz:=hB.size
   have hlw:=hsz
   have hB3:=((hB.alloc hB.size (.cells #[.int .u8 p.kind,.int .i64 p.n,.string p.text] 94)).alloc (by simp;omega) (.cells #[.int .u8 p.kind,.int .i64 p.n,.string p.text] 94)).alloc (by simp;omega) (.cells #[.slice (some ⟨wr.heap.size+1,0,none⟩) 1 1] 47)
   have hnew:=fC ((wr.alloc (.cells #[.int .u8 p.kind,.int .i64 p.n,.string p.text] 94)).alloc (.cells #[.int .u8 p.kind,.int .i64 p.n,.string p.text] 94)) [.slice (some ⟨wr.heap.size+1,0,none⟩) 1 1] 47
   rw[World.size_alloc,World.size_alloc] at hnew
   have Hnew:=Lib.hid hnew
   clear hnew
   go_wp2_with (at_builtin;refine wpList_append_own _ rfl _ _ 196 rfl w.heap.size 47 i1 _ 1 24 Tryz.underlying196 hi hz0 hz1 hz2 rfl (by decide) _ _ _ rfl (((ho.alloc _).alloc _).alloc _) ⟨_,0,none⟩ 1 1 [.slice (some ⟨wr.heap.size+1,0,none⟩) 1 1] rfl rfl (by first | exact Hnew.out | (intro j u hj;exact Hnew.out j u hj)) (by intro u hu;rw[List.mem_singleton.1 hu];rfl) (by unfold maxLen;omega) (by omega) (by simp;omega) ?_;intro v2 w2 ho2 hg2 _;obtain⟨ao2,cp2,rfl⟩:=aF ho2)
   go_roundw
   case rel =>
    have hLl:L.length=k:=by simpa using ho.1
    refine⟨k+1,L++[.slice (some ⟨wr.heap.size+1,0,none⟩) 1 1],by go_num,by omega,ho2,fun j q hq hj => ?_,hB3.grown hg2 hB3.size (fun q hq=>(ho.lt q hq).1)⟩
    by_cases hjk:j<k
    ·obtain⟨g,g1,g2,g3⟩:=HL.out j q hq hjk
     have hgl:=(Array.getElem?_eq_some_iff.1 g3).1
     refine⟨g,g1,by rw[List.getElem?_append_left (by omega)];exact g2,?_⟩
     refine (hg2.block g (by simp;omega) (own_ne ho g3 (by decide))).trans ?_
     exact (heap_alloc_old _ _ (by simp;omega)).trans ((heap_alloc_old _ _ (by simp;omega)).trans ((heap_alloc_old _ _ hgl).trans g3))
    ·obtain rfl:j=k:=by omega
     have hqp:p=q:=by have:=Hp.out.symm.trans hq;injection this
     subst hqp
     refine⟨wr.heap.size+1,by omega,by rw[List.getElem?_append_right (by omega),hLl,Nat.sub_self];rfl,?_⟩
     refine (hg2.block (wr.heap.size+1) (by simp) (fun e=>by have:=(ho.lt _ e.symm).2;omega)).trans ?_
     refine (heap_alloc_old _ _ (by simp)).trans ?_
     have:=heap_alloc_new (wr.alloc (.cells #[.int .u8 p.kind,.int .i64 p.n,.string p.text] 94)) (.cells #[.int .u8 p.kind,.int .i64 p.n,.string p.text] 94)
     rw[World.size_alloc] at this
     exact this
   case measure=>simp[intOf];omega
  ·have hkl:k=d.length:=by omega
   subst hkl
   obtain⟨ao,cp,rfl⟩:=aF ho
   have hLR:d.length≤cp∧LRow wr ao d:=by
    rcases ho.2 with⟨h1,h2⟩ | ⟨g,cap,cur,h1,hBg,hg,hnc,_⟩
    ·exact⟨by omega,.inl (List.eq_nil_of_length_eq_zero (by omega))⟩
    ·injection h1 with h1 _ h3
     subst h1;subst h3
     refine⟨hnc,.inr ⟨g,0,rfl,(Array.getElem?_eq_some_iff.1 hg).1,fun j q hq => ?_⟩⟩
     obtain⟨g2,g1,g3,g4⟩:=hL j q hq (List.getElem?_eq_some_iff.1 hq).1
     obtain⟨q0,q1,q2⟩:=iC g4
     have hc:=ho.cells (g:=g) rfl j _ g3
     rw[Addr.add_lit] at hc
     exact⟨g2,(Array.getElem?_eq_some_iff.1 g4).1,hc,q0,q1,q2⟩
   go_wp2_with fail
   refine (aO1 ao cp d wr hLR.2 HB.out hl hLR.1).mono ?_
   rintro e w1 ⟨⟨hz,v,rfl,ho1⟩ | ⟨hz,rfl⟩,hB1⟩
   ·obtain⟨ao1,cp1,rfl⟩:=aF ho1
    go_wp2
    go_returns
    exact⟨.inl ⟨hz,_,rfl,gP hB.size ho1⟩,hB.trans (hB1.mono hB.size)⟩
   ·go_wp2
    go_returns
    exact⟨.inr ⟨hz,rfl⟩,hB.trans (hB1.mono hB.size)⟩
end Go.Proofs.YtdeiocppghhfdaaGreat
namespace Go.Proofs.YtdeiocppghhfdaaGreat
open Go.RowKit Go.Lib Go.Shelf
def CsR (w:World) (a b:List PcV) (e:Ending) (w':World):Prop:=((cmpR a b).2=0∧∃ v,e = .returned (.tuple #[v,.int .i64 0])∧w'.ownsRow w.heap.size 94 3 v (cmpR a b).1.length (pcsL (cmpR a b).1))∨((cmpR a b).2=5∧e = .returned (.tuple #[.slice none 0 0,.int .i64 5]))
theorem aGz (a0 a1:Option Addr) (c0 c1:Nat) (d0 d1:List PcV) (w:World) (h0:PRow w a0 d0) (h1:PRow w a1 d1) (hn0:a0=none→c0=0) (hn1:a1=none→c1=0) (hk0:(lenS d0).2.2=0) (hk1:(lenS d1).2.2=0) (hio:outS d0=inS d1) :
  Calls Tryz.prog 58 #[.slice a0 d0.length c0,.slice a1 d1.length c1] w fun e w'=>CsR w d0 d1 e w'∧Below w.heap.size w w':=by
 obtain⟨l0,v0⟩:=(nX d0).1 hk0
 obtain⟨l1,v1⟩:=(nX d1).1 hk1
 have hL0:=fun W (h:PRow W a0 d0)=>lZ a0 c0 d0 W h (by omega)
 have hL1:=fun W (h:PRow W a1 d1)=>lZ a1 c1 d1 W h (by omega)
 rw[wQ hk0] at hL0
 rw[wQ hk1] at hL1
 have b0:=aR1 v0
 have b1:=aR1 v1
 have hcb:=aJq (d0.length+d1.length) d0 d1 b0 b1
 have hio2:(outS d0 != inS d1)=false:=by simp[hio]
 have H0:=Lib.hid h0
 have H1:=Lib.hid h1
 have HB0:=Lib.hid b0
 have HB1:=Lib.hid b1
 have Hcb:=Lib.hid hcb
 have Hio:=Lib.hid hio
 have hcl:(pW d0 d1).length≤8192:=by have:=hcb.2;unfold pW;omega
 generalize hi1:inS d1=i1 at *
 generalize ho0:outS d0=o0 at *
 clear h0 h1 b0 b1 hcb v0 v1 hio hi1 ho0
 go_enter Tryz.func58,Tryz.ntmps58
 go_wp2_with fail
 refine (hL0 _ H0.out).mono ?_
 rintro e w1 ⟨rfl,hB1⟩
 go_wp2_with fail
 refine (hL1 _ (H1.out.on hB1)).mono ?_
 rintro e w2 ⟨rfl,hB2⟩
 have hB2:=hB1.trans (hB2.mono hB1.size)
 go_wp2_with fail
 refine (aEd a0 a1 c0 c1 d0 d1 w2 (H0.out.on hB2) (H1.out.on hB2) HB0.out HB1.out l0 l1 hn0 hn1).mono ?_
 rintro e w3 ⟨v3,rfl,ho3,hB3⟩
 obtain⟨ao3,cp3,rfl⟩:=aF ho3
 obtain⟨hp3,hcp3⟩:=nR rfl ho3
 have hB3:=hB2.trans (hB3.mono hB2.size)
 go_wp2_with fail
 refine (aIo ao3 cp3 (pW d0 d1) w3 hp3 Hcb.out.1 hcl hcp3).mono ?_
 rintro e w4 ⟨⟨hz,v,rfl,ho4⟩ | ⟨hz,rfl⟩,hB4⟩
 ·obtain⟨ao4,cp4,rfl⟩:=aF ho4
  have he:cmpR d0 d1=(nfS (pW d0 d1),0):=if_pos hz
  go_wp2
  go_returns
  refine⟨.inl ⟨by rw[he],_,rfl,?_⟩,hB3.trans (hB4.mono hB3.size)⟩
  rw[he]
  exact gP hB3.size ho4
 ·have he:cmpR d0 d1=([],5):=if_neg hz
  go_wp2
  go_returns
  exact⟨.inr ⟨by rw[he],rfl⟩,hB3.trans (hB4.mono hB3.size)⟩
end Go.Proofs.YtdeiocppghhfdaaGreat
