/- Texts, one behind another. -/
import Derived.Test.YtdeiocppghhfdaaGreatZfag
set_option linter.unusedVariables false
set_option linter.unusedSimpArgs false
set_option maxRecDepth 100000
set_option maxHeartbeats 40000000
namespace Go.Proofs.YtdeiocppghhfdaaGreat
open Go.RowKit Go.Lib Go.Shelf
structure FS where
 out:List PcV
 tx:List UInt8
 gone:Int
def kK (s:FS) (p:PcV):FS:=if p.kind=2 then { s with tx:=s.tx++p.text.data.toList } else if p.kind=3 then { s with gone:=s.gone+p.n } else⟨jI s.out s.tx s.gone++[p],[],0⟩
def finF:List PcV→FS→List PcV
 |[],s=>jI s.out s.tx s.gone
 |p::ps,s=>finF ps (kK s p)
def okF:List PcV→FS→Prop
 |[],s=>s.tx=[]∨s.gone=0
 |p::ps,s=>(p.kind≠2→p.kind≠3→(s.tx=[]∨s.gone=0)∧∀ q,(jI s.out s.tx s.gone).getLast? = some q→q.kind≠1)∧okF ps (kK s p)
theorem aD5 (out:List PcV) (tx:List UInt8) (gone:Int):(jI out tx gone).length≤out.length+2:=by
 unfold jI rR rQ;(repeat' split)<;>simp
theorem aV {w:World} {B B' s n:Nat} {e:TypeId} {v:Value} {xs:List Value} (h:B≤B') (ho:w.ownsRow B' e s v n xs):w.ownsRow B e s v n xs:=by
 refine⟨ho.1,?_⟩
 rcases ho.2 with hn | ⟨g,cap,cur,rfl,hB,rest⟩
 ·exact .inl hn
 ·exact .inr ⟨g,cap,cur,rfl,Nat.le_trans h hB,rest⟩
theorem cZ {w:World} {b:Nat} {u v x:Value} {T:TypeId} (h:w.heap[b]? = some (.cells #[u,v,x] T (0,0))):w.cell? ⟨b,0,none⟩=some u∧w.cell? ⟨b,1,none⟩=some v∧w.cell? ⟨b,2,none⟩=some x:=by
 refine⟨?_,?_,?_⟩<;>simp[World.cell?,h]
theorem aKh {w:World} {B:Nat} {v:Value} {F:List PcV} {q:PcV} (h:w.ownsRow B 94 3 v F.length (pcsL F)) (hq:F[F.length-1]? = some q):∃ g cp,v = .slice (some ⟨g,0,none⟩) F.length cp∧w.cell? ⟨g,(F.length-1)*3,none⟩=some (.int .u8 q.kind):=by
 have hpos:0<F.length:=by have:=(gLz hq).1;omega
 rcases h.2 with⟨_,h0⟩ | ⟨g,cap,cur,rfl,hB,hg,h1,h2,h3,h4⟩
 ·omega
 ·refine⟨g,cap,rfl,?_⟩
  have h5:=aA8 F (F.length-1) 0 (by omega)
  rw[hq] at h5
  have h6:(pcsL F)[(F.length-1)*3+0]? = some (.int .u8 q.kind):=h5
  rw[← h4,List.getElem?_take,if_pos (by omega),Nat.add_zero] at h6
  simp only[World.cell?,hg]
  simpa using h6
def FoI (w:World) (ps:List PcV) (i:Value) (wr:World):Prop :=
 ∃ (k:Nat) (s:FS),i = .int .i64 k∧k≤ps.length∧okF (ps.drop k) s∧finF (ps.drop k) s=finF ps ⟨[],[],0⟩∧FSt wr w.heap.size (w.heap.size+1) w.heap.size (w.heap.size+1+1) s.out s.tx s.gone∧0≤s.gone∧s.gone≤k*1048576∧s.tx.length≤k*1048576∧s.out.length≤k*3∧Below w.heap.size w wr
theorem aKi (a:Option Addr) (c:Nat) (ps:List PcV) (w:World) (hr:PRow w a ps) (hs:ps.length≤4096) (hc:ps.length≤c) (hok:okF ps ⟨[],[],0⟩) (hn:∀ p∈ps,0≤p.n∧p.n≤1048576∧p.text.size≤1048576) :
  Calls Tryz.prog 214 #[.slice a ps.length c] w fun e w'=>∃ v,e = .returned v∧w'.ownsRow w.heap.size 94 3 v (finF ps ⟨[],[],0⟩).length (pcsL (finF ps ⟨[],[],0⟩))∧Below w.heap.size w w':=by
 obtain⟨i0,hi,hz0,hz1,hz2⟩:=info_parts sH
 have HRow:=Lib.hid hr;clear hr
 have HN:=Lib.hid hn;clear hn
 have HO:=Lib.hid hok;clear hok
 go_enter Tryz.func214,Tryz.ntmps214
 go_wp2
 go_loopw [8,9,13,14,15,16,17,18,19,20,21,22,23,24,25,26,27,28,29,30,31,32,33,34,35,36,37,38,39,40,41,42,43,44,45,46,47,48,49,50,51,52,53,54,55,56,57,58,59,60] (fun x8 x9 i x14 x15 x16 x17 x18 x19 x20 x21 x22 x23 x24 x25 x26 x27 x28 x29 x30 x31 x32 x33 x34 x35 x36 x37 x38 x39 x40 x41 x42 x43 x44 x45 x46 x47 x48 x49 x50 x51 x52 x53 x54 x55 x56 x57 x58 x59 x60 wr=>FoI w ps i wr) (fun x8 x9 i x14 x15 x16 x17 x18 x19 x20 x21 x22 x23 x24 x25 x26 x27 x28 x29 x30 x31 x32 x33 x34 x35 x36 x37 x38 x39 x40 x41 x42 x43 x44 x45 x46 x47 x48 x49 x50 x51 x52 x53 x54 x55 x56 x57 x58 x59 x60 wr=>ps.length-(intOf i).toNat)
 case atStart =>
  refine⟨0,⟨[],[],0⟩,rfl,by omega,HO.out,rfl,⟨.inl ⟨by omega,.slice none 0 0,?_,⟨by simp[Lib.byteCells],.inl ⟨rfl,by simp[Lib.byteCells]⟩⟩,by simp[Value.ownBlock]⟩,⟨.slice none 0 0,?_,World.ownsRow_nil _ _ _ _⟩,?_⟩,by simp,by simp,by simp,by simp,(((Below.refl _ w).alloc (Nat.le_refl _) _).alloc (by simp) _).alloc (by simp;omega) _⟩
  ·have:=heap_alloc_new (w.alloc (.cells #[.slice none 0 0] 47)) (.cells #[.pointer none,.slice none 0 0] 205)
   rw[World.size_alloc] at this
   exact (heap_alloc_old _ _ (by simp)).trans this
  ·exact (heap_alloc_old _ _ (by simp;omega)).trans ((heap_alloc_old _ _ (by simp)).trans (heap_alloc_new w _))
  ·have:=heap_alloc_new ((w.alloc (.cells #[.slice none 0 0] 47)).alloc (.cells #[.pointer none,.slice none 0 0] 205)) (.cells #[.int .i64 0] 3)
   simpa using this
 case round =>
  obtain⟨k,s,rfl,hk,hok,hfin,hF,hg0,hg1,htx,hol,hB⟩:=hrel
  have HOK:=Lib.hid hok;clear hok
  have HFIN:=Lib.hid hfin;clear hfin
  by_cases hlt:k<ps.length
  ·have hp:ps[k]? = some ps[k]:=gEz hlt
   have hmem:ps[k]∈ps:=List.getElem_mem hlt
   have hdr:ps.drop k=ps[k]::ps.drop (k+1):=List.drop_eq_getElem_cons hlt
   generalize ps[k]=p at hp hmem hdr
   obtain⟨hn0,hn1,hn2⟩:=HN.out p hmem
   have hok':=HOK.out
   have hfin':=HFIN.out
   rw[hdr] at hok' hfin'
   obtain⟨hcond,hok'⟩:=hok'
   have Hok':=Lib.hid hok';have Hfin':=Lib.hid hfin';have Hcond:=Lib.hid hcond
   clear hok' hfin' hcond hdr hmem
   rcases HRow.out with⟨_,h⟩ | ⟨b,off,rfl,hb,hcell⟩
   ·rw[h] at hlt;simp at hlt
   have c0:wr.cell? ⟨b,off+(k*3+0),none⟩=some (.int .u8 p.kind):=by rw[hB.cell (p:=⟨b,off+(k*3+0),none⟩) hb];exact hcell k p hp 0 _ rfl
   have c1:wr.cell? ⟨b,off+(k*3+1),none⟩=some (.int .i64 p.n):=by rw[hB.cell (p:=⟨b,off+(k*3+1),none⟩) hb];exact hcell k p hp 1 _ rfl
   have c2:wr.cell? ⟨b,off+(k*3+2),none⟩=some (.string p.text):=by rw[hB.cell (p:=⟨b,off+(k*3+2),none⟩) hb];exact hcell k p hp 2 _ rfl
   simp only[Nat.add_zero,← Nat.add_assoc] at c0 c1 c2
   clear hcell
   obtain⟨hb0,hd0,hgb⟩:=hF
   have hpn:=heap_alloc_new wr (.cells #[.int .u8 p.kind,.int .i64 p.n,.string p.text] 94)
   have hBp:=hB.alloc hB.size (.cells #[.int .u8 p.kind,.int .i64 p.n,.string p.text] 94)
   have hgl:=(gAz hgb).1
   have hFp:FSt (wr.alloc (.cells #[.int .u8 p.kind,.int .i64 p.n,.string p.text] 94)) w.heap.size (w.heap.size+1) w.heap.size (w.heap.size+1+1) s.out s.tx s.gone:=by
    obtain⟨v,hv,ho⟩:=hd0
    exact⟨hb0.alloc _,⟨v,(heap_alloc_old _ _ (gAz hv).1).trans hv,ho.alloc _⟩,(heap_alloc_old _ _ hgl).trans hgb⟩
   by_cases hk2:p.kind=2
   ·have hst:kK s p={ s with tx:=s.tx++p.text.data.toList }:=if_pos hk2
    have Hst:=Lib.hid hst;clear hst
    have e2:(p.kind == 2)=true:=by simpa using hk2
    rw[hk2] at hpn hBp hFp
    obtain⟨cbs,hbb⟩:=BuF.blk hFp.1
    go_wp2_with (go_at_call 171;refine (aR8 w.heap.size _ _ p.text _ hFp.1 (by rw[Lib.byteCells_length];omega) (by have:=hB.size;simp;omega)).mono ?_;rintro e w1 ⟨rfl,hb1,hB1,hk1⟩)
    go_roundw
    case rel =>
     refine⟨k+1,kK s p,by go_num,by omega,Hok'.out,Hfin'.out,?_⟩
     rw[Hst.out]
     refine⟨⟨?_,hFp.2.1.kept hk1 hbb,iO hk1 hbb hFp.2.2 (by decide) (by decide)⟩,hg0,by dsimp only;omega,by simp;omega,by dsimp only;omega,hBp.trans hB1⟩
     rw[Lib.strCells_eq] at hb1
     rw[Lib.byteCells_append]
     exact hb1
    case measure=>simp[intOf];omega
   ·by_cases hk3:p.kind=3
    ·have hst:kK s p={ s with gone:=s.gone+p.n }:=by unfold kK;rw[if_neg hk2,if_pos hk3]
     have Hst:=Lib.hid hst;clear hst
     have e2:(p.kind == 2)=false:=by simpa using hk2
     have e3:(p.kind == 3)=true:=by simpa using hk3
     rw[hk3] at hBp
     obtain⟨cg0,fg0⟩:=box1 hgb
     have hz:IntKind.i64.wrap (s.gone+p.n)=s.gone+p.n:=IntWalk.i64_in _ (by omega)
     go_wp2
     go_roundw
     case rel =>
      refine⟨k+1,kK s p,by go_num,by omega,Hok'.out,Hfin'.out,?_⟩
      rw[Hst.out]
      obtain⟨v,hv,ho⟩:=hd0
      have hsz:(wr.setCell ⟨w.heap.size+1+1,0,none⟩ (.int .i64 (s.gone+p.n))).heap.size=wr.heap.size:=by simp[World.setCell]
      have hlv:=(gAz hv).1
      have h2:(wr.setCell ⟨w.heap.size+1+1,0,none⟩ (.int .i64 (s.gone+p.n))).heap[w.heap.size]? = some (.cells #[v] 47 (0,0)):=(kJ hgb hv (by decide) _).trans hv
      have h3:=nO (u := .int .i64 (s.gone+p.n)) hgb
      have h4:(wr.setCell ⟨w.heap.size+1+1,0,none⟩ (.int .i64 (s.gone+p.n))).ownsRow w.heap.size 94 3 v s.out.length (pcsL s.out):=aN2 ho hgb (by decide) _
      refine⟨⟨(hb0.same (dN.set hgb (by decide) (by decide) _)).alloc _,⟨v,(heap_alloc_old _ _ (by rw[hsz];exact hlv)).trans h2,h4.alloc _⟩,(heap_alloc_old _ _ (by rw[hsz];exact hgl)).trans h3⟩,by show 0≤s.gone+p.n;omega,by show s.gone+p.n≤((k+1:Nat):Int)*1048576;omega,Nat.le_trans htx (Nat.mul_le_mul_right _ (Nat.le_succ k)),Nat.le_trans hol (Nat.mul_le_mul_right _ (Nat.le_succ k)),(hB.setCell (p:=⟨w.heap.size+1+1,0,none⟩) (show w.heap.size≤w.heap.size+1+1 by omega) _).alloc (by rw[hsz];exact hB.size) _⟩
     case measure=>simp[intOf];omega
    ·have hst:kK s p=⟨jI s.out s.tx s.gone++[p],[],0⟩:=by unfold kK;rw[if_neg hk2,if_neg hk3]
     have Hst:=Lib.hid hst;clear hst
     have e2:(p.kind == 2)=false:=by simpa using hk2
     have e3:(p.kind == 3)=false:=by simpa using hk3
     obtain⟨hc1,hc2⟩:=Hcond.out hk2 hk3
     have hfl:=aD5 s.out s.tx s.gone
     have fl:=xR w.heap.size (w.heap.size+1) w.heap.size (w.heap.size+1+1) s.out s.tx s.gone _ hFp hc1 hg0 (by omega) (by omega) (by omega) hBp.size
     generalize jI s.out s.tx s.gone=F at *
     obtain⟨v0,hv0,ho0⟩:=hFp.2.1
     have hpne:some wr.heap.size≠v0.ownBlock:=by
      obtain⟨v,hv,ho⟩:=hd0
      rw[heap_alloc_old _ _ (gAz hv).1,hv] at hv0
      have hv0:v=v0:=by injection hv0 with hv0;injection hv0 with hv0 _ _;injection hv0 with h0;injection h0
      subst hv0
      intro h
      have:=(ho.lt _ h.symm).2
      omega
     rcases hlast:F.getLast? with _ | q
     ·have hF0:F=[]:=List.getLast?_eq_none_iff.1 hlast
      subst hF0
      go_wp2_with (first | (go_at_call 258;refine fl.mono ?_;rintro e w1 ⟨rfl,hF1,hB1,hP1⟩;have hp1:=(hP1 _ _ _ hpn hv0 hpne).trans hpn;obtain⟨hb1,⟨v1,hv1,ho1⟩,hg1'⟩:=hF1;obtain⟨ao,cp,rfl⟩:=aC ho1;obtain⟨hcv1,hfv1⟩:=box1 hv1;obtain⟨q0,q1,q2⟩:=cZ hp1;have hl1:=(gAz hv1).1;have hlg1:=(gAz hg1').1) | (at_builtin;refine wpList_append_own _ rfl _ _ 47 rfl w.heap.size 94 i0 _ 3 32 Tryz.underlying47 hi hz0 hz1 hz2 rfl (by decide) _ _ _ rfl (ho1.alloc _) ⟨_,0,none⟩ 1 1 (pcL p) rfl rfl (aW _ _ _) (dJ _) (by unfold maxLen;simp) (by simp) (by have:=(hBp.trans hB1).size;simp;omega) ?_;intro v' w3 hown' hgrow _;obtain⟨ao',cp',rfl⟩:=aC hown';have hb3:=(hgrow.block w.heap.size (by simp;omega) (own_ne ho1 hv1 (by decide))).trans ((heap_alloc_old _ _ hl1).trans hv1);obtain⟨hc3,hf3⟩:=box1 hb3;have hg3:=(hgrow.block (w.heap.size+1+1) (by simp;omega) (own_ne ho1 hg1' (by decide))).trans ((heap_alloc_old _ _ hlg1).trans hg1')))
      go_roundw
      case rel =>
       refine⟨k+1,kK s p,by go_num,by omega,Hok'.out,Hfin'.out,?_⟩
       rw[Hst.out]
       have hbx:=(hBp.trans hB1).size
       have hrv:=uW hb3 hown' (by decide)
       have hs:=((dN.alloc w1 _).trans (dN.grown hgrow (ho1.alloc _) (by decide) (by decide))).trans (dN.set hb3 (by decide) (by decide) (.slice ao' (([]:List PcV).length+1) cp'))
       have hB4:=(((hBp.trans hB1).alloc hbx (.cells (pcL p).toArray 94)).grown hgrow (by simp;omega) (fun k hk=>(ho1.lt k hk).1)).setCell (p:=⟨w.heap.size,0,none⟩) (Nat.le_refl _) (.slice ao' (([]:List PcV).length+1) cp')
       refine⟨⟨BuF.same hb1 hs,⟨.slice ao' (([]:List PcV).length+1) cp',hrv.1,?_⟩,(kJ hb3 hg3 (by decide) _).trans hg3⟩,by simp,by dsimp only;omega,by simp,by simp at *;omega,hB4⟩
       rw[List.length_append,jF]
       exact hrv.2
      case measure=>simp[intOf];omega
     ·have hq:=hc2 q hlast
      have hne0:F≠[]:=fun h=>by rw[h] at hlast;simp at hlast
      have hF0:0<F.length:=List.length_pos_iff.2 hne0
      have hgl2:F[F.length-1]? = some q:=by rw[← hlast,List.getLast?_eq_getElem?]
      have d1:decide ((0:Int)<(F.length:Int))=true:=by simp;omega
      have d2:(q.kind == 1)=false:=by simpa using hq
      have d3:(F.length:Int)-1=((F.length-1:Nat):Int):=by omega
      have Hlast:=Lib.hid hlast;clear hlast
      go_wp2_with (first | (go_at_call 258;refine fl.mono ?_;rintro e w1 ⟨rfl,hF1,hB1,hP1⟩;have hp1:=(hP1 _ _ _ hpn hv0 hpne).trans hpn;obtain⟨hb1,⟨v1,hv1,ho1⟩,hg1'⟩:=hF1;obtain⟨g,cp,rfl,hq0⟩:=aKh ho1 hgl2;obtain⟨hcv1,hfv1⟩:=box1 hv1;obtain⟨q0,q1,q2⟩:=cZ hp1;have hl1:=(gAz hv1).1;have hlg1:=(gAz hg1').1) | (at_builtin;refine wpList_append_own _ rfl _ _ 47 rfl w.heap.size 94 i0 _ 3 32 Tryz.underlying47 hi hz0 hz1 hz2 rfl (by decide) _ _ _ rfl (ho1.alloc _) ⟨_,0,none⟩ 1 1 (pcL p) rfl rfl (aW _ _ _) (dJ _) (by unfold maxLen;omega) (by omega) (by have:=(hBp.trans hB1).size;simp;omega) ?_;intro v' w3 hown' hgrow _;obtain⟨ao',cp',rfl⟩:=aC hown';have hb3:=(hgrow.block w.heap.size (by simp;omega) (own_ne ho1 hv1 (by decide))).trans ((heap_alloc_old _ _ hl1).trans hv1);obtain⟨hc3,hf3⟩:=box1 hb3;have hg3:=(hgrow.block (w.heap.size+1+1) (by simp;omega) (own_ne ho1 hg1' (by decide))).trans ((heap_alloc_old _ _ hlg1).trans hg1')))
      go_roundw
      case rel =>
       refine⟨k+1,kK s p,by go_num,by omega,Hok'.out,Hfin'.out,?_⟩
       rw[Hst.out]
       have hbx:=(hBp.trans hB1).size
       have hrv:=uW hb3 hown' (by decide)
       have hs:=((dN.alloc w1 _).trans (dN.grown hgrow (ho1.alloc _) (by decide) (by decide))).trans (dN.set hb3 (by decide) (by decide) (.slice ao' (F.length+1) cp'))
       have hB4:=(((hBp.trans hB1).alloc hbx (.cells (pcL p).toArray 94)).grown hgrow (by simp;omega) (fun k hk=>(ho1.lt k hk).1)).setCell (p:=⟨w.heap.size,0,none⟩) (Nat.le_refl _) (.slice ao' (F.length+1) cp')
       refine⟨⟨BuF.same hb1 hs,⟨.slice ao' (F.length+1) cp',hrv.1,?_⟩,(kJ hb3 hg3 (by decide) _).trans hg3⟩,by simp,by dsimp only;omega,by simp,by simp at *;omega,hB4⟩
       rw[List.length_append,jF]
       exact hrv.2
      case measure=>simp[intOf];omega
  ·have hdn:ps.drop k=[]:=List.drop_eq_nil_of_le (by omega)
   have hok':=HOK.out
   have hfin':=HFIN.out
   rw[hdn] at hok' hfin'
   have hfin':=Lib.hid (show jI s.out s.tx s.gone=finF ps ⟨[],[],0⟩ from hfin')
   have hok':=Lib.hid (show s.tx=[]∨s.gone=0 from hok')
   go_wp2_with (go_at_call 258;refine (xR w.heap.size _ _ _ s.out s.tx s.gone _ hF hok'.out hg0 (by omega) (by omega) (by omega) hB.size).mono ?_;rintro e w1 ⟨rfl,hF1,hB1,_⟩;obtain⟨hb1,⟨v1,hv1,ho1⟩,hg1'⟩:=hF1;obtain⟨ao,cp,rfl⟩:=aC ho1;obtain⟨hcv1,hfv1⟩:=box1 hv1)
   go_returns
   rw[← hfin'.out]
   exact⟨_,rfl,ho1,hB.trans hB1⟩
theorem wX (a:Option Addr) (c:Nat) (ps:List PcV) (w:World) (hr:PRow w a ps) (hs:ps.length≤4096) (hc:ps.length≤c) (hok:okF ps ⟨[],[],0⟩) (hn:∀ p∈ps,0≤p.n∧p.n≤1048576∧p.text.size≤1048576) (hl:(lenS ps).2.2=0) :
  Calls Tryz.prog 277 #[.slice a ps.length c] w fun e w'=>∃ v,e = .returned (.tuple #[v,.int .i64 0])∧w'.ownsRow w.heap.size 94 3 v (finF ps ⟨[],[],0⟩).length (pcsL (finF ps ⟨[],[],0⟩))∧Below w.heap.size w w':=by
 have h1:=aD1 a c ps w hr (by omega) hc
 rw[hl] at h1
 have h2:=fun w2 (hB:Below w.heap.size w w2)=>aKi a c ps w2 (hr.on hB) hs hc hok hn
 have hl:=Lib.hid hl;have hok:=Lib.hid hok;have hn:=Lib.hid hn;have hr:=Lib.hid hr
 go_enter Tryz.func277,Tryz.ntmps277
 go_wp2_with (first | (go_at_call 213;refine h1.mono ?_;rintro e w1 ⟨rfl,hB1⟩) | (go_at_call 214;refine (h2 _ hB1).mono ?_;rintro e w2 ⟨v,rfl,ho,hB2⟩;obtain⟨ao,cp,rfl⟩:=aC ho))
 go_returns
 exact⟨_,rfl,aV hB1.size ho,hB1.trans (hB2.mono hB1.size)⟩
theorem aN3 (n at_ k:Int) (t:ByteArray):putS (putS (putS (putS [] ⟨1,at_,⟨#[]⟩⟩) ⟨2,0,t⟩) ⟨3,k,⟨#[]⟩⟩) ⟨1,n-at_-k,⟨#[]⟩⟩=repD n at_ k t:=by
 have e0:(⟨#[]⟩:ByteArray).size=0:=rfl
 unfold putS repD
 simp only[e0,ne_eq,not_true,or_false,Int.lt_irrefl,false_or]
 (repeat' split)<;>simp
theorem uX (n at_ k:Int) (t:ByteArray):(repD n at_ k t).length≤4:=by
 unfold repD;(repeat' split)<;>simp
theorem uY (d:List PcV) (p:PcV):(putS d p).length≤d.length+1:=by unfold putS;split<;>simp
def iP (n at_ k:Int) (t:ByteArray):Prop:=0≤at_∧0≤k∧at_+k≤n∧n≤100000∧t.size≤100000∧((k=0∧t.size≠0)∨(0<k∧t.size=0))
theorem zL {n at_ k:Int} {t:ByteArray} (h:iP n at_ k t):okF (repD n at_ k t) ⟨[],[],0⟩∧finF (repD n at_ k t) ⟨[],[],0⟩=repD n at_ k t∧(∀ p∈repD n at_ k t,0≤p.n∧p.n≤1048576∧p.text.size≤1048576)∧lenS (repD n at_ k t)=(n,n-k+t.size,0):=by
 obtain⟨h1,h2,h3,h4,h5,h6⟩:=h
 have e0:(⟨#[]⟩:ByteArray).size=0:=rfl
 rcases h6 with⟨hk,ht⟩ | ⟨hk,ht⟩
 ·subst hk
  have htl:t.data.toList≠[]:=by intro h;apply ht;have:=congrArg List.length h;simpa using this
  by_cases ha:0<at_<;>by_cases hr:at_<n<;>refine⟨?_,?_,?_,?_⟩<;>simp[repD,ha,hr,ht,okF,finF,kK,jI,rQ,rR,htl,lenS,lenF,pcB,pcP,pcIn,gD,e0]<;>(try omega)<;>(try (repeat' split)<;>simp<;>omega)
 ·have htt:t.data.toList=[]:=List.eq_nil_of_length_eq_zero (by simpa using ht)
  by_cases ha:0<at_<;>by_cases hr:k<n-at_<;>refine⟨?_,?_,?_,?_⟩<;>simp[repD,ha,hr,ht,hk,okF,finF,kK,jI,rQ,rR,lenS,lenF,pcB,pcP,pcIn,gD,e0]<;>(try omega)<;>(try (repeat' split)<;>simp<;>omega)
theorem kL {w:World} {B:Nat} {ao:Option Addr} {n cp:Nat} {d:List PcV} (hn:n=d.length) (h:w.ownsRow B 94 3 (.slice ao n cp) n (pcsL d)):PRow w ao d∧n≤cp:=by
 rcases h.2 with⟨h1,h2⟩ | ⟨g,cap,cur,h1,hB,hg,h2,h3,h4,h5⟩
 ·injection h1 with h1 h6 h7
  subst h1
  refine⟨.inl ⟨rfl,List.eq_nil_of_length_eq_zero (by omega)⟩,by omega⟩
 ·injection h1 with h1 h6 h7
  subst h1;subst h7
  refine⟨.inr ⟨g,0,rfl,(gAz hg).1,fun k p hk i u hu => ?_⟩,h2⟩
  have hi:i<3:=by have:=(gLz hu).1;rwa [tV] at this
  have h6:=aA8 d k i hi
  rw[hk] at h6
  have h7:(pcsL d)[k*3+i]? = some u:=h6.trans hu
  have hlt:=(gLz h7).1
  rw[← h5,List.getElem?_take] at h7
  rw[← h5,List.length_take] at hlt
  rw[if_pos (by omega)] at h7
  simp only[World.cell?,hg,Nat.zero_add]
  simpa using h7
theorem aBb (n at_ k:Int) (t:ByteArray) (w:World) (h:iP n at_ k t) :
  Calls Tryz.prog 239 #[.int .i64 n,.int .i64 at_,.int .i64 k,.string t] w fun e w'=>∃ v,e = .returned (.tuple #[v,.int .i64 0])∧w'.ownsRow w.heap.size 94 3 v (repD n at_ k t).length (pcsL (repD n at_ k t))∧Below w.heap.size w w':=by
 obtain⟨hok,hfin,hsm,hlen⟩:=zL h
 obtain⟨h1,h2,h3,h4,h5,h6⟩:=h
 have hr4:=uX n at_ k t
 have hrd:=aN3 n at_ k t
 have l1:=uY [] ⟨1,at_,⟨#[]⟩⟩
 have l2:=uY (putS [] ⟨1,at_,⟨#[]⟩⟩) ⟨2,0,t⟩
 have l3:=uY (putS (putS [] ⟨1,at_,⟨#[]⟩⟩) ⟨2,0,t⟩) ⟨3,k,⟨#[]⟩⟩
 have HR:=Lib.hid hrd;clear hrd
 have w1:IntKind.i64.wrap (n-at_)=n-at_:=IntWalk.i64_in _ (by omega)
 have w2:IntKind.i64.wrap (n-k)=n-k:=IntWalk.i64_in _ (by omega)
 have w3:IntKind.i64.wrap (1048576-(n-k))=1048576-(n-k):=IntWalk.i64_in _ (by omega)
 have w4:IntKind.i64.wrap (n-at_-k)=n-at_-k:=IntWalk.i64_in _ (by omega)
 have b1:decide (at_<0)=false:=by simp;omega
 have b2:decide (n<at_)=false:=by simp;omega
 have b3:decide (k<0)=false:=by simp;omega
 have b4:decide (n-at_<k)=false:=by simp;omega
 have b5:decide (1048576<n)=false:=by simp;omega
 have b6:decide (1048576-(n-k)<(t.size:Int))=false:=by simp;omega
 have hd0:DVar (w.alloc (.cells #[.slice none 0 0] 47)) w.heap.size w.heap.size []:=⟨_,heap_alloc_new w _,World.ownsRow_nil _ _ _ _⟩
 have hB0:=(Below.refl w.heap.size w).alloc (Nat.le_refl _) (.cells #[.slice none 0 0] 47)
 clear h1 h2 h3 h4 h5 h6
 go_enter Tryz.func239,Tryz.ntmps239
 go_wp2_with (first | (go_at_call 277;refine (wX ao cp _ _ hp4 (by omega) hcp4 hok hsm (by rw[hlen])).mono ?_;rw[hfin];rintro e x5 ⟨v5,rfl,ho5,hB5⟩;obtain⟨ao5,cp5,rfl⟩:=aC ho5) | (go_at_call 276;refine (tX ⟨1,n-at_-k,⟨#[]⟩⟩ w.heap.size _ _ _ hd3 (by simp at l1 l2 l3 ⊢;omega) (Nat.le_refl _)).mono ?_;rintro e x4 ⟨rfl,hd4,hC4⟩;have hB4:=hB3.trans hC4;rw[HR.out] at hd4;obtain⟨v4,hv4,ho4⟩:=hd4;obtain⟨ao,cp,rfl⟩:=aC ho4;obtain⟨hc4,hf4⟩:=box1 hv4;obtain⟨hp4,hcp4⟩:=kL rfl ho4) | (go_at_call 276;refine (tX ⟨3,k,⟨#[]⟩⟩ w.heap.size _ _ _ hd2 (by simp at l1 l2 ⊢;omega) (Nat.le_refl _)).mono ?_;rintro e x3 ⟨rfl,hd3,hC3⟩;have hB3:=hB2.trans hC3) | (go_at_call 276;refine (tX ⟨2,0,t⟩ w.heap.size _ _ _ hd1 (by simp at l1 ⊢;omega) (Nat.le_refl _)).mono ?_;rintro e x2 ⟨rfl,hd2,hC2⟩;have hB2:=hB1.trans hC2) | (go_at_call 276;refine (tX ⟨1,at_,⟨#[]⟩⟩ w.heap.size _ _ _ hd0 (by simp) (Nat.le_refl _)).mono ?_;rintro e x1 ⟨rfl,hd1,hC1⟩;have hB1:=hB0.trans hC1))
 go_returns
 exact⟨_,rfl,aV hB4.size ho5,hB4.trans (hB5.mono hB4.size)⟩
end Go.Proofs.YtdeiocppghhfdaaGreat
namespace Go.Proofs.YtdeiocppghhfdaaGreat
structure MkV where
 id:Int
 at_:Int
 grav:Int
deriving DecidableEq,Inhabited
def MkIn (n:Int) (m:MkV):Prop:=1≤m.id∧m.id≤4294967295∧(m.grav=0∨m.grav=1)∧0≤m.at_∧m.at_≤n
def MkOK (n:Int) (l:List MkV):Prop:=l.length≤64∧l.Pairwise (fun a b=>a.id<b.id)∧∀ m∈l,MkIn n m
def idxM (id:Int) (l:List MkV):Nat:=l.countP fun m=>decide (m.id<id)
def hasM (id:Int) (l:List MkV):Bool:=l.any fun m=>m.id == id
def loM (id:Int) (l:List MkV):List MkV:=l.filter fun m=>decide (m.id<id)
def hiM (id:Int) (l:List MkV):List MkV:=l.filter fun m=>decide (id<m.id)
def setM (m:MkV) (l:List MkV):List MkV:=loM m.id l++m::hiM m.id l
def bP (id:Int) (l:List MkV):List MkV:=l.filter fun m=>m.id != id
def iD (id:Int) (l:List MkV):Option MkV:=l.find? fun m=>m.id == id
theorem aFw (id:Int) (l:List MkV):idxM id l≤l.length:=List.countP_le_length
theorem iK (id:Int):∀ {l:List MkV},l.Pairwise (fun a b=>a.id<b.id)→l.take (idxM id l)=loM id l∧l.drop (idxM id l)=(if hasM id l then l.filter (fun m=>m.id == id)++hiM id l else hiM id l)∧(l.filter (fun m=>m.id == id)).length=if hasM id l then 1 else 0
 |[],_=>by simp[idxM,loM,hiM,hasM]
 |x::l,h=>by
  rw[List.pairwise_cons] at h
  obtain⟨h1,h2⟩:=h
  have ih:=iK id h2
  by_cases hx:x.id<id
  ·have e1:idxM id (x::l)=idxM id l+1:=by simp[idxM,hx]
   have e2:loM id (x::l)=x::loM id l:=by simp[loM,hx]
   have e3:hiM id (x::l)=hiM id l:=by simp only[hiM,List.filter_cons];rw[if_neg (by simp;omega)]
   have e4:(x.id == id)=false:=by simp;omega
   have e5:hasM id (x::l)=hasM id l:=by simp[hasM,e4]
   rw[e1,e2,e3,e5,List.filter_cons,e4]
   simp only[List.take_succ_cons,List.drop_succ_cons,Bool.false_eq_true,if_false]
   exact⟨by rw[ih.1],ih.2.1,ih.2.2⟩
  ·have e1:idxM id (x::l)=0:=by
    unfold idxM;rw[List.countP_eq_zero];intro m hm;rcases List.mem_cons.1 hm with rfl | hm
    ·simpa using hx
    ·have:=h1 m hm;simp;omega
   have e2:loM id (x::l)=[]:=by
    unfold loM;rw[List.filter_eq_nil_iff];intro m hm;rcases List.mem_cons.1 hm with rfl | hm
    ·simpa using hx
    ·have:=h1 m hm;simp;omega
   have e3:hiM id l=l:=by unfold hiM;rw[List.filter_eq_self];intro m hm;have:=h1 m hm;simp;omega
   have e6:l.filter (fun m=>m.id == id)=[]:=by rw[List.filter_eq_nil_iff];intro m hm;have:=h1 m hm;simp;omega
   have e7:hasM id l=false:=by unfold hasM;rw[List.any_eq_false];intro m hm;have:=h1 m hm;simp;omega
   rw[e1,e2]
   refine⟨rfl,?_,?_⟩
   ·by_cases he:x.id=id
    ·have:hasM id (x::l)=true:=by simp[hasM,he]
     rw[this,if_pos rfl,List.filter_cons,if_pos (by simpa using he),e6]
     have:hiM id (x::l)=l:=by rw[hiM,List.filter_cons,if_neg (by simp;omega)];exact e3
     rw[this];rfl
    ·have:hasM id (x::l)=false:=by unfold hasM;rw[List.any_cons];have:hasM id l=false:=e7;unfold hasM at this;rw[this];simpa using he
     rw[this,if_neg (by simp)]
     have:hiM id (x::l)=x::l:=by rw[hiM,List.filter_cons,if_pos (by simp;omega)];exact congrArg _ e3
     rw[this];rfl
   ·by_cases he:x.id=id
    ·have:hasM id (x::l)=true:=by simp[hasM,he]
     rw[this,if_pos rfl,List.filter_cons,if_pos (by simpa using he),e6];rfl
    ·have:hasM id (x::l)=false:=by unfold hasM;rw[List.any_cons];have:hasM id l=false:=e7;unfold hasM at this;rw[this];simpa using he
     rw[this,List.filter_cons,if_neg (by simpa using he),e6];rfl
theorem sP {id:Int} {l:List MkV} (h:l.Pairwise (fun a b=>a.id<b.id)) (hs:hasM id l=true):∃ m,l[idxM id l]? = some m∧m.id=id∧l.drop (idxM id l+1)=hiM id l∧iD id l=some m∧m∈l:=by
 obtain⟨h1,h2,h3⟩:=iK id h
 rw[hs,if_pos rfl] at h2 h3
 obtain⟨m,hm⟩:=List.length_eq_one_iff.1 h3
 have hmem:m∈l.filter (fun m=>m.id == id):=by rw[hm];simp
 have hid:m.id=id:=by have:=(List.mem_filter.1 hmem).2;simpa using this
 refine⟨m,?_,hid,?_,?_,(List.mem_filter.1 hmem).1⟩
 ·have:(l.drop (idxM id l))[0]? = some m:=by rw[h2,hm];rfl
  rwa [List.getElem?_drop,Nat.add_zero] at this
 ·have:(l.drop (idxM id l)).drop 1=hiM id l:=by rw[h2,hm];rfl
  rwa [List.drop_drop] at this
 ·unfold iD;rw[← List.head?_filter,hm];rfl
theorem aKj {id:Int} {l:List MkV} (h:l.Pairwise (fun a b=>a.id<b.id)) (hs:hasM id l=false):l.drop (idxM id l)=hiM id l∧(∀ m,l[idxM id l]? = some m→m.id≠id)∧iD id l=none∧bP id l=l:=by
 obtain⟨h1,h2,h3⟩:=iK id h
 rw[hs] at h2
 have hall:∀ m∈l,(m.id == id)=false:=fun m hm=>by unfold hasM at hs;rw[List.any_eq_false] at hs;simpa using hs m hm
 refine⟨by simpa using h2,?_,?_,?_⟩
 ·intro m hm he
  have:=hall m (mGz hm)
  simp[he] at this
 ·unfold iD;rw[List.find?_eq_none];intro m hm;rw[hall m hm];simp
 ·unfold bP;rw[List.filter_eq_self];intro m hm;simp[bne,hall m hm]
theorem tY {id:Int} {l:List MkV} (h:l.Pairwise (fun a b=>a.id<b.id)):bP id l=loM id l++hiM id l:=by
 obtain⟨h1,h2,h3⟩:=iK id h
 have:l=loM id l++l.drop (idxM id l):=by rw[← h1];exact (List.take_append_drop _ _).symm
 have hf:bP id l=bP id (loM id l++l.drop (idxM id l)):=by rw[← this]
 rw[hf]
 have a1:bP id (loM id l)=loM id l:=by unfold bP;rw[List.filter_eq_self];intro m hm;have:=(List.mem_filter.1 hm).2;simp at this;simp;omega
 have a2:bP id (hiM id l)=hiM id l:=by unfold bP;rw[List.filter_eq_self];intro m hm;have:=(List.mem_filter.1 hm).2;simp at this;simp;omega
 have hap:∀ a b,bP id (a++b)=bP id a++bP id b:=fun a b=>by unfold bP;rw[List.filter_append]
 rw[hap,a1,h2]
 split
 ·rw[hap,a2]
  have:bP id (l.filter fun m=>m.id == id)=[]:=by unfold bP;rw[List.filter_eq_nil_iff];intro m hm;have:=(List.mem_filter.1 hm).2;simpa using this
  rw[this];rfl
 ·rw[a2]
theorem aN4 {m:MkV} {l:List MkV} (h:l.Pairwise (fun a b=>a.id<b.id)):(setM m l).Pairwise (fun a b=>a.id<b.id):=by
 unfold setM
 rw[List.pairwise_append]
 refine⟨h.filter _,?_,?_⟩
 ·rw[List.pairwise_cons]
  exact⟨fun x hx=>by have:=(List.mem_filter.1 hx).2;simpa using this,h.filter _⟩
 ·intro a ha b hb
  have:=(List.mem_filter.1 ha).2
  simp at this
  rcases List.mem_cons.1 hb with rfl | hb
  ·exact this
  ·have:=(List.mem_filter.1 hb).2;simp at this;omega
theorem aKk {m:MkV} {l:List MkV} (h:l.Pairwise (fun a b=>a.id<b.id)):(setM m l).length=if hasM m.id l then l.length else l.length+1:=by
 obtain⟨h1,h2,h3⟩:=iK m.id h
 have e:l.length=(loM m.id l).length+(l.drop (idxM m.id l)).length:=by rw[← h1,← List.length_append,List.take_append_drop]
 unfold setM
 rw[List.length_append,List.length_cons]
 rw[h2] at e
 cases hs:hasM m.id l<;>rw[hs] at e h3<;>simp at e h3 ⊢ <;> omega
theorem aN5 {n:Int} {m:MkV} {l:List MkV} (h:MkOK n l) (hm:MkIn n m) (hl:hasM m.id l=true∨l.length<64):MkOK n (setM m l):=by
 refine⟨?_,aN4 h.2.1,?_⟩
 ·rw[aKk h.2.1];have:=h.1;split
  ·exact this
  ·rcases hl with hl | hl
   ·simp_all
   ·omega
 ·intro x hx
  rcases List.mem_append.1 hx with hx | hx
  ·exact h.2.2 x (List.mem_filter.1 hx).1
  ·rcases List.mem_cons.1 hx with rfl | hx
   ·exact hm
   ·exact h.2.2 x (List.mem_filter.1 hx).1
theorem aKl {n id:Int} {l:List MkV} (h:MkOK n l):MkOK n (bP id l) :=
 ⟨Nat.le_trans (List.length_filter_le _ _) h.1,h.2.1.filter _,fun x hx=>h.2.2 x (List.mem_filter.1 hx).1⟩
def gP (p:Int):List PcV→Int→Int→Int→Int
 |[],_,_,r=>r
 |c::d,a,t,r=>if c.kind=2 then gP p d a (t+c.text.size) r else if c.kind=3 then gP p d (a+c.n) t r else if p≤a then r else gP p d (a+c.n) (t+c.n) (t+min c.n (p-a))
def eD (p:Int):List PcV→Int→Int→Int→Int
 |[],_,_,e=>e
 |c::d,a,t,e=>if c.kind=2 then eD p d a (t+c.text.size) e else if c.kind=3 then eD p d (a+c.n) t e else if p<a+c.n then t+max 0 (p-a) else eD p d (a+c.n) (t+c.n) e
def posS (d:List PcV) (p g:Int):Int:=if g=0 then gP p d 0 0 0 else eD p d 0 0 (lenS d).2.1
def bI (d:List PcV) (l:List MkV):List MkV:=l.map fun m=>{ m with at_:=posS d m.at_ m.grav }
end Go.Proofs.YtdeiocppghhfdaaGreat
