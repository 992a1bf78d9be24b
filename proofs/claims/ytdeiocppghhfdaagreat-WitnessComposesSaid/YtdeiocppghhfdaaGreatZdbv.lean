/- Texts, one behind another. -/
import Derived.Test.YtdeiocppghhfdaaGreatZdbu
set_option linter.unusedVariables false
set_option linter.unusedSimpArgs false
set_option maxRecDepth 100000
set_option maxHeartbeats 8000000
namespace Go.Proofs.YtdeiocppghhfdaaGreat
open Go.RowKit Go.Lib Go.Shelf
theorem aA1:∀ ps:List PcV,(pcsL ps).length=ps.length*3
 | []=>rfl
 | p::ps=>by
  have h:=aA1 ps
  unfold pcsL at h ⊢
  rw[List.flatMap_cons,List.length_append,h,List.length_cons,rP];omega
theorem aOz {w:World} {B g cp n:Nat} {xs:List Value} (h:w.ownsRow B 94 3 (.slice (some ⟨g,0,none⟩) n cp) n xs):∃ cur,w.heap[g]? = some (.cells cur 94 (0,0))∧B≤g:=by
 rcases h.2 with⟨h1,_⟩ | ⟨g2,cap,cur,h1,hB,hg,_⟩
 ·cases h1
 ·injection h1 with h1 _ _;injection h1 with h1;injection h1 with h1 _ _
  subst h1
  exact⟨cur,hg,hB⟩
theorem fG.setAt {w:World} {b:Nat} {cs:Array Value} {T:TypeId} (h:w.heap[b]? = some (.cells cs T (0,0))) (h1:T≠205) (h2:T≠5) (off:Nat) (u:Value):fG w (w.setCell ⟨b,off,none⟩ u):=fun k cs T fz hk ht=>by
 refine Below.heap_setCell _ _ _ _ (fun he => ?_)
 have he:k=b:=he
 subst he
 rw[hk] at h;injection h with h;injection h with _ h3 _
 rcases ht with h | h
 ·exact h1 (h3.symm.trans h)
 ·exact h2 (h3.symm.trans h)
theorem aRo {F:List PcV} {tx:List UInt8} {gone m:Int} (h0:0≤gone) (h1:gone≤m) (h:∀ q∈F,0≤q.n∧q.n≤m):∀ q∈iF F tx gone,0≤q.n∧q.n≤m:=by
 intro q hq
 unfold iF oW oV at hq
 have e:∀ L:List PcV,(∀ q∈L,0≤q.n∧q.n≤m)→∀ p:PcV,(0≤p.n∧p.n≤m)→∀ q∈L++[p],0≤q.n∧q.n≤m:=fun L hL p hp q hq=>by
  rcases List.mem_append.1 hq with hq | hq
  ·exact hL q hq
  ·rw[List.mem_singleton.1 hq];exact hp
 have h2:=e F h ⟨2,0,⟨tx.toArray⟩⟩ ⟨by dsimp only;omega,by dsimp only;omega⟩
 have h3:=e _ h ⟨3,gone,⟨#[]⟩⟩ ⟨h0,h1⟩
 have h4:=e _ h2 ⟨3,gone,⟨#[]⟩⟩ ⟨h0,h1⟩
 split at hq<;>split at hq
 ·exact h3 q hq
 ·exact h4 q hq
 ·exact h q hq
 ·exact h2 q hq
theorem aIn {w:World} {B g cp:Nat} {F:List PcV} {q:PcV} (h:w.ownsRow B 94 3 (.slice (some ⟨g,0,none⟩) F.length cp) F.length (pcsL F)) (hq:F[F.length-1]? = some q):w.cell? ⟨g,(F.length-1)*3+1,none⟩=some (.int .i64 q.n)∧w.frozen? ⟨g,(F.length-1)*3+1,none⟩=false:=by
 have hpos:0<F.length:=by have:=(List.getElem?_eq_some_iff.1 hq).1;omega
 rcases h.2 with⟨h1,_⟩ | ⟨g2,cap,cur,h1,hB,hg,h2,h3,h4,h5⟩
 ·cases h1
 ·injection h1 with h1 _ _;injection h1 with h1;injection h1 with h1 _ _
  subst h1
  refine⟨?_,Lib.frozen_of_heap hg _⟩
  have h6:=qQ F (F.length-1) 1 (by omega)
  rw[hq] at h6
  have h7:(pcsL F)[(F.length-1)*3+1]? = some (.int .i64 q.n):=h6
  rw[← h5,List.getElem?_take,if_pos (by omega)] at h7
  simp only[World.cell?,hg]
  simpa using h7
theorem aRp {w:World} {B g cp:Nat} {F:List PcV} {q:PcV} (h:w.ownsRow B 94 3 (.slice (some ⟨g,0,none⟩) F.length cp) F.length (pcsL F)) (hq:F.getLast? = some q) (x:Int):(w.setCell ⟨g,(F.length-1)*3+1,none⟩ (.int .i64 x)).ownsRow B 94 3 (.slice (some ⟨g,0,none⟩) F.length cp) F.length (pcsL (F.dropLast++[{ q with n:=x }])):=by
 have hne:F≠[]:=by intro h;rw[h] at hq;simp at hq
 have hlast:F.getLast hne=q:=by rw[List.getLast?_eq_some_getLast hne] at hq;injection hq
 have hF2:F.dropLast++[q]=F:=by rw[← hlast];exact List.dropLast_concat_getLast hne
 generalize F.dropLast=L at hF2 ⊢
 subst hF2
 have el:(L++[q]).length-1=L.length:=by simp
 rw[el]
 rcases h.2 with⟨h1,_⟩ | ⟨g2,cap,cur,h1,hB,hg,h2,h3,h4,h5⟩
 ·cases h1
 ·injection h1 with h1 _ hc;injection h1 with h1;injection h1 with h1 _ _
  subst h1;subst hc
  have hp:∀ r:PcV,(pcsL (L++[r])).length=(L++[q]).length*3:=fun r=>by rw[aA1];simp
  refine⟨hp _,.inr ⟨g,cp,cur.setIfInBounds (L.length*3+1) (.int .i64 x),rfl,hB,?_,h2,h3,by simpa using h4,?_⟩⟩
  ·simp[World.setCell,Array.getElem?_modify,hg]
  ·have hL:(pcsL L).length=L.length*3:=aA1 L
   refine List.ext_getElem? fun j => ?_
   have hj:(cur.toList.take ((L++[q]).length*3))[j]? = (pcsL (L++[q]))[j]? := by rw[h5]
   rw[jL] at hj ⊢
   rw[List.getElem?_take] at hj ⊢
   rw[Array.toList_setIfInBounds,List.getElem?_set]
   by_cases hjl:j<(L++[q]).length*3
   ·rw[if_pos hjl] at hj ⊢
    by_cases hj1:j<L.length*3
    ·rw[List.getElem?_append_left (by omega)] at hj ⊢
     rw[if_neg (by omega),hj]
    ·rw[List.getElem?_append_right (by omega)] at hj ⊢
     rw[hL] at hj ⊢
     obtain⟨r,hr⟩:∃ r,j-L.length*3=r:=⟨_,rfl⟩
     rw[hr] at hj ⊢
     by_cases hr1:r=1
     ·subst hr1
      have hcl:cur.toList.length=cp*3:=by simpa using h4
      have hll:(L++[q]).length=L.length+1:=by simp
      rw[if_pos (by omega),if_pos (by omega)];rfl
     ·rw[if_neg (by omega),hj]
      have:r<3:=by simp at hjl;omega
      match r,this,hr1 with
      | 0,_,_=>rfl
      | 2,_,_=>rfl
   ·rw[if_neg hjl]
    rw[if_neg hjl] at hj
    have:(L++[q]).length=L.length+1:=by simp
    rw[List.getElem?_eq_none]
    rw[List.length_append,hL]
    show _+3≤j
    omega
def GoI (w:World) (ps:List PcV) (i:Value) (wr:World):Prop :=
 ∃ (k:Nat) (s:FS),i = .int .i64 k∧k≤ps.length∧nfF (ps.drop k) s.out s.tx s.gone=nfS ps∧FSt wr w.heap.size (w.heap.size+1) w.heap.size (w.heap.size+1+1) s.out s.tx s.gone∧0≤s.gone∧s.gone≤k*1048576∧s.tx.length≤k*1048576∧s.out.length≤k*3∧(∀ q∈s.out,0≤q.n∧q.n≤k*1048576)∧Below w.heap.size w wr
theorem aGy (a:Option Addr) (c:Nat) (ps:List PcV) (w:World) (hr:PRow w a ps) (hs:ps.length≤10000) (hc:ps.length≤c) (hn:∀ p∈ps,0≤p.n∧p.n≤1048576∧p.text.size≤1048576) :
  Calls Tryz.prog 214 #[.slice a ps.length c] w fun e w'=>∃ v,e = .returned v∧w'.ownsRow w.heap.size 94 3 v (nfS ps).length (pcsL (nfS ps))∧Below w.heap.size w w':=by
 obtain⟨i0,hi,hz0,hz1,hz2⟩:=info_parts qP
 have HRow:=Lib.hid hr;clear hr
 have HN:=Lib.hid hn;clear hn
 go_enter Tryz.func214,Tryz.ntmps214
 go_wp2
 go_loopw [8,9,13,14,15,16,17,18,19,20,21,22,23,24,25,26,27,28,29,30,31,32,33,34,35,36,37,38,39,40,41,42,43,44,45,46,47,48,49,50,51,52,53,54,55,56,57,58,59,60] (fun x8 x9 i x14 x15 x16 x17 x18 x19 x20 x21 x22 x23 x24 x25 x26 x27 x28 x29 x30 x31 x32 x33 x34 x35 x36 x37 x38 x39 x40 x41 x42 x43 x44 x45 x46 x47 x48 x49 x50 x51 x52 x53 x54 x55 x56 x57 x58 x59 x60 wr=>GoI w ps i wr) (fun x8 x9 i x14 x15 x16 x17 x18 x19 x20 x21 x22 x23 x24 x25 x26 x27 x28 x29 x30 x31 x32 x33 x34 x35 x36 x37 x38 x39 x40 x41 x42 x43 x44 x45 x46 x47 x48 x49 x50 x51 x52 x53 x54 x55 x56 x57 x58 x59 x60 wr=>ps.length-(intOf i).toNat)
 case atStart =>
  refine⟨0,⟨[],[],0⟩,rfl,by omega,rfl,⟨.inl ⟨by omega,.slice none 0 0,?_,⟨by simp[Lib.byteCells],.inl ⟨rfl,by simp[Lib.byteCells]⟩⟩,by simp[Value.ownBlock]⟩,⟨.slice none 0 0,?_,World.ownsRow_nil _ _ _ _⟩,?_⟩,by simp,by simp,by simp,by simp,by simp,(((Below.refl _ w).alloc (Nat.le_refl _) _).alloc (by simp) _).alloc (by simp;omega) _⟩
  ·have:=heap_alloc_new (w.alloc (.cells #[.slice none 0 0] 47)) (.cells #[.pointer none,.slice none 0 0] 205)
   rw[World.size_alloc] at this
   exact (heap_alloc_old _ _ (by simp)).trans this
  ·exact (heap_alloc_old _ _ (by simp;omega)).trans ((heap_alloc_old _ _ (by simp)).trans (heap_alloc_new w _))
  ·have:=heap_alloc_new ((w.alloc (.cells #[.slice none 0 0] 47)).alloc (.cells #[.pointer none,.slice none 0 0] 205)) (.cells #[.int .i64 0] 3)
   simpa using this
 case round =>
  obtain⟨k,s,rfl,hk,hfin,hF,hg0,hg1,htx,hol,hqn,hB⟩:=hrel
  have HQN:=Lib.hid hqn;clear hqn
  have HFIN:=Lib.hid hfin;clear hfin
  by_cases hlt:k<ps.length
  ·have hp:ps[k]? = some ps[k]:=List.getElem?_eq_getElem hlt
   have hmem:ps[k]∈ps:=List.getElem_mem hlt
   have hdr:ps.drop k=ps[k]::ps.drop (k+1):=List.drop_eq_getElem_cons hlt
   generalize ps[k]=p at hp hmem hdr
   obtain⟨hn0,hn1,hn2⟩:=HN.out p hmem
   have hfin':=HFIN.out
   rw[hdr] at hfin'
   clear hdr hmem
   rcases HRow.out with⟨_,h⟩ | ⟨b,off,rfl,hb,hcell⟩
   ·rw[h] at hlt;simp at hlt
   have c0:wr.cell? ⟨b,off+(k*3+0),none⟩=some (.int .u8 p.kind):=by rw[hB.cell (p:=⟨b,off+(k*3+0),none⟩) hb];exact hcell k p hp 0 _ rfl
   have c1:wr.cell? ⟨b,off+(k*3+1),none⟩=some (.int .i64 p.n):=by rw[hB.cell (p:=⟨b,off+(k*3+1),none⟩) hb];exact hcell k p hp 1 _ rfl
   have c2:wr.cell? ⟨b,off+(k*3+2),none⟩=some (.string p.text):=by rw[hB.cell (p:=⟨b,off+(k*3+2),none⟩) hb];exact hcell k p hp 2 _ rfl
   simp only[Nat.add_zero,← Nat.add_assoc] at c0 c1 c2
   clear hcell
   obtain⟨hb0,hd0,hgb⟩:=hF
   have hpn:=heap_alloc_new wr (.cells #[.int .u8 p.kind,.int .i64 p.n,.string p.text] 94)
   have hBp:=hB.alloc hB.size (.cells #[.int .u8 p.kind,.int .i64 p.n,.string p.text] 94)
   have hgl:=(Array.getElem?_eq_some_iff.1 hgb).1
   have hFp:FSt (wr.alloc (.cells #[.int .u8 p.kind,.int .i64 p.n,.string p.text] 94)) w.heap.size (w.heap.size+1) w.heap.size (w.heap.size+1+1) s.out s.tx s.gone:=by
    obtain⟨v,hv,ho⟩:=hd0
    exact⟨hb0.alloc _,⟨v,(heap_alloc_old _ _ (Array.getElem?_eq_some_iff.1 hv).1).trans hv,ho.alloc _⟩,(heap_alloc_old _ _ hgl).trans hgb⟩
   by_cases hk2:p.kind=2
   ·unfold nfF at hfin'
    rw[if_pos hk2] at hfin'
    have Hfin':=Lib.hid hfin';clear hfin'
    have e2:(p.kind == 2)=true:=by simpa using hk2
    rw[hk2] at hpn hBp hFp
    obtain⟨cbs,hbb⟩:=BuF.blk hFp.1
    go_wp2_with (go_at_call 171;refine (aRu w.heap.size _ _ p.text _ hFp.1 (by rw[Lib.byteCells_length];omega) (by have:=hB.size;simp;omega)).mono ?_;rintro e w1 ⟨rfl,hb1,hB1,hk1⟩)
    go_roundw
    case rel =>
     refine⟨k+1,{ s with tx:=s.tx++p.text.data.toList },by go_num,by omega,Hfin'.out,?_⟩
     refine⟨⟨?_,hFp.2.1.kept hk1 hbb,jH hk1 hbb hFp.2.2 (by decide) (by decide)⟩,hg0,by dsimp only;omega,by simp;omega,by dsimp only;omega,fun q hq=>by have:=HQN.out q hq;omega,hBp.trans hB1⟩
     rw[Lib.strCells_eq] at hb1
     rw[Lib.byteCells_append]
     exact hb1
    case measure=>simp[intOf];omega
   ·by_cases hk3:p.kind=3
    ·unfold nfF at hfin'
     rw[if_neg hk2,if_pos hk3] at hfin'
     have Hfin':=Lib.hid hfin';clear hfin'
     have e2:(p.kind == 2)=false:=by simpa using hk2
     have e3:(p.kind == 3)=true:=by simpa using hk3
     rw[hk3] at hBp
     obtain⟨cg0,fg0⟩:=box1 hgb
     have hz:IntKind.i64.wrap (s.gone+p.n)=s.gone+p.n:=IntWalk.i64_in _ (by omega)
     go_wp2
     go_roundw
     case rel =>
      refine⟨k+1,{ s with gone:=s.gone+p.n },by go_num,by omega,Hfin'.out,?_⟩
      obtain⟨v,hv,ho⟩:=hd0
      have hsz:(wr.setCell ⟨w.heap.size+1+1,0,none⟩ (.int .i64 (s.gone+p.n))).heap.size=wr.heap.size:=by simp[World.setCell]
      have hlv:=(Array.getElem?_eq_some_iff.1 hv).1
      have h2:(wr.setCell ⟨w.heap.size+1+1,0,none⟩ (.int .i64 (s.gone+p.n))).heap[w.heap.size]? = some (.cells #[v] 47 (0,0)):=(kH hgb hv (by decide) _).trans hv
      have h3:=lC (u := .int .i64 (s.gone+p.n)) hgb
      have h4:(wr.setCell ⟨w.heap.size+1+1,0,none⟩ (.int .i64 (s.gone+p.n))).ownsRow w.heap.size 94 3 v s.out.length (pcsL s.out):=aIu ho hgb (by decide) _
      refine⟨⟨(hb0.same (fG.set hgb (by decide) (by decide) _)).alloc _,⟨v,(heap_alloc_old _ _ (by rw[hsz];exact hlv)).trans h2,h4.alloc _⟩,(heap_alloc_old _ _ (by rw[hsz];exact hgl)).trans h3⟩,by show 0≤s.gone+p.n;omega,by show s.gone+p.n≤((k+1:Nat):Int)*1048576;omega,Nat.le_trans htx (Nat.mul_le_mul_right _ (Nat.le_succ k)),Nat.le_trans hol (Nat.mul_le_mul_right _ (Nat.le_succ k)),fun q hq=>(by have:=HQN.out q hq;omega),(hB.setCell (p:=⟨w.heap.size+1+1,0,none⟩) (show w.heap.size≤w.heap.size+1+1 by omega) _).alloc (by rw[hsz];exact hB.size) _⟩
     case measure=>simp[intOf];omega
    ·unfold nfF at hfin'
     rw[if_neg hk2,if_neg hk3] at hfin'
     have hfq:∀ q∈iF s.out s.tx s.gone,0≤q.n∧q.n≤k*1048576:=aRo hg0 hg1 HQN.out
     have e2:(p.kind == 2)=false:=by simpa using hk2
     have e3:(p.kind == 3)=false:=by simpa using hk3
     have hfl:=rT s.out s.tx s.gone
     have fl:=aCp w.heap.size (w.heap.size+1) w.heap.size (w.heap.size+1+1) s.out s.tx s.gone _ hFp hg0 (by omega) (by omega) (by omega) hBp.size
     generalize iF s.out s.tx s.gone=F at *
     have HFQ:=Lib.hid hfq;clear hfq
     obtain⟨v0,hv0,ho0⟩:=hFp.2.1
     have hpne:some wr.heap.size≠v0.ownBlock:=by
      obtain⟨v,hv,ho⟩:=hd0
      rw[heap_alloc_old _ _ (Array.getElem?_eq_some_iff.1 hv).1,hv] at hv0
      have hv0:v=v0:=by injection hv0 with hv0;injection hv0 with hv0 _ _;injection hv0 with h0;injection h0
      subst hv0
      intro h
      have:=(ho.lt _ h.symm).2
      omega
     rcases hlast:F.getLast? with _ | q
     ·have hF0:F=[]:=List.getLast?_eq_none_iff.1 hlast
      subst hF0
      have Hfin':=Lib.hid (show nfF (ps.drop (k+1)) ([]++[p]) [] 0=nfS ps from hfin')
      clear hfin'
      go_wp2_with (first | (go_at_call 258;refine fl.mono ?_;rintro e w1 ⟨rfl,hF1,hB1,hP1⟩;have hp1:=(hP1 _ _ _ hpn hv0 hpne).trans hpn;obtain⟨hb1,⟨v1,hv1,ho1⟩,hg1'⟩:=hF1;obtain⟨ao,cp,rfl⟩:=aF ho1;obtain⟨hcv1,hfv1⟩:=box1 hv1;obtain⟨q0,q1,q2⟩:=iC hp1;have hl1:=(Array.getElem?_eq_some_iff.1 hv1).1;have hlg1:=(Array.getElem?_eq_some_iff.1 hg1').1) | (at_builtin;refine wpList_append_own _ rfl _ _ 47 rfl w.heap.size 94 i0 _ 3 32 Tryz.underlying47 hi hz0 hz1 hz2 rfl (by decide) _ _ _ rfl (ho1.alloc _) ⟨_,0,none⟩ 1 1 (pcL p) rfl rfl (fC _ _ _) (iT _) (by unfold maxLen;simp) (by simp) (by have:=(hBp.trans hB1).size;simp;omega) ?_;intro v' w3 hown' hgrow _;obtain⟨ao',cp',rfl⟩:=aF hown';have hb3:=(hgrow.block w.heap.size (by simp;omega) (own_ne ho1 hv1 (by decide))).trans ((heap_alloc_old _ _ hl1).trans hv1);obtain⟨hc3,hf3⟩:=box1 hb3;have hg3:=(hgrow.block (w.heap.size+1+1) (by simp;omega) (own_ne ho1 hg1' (by decide))).trans ((heap_alloc_old _ _ hlg1).trans hg1')))
      go_roundw
      case rel =>
       refine⟨k+1,⟨[]++[p],[],0⟩,by go_num,by omega,Hfin'.out,?_⟩
       have hbx:=(hBp.trans hB1).size
       have hrv:=rR hb3 hown' (by decide)
       have hs:=((fG.alloc w1 _).trans (fG.grown hgrow (ho1.alloc _) (by decide) (by decide))).trans (fG.set hb3 (by decide) (by decide) (.slice ao' (([]:List PcV).length+1) cp'))
       have hB4:=(((hBp.trans hB1).alloc hbx (.cells (pcL p).toArray 94)).grown hgrow (by simp;omega) (fun k hk=>(ho1.lt k hk).1)).setCell (p:=⟨w.heap.size,0,none⟩) (Nat.le_refl _) (.slice ao' (([]:List PcV).length+1) cp')
       refine⟨⟨BuF.same hb1 hs,⟨.slice ao' (([]:List PcV).length+1) cp',hrv.1,?_⟩,(kH hb3 hg3 (by decide) _).trans hg3⟩,by simp,by dsimp only;omega,by simp,by simp at *;omega,fun q hq=>(by rcases List.mem_append.1 hq with hq | hq<;>first | (have:=HFQ.out q hq;omega) | (rw[List.mem_singleton.1 hq];omega)),hB4⟩
       rw[List.length_append,jL]
       exact hrv.2
      case measure=>simp[intOf];omega
     ·have hne0:F≠[]:=fun h=>by rw[h] at hlast;simp at hlast
      have hF0:0<F.length:=List.length_pos_iff.2 hne0
      have hgl2:F[F.length-1]? = some q:=by rw[← hlast,List.getLast?_eq_getElem?]
      have d1:decide ((0:Int)<(F.length:Int))=true:=by simp;omega
      have d3:(F.length:Int)-1=((F.length-1:Nat):Int):=by omega
      by_cases hq:q.kind=1
      ·have d2:(q.kind == 1)=true:=by simpa using hq
       have hqm:q∈F:=List.mem_of_getLast? hlast
       obtain⟨hq1,hq2⟩:=HFQ.out q hqm
       have hnf:qJ F p=F.dropLast++[{ q with n:=q.n+p.n }]:=by unfold qJ;rw[hlast];exact if_pos hq
       rw[hnf] at hfin'
       have Hfin':=Lib.hid hfin';have Hlast:=Lib.hid hlast
       clear hfin' hlast
       have hz:IntKind.i64.wrap (q.n+p.n)=q.n+p.n:=IntWalk.i64_in _ (by omega)
       go_wp2_with (go_at_call 258;refine fl.mono ?_;rintro e w1 ⟨rfl,hF1,hB1,hP1⟩;have hp1:=(hP1 _ _ _ hpn hv0 hpne).trans hpn;obtain⟨hb1,⟨v1,hv1,ho1⟩,hg1'⟩:=hF1;obtain⟨g,cp,rfl,hq0⟩:=zT ho1 hgl2;obtain⟨hqn0,hqf⟩:=aIn ho1 hgl2;obtain⟨hcv1,hfv1⟩:=box1 hv1;obtain⟨q0,q1,q2⟩:=iC hp1;have hl1:=(Array.getElem?_eq_some_iff.1 hv1).1;have hlg1:=(Array.getElem?_eq_some_iff.1 hg1').1)
       go_region
       go_wp2
       go_roundw
       case rel =>
        refine⟨k+1,⟨F.dropLast++[{ q with n:=q.n+p.n }],[],0⟩,by go_num,by omega,Hfin'.out,?_⟩
        obtain⟨cur,hgb2,hgB⟩:=aOz ho1
        have hng:w.heap.size≠g:=fun e=>by
         rw[← e,hv1] at hgb2;injection hgb2 with hgb2;injection hgb2 with _ h3 _;exact absurd h3 (by decide)
        have hng2:w.heap.size+1+1≠g:=fun e=>by
         rw[← e,hg1'] at hgb2;injection hgb2 with hgb2;injection hgb2 with _ h3 _;exact absurd h3 (by decide)
        have hle:(F.dropLast++[({ q with n:=q.n+p.n }:PcV)]).length=F.length:=by simp;omega
        have hup:=aRp ho1 Hlast.out (q.n+p.n)
        have hB4:=((hBp.trans hB1).setCell (p:=⟨g,(F.length-1)*3+1,none⟩) hgB (.int .i64 (q.n+p.n))).drew
        refine⟨⟨BuF.same hb1 (fG.setAt hgb2 (by decide) (by decide) _ _),⟨.slice (some ⟨g,0,none⟩) F.length cp,(Below.heap_setCell w1 ⟨g,(F.length-1)*3+1,none⟩ _ w.heap.size hng).trans hv1,?_⟩,(Below.heap_setCell w1 ⟨g,(F.length-1)*3+1,none⟩ _ (w.heap.size+1+1) hng2).trans hg1'⟩,by simp,by dsimp only;omega,by simp,by dsimp only;rw[hle];omega,fun r hr => ?_,hB4⟩
        ·dsimp only;rw[hle];exact hup
        ·rcases List.mem_append.1 hr with hr | hr
         ·have:=HFQ.out r ((List.dropLast_sublist F).subset hr);omega
         ·rw[List.mem_singleton.1 hr];dsimp only;omega
       case measure=>simp[intOf];omega
      have d2:(q.kind == 1)=false:=by simpa using hq
      have hnf:qJ F p=F++[p]:=by unfold qJ;rw[hlast];exact if_neg hq
      rw[hnf] at hfin'
      have Hfin':=Lib.hid hfin';have Hlast:=Lib.hid hlast;clear hlast hfin'
      go_wp2_with (first | (go_at_call 258;refine fl.mono ?_;rintro e w1 ⟨rfl,hF1,hB1,hP1⟩;have hp1:=(hP1 _ _ _ hpn hv0 hpne).trans hpn;obtain⟨hb1,⟨v1,hv1,ho1⟩,hg1'⟩:=hF1;obtain⟨g,cp,rfl,hq0⟩:=zT ho1 hgl2;obtain⟨hcv1,hfv1⟩:=box1 hv1;obtain⟨q0,q1,q2⟩:=iC hp1;have hl1:=(Array.getElem?_eq_some_iff.1 hv1).1;have hlg1:=(Array.getElem?_eq_some_iff.1 hg1').1) | (at_builtin;refine wpList_append_own _ rfl _ _ 47 rfl w.heap.size 94 i0 _ 3 32 Tryz.underlying47 hi hz0 hz1 hz2 rfl (by decide) _ _ _ rfl (ho1.alloc _) ⟨_,0,none⟩ 1 1 (pcL p) rfl rfl (fC _ _ _) (iT _) (by unfold maxLen;omega) (by omega) (by have:=(hBp.trans hB1).size;simp;omega) ?_;intro v' w3 hown' hgrow _;obtain⟨ao',cp',rfl⟩:=aF hown';have hb3:=(hgrow.block w.heap.size (by simp;omega) (own_ne ho1 hv1 (by decide))).trans ((heap_alloc_old _ _ hl1).trans hv1);obtain⟨hc3,hf3⟩:=box1 hb3;have hg3:=(hgrow.block (w.heap.size+1+1) (by simp;omega) (own_ne ho1 hg1' (by decide))).trans ((heap_alloc_old _ _ hlg1).trans hg1')))
      go_roundw
      case rel =>
       refine⟨k+1,⟨F++[p],[],0⟩,by go_num,by omega,Hfin'.out,?_⟩
       have hbx:=(hBp.trans hB1).size
       have hrv:=rR hb3 hown' (by decide)
       have hs:=((fG.alloc w1 _).trans (fG.grown hgrow (ho1.alloc _) (by decide) (by decide))).trans (fG.set hb3 (by decide) (by decide) (.slice ao' (F.length+1) cp'))
       have hB4:=(((hBp.trans hB1).alloc hbx (.cells (pcL p).toArray 94)).grown hgrow (by simp;omega) (fun k hk=>(ho1.lt k hk).1)).setCell (p:=⟨w.heap.size,0,none⟩) (Nat.le_refl _) (.slice ao' (F.length+1) cp')
       refine⟨⟨BuF.same hb1 hs,⟨.slice ao' (F.length+1) cp',hrv.1,?_⟩,(kH hb3 hg3 (by decide) _).trans hg3⟩,by simp,by dsimp only;omega,by simp,by simp at *;omega,fun q hq=>(by rcases List.mem_append.1 hq with hq | hq<;>first | (have:=HFQ.out q hq;omega) | (rw[List.mem_singleton.1 hq];omega)),hB4⟩
       rw[List.length_append,jL]
       exact hrv.2
      case measure=>simp[intOf];omega
  ·have hdn:ps.drop k=[]:=List.drop_eq_nil_of_le (by omega)
   have hfin':=HFIN.out
   rw[hdn] at hfin'
   have hfin':=Lib.hid (show iF s.out s.tx s.gone=nfS ps from hfin')
   go_wp2_with (go_at_call 258;refine (aCp w.heap.size _ _ _ s.out s.tx s.gone _ hF hg0 (by omega) (by omega) (by omega) hB.size).mono ?_;rintro e w1 ⟨rfl,hF1,hB1,_⟩;obtain⟨hb1,⟨v1,hv1,ho1⟩,hg1'⟩:=hF1;obtain⟨ao,cp,rfl⟩:=aF ho1;obtain⟨hcv1,hfv1⟩:=box1 hv1)
   go_returns
   rw[← hfin'.out]
   exact⟨_,rfl,ho1,hB.trans hB1⟩
end Go.Proofs.YtdeiocppghhfdaaGreat
namespace Go.Proofs.YtdeiocppghhfdaaGreat
open Go.RowKit Go.Lib Go.Shelf
theorem aRq {w w':World} {lo n s:Nat} {e:TypeId} {v:Value} {xs:List Value} (h:w.ownsRow lo e s v n xs) (hb:Below w.heap.size w w'):w'.ownsRow lo e s v n xs:=by
 refine⟨h.1,?_⟩
 rcases h.2 with hn | ⟨g,cap,cur,rfl,hB,hg,rest⟩
 ·exact .inl hn
 ·exact .inr ⟨g,cap,cur,rfl,hB,(hb.block g (Array.getElem?_eq_some_iff.1 hg).1).trans hg,rest⟩
def LRow (W:World) (a:Option Addr) (d:List PcV):Prop:=d=[]∨∃ b off,a=some ⟨b,off,none⟩∧b<W.heap.size∧∀ k p,d[k]? = some p→∃ g,g<W.heap.size∧W.cell? ⟨b,off+k,none⟩=some (.slice (some ⟨g,0,none⟩) 1 1)∧W.cell? ⟨g,0,none⟩=some (.int .u8 p.kind)∧W.cell? ⟨g,1,none⟩=some (.int .i64 p.n)∧W.cell? ⟨g,2,none⟩=some (.string p.text)
theorem LRow.on {W W':World} {a:Option Addr} {d:List PcV} (h:LRow W a d) (hb:Below W.heap.size W W'):LRow W' a d:=by
 rcases h with h | ⟨b,off,h1,h2,h3⟩
 ·exact .inl h
 ·refine .inr ⟨b,off,h1,Nat.lt_of_lt_of_le h2 hb.size,fun k p hk => ?_⟩
  obtain⟨g,hg,c,c0,c1,c2⟩:=h3 k p hk
  exact⟨g,Nat.lt_of_lt_of_le hg hb.size,(hb.cell (p:=⟨b,off+k,none⟩) h2).trans c,(hb.cell (p:=⟨g,0,none⟩) hg).trans c0,(hb.cell (p:=⟨g,1,none⟩) hg).trans c1,(hb.cell (p:=⟨g,2,none⟩) hg).trans c2⟩
theorem aA2 {P:Program} (w:World) {ops:Array Oper} {rest:List Oper} {o:Oper} {a:Act} {Q:Exit→Act→World→Prop} (hgd:o.guard=none) (sl x:Operand) (t u:TypeId)
  (ho:o.op = .call { callee := .builtin .append,args := #[sl,x],argTypes := #[t,u] }) (v vx v':Value) (w':World) (hs:a.eval sl=v) (hx:a.eval x=vx)
  (hr:(Builtin.append_ #[t,u] o.type #[v,vx]).run P w = .ok v' w') (h:wpList P ops Q rest (a.put o.dst v') w'):wpList P ops Q (o::rest) a w:=by
 refine wpList_plain hgd fun K hK => ?_
 unfold Oper.wp execOp
 simp only[ho,resolve,invoke,builtin,Sem.run_bind,Sem.run_pure,Result.andThen_ok,List.map_toArray,List.map_cons,List.map_nil,hs,hx,hr]
 exact hK _ _ h
theorem pc3 {W:World} {g:Nat} {p:PcV} (c0:W.cell? ⟨g,0,none⟩=some (.int .u8 p.kind)) (c1:W.cell? ⟨g,1,none⟩=some (.int .i64 p.n)) (c2:W.cell? ⟨g,2,none⟩=some (.string p.text)):∀ j u,(pcL p)[j]? = some u→W.cell? ⟨g,0+j,none⟩=some u:=by
 intro j u hj
 rw[Nat.zero_add]
 match j,hj with
 | 0,hj=>rw[c0];exact hj
 | 1,hj=>rw[c1];exact hj
 | 2,hj=>rw[c2];exact hj
 | j+3,hj=>simp[pcL] at hj
theorem aO0 (n:Nat) (w:World) (hn:n≤8192) :
  Calls Tryz.prog 261 #[.slice none 0 0,.int .i64 n] w fun e w'=>∃ v,e = .returned v∧w'.ownsRow w.heap.size 94 3 v 0 []∧Below w.heap.size w w':=by
 obtain⟨i0,hi,hz0,hz1,hz2⟩:=info_parts qP
 have d0:decide ((n:Int)<0)=false:=by simp
 by_cases h0:n=0
 ·subst h0
  go_enter Tryz.func261,Tryz.ntmps261
  go_wp2
  go_returns
  exact⟨_,rfl,World.ownsRow_nil _ _ _ _,Below.refl _ _⟩
 ·have d1:decide ((0:Int)<(n:Int))=true:=by simp;omega
  have hrz:∀ ty,(Builtin.append_ #[47,3] ty #[.slice none 0 0,.int .i64 (n:Int)]).run Tryz.prog w = .ok (.slice (some ⟨w.heap.size,0,none⟩) n (grownCap w n 0 94)) (w.drew.alloc (.cells (([]:List Value).toArray++Builtin.zeroCells (Value.agg #[.int .u8 0,.int .i64 0,.string ⟨#[]⟩]).cells n++Builtin.zeroCells (Value.agg #[.int .u8 0,.int .i64 0,.string ⟨#[]⟩]).cells (grownCap w n 0 94-n)) 94)):=fun ty=>by
   have h:=Lib.run_append_grow_zeros w 47 3 ty 94 i0 _ .i64 .i64 Tryz.underlying47 Tryz.underlying3 hi hz0 none 0 0 [] (by simp[Builtin.firstCells,loadCells,loadCellsFrom]) n (by omega) (by rw[hz1];omega) (by omega) (by omega) (by rw[hz2];omega) (by rw[hz2];exact growslice_fits (by omega) (by omega))
   rw[Nat.zero_add] at h
   exact h
  have hG:n≤grownCap w n 0 94:=grownCap_ge w _ _ _
  have hG63:grownCap w n 0 94≤maxLen:=grownCap_le_maxLen w n 0 _ (by unfold maxLen;omega)
  generalize grownCap w n 0 94=G at *
  obtain⟨ROW,hROW⟩:∃ ROW:Array Value,ROW=([]:List Value).toArray++Builtin.zeroCells (Value.agg #[.int .u8 0,.int .i64 0,.string ⟨#[]⟩]).cells n++Builtin.zeroCells (Value.agg #[.int .u8 0,.int .i64 0,.string ⟨#[]⟩]).cells (G-n):=⟨_,rfl⟩
  rw[← hROW] at hrz
  have hRl:ROW.size=G*3:=by rw[hROW];simp[Builtin.zeroCells,Value.cells];omega
  clear hROW
  go_enter Tryz.func261,Tryz.ntmps261
  go_wp2_with (at_builtin;refine aA2 _ rfl _ _ _ _ rfl _ _ _ _ rfl rfl (hrz _) ?_)
  go_returns
  exact⟨_,rfl,⟨rfl,.inr ⟨w.heap.size,G,ROW,rfl,Nat.le_refl _,heap_alloc_new w.drew _,Nat.zero_le _,hG63,hRl,by simp⟩⟩,(Below.refl _ _).drew.alloc (Nat.le_refl _) _⟩
def CcI (w:World) (d:List PcV) (v i:Value) (wr:World):Prop :=
 ∃ k:Nat,i = .int .i64 k∧k≤d.length∧wr.ownsRow w.heap.size 94 3 v k (pcsL (d.take k))∧Below w.heap.size w wr
theorem aA3 (a:Option Addr) (c:Nat) (d:List PcV) (w:World) (hr:LRow w a d) (hl:d.length≤8192) (hc:d.length≤c) :
  Calls Tryz.prog 215 #[.slice a d.length c] w fun e w'=>∃ v,e = .returned v∧w'.ownsRow w.heap.size 94 3 v d.length (pcsL d)∧Below w.heap.size w w':=by
 obtain⟨i0,hi,hz0,hz1,hz2⟩:=info_parts qP
 have HR:=Lib.hid hr
 clear hr
 go_enter Tryz.func215,Tryz.ntmps215
 go_wp2
 go_loopw [3,5,11,12,13,14,15,16,17,18,19,20,21,22] (fun s x5 i x12 x13 x14 x15 x16 x17 x18 x19 x20 x21 x22 wr=>∃ k:Nat,s = .int .i64 k∧i = .int .i64 k∧k≤d.length∧w=wr) (fun s x5 i x12 x13 x14 x15 x16 x17 x18 x19 x20 x21 x22 wr=>d.length-(intOf i).toNat)
 case atStart=>exact⟨0,rfl,rfl,Nat.zero_le _,rfl⟩
 case round =>
  obtain⟨k,rfl,rfl,hk,rfl⟩:=hrel
  by_cases hlt:k<d.length
  ·have hp:d[k]? = some d[k]:=List.getElem?_eq_getElem hlt
   generalize d[k]=p at hp
   rcases HR.out with h | ⟨b,off,rfl,hb,hcell⟩
   ·rw[h] at hlt;simp at hlt
   obtain⟨g,hg,cs,c0,c1,c2⟩:=hcell k p hp
   have dn:decide (((k:Int)+1)<0)=false:=by simp;omega
   clear hcell hp
   go_wp2
   go_roundw
   case rel=>exact⟨k+1,by go_num,by go_num,by omega,by first | rfl | trivial⟩
   case measure=>simp[intOf];omega
  ·have hkl:k=d.length:=by omega
   subst hkl
   go_wp2_with (go_at_call 261;refine (aO0 d.length _ hl).mono ?_;rintro e w1 ⟨v1,rfl,ho1,hB1⟩)
   go_loopw [6,8,27,28,29,30,31,32,33,34] (fun v x8 i x28 x29 x30 x31 x32 x33 x34 wr=>CcI w d v i wr) (fun v x8 i x28 x29 x30 x31 x32 x33 x34 wr=>d.length-(intOf i).toNat)
   case atStart=>exact⟨0,rfl,Nat.zero_le _,ho1,hB1⟩
   case round =>
    obtain⟨k,rfl,hk,ho,hB⟩:=hrel
    by_cases hlt:k<d.length
    ·have hp:d[k]? = some d[k]:=List.getElem?_eq_getElem hlt
     generalize d[k]=p at hp
     rcases HR.out with h | ⟨b,off,rfl,hb,hcell⟩
     ·rw[h] at hlt;simp at hlt
     obtain⟨g,hg,cs,c0,c1,c2⟩:=hcell k p hp
     have cs':=(hB.cell (p:=⟨b,off+k,none⟩) hb).trans cs
     have c0':=(hB.cell (p:=⟨g,0,none⟩) hg).trans c0
     have c1':=(hB.cell (p:=⟨g,1,none⟩) hg).trans c1
     have c2':=(hB.cell (p:=⟨g,2,none⟩) hg).trans c2
     have hnew:=pc3 c0' c1' c2'
     have Hp:=Lib.hid hp
     clear hcell hp cs c0 c1 c2 c0' c1' c2'
     go_wp2_with (at_builtin;refine wpList_append_own _ rfl _ _ 47 rfl w.heap.size 94 i0 _ 3 32 Tryz.underlying47 hi hz0 hz1 hz2 rfl (by decide) _ _ _ rfl ho ⟨g,0,none⟩ 1 1 (pcL p) rfl rfl (fun j u hj=>by rw[Addr.add_lit];exact hnew j u hj) (iT _) (by unfold maxLen;omega) (by omega) hB.size ?_;intro v2 w2 ho2 hg2 _;obtain⟨ao2,cp2,rfl⟩:=aF ho2)
     go_roundw
     case rel =>
      refine⟨k+1,by go_num,by omega,?_,hB.grown hg2 hB.size (fun q hq=>(ho.lt q hq).1)⟩
      rw[List.take_add_one,Hp.out,Option.toList_some,jL];exact ho2
     case measure=>simp[intOf];omega
    ·have hkl:k=d.length:=by omega
     subst hkl
     obtain⟨ao,cp,rfl⟩:=aF ho
     rw[List.take_length] at ho
     go_wp2
     go_returns
     exact⟨_,rfl,ho,hB⟩
theorem aEe:∀ (ps out:List PcV) (tx:List UInt8) (g:Int),(nfF ps out tx g).length≤out.length+3*ps.length+2
 | [],out,tx,g=>rT out tx g
 | p::ps,out,tx,g=>by
  have hA:∀ F:List PcV,(qJ F p).length≤F.length+1:=fun F=>by
   unfold qJ
   split
   ·split<;>simp
   ·simp
  unfold nfF
  rw[List.length_cons]
  split
  ·have:=aEe ps out (tx++p.text.data.toList) g;omega
  ·split
   ·have:=aEe ps out tx (g+p.n);omega
   ·have h1:=aEe ps (qJ (iF out tx g) p) [] 0
    have h2:=hA (iF out tx g)
    have h3:=rT out tx g
    omega
theorem aS1 {p:PcV} (h:Bdp p):(lenS [p]).2.2=0:=by
 obtain⟨hp,h1,h2⟩:=h
 refine (nX [p]).2 ⟨by simp,fun q hq=>by rw[List.mem_singleton.1 hq];exact hp,?_,?_⟩
 ·rw[cO]
  show pcIn p+0≤_
  by_cases hk:p.kind=2
  ·rw[tX hk];omega
  ·have:=oI hp hk;omega
 ·rw[cZ]
  show fE p+0≤_
  by_cases hk:p.kind=3
  ·rw[wR hk];omega
  ·have:=pX hp hk
   unfold gT at this
   rcases hp with⟨_,_,h3⟩ | ⟨_,h3,_⟩<;>omega
def JnR (w:World) (d:List PcV) (e:Ending) (w':World):Prop:=((lenS (nfS d)).2.2=0∧∃ v,e = .returned (.tuple #[v,.int .i64 0])∧w'.ownsRow w.heap.size 94 3 v (nfS d).length (pcsL (nfS d)))∨((lenS (nfS d)).2.2≠0∧e = .returned (.tuple #[.slice none 0 0,.int .i64 5]))
theorem aO1 (a:Option Addr) (c:Nat) (d:List PcV) (w:World) (hr:LRow w a d) (hb:∀ p∈d,Bdp p) (hl:d.length≤8192) (hc:d.length≤c) :
  Calls Tryz.prog 162 #[.slice a d.length c] w fun e w'=>JnR w d e w'∧Below w.heap.size w w':=by
 have HR:=Lib.hid hr
 have HB:=Lib.hid hb
 have hnl:(nfS d).length≤1000000:=by have:=aEe d [] [] 0;unfold nfS;simp at this;omega
 clear hr hb
 go_enter Tryz.func162,Tryz.ntmps162
 go_wp2
 go_loopw [5,6,10,11,12,13,14,15,16,17,18,19] (fun x5 x6 i x11 x12 x13 x14 x15 x16 x17 x18 x19 wr=>∃ k:Nat,i = .int .i64 k∧k≤d.length∧Below w.heap.size w wr) (fun x5 x6 i x11 x12 x13 x14 x15 x16 x17 x18 x19 wr=>d.length-(intOf i).toNat)
 case atStart=>exact⟨0,rfl,Nat.zero_le _,Below.refl _ _⟩
 case round =>
  obtain⟨k,rfl,hk,hB⟩:=hrel
  by_cases hlt:k<d.length
  ·have hp:d[k]? = some d[k]:=List.getElem?_eq_getElem hlt
   have hbp:=HB.out _ (List.mem_of_getElem? hp)
   generalize d[k]=p at hp hbp
   rcases HR.out with h | ⟨b,off,rfl,hbl,hcell⟩
   ·rw[h] at hlt;simp at hlt
   obtain⟨g,hg,cs,c0,c1,c2⟩:=hcell k p hp
   have cs':=(hB.cell (p:=⟨b,off+k,none⟩) hbl).trans cs
   have hnew:=pc3 ((hB.cell (p:=⟨g,0,none⟩) hg).trans c0) ((hB.cell (p:=⟨g,1,none⟩) hg).trans c1) ((hB.cell (p:=⟨g,2,none⟩) hg).trans c2)
   have hrow:PRow wr (some ⟨g,0,none⟩) [p] := .inr ⟨g,0,rfl,Nat.lt_of_lt_of_le hg hB.size,fun j q hq i u hu=>by
    match j,hq with
    | 0,hq =>
     have hq:p=q:=by simpa using hq
     subst hq
     rw[Nat.zero_mul];simpa using hnew i u hu
    | j+1,hq=>simp at hq⟩
   have hck:=rQ (some ⟨g,0,none⟩) 1 [p] wr hrow (by simp) (by simp)
   rw[aS1 hbp] at hck
   clear hcell hp cs c0 c1 c2 hnew hrow hbp
   go_wp2_with (go_at_call 213;refine hck.mono ?_;rintro e w1 ⟨rfl,hB1⟩)
   go_roundw
   case rel=>exact⟨k+1,by go_num,by omega,hB.trans (hB1.mono hB.size)⟩
   case measure=>simp[intOf];omega
  ·have hkl:k=d.length:=by omega
   subst hkl
   clear hlt
   by_cases hz:(lenS (nfS d)).2.2=0
   ·have Hz:=Lib.hid hz
    go_wp2_with (first | (go_at_call 215;refine (aA3 a c d _ (HR.out.on hB) hl hc).mono ?_;rintro e w1 ⟨v1,rfl,ho1,hB1⟩;obtain⟨ao1,cp1,rfl⟩:=aF ho1;obtain⟨hp1,hcp1⟩:=nR rfl ho1) | (go_at_call 214;refine (aGy ao1 cp1 d _ hp1 (by omega) hcp1 (fun p hp=>⟨by rcases (HB.out p hp).1 with⟨_,h,_⟩ | ⟨_,h,_⟩<;>omega,(HB.out p hp).2⟩)).mono ?_;rintro e w2 ⟨v2,rfl,ho2,hB2⟩;obtain⟨ao2,cp2,rfl⟩:=aF ho2;obtain⟨hp2,hcp2⟩:=nR rfl ho2;have hck:=rQ ao2 cp2 (nfS d) w2 hp2 hnl hcp2;rw[Hz.out] at hck) | (go_at_call 213;refine hck.mono ?_;rintro e w3 ⟨rfl,hB3⟩))
    go_returns
    have hB':=(hB.trans (hB1.mono hB.size))
    exact⟨.inl ⟨hz,_,rfl,aRq (gP hB'.size ho2) hB3⟩,(hB'.trans (hB2.mono hB'.size)).trans (hB3.mono (hB'.trans (hB2.mono hB'.size)).size)⟩
   ·have Hz:=Lib.hid hz
    have dz:((lenS (nfS d)).2.2 != 0)=true:=by simpa using hz
    go_wp2_with (first | (go_at_call 215;refine (aA3 a c d _ (HR.out.on hB) hl hc).mono ?_;rintro e w1 ⟨v1,rfl,ho1,hB1⟩;obtain⟨ao1,cp1,rfl⟩:=aF ho1;obtain⟨hp1,hcp1⟩:=nR rfl ho1) | (go_at_call 214;refine (aGy ao1 cp1 d _ hp1 (by omega) hcp1 (fun p hp=>⟨by rcases (HB.out p hp).1 with⟨_,h,_⟩ | ⟨_,h,_⟩<;>omega,(HB.out p hp).2⟩)).mono ?_;rintro e w2 ⟨v2,rfl,ho2,hB2⟩;obtain⟨ao2,cp2,rfl⟩:=aF ho2;obtain⟨hp2,hcp2⟩:=nR rfl ho2;have hck:=rQ ao2 cp2 (nfS d) w2 hp2 hnl hcp2) | (go_at_call 213;refine hck.mono ?_;rintro e w3 ⟨rfl,hB3⟩))
    go_returns
    have hB':=(hB.trans (hB1.mono hB.size))
    exact⟨.inr ⟨hz,rfl⟩,(hB'.trans (hB2.mono hB'.size)).trans (hB3.mono (hB'.trans (hB2.mono hB'.size)).size)⟩
end Go.Proofs.YtdeiocppghhfdaaGreat
