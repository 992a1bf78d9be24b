/- Texts, one behind another. -/
import Derived.Test.YtdeiocppghhfdaaGreatZfau
set_option linter.unusedVariables false
set_option linter.unusedSimpArgs false
set_option maxRecDepth 100000
set_option maxHeartbeats 40000000
namespace Go.Proofs.YtdeiocppghhfdaaGreat
open Go.RowKit Go.Lib Go.Shelf
structure RM where
 text:ByteArray
 mv:Value
 marks:List MkV
 number:Int
 closed:Bool
 readers:Nat
 bv:Value
 sv:Value
 seats:List SeM
def RM.st (M:RM):MS:=⟨M.text,M.marks,M.number,M.closed,M.readers,M.seats.map (·.st)⟩
def rdL (M:RM):List Value:=[.int .i64 M.seats.length,.int .i64 M.readers,.string M.text,M.mv,.int .i64 M.number,.bool M.closed,M.bv,M.sv]
def subL (l:List SeM):List Value:=l.map (fun S => .bool S.sub)
def rowL (l:List SeM):List Value:=l.map (·.v)
structure RdAt (W:World) (b:Nat) (M:RM):Prop where
 blk:W.heap[b]? = some (.cells (rdL M).toArray 178 (0,0))
 marks:MOwn W 0 M.mv M.marks
 subs:W.ownsRow 0 4 1 M.bv M.seats.length (subL M.seats)
 snaps:W.ownsRow 0 213 1 M.sv M.seats.length (rowL M.seats)
 slots:∀ S∈M.seats,W.ownsRow 0 253 4 S.v S.sl.length (slL S.sl)
 smarks:∀ S∈M.seats,∀ x∈S.sl,MOwn W 0 x.mv x.s.marks
 some_:M.bv.ownBlock≠none∧∀ S∈M.seats,S.v.ownBlock≠none
 nodup:(M.seats.map (·.v.ownBlock)).Nodup
def RM.fp (M:RM) (b:Nat) (k:Nat):Prop:=k=b∨M.bv.ownBlock=some k∨∃ S∈M.seats,S.v.ownBlock=some k
theorem RdAt.below {W W':World} {b:Nat} {M:RM} (h:RdAt W b M) (hb:Below W.heap.size W W'):RdAt W' b M :=
 ⟨(hb.block b (gAz h.blk).1).trans h.blk,aI h.marks hb,aI h.subs hb,aI h.snaps hb,fun S hS=>aI (h.slots S hS) hb,fun S hS x hx=>aI (h.smarks S hS x hx) hb,h.some_,h.nodup⟩
theorem RdAt.upd {W W':World} {b:Nat} {M M':RM} (h:RdAt W b M) (hb:W'.heap[b]? = some (.cells (rdL M').toArray 178 (0,0))) (hk:∀ k,k<W.heap.size→k≠b→W'.heap[k]? = W.heap[k]?)
  (hm:MOwn W' 0 M'.mv M'.marks) (hbv:M'.bv=M.bv) (hsv:M'.sv=M.sv) (hse:M'.seats=M.seats):RdAt W' b M' :=
 ⟨hb,hm,by rw[hbv,hse];exact aH h.subs h.blk (by decide) hk,by rw[hsv,hse];exact aH h.snaps h.blk (by decide) hk,fun S hS=>aH (h.slots S (hse ▸ hS)) h.blk (by decide) hk,
  fun S hS x hx=>aH (h.smarks S (hse ▸ hS) x hx) h.blk (by decide) hk,by rw[hbv,hse];exact h.some_,by rw[hse];exact h.nodup⟩
attribute [local go_sem, local simp] resF bD bS fK fM fO dQ eX eY
theorem bG (e:Int) (w:World):Calls Tryz.prog 181 #[.int .i64 e] w fun r w'=>r = .returned (.agg (resL (aS e)).toArray)∧Below w.heap.size w w':=by
 have hz:=heap_alloc_new w (.cells (resL {}).toArray 51)
 have hst:=aK hz rfl
 go_enter Tryz.func181,Tryz.ntmps181
 go_wp2
 exact⟨rfl,_,results_cell_row rfl _ _ _ _ _ _ _ rfl (setRow_heap _ _ _ _ _ _ hz) Tryz.underlying51 rfl (by kernel_rfl),rfl,bM ((Below.refl _ w).alloc (Nat.le_refl _) _) (Nat.le_refl _) _⟩
end Go.Proofs.YtdeiocppghhfdaaGreat
namespace Go.Proofs.YtdeiocppghhfdaaGreat
open Go.RowKit Go.Lib Go.Shelf
theorem yO {w:World} {b off k:Nat} {l:List MkV} {m:MkV} (h:∀ (k:Nat) (m:MkV),l[k]? = some m→∀ (i:Nat) (u:Value),(mkL m)[i]? = some u→w.cell? ⟨b,off+(k*3+i),none⟩=some u) (hx:l[k]? = some m) :
  w.cell? ⟨b,off+k*3,none⟩=some (.int .u32 m.id)∧w.cell? ⟨b,off+k*3+1,none⟩=some (.int .i64 m.at_)∧w.cell? ⟨b,off+k*3+2,none⟩=some (.int .u8 m.grav) :=
 ⟨h k m hx 0 _ rfl,h k m hx 1 _ rfl,h k m hx 2 _ rfl⟩
def MCs (w:World) (b off:Nat) (l:List MkV):Prop:=∀ (k:Nat) (m:MkV),l[k]? = some m→∀ (i:Nat) (u:Value),(mkL m)[i]? = some u→w.cell? ⟨b,off+(k*3+i),none⟩=some u
theorem vS {W:World} {b off:Nat} {l:List MkV} (h:MRow W (some ⟨b,off,none⟩) l):MCs W b off l:=by
 rcases h with⟨h1,_⟩ | ⟨b',off',h1,_,h3⟩
 ·cases h1
 ·injection h1 with h1;injection h1 with e1 e2 _;subst e1;subst e2;exact h3
theorem nZ {W:World} {a:Option Addr} {l:List MkV} (h:MRow W a l) (hl:l≠[]):∃ b off,a=some ⟨b,off,none⟩∧b<W.heap.size:=by
 rcases h with⟨_,h2⟩ | ⟨b,off,h1,h2,_⟩
 ·exact absurd h2 hl
 ·exact⟨b,off,h1,h2⟩
theorem jW (m:MkV):∀ u∈mkL m,u.oneCell'=true:=by
 intro u hu
 unfold mkL at hu
 simp only[List.mem_cons,List.not_mem_nil,or_false] at hu
 rcases hu with rfl | rfl | rfl<;>rfl
theorem aIr {W:World} {B n s c:Nat} {e:TypeId} {a:Option Addr} {xs:List Value} (h:W.ownsRow B e s (.slice a n c) n xs) (hn:n≠0):∃ g,a=some ⟨g,0,none⟩:=by
 rcases h.2 with⟨_,e2⟩ | ⟨g,cap,cur,e1,_⟩
 ·exact absurd e2 hn
 ·injection e1 with e1 _ _;exact⟨g,e1⟩
theorem aIs {W:World} {B n s c:Nat} {e:TypeId} {a:Option Addr} {xs:List Value} (h:W.ownsRow B e s (.slice a n c) n xs):(a=none∧n=0∧c=0)∨∃ g,a=some ⟨g,0,none⟩∧n≤c:=by
 rcases h.2 with⟨e1,e2⟩ | ⟨g,cap,cur,e1,_,_,h3,_⟩
 ·injection e1 with e1 _ e3;exact .inl ⟨e1,e2,e3⟩
 ·injection e1 with e1 _ e3;exact .inr ⟨g,e1,by omega⟩
theorem vT (lo hi:List MkV):mksL (lo++hi)=mksL lo++mksL hi:=by unfold mksL;rw[List.flatMap_append]
theorem nH (l:List MkV):(mksL l).length=l.length*3:=by
 induction l with
 |nil=>rfl
 |cons m l ih=>show (mkL m++mksL l).length=_;rw[List.length_append,ih,List.length_cons];show 3+_=_;omega
theorem oC (l:List MkV):∀ u∈mksL l,u.oneCell'=true:=by
 intro u hu
 unfold mksL at hu
 obtain⟨m,_,hm⟩:=List.mem_flatMap.1 hu
 exact jW m u hm
theorem aEz {W:World} {B g cr:Nat} {rest lo hi:List MkV} (h:MOwn W B (.slice (some ⟨g,0,none⟩) rest.length cr) rest) (he:rest=lo++hi):∀ j u,(mksL lo)[j]? = some u→W.cell? ((⟨g,0,none⟩:Addr).add j)=some u:=by
 intro j u hj
 refine h.cells (g:=g) rfl j u ?_
 rw[he,vT,List.getElem?_append_left (gLz hj).1]
 exact hj
theorem aRb {W:World} {B g cr:Nat} {rest lo hi:List MkV} (h:MOwn W B (.slice (some ⟨g,0,none⟩) rest.length cr) rest) (he:rest=lo++hi):∀ j u,(mksL hi)[j]? = some u→W.cell? ((⟨g,lo.length*3,none⟩:Addr).add j)=some u:=by
 intro j u hj
 have:=h.cells (g:=g) rfl (lo.length*3+j) u (by
  rw[he,vT,List.getElem?_append_right (by rw[nH];omega),nH,show lo.length*3+j-lo.length*3=j by omega]
  exact hj)
 have e1:(⟨g,0,none⟩:Addr).add (lo.length*3+j)=⟨g,lo.length*3+j,none⟩:=by unfold Addr.add;split<;>simp_all
 have e2:(⟨g,lo.length*3,none⟩:Addr).add j=⟨g,lo.length*3+j,none⟩:=by unfold Addr.add;split<;>simp_all
 rw[e1] at this;rw[e2];exact this
theorem aAe {W:World} {g:Nat} {L:List Value} {T:TypeId} (h:W.heap[g]? = some (.cells L.toArray T (0,0))):∀ (j:Nat) (u:Value),L[j]? = some u→W.cell? ((⟨g,0,none⟩:Addr).add j)=some u:=by
 intro j u hj
 have e:(⟨g,0,none⟩:Addr).add j=⟨g,j,none⟩:=by unfold Addr.add;split<;>simp_all
 rw[e]
 simp only[World.cell?,h]
 simpa using hj
theorem vU (W:World) (o o2:Obj):((W.alloc o).alloc o2).heap[W.heap.size+1]? = some o2:=by
 have:=heap_alloc_new (W.alloc o) o2
 rwa [World.size_alloc] at this
theorem jG (W:World):(W.alloc (.cells #[] 74)).ownsRow W.heap.size 74 3 (.slice (some ⟨W.heap.size,0,none⟩) 0 0) 0 [] :=
 ⟨rfl,.inr ⟨W.heap.size,0,#[],rfl,Nat.le_refl _,heap_alloc_new W _,Nat.le_refl _,by unfold maxLen;omega,rfl,rfl⟩⟩
theorem RdAt.cs {W:World} {b:Nat} {M:RM} (h:RdAt W b M):W.cell? ⟨b,0,none⟩=some (.int .i64 M.seats.length)∧W.cell? ⟨b,1,none⟩=some (.int .i64 M.readers)∧W.cell? ⟨b,2,none⟩=some (.string M.text)∧W.cell? ⟨b,3,none⟩=some M.mv∧W.cell? ⟨b,4,none⟩=some (.int .i64 M.number)∧W.cell? ⟨b,5,none⟩=some (.bool M.closed)∧W.cell? ⟨b,6,none⟩=some M.bv∧W.cell? ⟨b,7,none⟩=some M.sv:=by
 refine⟨?_,?_,?_,?_,?_,?_,?_,?_⟩<;>simp[World.cell?,h.blk,rdL]
attribute [local go_sem, local simp] resF bD bS fK fM fO dQ eX eY
def fP (b:Nat) (w:World) (x:ResV × MS) (R:RM) (e:Ending) (w':World):Prop:=e = .returned (.agg (resL x.1).toArray)∧∃ R',RdAt w' b R'∧R'.st=x.2∧aF (R.fp b) w w'∧(∀ k,R'.fp b k→R.fp b k∨w.heap.size≤k)
theorem RdAt.row {W:World} {b g:Nat} {M:RM} {cs:Array Value} (h:RdAt W b M) (hg:W.heap[g]? = some (.cells cs 51 (0,0))) (r:Array Value):RdAt (W.setRow g r) b M:=by
 have hk:∀ k,k<W.heap.size→k≠g→(W.setRow g r).heap[k]? = W.heap[k]? := fun k _ hk=>setRow_other _ _ _ _ hk
 have hbg:b≠g:=fun e=>by subst e;have:=h.blk;rw[hg] at this;injection this with this;injection this with _ h2 _;exact absurd h2 (by decide)
 exact⟨(hk b (gAz h.blk).1 hbg).trans h.blk,aH h.marks hg (by decide) hk,aH h.subs hg (by decide) hk,aH h.snaps hg (by decide) hk,fun S hS=>aH (h.slots S hS) hg (by decide) hk,fun S hS x hx=>aH (h.smarks S hS x hx) hg (by decide) hk,h.some_,h.nodup⟩
theorem RdAt.f {W:World} {b:Nat} {M:RM} (h:RdAt W b M) (i:Nat):W.frozen? ⟨b,i,none⟩=false:=by simp[World.frozen?,h.blk]
theorem RdAt.setMarks {W:World} {b:Nat} {M:RM} (h:RdAt W b M) {v:Value} {l:List MkV} (hl:MOwn W 0 v l):RdAt (W.setCell ⟨b,3,none⟩ v) b { M with mv:=v,marks:=l } :=
 h.upd (by have:=bZ h.blk 3 v;exact this) (fun k _ hk=>aG _ _ _ _ hk) (aH hl h.blk (by decide) (fun k _ hk=>aG _ _ _ _ hk)) rfl rfl rfl
theorem RdAt.setText {W:World} {b:Nat} {M:RM} (h:RdAt W b M) (t:ByteArray):RdAt (W.setCell ⟨b,2,none⟩ (.string t)) b { M with text:=t } :=
 h.upd (by have:=bZ h.blk 2 (.string t);exact this) (fun k _ hk=>aG _ _ _ _ hk) (aH h.marks h.blk (by decide) (fun k _ hk=>aG _ _ _ _ hk)) rfl rfl rfl
theorem RdAt.setNum {W:World} {b:Nat} {M:RM} (h:RdAt W b M) (x:Int):RdAt (W.setCell ⟨b,4,none⟩ (.int .i64 x)) b { M with number:=x } :=
 h.upd (by have:=bZ h.blk 4 (.int .i64 x);exact this) (fun k _ hk=>aG _ _ _ _ hk) (aH h.marks h.blk (by decide) (fun k _ hk=>aG _ _ _ _ hk)) rfl rfl rfl
theorem RdAt.setShut {W:World} {b:Nat} {M:RM} (h:RdAt W b M) (x:Bool):RdAt (W.setCell ⟨b,5,none⟩ (.bool x)) b { M with closed:=x } :=
 h.upd (by have:=bZ h.blk 5 (.bool x);exact this) (fun k _ hk=>aG _ _ _ _ hk) (aH h.marks h.blk (by decide) (fun k _ hk=>aG _ _ _ _ hk)) rfl rfl rfl
structure RnAt (W:World) (g o:Nat) (cur:Array Value) (x:SnM):Prop where
 blk:W.heap[g]? = some (.cells cur 253 (0,0))
 sz:o+4≤cur.size
 seg:(cur.toList.drop o).take 4=snL x
 marks:MOwn W 0 x.mv x.s.marks
theorem RnAt.cells {W:World} {g o:Nat} {cur:Array Value} {x:SnM} (h:RnAt W g o cur x):(W.cell? ⟨g,o,none⟩=some (.bool x.s.held)∧W.cell? ⟨g,o+1,none⟩=some (.string x.s.text)∧W.cell? ⟨g,o+2,none⟩=some x.mv∧W.cell? ⟨g,o+3,none⟩=some (.int .i64 x.s.cursor)) ∧
  (W.frozen? ⟨g,o,none⟩=false∧W.frozen? ⟨g,o+1,none⟩=false∧W.frozen? ⟨g,o+2,none⟩=false∧W.frozen? ⟨g,o+3,none⟩=false):=by
 have hc:∀ i u,(snL x)[i]? = some u→W.cell? ⟨g,o+i,none⟩=some u:=by
  intro i u hu
  rw[← h.seg] at hu
  have hi:i<4:=by
   by_cases hi:i<4
   ·exact hi
   ·rw[List.getElem?_take,if_neg (by omega)] at hu;cases hu
  rw[List.getElem?_take_of_lt hi,List.getElem?_drop,Array.getElem?_toList] at hu
  simp[World.cell?,h.blk,hu]
 exact⟨⟨hc 0 _ rfl,hc 1 _ rfl,hc 2 _ rfl,hc 3 _ rfl⟩,by simp[World.frozen?,h.blk],by simp[World.frozen?,h.blk],by simp[World.frozen?,h.blk],by simp[World.frozen?,h.blk]⟩
theorem RnAt.below {W W':World} {g o:Nat} {cur:Array Value} {x:SnM} (h:RnAt W g o cur x) (hb:Below W.heap.size W W'):RnAt W' g o cur x :=
 ⟨(hb.block g (gAz h.blk).1).trans h.blk,h.sz,h.seg,aI h.marks hb⟩
theorem RnAt.same {W:World} {g o:Nat} {cur:Array Value} {x:SnM} (h:RnAt W g o cur x):RnAt W g o (segA cur o (snL x)) x:=by
 have e:segA cur o (snL x)=cur:=vG (by have:=h.seg;exact this)
 rw[e];exact h
theorem RnAt.set3 {W:World} {g o:Nat} {cur:Array Value} {x:SnM} (h:RnAt W g o cur x) (p:Int):RnAt (W.setCell ⟨g,o+3,none⟩ (.int .i64 p)) g o (segA cur o (snL ⟨{ x.s with cursor:=p },x.mv⟩)) ⟨{ x.s with cursor:=p },x.mv⟩:=by
 have hl:(cur.toList.drop o).take (snL x).length=snL x:=h.seg
 have hs:o+(snL x).length≤cur.size:=h.sz
 have e:=aF4 (u := .int .i64 p) hs hl (show 3<(snL x).length from (by show 3<4;omega))
 have hs2:o+(snL ⟨{ x.s with cursor:=p },x.mv⟩).length≤cur.size:=h.sz
 refine⟨?_,by rw[mY hs2];exact h.sz,zR hs2,aH h.marks h.blk (by decide) (fun k _ hk=>aG _ _ _ _ hk)⟩
 have:(W.setCell ⟨g,o+3,none⟩ (.int .i64 p)).heap[g]? = some (.cells (cur.setIfInBounds (o+3) (.int .i64 p)) 253 (0,0)):=by
  simp[World.setCell,Array.getElem?_modify,h.blk]
 rw[this,e];rfl
theorem jB {W:World} {g r:Nat} {cur cs:Array Value} (h:W.heap[g]? = some (.cells cur 253 (0,0))) (hr:W.heap[r]? = some (.cells cs 51 (0,0))):g≠r:=by
 rintro rfl;rw[h] at hr;injection hr with hr;injection hr with _ h2 _;exact absurd h2 (by decide)
theorem RnAt.row {W:World} {g o r:Nat} {cur cs:Array Value} {x:SnM} (h:RnAt W g o cur x) (hr:W.heap[r]? = some (.cells cs 51 (0,0))) (R:Array Value):RnAt (W.setRow r R) g o cur x :=
 ⟨(setRow_other _ _ _ _ (jB h.blk hr)).trans h.blk,h.sz,h.seg,aH h.marks hr (by decide) (fun k _ hk=>setRow_other _ _ _ _ hk)⟩
theorem RnAt.drew {W:World} {g o:Nat} {cur:Array Value} {x:SnM} (h:RnAt W g o cur x):RnAt W.drew g o cur x:=⟨h.blk,h.sz,h.seg,h.marks⟩
theorem RnAt.there {W:World} {g o:Nat} {cur:Array Value} {x:SnM} (h:RnAt W g o cur x):W.there g o 4:=by
 have hs:=h.sz
 intro j hj
 refine⟨?_,by simp[World.frozen?,h.blk]⟩
 simp only[World.cell?,h.blk]
 simp
 omega
theorem RnAt.st {W:World} {g o:Nat} {cur:Array Value} {x:SnM} (h:RnAt W g o cur x) (y:SnM) (hy:y.mv.oneCell'=true):(storeCells ⟨g,o,none⟩ (snL y)).run Tryz.prog W = .ok () (W.setCells g o (snL y)):=by
 have ht:=h.there
 have:=run_storeCells_cells (P := Tryz.prog) g o (snL y) 0 W (fun j hj=>(ht j hj).1) (fun j hj=>(ht j hj).2) (fun v hv=>by
  simp only[snL,List.mem_cons,List.not_mem_nil,or_false] at hv
  rcases hv with rfl | rfl | rfl | rfl
  ·rfl
  ·rfl
  ·exact hy
  ·rfl)
 exact this
theorem RnAt.stP {W:World} {g o:Nat} {cur:Array Value} {x:SnM} (h:RnAt W g o cur x) (y:SnM) (hy:y.mv.oneCell'=true):(storeCells ⟨g,o,none⟩ (snL y)).run Tryz.prog W = .ok () (putSn W g o y):=by rw[iR];exact h.st y hy
theorem RnAt.setAll {W:World} {g o:Nat} {cur:Array Value} {x y:SnM} (h:RnAt W g o cur x) (hy:MOwn W 0 y.mv y.s.marks):RnAt (W.setCells g o (snL y)) g o (segA cur o (snL y)) y:=by
 have hs:o+(snL y).length≤cur.size:=h.sz
 exact⟨lL _ _ _ _ h.blk hs,by rw[mY hs];exact h.sz,zR hs,aH hy h.blk (by decide) (fun k _ hk=>iQ _ _ _ _ hk)⟩
theorem RnAt.put {W:World} {g o:Nat} {cur:Array Value} {x y:SnM} (h:RnAt W g o cur x) (hy:MOwn W 0 y.mv y.s.marks):RnAt (putSn W g o y) g o (segA cur o (snL y)) y:=by rw[iR];exact h.setAll hy
def RM.putSlot (M:RM) (c k:Nat) (S:SeM) (x:SnM):RM:={ M with seats:=M.seats.set c { S with sl:=S.sl.set k x } }
def RM.putSub (M:RM) (c:Nat) (S:SeM):RM:={ M with seats:=M.seats.set c { S with sub:=true } }
theorem RM.seat_st {M:RM} {c:Nat} {S:SeM} (h:M.seats[c]? = some S):M.st.seat c=S.st:=by
 unfold MS.seat RM.st;rw[List.getD_eq_getElem?_getD,List.getElem?_map,h];rfl
theorem RM.putSlot_st {M:RM} {c k:Nat} {S:SeM} {x:SnM} (h:M.seats[c]? = some S):(M.putSlot c k S x).st=M.st.putSlot c k x.s:=by
 unfold MS.putSlot MS.put
 rw[RM.seat_st h]
 show (⟨M.text,M.marks,M.number,M.closed,M.readers,(M.seats.set c { S with sl:=S.sl.set k x }).map (·.st)⟩:MS)=⟨M.text,M.marks,M.number,M.closed,M.readers,(M.seats.map (·.st)).set c _⟩
 rw[List.map_set]
 show (⟨M.text,M.marks,M.number,M.closed,M.readers,(M.seats.map (·.st)).set c ⟨S.sub,(S.sl.set k x).map (·.s)⟩⟩:MS)=⟨M.text,M.marks,M.number,M.closed,M.readers,(M.seats.map (·.st)).set c ⟨S.sub,(S.sl.map (·.s)).set k x.s⟩⟩
 rw[List.map_set]
theorem RM.putSub_st {M:RM} {c:Nat} {S:SeM} (h:M.seats[c]? = some S):(M.putSub c S).st=M.st.put c { M.st.seat c with sub:=true }:=by
 rw[RM.seat_st h]
 show (⟨M.text,M.marks,M.number,M.closed,M.readers,(M.seats.set c { S with sub:=true }).map (·.st)⟩:MS)=⟨M.text,M.marks,M.number,M.closed,M.readers,(M.seats.map (·.st)).set c _⟩
 rw[List.map_set]
 rfl
theorem gY {α β:Type} {l:List α} {c:Nat} {S S':α} (f:α→β) (hS:l[c]? = some S) (hf:f S'=f S):(l.set c S').map f=l.map f:=by
 obtain⟨hc,hSe⟩:=gLz hS
 rw[List.map_set,hf]
 refine List.ext_getElem? fun i => ?_
 rw[List.getElem?_set]
 split
 ·rename_i e;subst e;rw[List.getElem?_map,hS,List.length_map,if_pos hc];rfl
 ·rfl
structure qX (W:World) (M:RM) (c:Nat) (S:SeM) (gs cs g cp gb cb:Nat) (cur:Array Value):Prop where
 sv:M.sv = .slice (some ⟨gs,0,none⟩) M.seats.length cs
 v:S.v = .slice (some ⟨g,0,none⟩) S.sl.length cp
 bv:M.bv = .slice (some ⟨gb,0,none⟩) M.seats.length cb
 b0:W.cell? ⟨gb,c,none⟩=some (.bool S.sub)
 bf:W.frozen? ⟨gb,c,none⟩=false
 c1:W.cell? ⟨gs,c,none⟩=some (.slice (some ⟨g,0,none⟩) S.sl.length cp)
 cap:S.sl.length≤cp
 blk:W.heap[g]? = some (.cells cur 253 (0,0))
 bblk:∃ cb,W.heap[gb]? = some (.cells cb 4 (0,0))
 sblk:∃ cb,W.heap[gs]? = some (.cells cb 213 (0,0))
 sn:∀ k x,S.sl[k]? = some x→RnAt W g (k*4) cur x
theorem vV {w:World} {B s n g cp:Nat} {ad:Option Nat} {o:Nat} {e:TypeId} {n':Nat} {xs:List Value} (h:w.ownsRow B e s (.slice (some ⟨g,o,ad⟩) n' cp) n xs):∃ cu,w.heap[g]? = some (.cells cu e (0,0)):=by
 rcases h.2 with⟨e1,_⟩ | ⟨g',_,cu,e1,_,hg,_⟩
 ·injection e1 with e1;cases e1
 ·injection e1 with e1;injection e1 with e1;injection e1 with e1;subst e1;exact⟨cu,hg⟩
theorem RdAt.seatAt {W:World} {b:Nat} {M:RM} (h:RdAt W b M) {c:Nat} {S:SeM} (hS:M.seats[c]? = some S):∃ gs cs g cp gb cb cur,qX W M c S gs cs g cp gb cb cur:=by
 have hmem:=mGz hS
 have h1:=h.snaps
 have h2:=h.slots S hmem
 have h3:=h.subs
 have hlen:M.seats.length≠0:=by have:=(gLz hS).1;omega
 rcases h1.2 with⟨_,e2⟩ | ⟨gs,cs,curS,e1,_⟩
 ·exact absurd e2 hlen
 rcases h3.2 with⟨_,e2⟩ | ⟨gb,cb,curB,e3,_⟩
 ·exact absurd e2 hlen
 rcases h2.2 with⟨e2,_⟩ | ⟨g,cp,cur,e2,_,hg,q1,q2,q3,q4⟩
 ·exact absurd (by rw[e2];rfl) (h.some_.2 S hmem)
 rw[e1] at h1
 rw[e3] at h3
 have hv:=e2
 have b2:=kT h3 c (.bool S.sub) (by show (subL M.seats)[c]? = _;unfold subL;rw[List.getElem?_map,hS];rfl)
 refine⟨gs,cs,g,cp,gb,cb,cur,e1,hv,e3,b2.1,b2.2,?_,q1,hg,vV h3,vV h1,fun k x hx => ?_⟩
 ·refine (kT h1 c _ ?_).1
  show (rowL M.seats)[c]? = _
  unfold rowL;rw[List.getElem?_map,hS];simp[hv]
 ·obtain⟨hk,_⟩:=gLz hx
  have hle:k*4+4≤S.sl.length*4:=by omega
  refine⟨hg,by rw[q3];omega,?_,h.smarks S hmem x (mGz hx)⟩
  rw[← zT S.sl k x hx,← q4,List.drop_take,List.take_take]
  congr 1
  omega
theorem qX.below {W W':World} {M:RM} {c:Nat} {S:SeM} {gs cs g cp gb cb:Nat} {cur:Array Value} (h:qX W M c S gs cs g cp gb cb cur) (hb:Below W.heap.size W W'):qX W' M c S gs cs g cp gb cb cur :=
 ⟨h.sv,h.v,h.bv,cell_below h.b0 hb,yD h.b0 h.bf hb,cell_below h.c1 hb,h.cap,(hb.block g (gAz h.blk).1).trans h.blk,by obtain⟨cb,hc⟩:=h.bblk;exact⟨cb,(hb.block gb (gAz hc).1).trans hc⟩,by obtain⟨cb,hc⟩:=h.sblk;exact⟨cb,(hb.block gs (gAz hc).1).trans hc⟩,fun k x hx=>(h.sn k x hx).below hb⟩
theorem qX.ne {W:World} {b:Nat} {M:RM} (h:RdAt W b M) {c:Nat} {S:SeM} {gs cs g cp gb cb:Nat} {cur:Array Value} (hA:qX W M c S gs cs g cp gb cb cur):b≠g∧gs≠g∧gb≠g∧b≠gb∧gs≠gb:=by
 obtain⟨_,h1⟩:=hA.bblk
 obtain⟨_,h2⟩:=hA.sblk
 have h3:=h.blk
 have h4:=hA.blk
 refine⟨?_,?_,?_,?_,?_⟩
 ·rintro rfl;rw[h3] at h4;injection h4 with h4;injection h4 with _ h4 _;exact absurd h4 (by decide)
 ·rintro rfl;rw[h2] at h4;injection h4 with h4;injection h4 with _ h4 _;exact absurd h4 (by decide)
 ·rintro rfl;rw[h1] at h4;injection h4 with h4;injection h4 with _ h4 _;exact absurd h4 (by decide)
 ·rintro rfl;rw[h3] at h1;injection h1 with h1;injection h1 with _ h1 _;exact absurd h1 (by decide)
 ·rintro rfl;rw[h2] at h1;injection h1 with h1;injection h1 with _ h1 _;exact absurd h1 (by decide)
theorem RdAt.putSlot {W W':World} {b:Nat} {M:RM} (h:RdAt W b M) {c k:Nat} {S:SeM} (hS:M.seats[c]? = some S) {gs cs g cp gb cb:Nat} {cur:Array Value} (hA:qX W M c S gs cs g cp gb cb cur) {x x':SnM} (hx:S.sl[k]? = some x)
  (h':RnAt W' g (k*4) (segA cur (k*4) (snL x')) x') (hK:aF (fun k=>k=g) W W'):RdAt W' b (M.putSlot c k S x'):=by
 have hmem:=mGz hS
 obtain⟨hk,_⟩:=gLz hx
 have hkb:∀ k,k<W.heap.size→k≠g→W'.heap[k]? = W.heap[k]? := fun k hk hn=>hK.block k hk hn
 have hlen:(M.seats.set c { S with sl:=S.sl.set k x' }).length=M.seats.length:=List.length_set ..
 have hmap:(M.seats.set c { S with sl:=S.sl.set k x' }).map (·.v.ownBlock)=M.seats.map (·.v.ownBlock):=gY _ hS rfl
 have hsub:subL (M.seats.set c { S with sl:=S.sl.set k x' })=subL M.seats:=gY _ hS rfl
 have hrow:rowL (M.seats.set c { S with sl:=S.sl.set k x' })=rowL M.seats:=gY _ hS rfl
 refine⟨?_,aH h.marks hA.blk (by decide) hkb,?_,?_,?_,?_,⟨h.some_.1,?_⟩,?_⟩
 ·have e:rdL (M.putSlot c k S x')=rdL M:=by unfold rdL RM.putSlot;simp only[hlen]
  rw[e];exact (hkb b (gAz h.blk).1 (hA.ne h).1).trans h.blk
 ·show W'.ownsRow 0 _ 1 M.bv (M.seats.set c _).length (subL (M.seats.set c _))
  rw[hlen,hsub]
  exact aH h.subs hA.blk (by decide) hkb
 ·show W'.ownsRow 0 _ 1 M.sv (M.seats.set c _).length (rowL (M.seats.set c _))
  rw[hlen,hrow]
  exact aH h.snaps hA.blk (by decide) hkb
 ·intro S' hS'
  rcases bJ hS' with rfl | ⟨d,hd,hS'⟩
  ·show W'.ownsRow 0 _ 4 S.v (S.sl.set k x').length (slL (S.sl.set k x'))
   have h2:=h.slots S hmem
   rw[hA.v] at h2 ⊢
   rw[List.length_set,aF6 _ _ _ hk]
   exact aF5 h2 hA.blk k hk (snL x') rfl h'.blk
  ·exact rU (h.slots S' (mGz hS')) hK (by have:=aBr h.nodup hS hS' hd;rw[hA.v] at this;exact this)
 ·intro S' hS' y hy
  rcases bJ hS' with rfl | ⟨d,hd,hS'⟩
  ·rcases bJ hy with rfl | ⟨j,hj,hy⟩
   ·exact h'.marks
   ·exact aH (h.smarks S hmem y (mGz hy)) hA.blk (by decide) hkb
  ·exact aH (h.smarks S' (mGz hS') y hy) hA.blk (by decide) hkb
 ·intro S' hS'
  rcases bJ hS' with rfl | ⟨d,hd,hS'⟩
  ·exact h.some_.2 S hmem
  ·exact h.some_.2 S' (mGz hS')
 ·show ((M.seats.set c _).map (·.v.ownBlock)).Nodup
  rw[hmap];exact h.nodup
theorem RdAt.putSub {W:World} {b:Nat} {M:RM} (h:RdAt W b M) {c:Nat} {S:SeM} (hS:M.seats[c]? = some S) {gs cs g cp gb cb:Nat} {cur:Array Value} (hA:qX W M c S gs cs g cp gb cb cur):RdAt (W.setCell ⟨gb,c,none⟩ (.bool true)) b (M.putSub c S):=by
 have hmem:=mGz hS
 obtain⟨hc,hSe⟩:=gLz hS
 have h1:=h.subs
 rw[hA.bv] at h1
 obtain⟨curS,hgs⟩:=vV h1
 have hkb:∀ k,k<W.heap.size→k≠gb→(W.setCell ⟨gb,c,none⟩ (.bool true)).heap[k]? = W.heap[k]? := fun k _ hk=>aG _ _ _ _ hk
 have hlen:(M.seats.set c { S with sub:=true }).length=M.seats.length:=List.length_set ..
 have hmap:(M.seats.set c { S with sub:=true }).map (·.v.ownBlock)=M.seats.map (·.v.ownBlock):=gY _ hS rfl
 have hrow:rowL (M.seats.set c { S with sub:=true })=rowL M.seats:=gY _ hS rfl
 have hsub:subL (M.seats.set c { S with sub:=true })=(subL M.seats).set c (.bool true):=by unfold subL;rw[List.map_set]
 refine⟨?_,aH h.marks hgs (by decide) hkb,?_,?_,?_,?_,⟨h.some_.1,?_⟩,?_⟩
 ·have e:rdL (M.putSub c S)=rdL M:=by unfold rdL RM.putSub;simp only[hlen]
  rw[e];exact (hkb b (gAz h.blk).1 (hA.ne h).2.2.2.1).trans h.blk
 ·show (W.setCell ⟨gb,c,none⟩ (.bool true)).ownsRow 0 _ 1 M.bv (M.seats.set c _).length (subL (M.seats.set c _))
  rw[hlen,hsub,hA.bv]
  exact (mW h1 c (by omega) (.bool true)).1
 ·show (W.setCell ⟨gb,c,none⟩ (.bool true)).ownsRow 0 _ 1 M.sv (M.seats.set c _).length (rowL (M.seats.set c _))
  rw[hlen,hrow]
  exact aH h.snaps hgs (by decide) hkb
 ·intro S' hS'
  rcases bJ hS' with rfl | ⟨d,hd,hS'⟩
  ·exact aH (h.slots S hmem) hgs (by decide) hkb
  ·exact aH (h.slots S' (mGz hS')) hgs (by decide) hkb
 ·intro S' hS' y hy
  rcases bJ hS' with rfl | ⟨d,hd,hS'⟩
  ·exact aH (h.smarks S hmem y hy) hgs (by decide) hkb
  ·exact aH (h.smarks S' (mGz hS') y hy) hgs (by decide) hkb
 ·intro S' hS'
  rcases bJ hS' with rfl | ⟨d,hd,hS'⟩
  ·exact h.some_.2 S hmem
  ·exact h.some_.2 S' (mGz hS')
 ·show ((M.seats.set c _).map (·.v.ownBlock)).Nodup
  rw[hmap];exact h.nodup
theorem RdAt.c7 {W:World} {b:Nat} {M:RM} (h:RdAt W b M) {v:Value} (hv:M.sv=v):W.cell? ⟨b,7,none⟩=some v:=by rw[← hv];exact h.cs.2.2.2.2.2.2.2
theorem RdAt.c6 {W:World} {b:Nat} {M:RM} (h:RdAt W b M) {v:Value} (hv:M.bv=v):W.cell? ⟨b,6,none⟩=some v:=by rw[← hv];exact h.cs.2.2.2.2.2.2.1
theorem vW {b c k0:Nat} {M:RM} {S:SeM} {x:SnM} (hS:M.seats[c]? = some S) (k:Nat):(M.putSlot c k0 S x).fp b k→M.fp b k:=by
 have hmem:=mGz hS
 rintro (h | h | ⟨S',hS',h⟩)
 ·exact .inl h
 ·exact .inr (.inl h)
 ·rcases bJ hS' with rfl | ⟨d,hd,hS'⟩
  ·exact .inr (.inr ⟨S,hmem,h⟩)
  ·exact .inr (.inr ⟨S',mGz hS',h⟩)
theorem aPp {b c:Nat} {M:RM} {S:SeM} (hS:M.seats[c]? = some S) (k:Nat):(M.putSub c S).fp b k→M.fp b k:=by
 have hmem:=mGz hS
 rintro (h | h | ⟨S',hS',h⟩)
 ·exact .inl h
 ·exact .inr (.inl h)
 ·rcases bJ hS' with rfl | ⟨d,hd,hS'⟩
  ·exact .inr (.inr ⟨S,hmem,h⟩)
  ·exact .inr (.inr ⟨S',mGz hS',h⟩)
def aL3 (v:Value):Sem Value:=Instr.loadAt 51 v
theorem aIt (v:Value):Instr.loadAt 51 v=aL3 v:=rfl
theorem mD {W:World} {b:Nat} (R:ResV) (h:W.heap[b]? = some (.cells (resL R).toArray 51 (0,0))):(aL3 (.pointer (some ⟨b,0,none⟩))).run Tryz.prog W = .ok (.agg (resL R).toArray) W :=
 run_loadAt_mid W b 0 51 (resL R) _ (fun j v hv=>by rw[Nat.zero_add,cell_of_row W b j _ _ (0,0) h];simpa using hv) Tryz.underlying51 rfl (by kernel_rfl)
theorem gZ {W:World} {r:Nat} {R R':ResV} (h:W.heap[r]? = some (.cells (resL R).toArray 51 (0,0))) (i:Nat) (v:Value) (he:(resL R).set i v=resL R'):(W.setCell ⟨r,i,none⟩ v).heap[r]? = some (.cells (resL R').toArray 51 (0,0)):=by
 have:=bZ h i v
 rw[he] at this
 exact this
theorem kE {W:World} {r:Nat} {R:ResV} (h:W.heap[r]? = some (.cells (resL R).toArray 51 (0,0))) (i:Nat):W.frozen? ⟨r,i,none⟩=false:=by simp[World.frozen?,h]
theorem jX {W:World} {r:Nat} {R:ResV} (h:W.heap[r]? = some (.cells (resL R).toArray 51 (0,0))):W.cell? ⟨r,3,none⟩=some (.int .i64 R.at_)∧W.cell? ⟨r,4,none⟩=some (.int .u8 R.grav)∧W.cell? ⟨r,5,none⟩=some (.string R.text)∧W.cell? ⟨r,6,none⟩=some (.int .i64 R.m1)∧W.cell? ⟨r,7,none⟩=some (.int .i64 R.m2)∧W.cell? ⟨r,8,none⟩=some (.int .i64 R.m3):=by
 refine⟨?_,?_,?_,?_,?_,?_⟩<;>simp[World.cell?,h,resL]
theorem bQ {B:Nat} {w W:World} (h:Below B w W) (k i:Nat) (v:Value) (hk:B≤k):Below B w (W.setCell ⟨k,i,none⟩ v) :=
 ⟨h.os,h.tape,h.output,by rw[eQ];exact h.size,fun j hj=>(aG _ _ _ _ (by show j≠k;omega)).trans (h.block j hj)⟩
theorem vX {F:Nat→Prop} {w W:World} (h:aF F w W) (k i:Nat) (v:Value) (hk:w.heap.size≤k):aF F w (W.setCell ⟨k,i,none⟩ v) :=
 ⟨h.os,h.tape,h.output,by rw[eQ];exact h.size,fun j hj hn=>(aG _ _ _ _ (by show j≠k;omega)).trans (h.block j hj hn)⟩
theorem qY {W:World} {g o r:Nat} {cur cs:Array Value} {x:SnM} (h:RnAt W g o cur x) (hz:W.heap[r]? = some (.cells cs 51 (0,0))) (i:Nat) (v:Value):RnAt (W.setCell ⟨r,i,none⟩ v) g o cur x :=
 ⟨(aG _ _ _ _ (jB h.blk hz)).trans h.blk,h.sz,h.seg,aH h.marks hz (by decide) (fun k _ hk=>aG _ _ _ _ hk)⟩
structure RdS (w:World) (o:OpV) (b c:Nat) (M:RM) (S:SeM) (gs cs g cp gb cb:Nat) (cur:Array Value) (W:World):Prop where
 hE:Ed2 w o (w.heap.size+1) W
 hM:RdAt W b M
 hA:qX W M c S gs cs g cp gb cb cur
theorem RdS.on {w W W':World} {o:OpV} {b c:Nat} {M:RM} {S:SeM} {gs cs g cp gb cb:Nat} {cur:Array Value} (h:RdS w o b c M S gs cs g cp gb cb cur W) (hb:Below W.heap.size W W'):RdS w o b c M S gs cs g cp gb cb cur W':=⟨h.hE.on hb,h.hM.below hb,h.hA.below hb⟩
theorem RdS.start (w:World) (o:OpV) {b c:Nat} {M:RM} {S:SeM} (h:RdAt w b M) (hS:M.seats[c]? = some S):∃ gs cs g cp gb cb cur,RdS w o b c M S gs cs g cp gb cb cur ((w.alloc (.cells #[.int .u8 o.kind,.int .i64 o.slot,.int .i64 o.at_,.int .i64 o.n,.int .u32 o.id,.int .u8 o.grav,.string o.text] 54)).alloc (.cells (resL {}).toArray 51)):=by
 have hE:=aY w o
 have hM:=h.below hE.bl
 obtain⟨gs,cs,g,cp,gb,cb,cur,hA⟩:=hM.seatAt hS
 exact⟨gs,cs,g,cp,gb,cb,cur,hE,hM,hA⟩
theorem RdS.md {w W:World} {o:OpV} {b c:Nat} {M:RM} {S:SeM} {gs cs g cp gb cb:Nat} {cur:Array Value} (h:RdS w o b c M S gs cs g cp gb cb cur W):W.cell? ⟨b,1,none⟩=some (.int .i64 M.readers)∧W.cell? ⟨b,7,none⟩=some (.slice (some ⟨gs,0,none⟩) M.seats.length cs)∧W.cell? ⟨gs,c,none⟩=some (.slice (some ⟨g,0,none⟩) S.sl.length cp):=⟨h.hM.cs.2.1,h.hM.c7 h.hA.sv,h.hA.c1⟩
theorem RdS.sn {w W:World} {o:OpV} {b c:Nat} {M:RM} {S:SeM} {gs cs g cp gb cb:Nat} {cur:Array Value} (h:RdS w o b c M S gs cs g cp gb cb cur W) {k:Nat} {x:SnM} (hx:S.sl[k]? = some x):(W.cell? ⟨g,k*4,none⟩=some (.bool x.s.held)∧W.cell? ⟨g,k*4+1,none⟩=some (.string x.s.text)∧W.cell? ⟨g,k*4+2,none⟩=some x.mv∧W.cell? ⟨g,k*4+3,none⟩=some (.int .i64 x.s.cursor)) ∧
  (W.frozen? ⟨g,k*4,none⟩=false∧W.frozen? ⟨g,k*4+1,none⟩=false∧W.frozen? ⟨g,k*4+2,none⟩=false∧W.frozen? ⟨g,k*4+3,none⟩=false):=(h.hA.sn k x hx).cells
theorem RdS.close {w W:World} {o:OpV} {b c:Nat} {M:RM} {S:SeM} {gs cs g cp gb cb:Nat} {cur:Array Value} (h:RdS w o b c M S gs cs g cp gb cb cur W) (hS:M.seats[c]? = some S) {k:Nat} {x:SnM} (hx:S.sl[k]? = some x) (R:ResV) (row:Array Value) :
  fP b w (R,M.st.putSlot c k x.s) M (.returned (.agg (resL R).toArray)) (W.setRow (w.heap.size+1) row) :=
 ⟨rfl,M.putSlot c k S x,(h.hM.putSlot hS h.hA hx (h.hA.sn k x hx).same (aF.refl _ _)).row h.hE.res _,RM.putSlot_st hS,(aF.of_below h.hE.bl).row (by omega) _,fun k hk => .inl (vW hS k hk)⟩
theorem RdS.closeF {w W:World} {o:OpV} {b c:Nat} {M:RM} {S:SeM} {gs cs g cp gb cb:Nat} {cur:Array Value} (h:RdS w o b c M S gs cs g cp gb cb cur W) (e:Int) (row:Array Value) :
  fP b w (aS e,M.st) M (.returned (.agg (resL (aS e)).toArray)) (W.setRow (w.heap.size+1) row) :=
 ⟨rfl,M,h.hM.row h.hE.res _,rfl,(aF.of_below h.hE.bl).row (by omega) _,fun k hk => .inl hk⟩
theorem RdS.close2 {w W V:World} {o:OpV} {b c:Nat} {M:RM} {S:SeM} {gs cs g cp gb cb:Nat} {cur:Array Value} (h:RdS w o b c M S gs cs g cp gb cb cur W) (hS:M.seats[c]? = some S) {k:Nat} {x x':SnM} (hx:S.sl[k]? = some x) (hN:RnAt V g (k*4) (segA cur (k*4) (snL x')) x') (hK:aF (fun k=>k=g) W V) (R:ResV) (row:Array Value) :
  fP b w (R,M.st.putSlot c k x'.s) M (.returned (.agg (resL R).toArray)) (V.setRow (w.heap.size+1) row):=by
 have hg:w.heap.size+1≠g:=fun e=>by have h1:=h.hE.res;rw[e,h.hA.blk] at h1;injection h1 with h1;injection h1 with _ h2 _;exact absurd h2 (by decide)
 have hz:=(hK.block (w.heap.size+1) (gAz h.hE.res).1 hg).trans h.hE.res
 have hfp:M.fp b g := .inr (.inr ⟨S,mGz hS,by rw[h.hA.v];rfl⟩)
 exact⟨rfl,M.putSlot c k S x',(h.hM.putSlot hS h.hA hx hN hK).row hz _,RM.putSlot_st hS,((aF.of_below h.hE.bl).trans (hK.fp (F:=M.fp b) hfp)).row (by omega) _,fun k hk => .inl (vW hS k hk)⟩
theorem RdS.mk2 {w W V:World} {o:OpV} {b c:Nat} {M:RM} {S:SeM} {gs cs g cp gb cb:Nat} {cur:Array Value} (h:RdS w o b c M S gs cs g cp gb cb cur W) {r q:Nat} {i a v:Int} (hB:Below W.heap.size W V) (hr:V.heap[r]? = some (.cells (resL {}).toArray 51 (0,0))) (hrB:W.heap.size≤r)
  (hq:V.heap[q]? = some (.cells #[.int .u32 i,.int .i64 a,.int .u8 v] 74 (0,0))) :
  ((V.cell? ⟨q,1,none⟩=some (.int .i64 a)∧V.cell? ⟨q,2,none⟩=some (.int .u8 v))∧(V.cell? ⟨r,3,none⟩=some (.int .i64 0)∧V.cell? ⟨r,4,none⟩=some (.int .u8 0))∧V.frozen? ⟨r,3,none⟩=false∧V.frozen? ⟨r,4,none⟩=false) ∧
  (((V.setCell ⟨r,3,none⟩ (.int .i64 a)).cell? ⟨q,2,none⟩=some (.int .u8 v)∧(V.setCell ⟨r,3,none⟩ (.int .i64 a)).cell? ⟨r,4,none⟩=some (.int .u8 0))∧(V.setCell ⟨r,3,none⟩ (.int .i64 a)).frozen? ⟨r,4,none⟩=false) ∧
  (((V.setCell ⟨r,4,none⟩ (.int .u8 v)).cell? ⟨q,1,none⟩=some (.int .i64 a)∧(V.setCell ⟨r,4,none⟩ (.int .u8 v)).cell? ⟨r,3,none⟩=some (.int .i64 0))∧(V.setCell ⟨r,4,none⟩ (.int .u8 v)).frozen? ⟨r,3,none⟩=false) ∧
  (RdS w o b c M S gs cs g cp gb cb cur ((V.setCell ⟨r,3,none⟩ (.int .i64 a)).setCell ⟨r,4,none⟩ (.int .u8 v)).drew∧((V.setCell ⟨r,3,none⟩ (.int .i64 a)).setCell ⟨r,4,none⟩ (.int .u8 v)).drew.heap[r]? = some (.cells (resL { at_:=a,grav:=v }).toArray 51 (0,0))) ∧
  (RdS w o b c M S gs cs g cp gb cb cur ((V.setCell ⟨r,4,none⟩ (.int .u8 v)).setCell ⟨r,3,none⟩ (.int .i64 a)).drew∧((V.setCell ⟨r,4,none⟩ (.int .u8 v)).setCell ⟨r,3,none⟩ (.int .i64 a)).drew.heap[r]? = some (.cells (resL { at_:=a,grav:=v }).toArray 51 (0,0))):=by
 have hne:q≠r:=by rintro rfl;rw[hq] at hr;injection hr with hr;injection hr with _ h2 _;exact absurd h2 (by decide)
 have h3:=gZ hr 3 (.int .i64 a) (dQ {} a)
 have h4:=gZ hr 4 (.int .u8 v) (eX {} v)
 have h34:=gZ h3 4 (.int .u8 v) (eX _ v)
 have h43:=gZ h4 3 (.int .i64 a) (dQ _ a)
 have q3:=(aG V ⟨r,3,none⟩ (.int .i64 a) q hne).trans hq
 have q4:=(aG V ⟨r,4,none⟩ (.int .u8 v) q hne).trans hq
 have c0:=jX hr
 have c3:=jX h3
 have c4:=jX h4
 refine⟨⟨⟨by simp[World.cell?,hq],by simp[World.cell?,hq]⟩,⟨c0.1,c0.2.1⟩,kE hr 3,kE hr 4⟩,⟨⟨by simp[World.cell?,q3],c3.2.1⟩,kE h3 4⟩,⟨⟨by simp[World.cell?,q4],c4.1⟩,kE h4 3⟩,⟨h.on (bQ (bQ hB r 3 _ hrB) r 4 _ hrB).drew,h34⟩,⟨h.on (bQ (bQ hB r 4 _ hrB) r 3 _ hrB).drew,h43⟩⟩
theorem aRc (m:MkV):mkL m≠[]:=by simp[mkL]
theorem aCa (m:MkV):(mkL m).toArray.all (·.oneCell')=true:=by simp[mkL,Value.oneCell']
theorem aL4 (W:World) (m:MkV):∃ V,(storeCells ⟨W.heap.size,0,none⟩ (mkL m)).run Tryz.prog (W.alloc (.cells #[.int .u32 0,.int .i64 0,.int .u8 0] 74)) = .ok () V∧V.heap[W.heap.size]? = some (.cells #[.int .u32 m.id,.int .i64 m.at_,.int .u8 m.grav] 74 (0,0))∧Below W.heap.size W V:=by
 have hz:=heap_alloc_new W (.cells #[.int .u32 0,.int .i64 0,.int .u8 0] 74)
 exact⟨_,mQ hz rfl (mkL m) rfl (aCa m),setRow_heap _ _ _ _ _ _ hz,bM ((Below.refl _ W).alloc (Nat.le_refl _) _) (Nat.le_refl _) _⟩
theorem aL5 {W:World} {g:Nat} (hz:W.heap[g]? = some (.cells #[.int .u32 0,.int .i64 0,.int .u8 0] 74 (0,0))) (m:MkV):∃ V,(storeCells ⟨g,0,none⟩ (mkL m)).run Tryz.prog W = .ok () V∧V.heap[g]? = some (.cells #[.int .u32 m.id,.int .i64 m.at_,.int .u8 m.grav] 74 (0,0))∧(∀ k,k≠g→V.heap[k]? = W.heap[k]?)∧(∀ {B:Nat} {w0:World},Below B w0 W→B≤g→Below B w0 V) :=
 ⟨_,mQ hz rfl (mkL m) rfl (aCa m),setRow_heap _ _ _ _ _ _ hz,fun k hk=>setRow_other _ _ _ _ hk,fun h hl=>bM h hl _⟩
theorem aL6 {l:List UInt8} {n:Int} (h:(dW l n).2≠0):(dW l n).1=0:=by
 unfold dW at h ⊢
 split
 ·rfl
 ·rename_i h1
  rw[if_neg h1] at h
  split<;>rename_i h2
  ·rw[h2] at h;exact absurd rfl h
  ·rw[h2] at h
   split<;>rename_i h3
   ·dsimp only at h;rw[if_pos h3] at h;exact absurd rfl h
   ·rfl
theorem aL7 {l:List UInt8} {n:Int} (h:(dX l n).2≠0):(dX l n).1=0:=by
 unfold dX at h ⊢
 split
 ·rfl
 ·rename_i h1
  rw[if_neg h1] at h
  split
  ·rfl
  ·rename_i h2
   rw[if_neg h2] at h
   split<;>rename_i h3
   ·rw[h3] at h;exact absurd rfl h
   ·rfl
end Go.Proofs.YtdeiocppghhfdaaGreat
