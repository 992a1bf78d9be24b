/- Texts, one behind another. -/
import Derived.Test.YtdeiocppghhfdaaGreatZfan
set_option linter.unusedVariables false
set_option linter.unusedSimpArgs false
set_option maxRecDepth 100000
set_option maxHeartbeats 40000000
namespace Go.Proofs.YtdeiocppghhfdaaGreat
open Go.RowKit Go.Lib Go.Shelf
theorem kT {w:World} {B g cp n' s n:Nat} {e:TypeId} {xs:List Value} (h:w.ownsRow B e s (.slice (some ⟨g,0,none⟩) n' cp) n xs) (i:Nat) (u:Value) (hu:xs[i]? = some u):w.cell? ⟨g,i,none⟩=some u∧w.frozen? ⟨g,i,none⟩=false:=by
 rcases h.2 with⟨h1,_⟩ | ⟨g',cap',cur',h1,hB,hg',h2,h3,h4,h5⟩
 ·injection h1 with h1;cases h1
 ·injection h1 with h1;injection h1 with h1;injection h1 with h1;subst h1
  rw[← h5] at hu
  have hi:i<n*s:=by
   by_cases hi:i<n*s
   ·exact hi
   ·rw[List.getElem?_take,if_neg (by omega)] at hu;cases hu
  rw[List.getElem?_take_of_lt hi,Array.getElem?_toList] at hu
  exact⟨by simp[World.cell?,hg',hu],by simp[World.frozen?,hg']⟩
theorem aF5 {w w':World} {B g cp n' s n:Nat} {e:TypeId} {xs:List Value} {cur:Array Value} (h:w.ownsRow B e s (.slice (some ⟨g,0,none⟩) n' cp) n xs) (hg:w.heap[g]? = some (.cells cur e (0,0))) (i:Nat) (hi:i<n) (L:List Value) (hL:L.length=s)
  (hg':w'.heap[g]? = some (.cells (segA cur (i*s) L) e (0,0))):w'.ownsRow B e s (.slice (some ⟨g,0,none⟩) n' cp) n (xs.take (i*s)++L++xs.drop (i*s+s)):=by
 have hxs:=h.1
 have his:i*s+s≤n*s:=by have:=Nat.mul_le_mul_right s (show i+1≤n from hi);rwa [Nat.succ_mul] at this
 rcases h.2 with⟨h1,_⟩ | ⟨g2,cap',cur',h1,hB,hg2,h2,h3,h4,h5⟩
 ·injection h1 with h1;cases h1
 ·injection h1 with h1 hn hc;injection h1 with h1;injection h1 with h1;subst h1;subst hn;subst hc
  rw[hg] at hg2;injection hg2 with hg2;injection hg2 with hg2 _ _;subst hg2
  have hns:n'*s≤cur.size:=by rw[h4];exact Nat.mul_le_mul_right s h2
  have hsz:i*s+L.length≤cur.size:=by rw[hL];omega
  refine⟨by simp only[List.length_append,List.length_take,List.length_drop,hL,hxs];omega,.inr ⟨g,cp,_,rfl,hB,hg',h2,h3,by rw[mY hsz];exact h4,?_⟩⟩
  rw[← h5]
  unfold segA
  rw[hL]
  have e1:(cur.toList.take (n'*s)).take (i*s)=cur.toList.take (i*s):=by rw[List.take_take,Nat.min_eq_left (by omega)]
  have e2:(cur.toList.take (n'*s)).drop (i*s+s)=(cur.toList.drop (i*s+s)).take (n'*s-(i*s+s)):=List.drop_take
  have e3:(cur.toList.take (i*s)++L).length=i*s+s:=by rw[List.length_append,List.length_take,Array.length_toList,hL];omega
  rw[e1,e2]
  show (cur.toList.take (i*s)++L++cur.toList.drop (i*s+s)).take (n'*s)=_
  rw[List.take_append,e3,List.take_of_length_le (by rw[e3];exact his)]
theorem rU {w w':World} {B s n g:Nat} {e:TypeId} {v:Value} {xs:List Value} (h:w.ownsRow B e s v n xs) (hk:aF (fun k=>k=g) w w') (hv:v.ownBlock≠some g):w'.ownsRow B e s v n xs:=by
 refine⟨h.1,?_⟩
 rcases h.2 with hn | ⟨g',cap,cur,rfl,hB,hg,rest⟩
 ·exact .inl hn
 ·exact .inr ⟨g',cap,cur,rfl,hB,(hk.block g' (gAz hg).1 (fun e=>hv (by rw[e];rfl))).trans hg,rest⟩
theorem gX (l:List SnM):(slL l).length=l.length*4:=by
 induction l with
 |nil=>rfl
 |cons x l ih=>show (snL x++slL l).length=_;rw[List.length_append,ih];simp[snL];omega
theorem qI (a b:List SnM):slL (a++b)=slL a++slL b:=by unfold slL;rw[List.flatMap_append]
theorem aK4 (l:List SnM) (k:Nat) (h:k≤l.length):(slL l).take (k*4)=slL (l.take k):=by
 have e:(slL (l.take k)).length=k*4:=by rw[gX,List.length_take,Nat.min_eq_left h]
 conv=>lhs;rw[← List.take_append_drop k l,qI]
 rw[← e,List.take_left]
theorem aBq (l:List SnM) (k:Nat) (h:k≤l.length):(slL l).drop (k*4)=slL (l.drop k):=by
 have e:(slL (l.take k)).length=k*4:=by rw[gX,List.length_take,Nat.min_eq_left h]
 conv=>lhs;rw[← List.take_append_drop k l,qI]
 rw[← e,List.drop_left]
theorem aF6 (l:List SnM) (k:Nat) (x:SnM) (h:k<l.length):slL (l.set k x)=(slL l).take (k*4)++snL x++(slL l).drop (k*4+4):=by
 rw[aK4 l k (by omega),show k*4+4=(k+1)*4 by omega,aBq l (k+1) h,List.set_eq_take_append_cons_drop,if_pos h,qI,List.append_assoc]
 rfl
theorem zT (l:List SnM) (k:Nat) (x:SnM) (h:l[k]? = some x):((slL l).drop (k*4)).take 4=snL x:=by
 obtain⟨hk,hx⟩:=gLz h
 rw[aBq l k (by omega),List.drop_eq_getElem_cons hk,hx]
 rfl
theorem iT (a b:List SeM):sesL (a++b)=sesL a++sesL b:=by unfold sesL;rw[List.flatMap_append]
theorem jO (l:List SeM):(sesL l).length=l.length*2:=by
 induction l with
 |nil=>rfl
 |cons x l ih=>show (seL x++sesL l).length=_;rw[List.length_append,ih];simp[seL];omega
theorem aF7 (l:List SeM) (c:Nat) (S:SeM) (h:l[c]? = some S):(sesL l)[c*2]? = some (.bool S.sub)∧(sesL l)[c*2+1]? = some S.v:=by
 obtain⟨hk,hx⟩:=gLz h
 have e:sesL l=sesL (l.take c)++(seL S++sesL (l.drop (c+1))):=by
  conv=>lhs;rw[← List.take_append_drop c l,iT,List.drop_eq_getElem_cons hk,hx]
  rfl
 have e2:(sesL (l.take c)).length=c*2:=by rw[jO,List.length_take,Nat.min_eq_left (by omega)]
 rw[e]
 refine⟨?_,?_⟩
 ·rw[List.getElem?_append_right (by omega),e2,Nat.sub_self];rfl
 ·rw[List.getElem?_append_right (by omega),e2,Nat.add_sub_cancel_left];rfl
def MM.putSlot (M:MM) (c k:Nat) (S:SeM) (x:SnM):MM:={ M with seats:=M.seats.set c { S with sl:=S.sl.set k x } }
def MM.putSub (M:MM) (c:Nat) (S:SeM):MM:={ M with seats:=M.seats.set c { S with sub:=true } }
theorem MM.seat_st {M:MM} {c:Nat} {S:SeM} (h:M.seats[c]? = some S):M.st.seat c=S.st:=by
 unfold MS.seat MM.st;rw[List.getD_eq_getElem?_getD,List.getElem?_map,h];rfl
theorem MM.putSlot_st {M:MM} {c k:Nat} {S:SeM} {x:SnM} (h:M.seats[c]? = some S):(M.putSlot c k S x).st=M.st.putSlot c k x.s:=by
 unfold MS.putSlot MS.put
 rw[MM.seat_st h]
 show (⟨M.text,M.marks,M.number,M.closed,M.readers,(M.seats.set c { S with sl:=S.sl.set k x }).map (·.st)⟩:MS)=⟨M.text,M.marks,M.number,M.closed,M.readers,(M.seats.map (·.st)).set c _⟩
 rw[List.map_set]
 show (⟨M.text,M.marks,M.number,M.closed,M.readers,(M.seats.map (·.st)).set c ⟨S.sub,(S.sl.set k x).map (·.s)⟩⟩:MS)=⟨M.text,M.marks,M.number,M.closed,M.readers,(M.seats.map (·.st)).set c ⟨S.sub,(S.sl.map (·.s)).set k x.s⟩⟩
 rw[List.map_set]
theorem MM.putSub_st {M:MM} {c:Nat} {S:SeM} (h:M.seats[c]? = some S):(M.putSub c S).st=M.st.put c { M.st.seat c with sub:=true }:=by
 rw[MM.seat_st h]
 show (⟨M.text,M.marks,M.number,M.closed,M.readers,(M.seats.set c { S with sub:=true }).map (·.st)⟩:MS)=⟨M.text,M.marks,M.number,M.closed,M.readers,(M.seats.map (·.st)).set c _⟩
 rw[List.map_set]
 rfl
structure lM (W:World) (M:MM) (c:Nat) (S:SeM) (gs cs g cp:Nat) (cur:Array Value):Prop where
 sv:M.sv = .slice (some ⟨gs,0,none⟩) M.seats.length cs
 v:S.v = .slice (some ⟨g,0,none⟩) S.sl.length cp
 c0:W.cell? ⟨gs,c*2,none⟩=some (.bool S.sub)
 f0:W.frozen? ⟨gs,c*2,none⟩=false
 c1:W.cell? ⟨gs,c*2+1,none⟩=some (.slice (some ⟨g,0,none⟩) S.sl.length cp)
 cap:S.sl.length≤cp
 blk:W.heap[g]? = some (.cells cur 168 (0,0))
 sn:∀ k x,S.sl[k]? = some x→SnAt W g (k*4) cur x
theorem MdAt.seatAt {W:World} {b:Nat} {M:MM} (h:MdAt W b M) {c:Nat} {S:SeM} (hS:M.seats[c]? = some S):∃ gs cs g cp cur,lM W M c S gs cs g cp cur:=by
 have hmem:=mGz hS
 have h1:=h.seats
 have h2:=h.slots S hmem
 have hv1:=h.some_.1
 have hv2:=h.some_.2 S hmem
 obtain⟨a1,a2⟩:=aF7 M.seats c S hS
 rcases h1.2 with⟨e1,_⟩ | ⟨gs,cs,curS,e1,_⟩
 ·rw[e1] at hv1;exact absurd rfl hv1
 rcases h2.2 with⟨e2,_⟩ | ⟨g,cp,cur,e2,_,hg,q1,q2,q3,q4⟩
 ·rw[e2] at hv2;exact absurd rfl hv2
 rw[e1] at h1
 have b1:=kT h1 _ _ a1
 have b2:=kT h1 _ _ a2
 rw[e2] at b2
 refine⟨gs,cs,g,cp,cur,e1,e2,b1.1,b1.2,b2.1,q1,hg,fun k x hx => ?_⟩
 obtain⟨hk,_⟩:=gLz hx
 have hle:k*4+4≤S.sl.length*4:=by omega
 refine⟨hg,by rw[q3];omega,?_,h.smarks S hmem x (mGz hx)⟩
 rw[← zT S.sl k x hx,← q4,List.drop_take,List.take_take]
 congr 1
 omega
theorem aF.fp {W W':World} {g:Nat} {F:Nat→Prop} (h:aF (fun k=>k=g) W W') (hF:F g):aF F W W':=⟨h.os,h.tape,h.output,h.size,fun k hk hn=>h.block k hk (fun e=>hn (e ▸ hF))⟩
theorem aBr {l:List SeM} (h:(l.map (·.v.ownBlock)).Nodup) {c:Nat} {S:SeM} (hS:l[c]? = some S) {S':SeM} {d:Nat} (hd:l[d]? = some S') (hne:d≠c):S'.v.ownBlock≠S.v.ownBlock:=by
 obtain⟨h1,h2⟩:=gLz hS
 obtain⟨h3,h4⟩:=gLz hd
 intro e
 apply hne
 have l1:c<(l.map (·.v.ownBlock)).length:=by rw[List.length_map];exact h1
 have l3:d<(l.map (·.v.ownBlock)).length:=by rw[List.length_map];exact h3
 have hp:=List.pairwise_iff_getElem.1 h
 have e1:(l.map (·.v.ownBlock))[c]=S.v.ownBlock:=by rw[List.getElem_map,h2]
 have e3:(l.map (·.v.ownBlock))[d]=S'.v.ownBlock:=by rw[List.getElem_map,h4]
 rcases Nat.lt_trichotomy d c with hlt | heq | hgt
 ·exact absurd (e3.trans (e.trans e1.symm)) (hp d c l3 l1 hlt)
 ·exact heq
 ·exact absurd (e1.trans (e.symm.trans e3.symm)) (hp c d l1 l3 hgt)
theorem bJ {α:Type} {l:List α} {c:Nat} {x y:α} (h:y∈l.set c x):y=x∨∃ d,d≠c∧l[d]? = some y:=by
 obtain⟨d,hd,e⟩:=List.getElem_of_mem h
 rw[List.getElem_set] at e
 split at e
 ·exact .inl e.symm
 ·rename_i hne
  rw[List.length_set] at hd
  exact .inr ⟨d,fun e=>hne e.symm,by rw[gEz hd,e]⟩
theorem MdAt.putSlot {W W':World} {b:Nat} {M:MM} (h:MdAt W b M) {c k:Nat} {S:SeM} (hS:M.seats[c]? = some S) {gs cs g cp:Nat} {cur:Array Value} (hA:lM W M c S gs cs g cp cur) {x x':SnM} (hx:S.sl[k]? = some x)
  (h':SnAt W' g (k*4) (segA cur (k*4) (snL x')) x') (hK:aF (fun k=>k=g) W W'):MdAt W' b (M.putSlot c k S x'):=by
 have hmem:=mGz hS
 obtain⟨hk,_⟩:=gLz hx
 obtain⟨hc,hSe⟩:=gLz hS
 have hkb:∀ k,k<W.heap.size→k≠g→W'.heap[k]? = W.heap[k]? := fun k hk hn=>hK.block k hk hn
 have hbg:b≠g:=fun e=>by subst e;have:=h.blk;rw[hA.blk] at this;injection this with this;injection this with _ h2 _;exact absurd h2 (by decide)
 have hlen:(M.seats.set c { S with sl:=S.sl.set k x' }).length=M.seats.length:=List.length_set ..
 have hmap:(M.seats.set c { S with sl:=S.sl.set k x' }).map (·.v.ownBlock)=M.seats.map (·.v.ownBlock):=by
  rw[List.map_set]
  show (M.seats.map (·.v.ownBlock)).set c S.v.ownBlock=_
  refine List.ext_getElem? fun i => ?_
  rw[List.getElem?_set]
  split
  ·rename_i e;subst e;rw[List.getElem?_map,hS,List.length_map,if_pos hc];rfl
  ·rfl
 have hses:sesL (M.seats.set c { S with sl:=S.sl.set k x' })=sesL M.seats:=by
  unfold sesL
  rw[List.flatMap_def,List.flatMap_def]
  congr 1
  rw[List.map_set]
  show (M.seats.map seL).set c (seL S)=_
  refine List.ext_getElem? fun i => ?_
  rw[List.getElem?_set]
  split
  ·rename_i e;subst e;rw[List.getElem?_map,hS,List.length_map,if_pos hc];rfl
  ·rfl
 refine⟨(hkb b (gAz h.blk).1 hbg).trans h.blk,aH h.marks hA.blk (by decide) hkb,?_,?_,?_,⟨h.some_.1,?_⟩,?_⟩
 ·show W'.ownsRow 0 _ 2 M.sv (M.seats.set c _).length (sesL (M.seats.set c _))
  rw[hlen,hses]
  exact aH h.seats hA.blk (by decide) hkb
 ·intro S' hS'
  rcases bJ hS' with rfl | ⟨d,hd,hS'⟩
  ·show W'.ownsRow 0 _ 4 S.v (S.sl.set k x').length (slL (S.sl.set k x'))
   have h2:=h.slots S hmem
   rw[hA.v] at h2 ⊢
   rw[List.length_set,aF6 _ _ _ hk]
   exact aF5 h2 hA.blk k hk (snL x') rfl h'.blk
  ·exact rU (h.slots S' (mGz hS')) hK (by have:=aBr h.nodup hS hS' hd;rw[hA.v] at this;exact this)
 ·intro S' hS' y hy
  rcases bJ hS' with rfl | ⟨d,hd,hS'⟩
  ·rcases bJ hy with rfl | ⟨j,hj,hy⟩
   ·exact h'.marks
   ·exact aH (h.smarks S hmem y (mGz hy)) hA.blk (by decide) hkb
  ·exact aH (h.smarks S' (mGz hS') y hy) hA.blk (by decide) hkb
 ·intro S' hS'
  rcases bJ hS' with rfl | ⟨d,hd,hS'⟩
  ·exact h.some_.2 S hmem
  ·exact h.some_.2 S' (mGz hS')
 ·show ((M.seats.set c _).map (·.v.ownBlock)).Nodup
  rw[hmap];exact h.nodup
theorem MdAt.putSub {W:World} {b:Nat} {M:MM} (h:MdAt W b M) {c:Nat} {S:SeM} (hS:M.seats[c]? = some S) {gs cs g cp:Nat} {cur:Array Value} (hA:lM W M c S gs cs g cp cur):MdAt (W.setCell ⟨gs,c*2,none⟩ (.bool true)) b (M.putSub c S):=by
 have hmem:=mGz hS
 obtain⟨hc,hSe⟩:=gLz hS
 have h1:=h.seats
 rw[hA.sv] at h1
 obtain⟨curS,hgs⟩:∃ curS,W.heap[gs]? = some (.cells curS 139 (0,0)):=by
  rcases h1.2 with⟨e1,_⟩ | ⟨g',_,cu,e1,_,hg,_⟩
  ·injection e1 with e1;cases e1
  ·injection e1 with e1;injection e1 with e1;injection e1 with e1;subst e1;exact⟨cu,hg⟩
 have hkb:∀ k,k<W.heap.size→k≠gs→(W.setCell ⟨gs,c*2,none⟩ (.bool true)).heap[k]? = W.heap[k]? := fun k _ hk=>aG _ _ _ _ hk
 have hbg:b≠gs:=fun e=>by subst e;have:=h.blk;rw[hgs] at this;injection this with this;injection this with _ h2 _;exact absurd h2 (by decide)
 have hlen:(M.seats.set c { S with sub:=true }).length=M.seats.length:=List.length_set ..
 have hmap:(M.seats.set c { S with sub:=true }).map (·.v.ownBlock)=M.seats.map (·.v.ownBlock):=by
  rw[List.map_set]
  show (M.seats.map (·.v.ownBlock)).set c S.v.ownBlock=_
  refine List.ext_getElem? fun i => ?_
  rw[List.getElem?_set]
  split
  ·rename_i e;subst e;rw[List.getElem?_map,hS,List.length_map,if_pos hc];rfl
  ·rfl
 have hses:sesL (M.seats.set c { S with sub:=true })=(sesL M.seats).set (c*2) (.bool true):=by
  have e2:(sesL (M.seats.take c)).length=c*2:=by rw[jO,List.length_take,Nat.min_eq_left (by omega)]
  have e:sesL M.seats=sesL (M.seats.take c)++(seL S++sesL (M.seats.drop (c+1))):=by
   conv=>lhs;rw[← List.take_append_drop c M.seats,iT,List.drop_eq_getElem_cons hc,hSe]
   rfl
  rw[e,List.set_append_right _ _ (by omega),e2,Nat.sub_self,List.set_eq_take_append_cons_drop,if_pos hc,iT]
  rfl
 refine⟨(hkb b (gAz h.blk).1 hbg).trans h.blk,aH h.marks hgs (by decide) hkb,?_,?_,?_,⟨h.some_.1,?_⟩,?_⟩
 ·show (W.setCell ⟨gs,c*2,none⟩ (.bool true)).ownsRow 0 _ 2 M.sv (M.seats.set c _).length (sesL (M.seats.set c _))
  rw[hlen,hses,hA.sv]
  exact (mW h1 (c*2) (by omega) (.bool true)).1
 ·intro S' hS'
  rcases bJ hS' with rfl | ⟨d,hd,hS'⟩
  ·exact aH (h.slots S hmem) hgs (by decide) hkb
  ·exact aH (h.slots S' (mGz hS')) hgs (by decide) hkb
 ·intro S' hS' y hy
  rcases bJ hS' with rfl | ⟨d,hd,hS'⟩
  ·exact aH (h.smarks S hmem y hy) hgs (by decide) hkb
  ·exact aH (h.smarks S' (mGz hS') y hy) hgs (by decide) hkb
 ·intro S' hS'
  rcases bJ hS' with rfl | ⟨d,hd,hS'⟩
  ·exact h.some_.2 S hmem
  ·exact h.some_.2 S' (mGz hS')
 ·show ((M.seats.set c _).map (·.v.ownBlock)).Nodup
  rw[hmap];exact h.nodup
attribute [local go_sem, local simp] resF bD bS fK fM fO dQ eX eY
structure Chk where
 f:Nat
 bs:Array Value
 fs:Array Value
 e:Int
def iX:List Int→Int
 |[]=>0
 |e::l=>if e=0 then iX l else e
def qJ (w:World) (k:Chk):Prop:=(∀ args W,(callFunc k.f args).run Tryz.prog W = .ok (.enter k.f args) W)∧∀ W,Below w.heap.size w W→Calls Tryz.prog k.f (k.bs++k.fs) W fun r w'=>r = .returned (.int .i64 k.e)∧Below W.heap.size W w'
theorem yB (g c:Nat) (L:List Chk) (w:World) (hg:g<w.heap.size) (hc:∀ i k,L[i]? = some k→w.cell? ⟨g,i,none⟩=some (.func (.func k.f) k.bs k.fs)) (hk:∀ k∈L,qJ w k) (hl:L.length≤10) :
  Calls Tryz.prog 188 #[.slice (some ⟨g,0,none⟩) L.length c] w fun r w'=>r = .returned (.int .i64 (iX (L.map (·.e))))∧Below w.heap.size w w':=by
 have HC:=Lib.hid hc;have HK:=Lib.hid hk;clear hc hk
 go_enter Tryz.func188,Tryz.ntmps188
 go_wp2
 go_loopw [2,4,5,8,9,10,11,12,13,14,15,16,17] (fun x2 x4 x5 i x9 x10 x11 x12 x13 x14 x15 x16 x17 wr=>∃ k:Nat,i = .int .i64 k∧k≤L.length∧iX ((L.drop k).map (·.e))=iX (L.map (·.e))∧Below w.heap.size w wr) (fun x2 x4 x5 i x9 x10 x11 x12 x13 x14 x15 x16 x17 wr=>L.length-(intOf i).toNat)
 case atStart=>exact⟨0,rfl,by omega,rfl,Below.refl _ _⟩
 case round =>
  obtain⟨k,rfl,hk,hf,hB⟩:=hrel
  have HF:=Lib.hid hf;clear hf
  by_cases hlt:k<L.length
  ·have hp:L[k]? = some L[k]:=gEz hlt
   have hmem:=List.getElem_mem hlt
   have hdr:L.drop k=L[k]::L.drop (k+1):=List.drop_eq_getElem_cons hlt
   generalize L[k]=q at hp hmem hdr
   obtain⟨hent,hcall⟩:=HK.out q hmem
   have hcl:=hcall wr hB
   have c0:wr.cell? ⟨g,k,none⟩=some (.func (.func q.f) q.bs q.fs):=(hB.cell (p:=⟨g,k,none⟩) hg).trans (HC.out k q hp)
   have hfe:iX ((L.drop k).map (·.e))=if q.e=0 then iX ((L.drop (k+1)).map (·.e)) else q.e:=by rw[hdr];rfl
   have HFE:=Lib.hid hfe;clear hfe hdr hmem hcall
   by_cases h0:q.e=0
   ·rw[h0] at hcl
    go_wp2_with (go_at_fn q.f;refine hcl.mono ?_;rintro e w1 ⟨rfl,hB1⟩)
    go_roundw
    case rel=>exact⟨k+1,by go_num,by omega,by rw[← HF.out,HFE.out,if_pos h0],hB.trans (hB1.mono hB.size)⟩
    case measure=>simp[intOf];omega
   ·have hd:(q.e == 0)=false:=by simpa using h0
    go_wp2_with (go_at_fn q.f;refine hcl.mono ?_;rintro e w1 ⟨rfl,hB1⟩)
    go_returns
    rw[← HF.out,HFE.out,if_neg h0]
    exact⟨rfl,hB.trans (hB1.mono hB.size)⟩
  ·go_wp2
   go_returns
   rw[← HF.out,List.drop_eq_nil_of_le (by omega)]
   exact⟨rfl,hB⟩
theorem iG (b:Nat) (a:Int) (w:World):Calls Tryz.prog 190 #[.pointer (some ⟨b,0,none⟩),.int .i64 a] w fun r w'=>r = .returned (.func (.func 237) #[] #[.pointer (some ⟨w.heap.size+1,0,none⟩),.pointer (some ⟨w.heap.size,0,none⟩)])∧(w.alloc (.cells #[.pointer (some ⟨b,0,none⟩)] 81)).alloc (.cells #[.int .i64 a] 3)=w':=by
 go_enter Tryz.func190,Tryz.ntmps190
 go_wp2
 go_returns
 exact⟨rfl,rfl⟩
theorem wZ (b ba bm:Nat) (M:MM) (a:Int) (w:World) (h:MdAt w b M) (h1:w.cell? ⟨ba,0,none⟩=some (.int .i64 a)) (h2:w.cell? ⟨bm,0,none⟩=some (.pointer (some ⟨b,0,none⟩))) :
  Calls Tryz.prog 237 #[.pointer (some ⟨ba,0,none⟩),.pointer (some ⟨bm,0,none⟩)] w fun r w'=>r = .returned (.int .i64 (bndE M.text a))∧Below w.heap.size w w':=by
 have c0:w.cell? ⟨b,0,none⟩=some (.string M.text):=by simp[World.cell?,h.blk,mdL]
 have bd:=fun W=>zG M.text a W
 by_cases hd:(M.text.size:Int)<a
 ·have hR:bndE M.text a=3:=if_pos hd
  have d:decide ((M.text.size:Int)<a)=true:=by simpa using hd
  rw[hR]
  go_enter Tryz.func237,Tryz.ntmps237
  go_wp2
  try go_region
  all_goals go_wp2
  all_goals (go_returns;exact⟨rfl,by first | exact Below.refl _ _ | exact (Below.refl _ _).drew⟩)
 ·have d:decide ((M.text.size:Int)<a)=false:=by simpa using hd
  have hR:bndE M.text a=if bndB M.text.data.toList a then 0 else 12:=if_neg hd
  rw[hR]
  generalize bndB M.text.data.toList a=q at *
  cases q
  all_goals
   go_enter Tryz.func237,Tryz.ntmps237
   go_wp2
   go_region
   all_goals go_wp2
   all_goals go_region_with (go_at_call 238;refine (bd _).mono ?_;rintro e w' ⟨rfl,rfl⟩)
   all_goals go_wp2
   all_goals (go_returns;exact⟨rfl,by first | exact (Below.refl _ _).drew.drew | exact (Below.refl _ _).drew | exact Below.refl _ _⟩)
theorem aBs (b bo bm:Nat) (M:MM) (o:OpV) (w:World) (h:MdAt w b M) (h1:w.cell? ⟨bo,6,none⟩=some (.string o.text)) (h2:w.cell? ⟨bm,0,none⟩=some (.pointer (some ⟨b,0,none⟩))) (hs:M.text.size≤100000) (ho:o.text.size≤100000) :
  Calls Tryz.prog 191 #[.pointer (some ⟨bm,0,none⟩),.pointer (some ⟨bo,0,none⟩)] w fun r w'=>r = .returned (.int .i64 (if 65536<(M.text.size:Int)+o.text.size then 5 else 0))∧Below w.heap.size w w':=by
 have c0:w.cell? ⟨b,0,none⟩=some (.string M.text):=by simp[World.cell?,h.blk,mdL]
 have hw:IntKind.i64.wrap ((M.text.size:Int)+(o.text.size:Int))=(M.text.size:Int)+(o.text.size:Int):=IntWalk.i64_in _ (by omega)
 by_cases hd:65536<(M.text.size:Int)+o.text.size
 ·rw[if_pos hd]
  have d:decide (65536<(M.text.size:Int)+(o.text.size:Int))=true:=by simpa using hd
  go_enter Tryz.func191,Tryz.ntmps191
  go_wp2
  try go_region
  all_goals go_wp2
  all_goals (go_returns;exact⟨rfl,by first | exact Below.refl _ _ | exact (Below.refl _ _).drew⟩)
 ·rw[if_neg hd]
  have d:decide (65536<(M.text.size:Int)+(o.text.size:Int))=false:=by simpa using hd
  go_enter Tryz.func191,Tryz.ntmps191
  go_wp2
  try go_region
  all_goals go_wp2
  all_goals (go_returns;exact⟨rfl,by first | exact Below.refl _ _ | exact (Below.refl _ _).drew⟩)
theorem aBt (b bo bm:Nat) (M:MM) (o:OpV) (w:World) (h:MdAt w b M) (h1:w.cell? ⟨bo,2,none⟩=some (.int .i64 o.at_)) (h3:w.cell? ⟨bo,3,none⟩=some (.int .i64 o.n)) (h2:w.cell? ⟨bm,0,none⟩=some (.pointer (some ⟨b,0,none⟩))) (hs:M.text.size≤100000) (ho:0≤o.at_) :
  Calls Tryz.prog 193 #[.pointer (some ⟨bo,0,none⟩),.pointer (some ⟨bm,0,none⟩)] w fun r w'=>r = .returned (.int .i64 (if (M.text.size:Int)<o.at_∨(M.text.size:Int)-o.at_<o.n then 3 else 0))∧Below w.heap.size w w':=by
 have c0:w.cell? ⟨b,0,none⟩=some (.string M.text):=by simp[World.cell?,h.blk,mdL]
 by_cases hd:(M.text.size:Int)<o.at_
 ·rw[if_pos (.inl hd)]
  have d:decide ((M.text.size:Int)<o.at_)=true:=by simpa using hd
  go_enter Tryz.func193,Tryz.ntmps193
  go_wp2
  try go_region
  all_goals go_wp2
  all_goals (go_returns;exact⟨rfl,by first | exact Below.refl _ _ | exact (Below.refl _ _).drew⟩)
 ·have d:decide ((M.text.size:Int)<o.at_)=false:=by simpa using hd
  have hw:IntKind.i64.wrap ((M.text.size:Int)-o.at_)=(M.text.size:Int)-o.at_:=IntWalk.i64_in _ (by omega)
  by_cases hd2:(M.text.size:Int)-o.at_<o.n
  ·rw[if_pos (.inr hd2)]
   have d2:decide ((M.text.size:Int)-o.at_<o.n)=true:=by simpa using hd2
   go_enter Tryz.func193,Tryz.ntmps193
   go_wp2
   try go_region
   all_goals go_wp2
   all_goals (go_returns;exact⟨rfl,by first | exact Below.refl _ _ | exact (Below.refl _ _).drew⟩)
  ·rw[if_neg (by omega)]
   have d2:decide ((M.text.size:Int)-o.at_<o.n)=false:=by simpa using hd2
   go_enter Tryz.func193,Tryz.ntmps193
   go_wp2
   try go_region
   all_goals go_wp2
   all_goals (go_returns;exact⟨rfl,by first | exact Below.refl _ _ | exact (Below.refl _ _).drew⟩)
def opL (o:OpV):List Value:=[.int .u8 o.kind,.int .i64 o.slot,.int .i64 o.at_,.int .i64 o.n,.int .u32 o.id,.int .u8 o.grav,.string o.text]
def Post (b:Nat) (w:World) (R:ResV × MS) (M:MM) (e:Ending) (w':World):Prop:=e = .returned (.agg (resL R.1).toArray)∧∃ M',MdAt w' b M'∧M'.st=R.2∧aF (M.fp b) w w'∧(∀ k,M'.fp b k→M.fp b k∨w.heap.size≤k)
structure EdB (w:World) (b:Nat) (o:OpV) (r:Nat) (W:World):Prop where
 c0:W.cell? ⟨w.heap.size,0,none⟩=some (.pointer (some ⟨b,0,none⟩))
 op:W.heap[w.heap.size+1]? = some (.cells (opL o).toArray 54 (0,0))
 res:W.heap[r]? = some (.cells (resL {}).toArray 51 (0,0))
 bl:Below w.heap.size w W
theorem EdB.on {w W W':World} {b r:Nat} {o:OpV} (h:EdB w b o r W) (hb:Below W.heap.size W W'):EdB w b o r W':=by
 have h1:=(gAz h.op).1
 exact⟨(hb.cell (p:=⟨w.heap.size,0,none⟩) (show w.heap.size<W.heap.size by omega)).trans h.c0,(hb.block _ h1).trans h.op,(hb.block _ (gAz h.res).1).trans h.res,h.bl.trans (hb.mono h.bl.size)⟩
theorem EdB.o2 {w W:World} {b r:Nat} {o:OpV} (h:EdB w b o r W):W.cell? ⟨w.heap.size+1,2,none⟩=some (.int .i64 o.at_)∧W.cell? ⟨w.heap.size+1,3,none⟩=some (.int .i64 o.n)∧W.cell? ⟨w.heap.size+1,6,none⟩=some (.string o.text)∧W.cell? ⟨w.heap.size+1,4,none⟩=some (.int .u32 o.id)∧W.cell? ⟨w.heap.size+1,5,none⟩=some (.int .u8 o.grav):=by
 refine⟨?_,?_,?_,?_,?_⟩<;>simp[World.cell?,h.op,opL]
theorem zU (b:Nat) (M:MM) (w:World) (h:MdAt w b M):qJ w ⟨189,#[.pointer (some ⟨b,0,none⟩)],#[],if M.closed then 13 else 0⟩ :=
 ⟨enters_of Tryz.func189 (by kernel_rfl) rfl,fun W hW=>(kS b M W (h.below hW)).mono (by rintro e w' ⟨rfl,rfl⟩;exact⟨rfl,Below.refl _ _⟩)⟩
theorem zV (b ba bm:Nat) (M:MM) (a:Int) (w:World) (h:MdAt w b M) (hba:ba<w.heap.size) (hbm:bm<w.heap.size) (h1:w.cell? ⟨ba,0,none⟩=some (.int .i64 a)) (h2:w.cell? ⟨bm,0,none⟩=some (.pointer (some ⟨b,0,none⟩))):qJ w ⟨237,#[],#[.pointer (some ⟨ba,0,none⟩),.pointer (some ⟨bm,0,none⟩)],bndE M.text a⟩ :=
 ⟨enters_of Tryz.func237 (by kernel_rfl) rfl,fun W hW=>wZ b ba bm M a W (h.below hW) ((hW.cell (p:=⟨ba,0,none⟩) hba).trans h1) ((hW.cell (p:=⟨bm,0,none⟩) hbm).trans h2)⟩
theorem aQv (b bo bm:Nat) (M:MM) (o:OpV) (w:World) (h:MdAt w b M) (hbo:bo<w.heap.size) (hbm:bm<w.heap.size) (h1:w.cell? ⟨bo,6,none⟩=some (.string o.text)) (h2:w.cell? ⟨bm,0,none⟩=some (.pointer (some ⟨b,0,none⟩))) (hs:M.text.size≤100000) (ho:o.text.size≤100000):qJ w ⟨191,#[],#[.pointer (some ⟨bm,0,none⟩),.pointer (some ⟨bo,0,none⟩)],if 65536<(M.text.size:Int)+o.text.size then 5 else 0⟩ :=
 ⟨enters_of Tryz.func191 (by kernel_rfl) rfl,fun W hW=>aBs b bo bm M o W (h.below hW) ((hW.cell (p:=⟨bo,6,none⟩) hbo).trans h1) ((hW.cell (p:=⟨bm,0,none⟩) hbm).trans h2) hs ho⟩
theorem yC (w:World) (b:Nat) (o:OpV):EdB w b o (w.heap.size+1+1) (((w.alloc (.cells #[.pointer (some ⟨b,0,none⟩)] 81)).alloc (.cells #[.int .u8 o.kind,.int .i64 o.slot,.int .i64 o.at_,.int .i64 o.n,.int .u32 o.id,.int .u8 o.grav,.string o.text] 54)).alloc (.cells (resL {}).toArray 51)):=by
 have h1:=heap_alloc_new (w.alloc (.cells #[.pointer (some ⟨b,0,none⟩)] 81)) (.cells #[.int .u8 o.kind,.int .i64 o.slot,.int .i64 o.at_,.int .i64 o.n,.int .u32 o.id,.int .u8 o.grav,.string o.text] 54)
 have h2:=heap_alloc_new ((w.alloc (.cells #[.pointer (some ⟨b,0,none⟩)] 81)).alloc (.cells #[.int .u8 o.kind,.int .i64 o.slot,.int .i64 o.at_,.int .i64 o.n,.int .u32 o.id,.int .u8 o.grav,.string o.text] 54)) (.cells (resL {}).toArray 51)
 simp only[World.size_alloc] at h1 h2
 exact⟨Lib.cell?_alloc_some _ (Lib.cell?_alloc_some _ (box1 (heap_alloc_new w _)).1),(heap_alloc_old _ _ (by simp)).trans h1,h2,(((Below.refl _ w).alloc (Nat.le_refl _) _).alloc (by simp) _).alloc (by simp;omega) _⟩
theorem aF.mono {F G:Nat→Prop} {w w':World} (h:aF F w w') (hg:∀ k,F k→G k):aF G w w':=⟨h.os,h.tape,h.output,h.size,fun k hk hn=>h.block k hk (fun hf=>hn (hg k hf))⟩
theorem qJ.on {w W:World} {k:Chk} (h:qJ w k) (hb:Below w.heap.size w W):qJ W k:=⟨h.1,fun X hX=>h.2 X (hb.trans (hX.mono hb.size))⟩
theorem zW (W:World) (g:Nat) (hg:W.heap.size=g) (L:List Chk) (hk:∀ k∈L,qJ W k) (hl:L.length≤10) (n:Nat) (hn:n=L.length) :
  Calls Tryz.prog 188 #[.slice (some ⟨g,0,none⟩) n n] (W.alloc (.cells (L.map fun k=>Value.func (.func k.f) k.bs k.fs).toArray 221)) fun r w'=>r = .returned (.int .i64 (iX (L.map (·.e))))∧Below W.heap.size W w':=by
 subst hg;subst hn
 have hb:=(Below.refl W.heap.size W).alloc (Nat.le_refl _) (.cells (L.map fun k=>Value.func (.func k.f) k.bs k.fs).toArray 221)
 refine (yB W.heap.size L.length L _ (by simp) (fun i k hi => ?_) (fun k hk'=>(hk k hk').on hb) hl).mono ?_
 ·have h2:=heap_alloc_new W (.cells (L.map fun k=>Value.func (.func k.f) k.bs k.fs).toArray 221)
  have h3:=kQ h2 i (.func (.func k.f) k.bs k.fs) (by rw[List.getElem?_map,hi];rfl)
  rwa [Addr.add_lit,Nat.zero_add] at h3
 ·rintro e w' ⟨rfl,hB⟩
  exact⟨rfl,hb.trans (hB.mono (by simp))⟩
theorem qK (W:World) (b:Nat) (a:Int) (n:Nat) (hn:W.heap.size=n):Below W.heap.size W ((W.alloc (.cells #[.pointer (some ⟨b,0,none⟩)] 81)).alloc (.cells #[.int .i64 a] 3))∧((W.alloc (.cells #[.pointer (some ⟨b,0,none⟩)] 81)).alloc (.cells #[.int .i64 a] 3)).cell? ⟨n,0,none⟩=some (.pointer (some ⟨b,0,none⟩))∧((W.alloc (.cells #[.pointer (some ⟨b,0,none⟩)] 81)).alloc (.cells #[.int .i64 a] 3)).cell? ⟨n+1,0,none⟩=some (.int .i64 a):=by
 subst hn
 refine⟨((Below.refl _ W).alloc (Nat.le_refl _) _).alloc (by simp) _,Lib.cell?_alloc_some _ (box1 (heap_alloc_new W _)).1,?_⟩
 have h2:=heap_alloc_new (W.alloc (.cells #[.pointer (some ⟨b,0,none⟩)] 81)) (.cells #[.int .i64 a] 3)
 rw[World.size_alloc] at h2
 exact (box1 h2).1
theorem aBu (b:Nat) (M:MM) (c:Int) (o:OpV) (w:World) (h:MdAt w b M) (hok:MSok M.st 100000) (hot:o.text.size≤256) (hot2:o.text.size≠0) (hat:0≤o.at_) :
  Calls Tryz.prog 137 #[.pointer (some ⟨b,0,none⟩),.int .i64 c,.agg #[.int .u8 o.kind,.int .i64 o.slot,.int .i64 o.at_,.int .i64 o.n,.int .u32 o.id,.int .u8 o.grav,.string o.text]] w (Post b w (insS M.st o) M):=by
 have hsz:=hok.size
 have hE:=yC w b o
 have hM0:=h.below hE.bl
 have fc:=fun g c (L:List Chk) W h1 h2 h3 h4=>yB g c L W h1 h2 h3 h4
 have hok:=Lib.hid hok
 go_enter Tryz.func137,Tryz.ntmps137
 go_wp2_with fail
 generalize hW0:((w.alloc (.cells #[.pointer (some ⟨b,0,none⟩)] 81)).alloc (.cells #[.int .u8 o.kind,.int .i64 o.slot,.int .i64 o.at_,.int .i64 o.n,.int .u32 o.id,.int .u8 o.grav,.string o.text] 54)).alloc (.cells (resL {}).toArray 51)=W0 at *
 have hs0:W0.heap.size=w.heap.size+3:=by rw[← hW0];simp
 clear hW0
 have kx:∀ W,Below W0.heap.size W0 W→(W.cell? ⟨w.heap.size,0,none⟩=some (.pointer (some ⟨b,0,none⟩))∧W.cell? ⟨w.heap.size+1,2,none⟩=some (.int .i64 o.at_))∧Below W0.heap.size W0 W:=fun W hW=>⟨⟨(hE.on hW).c0,(hE.on hW).o2.1⟩,hW⟩
 have Kx:=Lib.hid kx
 clear kx
 have hx0:=(Below.refl W0.heap.size W0).drew
 obtain⟨hb1,hp1,hp2⟩:=qK W0.drew b o.at_ (w.heap.size+3) hs0
 have hxb:Below W0.heap.size W0 ((W0.drew.alloc (.cells #[.pointer (some ⟨b,0,none⟩)] 81)).alloc (.cells #[.int .i64 o.at_] 3)):=hx0.trans hb1
 have hEb:=hE.on hxb
 have hsb:((W0.drew.alloc (.cells #[.pointer (some ⟨b,0,none⟩)] 81)).alloc (.cells #[.int .i64 o.at_] 3)).heap.size=w.heap.size+3+1+1:=by simp[hs0]
 have hfst:=zW _ _ hsb [⟨189,#[.pointer (some ⟨b,0,none⟩)],#[],if M.closed then 13 else 0⟩,⟨237,#[],#[.pointer (some ⟨w.heap.size+3+1,0,none⟩),.pointer (some ⟨w.heap.size+3,0,none⟩)],bndE M.text o.at_⟩,⟨191,#[],#[.pointer (some ⟨w.heap.size,0,none⟩),.pointer (some ⟨w.heap.size+1,0,none⟩)],if 65536<(M.text.size:Int)+o.text.size then 5 else 0⟩] (by
  intro k hk
  simp only[List.mem_cons,List.not_mem_nil,or_false] at hk
  rcases hk with rfl | rfl | rfl
  ·exact zU b M _ (hM0.below hxb)
  ·exact zV b _ _ M _ _ (hM0.below hxb) (by rw[hsb];omega) (by rw[hsb];omega) hp2 hp1
  ·exact aQv b _ _ M o _ (hM0.below hxb) (by rw[hsb];omega) (by rw[hsb];omega) hEb.o2.2.2.1 hEb.c0 (Nat.le_trans hsz (by decide)) (by omega)) (by simp) 3 rfl
 have hEQ:iX ([⟨189,#[.pointer (some ⟨b,0,none⟩)],#[],if M.closed then 13 else 0⟩,⟨237,#[],#[.pointer (some ⟨w.heap.size+3+1,0,none⟩),.pointer (some ⟨w.heap.size+3,0,none⟩)],bndE M.text o.at_⟩,⟨191,#[],#[.pointer (some ⟨w.heap.size,0,none⟩),.pointer (some ⟨w.heap.size+1,0,none⟩)],if 65536<(M.text.size:Int)+o.text.size then 5 else 0⟩].map (fun k:Chk=>k.e))=insE M.st o:=by
  simp only[List.map_cons,List.map_nil,iX,insE,MM.st]
  by_cases h1:M.closed=true<;>by_cases h2:bndE M.text o.at_=0<;>by_cases h3:65536<(M.text.size:Int)+o.text.size<;>simp[h1,h2,h3]
 rw[hEQ] at hfst
 clear hEQ
 have hx2:=hxb.alloc (by rw[hsb,hs0];omega) (.cells #[.func (.func 189) #[.pointer (some ⟨b,0,none⟩)] #[],.func (.func 237) #[] #[.pointer (some ⟨w.heap.size+3+1,0,none⟩),.pointer (some ⟨w.heap.size+3,0,none⟩)],.func (.func 191) #[] #[.pointer (some ⟨w.heap.size,0,none⟩),.pointer (some ⟨w.heap.size+1,0,none⟩)]] 221)
 refine aP (S:=fun W=>(W.cell? ⟨w.heap.size,0,none⟩=some (.pointer (some ⟨b,0,none⟩))∧W.cell? ⟨w.heap.size+1,2,none⟩=some (.int .i64 o.at_))∧Below W0.heap.size W0 W) ?_ (fun hHeld => ?_)
 ·first | exact Kx.out _ hx3 | exact Kx.out _ hx1 | exact Kx.out _ hx0
 iterate 5 (((first | refine np_q ?_ | refine aL 0 ?_);(try simp only[nSO])))
 (refine aL 6 ?_;(try simp only[nSO]))
 (refine np_c 5 (fun K hK => ?_);go_simp;((go_at_call 190;refine (iG b o.at_ _).mono ?_;rintro e v9 ⟨rfl,rfl⟩;have hx1:=hxb));(try go_wp2_with fail);refine hK.out _ _ ?_ (fun hHeld => ?_);(· (first | exact Kx.out _ hx3 | exact Kx.out _ hx1 | exact Kx.out _ hx0));clear hK K;(try simp only[nSO]))
 (refine np_c 7 (fun K hK => ?_);go_simp;((have hx1:=hx2));(try go_wp2_with fail);refine hK.out _ _ ?_ (fun hHeld => ?_);(· (first | exact Kx.out _ hx3 | exact Kx.out _ hx1 | exact Kx.out _ hx0));clear hK K;(try simp only[nSO]))
 (refine np_c 8 (fun K hK => ?_);go_simp;((go_at_call 188;refine hfst.mono ?_;rintro e v8 ⟨rfl,hb8⟩;have hx3:=hxb.trans (hb8.mono (by rw[hsb,hs0];omega))));(try go_wp2_with fail);refine hK.out _ _ ?_ (fun hHeld => ?_);(· (first | exact Kx.out _ hx3 | exact Kx.out _ hx1 | exact Kx.out _ hx0));clear hK K;(try simp only[nSO]))
 (refine np_q ?_;(try simp only[nSO]))
 refine np_z ?_
 have hxv:=hHeld.2
 have hEv:=hE.on hxv
 obtain⟨e2,e3,e6,_,_⟩:=hEv.o2
 have e0:=hEv.c0
 have hMv:=hM0.below hxv
 clear hHeld hfst hx2 hEb hxb hsb hp1 hp2 hb1 Kx hx0
 have hrB:w.heap.size≤w.heap.size+1+1:=by omega
 by_cases hI:insE M.st o=0
 ·have hS:insS M.st o=repS M.st o.at_ 0 o.text:=by unfold insS;rw[if_neg (by simpa using hI)]
  have hcond:M.text.size+o.text.size≤65536∧bndE M.text o.at_=0:=by
   have h9:=hI
   unfold insE at h9
   by_cases h1:M.closed=true<;>by_cases h2:bndE M.text o.at_=0<;>by_cases h3:65536<(M.text.size:Int)+o.text.size<;>simp[MM.st,h1,h2,h3] at h9
   exact⟨by omega,h2⟩
  have hle:o.at_≤(M.text.size:Int):=by
   have h9:=hcond.2
   unfold bndE at h9
   split at h9
   ·cases h9
   ·omega
  have hRep:iP M.text.size o.at_ 0 o.text:=⟨hat,by omega,by omega,by omega,by omega,.inl ⟨rfl,hot2⟩⟩
  rw[hI]
  rw[hS]
  go_wp2_with (go_at_call 192;refine (qF b M o.at_ 0 o.text _ hMv hRep hok.out.marks hok.out.num0 hok.out.num1).mono ?_;rintro e v7 ⟨rfl,⟨mv,hM7⟩,hK7⟩;have hz7:=(hK7.block _ (gAz hEv.res).1 (by have:=(gAz h.blk).1;omega)).trans hEv.res;have hst:=aK hz7 rfl)
  refine⟨rfl,_,results_cell_row rfl _ _ _ _ _ _ _ rfl (setRow_heap _ _ _ _ _ _ hz7) Tryz.underlying51 rfl (by kernel_rfl),(by first | (rw[hS];done) | (rw[hS];rfl)),_,hM7.row hz7 _,(by rw[hS];rfl),?_,?_⟩
  ·exact (((aF.of_below (hE.bl.trans (hxv.mono hE.bl.size))).trans (hK7.mono (fun k hk => .inl hk))).row hrB _)
  ·intro k hk;exact .inl hk
 ·have hS:insS M.st o=(aS (insE M.st o),M.st):=by unfold insS;rw[if_pos hI]
  have hd:(insE M.st o == 0)=false:=by simpa using hI
  rw[hS]
  generalize insE M.st o=e at *
  go_wp2_with (go_at_call 99;refine (bT _ _).mono ?_;rintro e v7 ⟨rfl,hb7⟩;have hE7:=hEv.on hb7;have hst:=aK hE7.res rfl)
  refine⟨rfl,_,results_cell_row rfl _ _ _ _ _ _ _ rfl (setRow_heap _ _ _ _ _ _ hE7.res) Tryz.underlying51 rfl (by kernel_rfl),(by first | (rw[hS];done) | (rw[hS];rfl)),M,(hMv.below hb7).row hE7.res _,(by rw[hS]),(aF.of_below hE7.bl).row hrB _,fun k hk => .inl hk⟩
end Go.Proofs.YtdeiocppghhfdaaGreat
