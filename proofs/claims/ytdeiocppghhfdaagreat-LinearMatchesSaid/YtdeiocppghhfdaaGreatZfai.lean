/- Texts, one behind another. -/
import Derived.Test.YtdeiocppghhfdaaGreatZfah
import Derived.Shelf.SlicesQ.IndexFunc
import Derived.Shelf.SlSorted.Search
import Derived.Lib.AppendZerosOnto
import Derived.Lib.Overlaps
import Derived.Laws.Externs
import Derived.Laws.CopyRow
import Derived.ArgAppend
set_option linter.unusedVariables false
set_option linter.unusedSimpArgs false
set_option maxRecDepth 100000
set_option maxHeartbeats 40000000
namespace Go.Proofs.YtdeiocppghhfdaaGreat
open Go.RowKit Go.Lib Go.Shelf
def mkL (m:MkV):List Value:=[.int .u32 m.id,.int .i64 m.at_,.int .u8 m.grav]
def mksL (l:List MkV):List Value:=l.flatMap mkL
theorem dB (m:MkV):(mkL m).length=3:=rfl
theorem dH (l:List MkV):(mksL l).length=l.length*3:=by
 induction l with
 |nil=>rfl
 |cons p ps ih=>show (mkL p++mksL ps).length=_;rw[List.length_append,ih,dB,List.length_cons];omega
theorem eU (a b:List MkV):mksL (a++b)=mksL a++mksL b:=by unfold mksL;simp
theorem mK (m:MkV):mksL [m]=mkL m:=by unfold mksL;simp
theorem nP (l:List MkV) (k:Nat) (hk:k≤l.length):(mksL l).take (k*3)=mksL (l.take k):=by
 have e:mksL l=mksL (l.take k)++mksL (l.drop k):=by rw[← eU,List.take_append_drop]
 rw[e,List.take_left' (by rw[dH,List.length_take,Nat.min_eq_left hk])]
theorem nQ (l:List MkV) (k:Nat) (hk:k≤l.length):(mksL l).drop (k*3)=mksL (l.drop k):=by
 have e:mksL l=mksL (l.take k)++mksL (l.drop k):=by rw[← eU,List.take_append_drop]
 rw[e,List.drop_left' (by rw[dH,List.length_take,Nat.min_eq_left hk])]
theorem uZ (l:List MkV):∀ (k i:Nat),i<3→(mksL l)[k*3+i]? = (l[k]?).bind fun p=>(mkL p)[i]? := by
 induction l with
 |nil=>intro k i _;simp[mksL]
 |cons p ps ih =>
  intro k i hi
  show (mkL p++mksL ps)[k*3+i]? = _
  cases k with
  |zero=>rw[List.getElem?_append_left (by rw[dB];omega)];simp
  |succ k=>rw[List.getElem?_append_right (by rw[dB];omega),dB,show (k+1)*3+i-3=k*3+i by omega,ih k i hi];simp
theorem mM (m:MkV):∀ u∈mkL m,u.oneCell'=true:=by
 intro u hu
 unfold mkL at hu
 simp only[List.mem_cons,List.not_mem_nil,or_false] at hu
 rcases hu with rfl | rfl | rfl<;>rfl
theorem nR (l:List MkV):∀ u∈mksL l,u.oneCell'=true:=by
 intro u hu
 obtain⟨m,_,h⟩:=List.mem_flatMap.1 hu
 exact mM m u h
theorem mO:(Tryz.prog.info? 74).map (fun i=>(i.zero,i.size,i.bytes))=some (some (.agg #[.int .u32 0,.int .i64 0,.int .u8 0]),3,24):=by kernel_rfl
def MRow (W:World) (a:Option Addr) (l:List MkV):Prop:=(a=none∧l=[])∨∃ b off,a=some ⟨b,off,none⟩∧b<W.heap.size∧∀ (k:Nat) (p:MkV),l[k]? = some p→∀ (i:Nat) (u:Value),(mkL p)[i]? = some u→W.cell? ⟨b,off+(k*3+i),none⟩=some u
theorem MRow.on {W W':World} {a:Option Addr} {l:List MkV} (h:MRow W a l) (hb:Below W.heap.size W W'):MRow W' a l:=by
 rcases h with h | ⟨b,off,h1,h2,h3⟩
 ·exact .inl h
 ·exact .inr ⟨b,off,h1,Nat.lt_of_lt_of_le h2 hb.size,fun k p hp i u hu=>by rw[hb.cell (p:=⟨b,off+(k*3+i),none⟩) h2];exact h3 k p hp i u hu⟩
abbrev MOwn (W:World) (B:Nat) (v:Value) (l:List MkV):Prop:=W.ownsRow B 74 3 v l.length (mksL l)
theorem bV {w:World} {B n:Nat} {ao:Option Addr} {cp:Nat} {d:List MkV} (hn:n=d.length) (h:w.ownsRow B 74 3 (.slice ao n cp) n (mksL d)):MRow w ao d∧n≤cp:=by
 rcases h.2 with⟨h1,h2⟩ | ⟨g,cap,cur,h1,hB,hg,h2,h3,h4,h5⟩
 ·injection h1 with h1 h6 h7
  subst h1
  refine⟨.inl ⟨rfl,List.eq_nil_of_length_eq_zero (by omega)⟩,by omega⟩
 ·injection h1 with h1 h6 h7
  subst h1;subst h7
  refine⟨.inr ⟨g,0,rfl,(gAz hg).1,fun k p hk i u hu => ?_⟩,h2⟩
  have hi:i<3:=by have:=(gLz hu).1;rwa [dB] at this
  have h6:=uZ d k i hi
  rw[hk] at h6
  have h7:(mksL d)[k*3+i]? = some u:=h6.trans hu
  have hlt:=(gLz h7).1
  rw[← h5,List.getElem?_take] at h7
  rw[← h5,List.length_take] at hlt
  rw[if_pos (by omega)] at h7
  simp only[World.cell?,hg,Nat.zero_add]
  simpa using h7
theorem MkOK.get {n:Int} {l:List MkV} (h:MkOK n l) {k:Nat} {m:MkV} (hm:l[k]? = some m):MkIn n m∧(∀ q,(l.take k).getLast? = some q→q.id<m.id):=by
 refine⟨h.2.2 m (mGz hm),fun q hq => ?_⟩
 rw[List.getLast?_eq_getElem?,List.getElem?_take] at hq
 split at hq
 ·rename_i hlt
  obtain⟨h1,h2⟩:=gLz hm
  obtain⟨h3,h4⟩:=gLz hq
  have hlen:(l.take k).length=k:=by rw[List.length_take];omega
  have:=(List.pairwise_iff_getElem.1 h.2.1) _ _ h3 h1 (by omega)
  rw[h4,h2] at this
  exact this
 ·cases hq
def rT (l:List MkV):Int:=(l.getLast?.map (·.id)).getD 0
theorem aHs {n:Int} {l:List MkV} (h:MkOK n l) {k:Nat} {m:MkV} (hm:l[k]? = some m):rT (l.take k)<m.id:=by
 obtain⟨h1,h2⟩:=h.get hm
 unfold rT
 cases hq:(l.take k).getLast? with
 |none=>simp;unfold MkIn at h1;omega
 |some q=>simpa using h2 q hq
theorem aBc {l:List MkV} {k:Nat} {m:MkV} (hm:l[k]? = some m):rT (l.take (k+1))=m.id:=by
 unfold rT
 rw[List.take_add_one,hm]
 simp
theorem fJ (a:Option Addr) (c:Nat) (n:Int) (l:List MkV) (w:World) (hr:MRow w a l) (hok:MkOK n l) (hn:0≤n) :
  Calls Tryz.prog 241 #[.int .i64 n,.slice a l.length c] w fun e w'=>e = .returned (.int .i64 0)∧Below w.heap.size w w':=by
 have h64:=hok.1
 have d0:decide (n<0)=false:=by simp;omega
 have d1:decide ((64:Int)<(l.length:Int))=false:=by simp;omega
 have HR:=Lib.hid hr;have HO:=Lib.hid hok;clear hr hok
 go_enter Tryz.func241,Tryz.ntmps241
 go_wp2
 go_loopw [5,7,15,16,17,18,19,20,21,22,23,24,25,26,27,28,29,30,31,32,33,34,35,36,37,38,39,40,41,42,43,44] (fun last x7 i x16 x17 x18 x19 x20 x21 x22 x23 x24 x25 x26 x27 x28 x29 x30 x31 x32 x33 x34 x35 x36 x37 x38 x39 x40 x41 x42 x43 x44 wr=>∃ k:Nat,i = .int .i64 k∧k≤l.length∧last = .int .u32 (rT (l.take k))∧Below w.heap.size w wr) (fun last x7 i x16 x17 x18 x19 x20 x21 x22 x23 x24 x25 x26 x27 x28 x29 x30 x31 x32 x33 x34 x35 x36 x37 x38 x39 x40 x41 x42 x43 x44 wr=>l.length-(intOf i).toNat)
 case atStart=>exact⟨0,rfl,by omega,rfl,Below.refl _ _⟩
 case round =>
  obtain⟨k,rfl,hk,rfl,hB⟩:=hrel
  by_cases hlt:k<l.length
  ·have hp:l[k]? = some l[k]:=gEz hlt
   generalize l[k]=m at hp
   have h1:=aHs HO.out hp
   obtain⟨hin,_⟩:=HO.out.get hp
   obtain⟨i1,i2,i3,i4,i5⟩:=hin
   have hst:=aBc hp
   have Hst:=Lib.hid hst;clear hst
   generalize rT (l.take k)=lid at *
   rcases HR.out with⟨_,h⟩ | ⟨b,off,rfl,hb,hcell⟩
   ·rw[h] at hlt;simp at hlt
   have c0:wr.cell? ⟨b,off+(k*3+0),none⟩=some (.int .u32 m.id):=by rw[hB.cell (p:=⟨b,off+(k*3+0),none⟩) hb];exact hcell k m hp 0 _ rfl
   have c1:wr.cell? ⟨b,off+(k*3+1),none⟩=some (.int .i64 m.at_):=by rw[hB.cell (p:=⟨b,off+(k*3+1),none⟩) hb];exact hcell k m hp 1 _ rfl
   have c2:wr.cell? ⟨b,off+(k*3+2),none⟩=some (.int .u8 m.grav):=by rw[hB.cell (p:=⟨b,off+(k*3+2),none⟩) hb];exact hcell k m hp 2 _ rfl
   simp only[Nat.add_zero,← Nat.add_assoc] at c0 c1 c2
   clear hcell
   have d2:decide (m.id≤lid)=false:=by simp;omega
   have d3:decide (m.at_<0)=false:=by simp;omega
   have d4:decide (n<m.at_)=false:=by simp;omega
   have hBp:=hB.alloc hB.size (.cells (mkL m).toArray 74)
   unfold mkL at hBp
   have hg:(m.grav == 0)=true∨((m.grav == 0)=false∧(m.grav == 1)=true):=by rcases i3 with h | h<;>simp[h]
   rcases hg with hg | ⟨hg,hg1⟩
   ·have hg0:m.grav=0:=by simpa using hg
    rw[hg0] at c2 hBp
    clear hg hp i1 i2 i3 i4 i5 h1 hg0
    go_wp2
    go_roundw
    case rel=>exact⟨k+1,by go_num,by omega,by rw[Hst.out],hBp⟩
    case measure=>simp[intOf];omega
   ·have hg0:m.grav=1:=by simpa using hg1
    rw[hg0] at c2 hBp
    clear hg hg1 hp i1 i2 i3 i4 i5 h1 hg0
    go_wp2
    go_roundw
    case rel=>exact⟨k+1,by go_num,by omega,by rw[Hst.out],hBp⟩
    case measure=>simp[intOf];omega
  ·go_wp2
   go_returns
   exact⟨rfl,hB⟩
theorem aD6 (ba bx b off c:Nat) (l:List MkV) (id:Int) (i:Nat) (W:World) (hi:i<l.length)
  (ha:W.cell? ⟨ba,0,none⟩=some (.slice (some ⟨b,off,none⟩) l.length c)) (hx:W.cell? ⟨bx,0,none⟩=some (.int .u32 id)) (m:MkV) (hm:W.cell? ⟨b,off+i*3,none⟩=some (.int .u32 m.id)) :
  Calls Tryz.prog 280 #[.int .i64 i,.pointer (some ⟨ba,0,none⟩),.pointer (some ⟨bx,0,none⟩)] W fun e w'=>e = .returned (.bool (decide (id≤m.id)))∧∃ q,w'=W.drewN q:=by
 have hiz:(i:Int)<(l.length:Int):=by omega
 go_enter Tryz.func280,Tryz.ntmps280
 go_wp2
 go_region
 all_goals go_wp2
 all_goals (go_returns;exact⟨rfl,⟨1,rfl⟩⟩)
theorem aHt (W:World):Sort.grow W #[]=W:=by cases W;simp[Sort.grow]
theorem aHu (l:List MkV) (id:Int):(List.range l.length).countP (fun i => !decide (id≤(l.getD i default).id))=idxM id l:=by
 have h:l=(List.range l.length).map (fun i=>l.getD i default):=by
  apply List.ext_getElem
  ·simp
  ·intro i h1 h2
   simp[List.getD,gEz h1]
 unfold idxM
 conv=>rhs;rw[h]
 rw[List.countP_map]
 congr 1
 funext i
 simp[Function.comp]
 by_cases hd:id≤(l[i]?.getD default).id
 ·simp[hd]
 ·simp[hd];omega
theorem kM (a:Option Addr) (c:Nat) (l:List MkV) (id:Int) (w:World) (hr:MRow w a l) (hpw:l.Pairwise (fun a b=>a.id<b.id)) (hs:l.length≤1000) (hc:l.length≤c) :
  Calls Tryz.prog 242 #[.slice a l.length c,.int .u32 id] w fun e w'=>e = .returned (.tuple #[.int .i64 (idxM id l),.bool (hasM id l)])∧Below w.heap.size w w':=by
 obtain⟨W0,hW0⟩:∃ W0,W0=(w.alloc (.cells #[.slice a l.length c] 65)).alloc (.cells #[.int .u32 id] 52):=⟨_,rfl⟩
 have hB0:Below w.heap.size w W0:=by rw[hW0];exact ((Below.refl _ w).alloc (Nat.le_refl _) _).alloc (by simp) _
 have ca:W0.heap[w.heap.size]? = some (.cells #[.slice a l.length c] 65 (0,0)):=by rw[hW0];exact (heap_alloc_old _ _ (by simp)).trans (heap_alloc_new w _)
 have cx:W0.heap[w.heap.size+1]? = some (.cells #[.int .u32 id] 52 (0,0)):=by rw[hW0];have:=heap_alloc_new (w.alloc (.cells #[.slice a l.length c] 65)) (.cells #[.int .u32 id] 52);rwa [World.size_alloc] at this
 have hsz:W0.heap.size=w.heap.size+1+1:=by rw[hW0];simp
 have hr0:=hr.on hB0
 have eg:∀ args w,(callFunc 280 args).run Tryz.prog w = .ok (.enter 280 args) w:=enters_of Tryz.func280 (by kernel_rfl) rfl
 have hS:Calls Tryz.prog 279 #[.int .i64 l.length,.func (.func 280) #[] #[.pointer (some ⟨w.heap.size,0,none⟩),.pointer (some ⟨w.heap.size+1,0,none⟩)]] W0 fun e w'=>e = .returned (.int .i64 (idxM id l))∧∃ q os,w'=Sort.grow (W0.drewN q) os:=by
  have h:=Any.sort_Search (P := Tryz.prog) Tryz.searchL 280 #[.pointer (some ⟨w.heap.size,0,none⟩),.pointer (some ⟨w.heap.size+1,0,none⟩)] l.length (fun i=>decide (id≤(l.getD i default).id)) W0 eg (by omega) ?_ ?_
  ·rw[aHu] at h;exact h
  ·intro mm os i hi
   have hbel:Below W0.heap.size W0 (Sort.grow (W0.drewN mm) os):=below_grown_sl _ _ _ _ (Nat.le_refl _)
   rcases hr0.on hbel with⟨_,h⟩ | ⟨b,off,h1,h2,h3⟩
   ·rw[h] at hi;simp at hi
   ·subst h1
    have hm:l[i]? = some (l.getD i default):=by simp[List.getD,gEz hi]
    refine (aD6 w.heap.size (w.heap.size+1) b off c l id i _ hi ?_ ?_ (l.getD i default) (h3 i _ hm 0 _ rfl)).mono ?_
    ·exact (box1 ((hbel.block _ (by omega)).trans ca)).1
    ·exact (box1 ((hbel.block _ (by omega)).trans cx)).1
    ·rintro e w' ⟨rfl,q,rfl⟩
     exact⟨rfl,q,#[],(aHt _).symm⟩
  ·intro i j hij hj hp
   simp only[decide_eq_true_eq] at hp ⊢
   by_cases h:i=j
   ·subst h;exact hp
   ·have:=(List.pairwise_iff_getElem.1 hpw) i j (by omega) hj (by omega)
    simp[List.getD,gEz hj,gEz (show i<l.length by omega)] at hp ⊢
    omega
 have hil:=aFw id l
 have hbS:∀ q os,Below W0.heap.size W0 (Sort.grow (W0.drewN q) os):=fun q os=>below_grown_sl _ _ _ _ (Nat.le_refl _)
 by_cases hlt:idxM id l<l.length
 ·have hm:l[idxM id l]? = some l[idxM id l]:=gEz hlt
  have hres:(l[idxM id l].id == id)=hasM id l:=by
   cases hs:hasM id l with
   |true=>obtain⟨m,h1,h2,_⟩:=sP hpw hs;rw[h1] at hm;injection hm with hm;rw[← hm];simpa using h2
   |false=>have:=(aKj hpw hs).2.1 _ hm;simpa using this
  generalize l[idxM id l]=m at hm hres
  have d1:decide ((idxM id l:Int)<(l.length:Int))=true:=by simp;omega
  clear hpw
  generalize hasM id l=res at *
  generalize idxM id l=ix at *
  rcases hr0 with⟨_,h⟩ | ⟨b,off,rfl,hb,hcell⟩
  ·rw[h] at hlt;simp at hlt
  have cc:∀ q os,(Sort.grow (W0.drewN q) os).cell? ⟨b,off+ix*3,none⟩=some (.int .u32 m.id):=fun q os=>by
   rw[(hbS q os).cell (p:=⟨b,off+ix*3,none⟩) hb]
   exact hcell ix m hm 0 _ rfl
  subst hW0
  go_enter Tryz.func242,Tryz.ntmps242
  go_wp2_with (go_at_call 279;refine hS.mono ?_;rintro e w1 ⟨rfl,q,os,rfl⟩;have c1:=cc q os;have k1:=(box1 (((hbS q os).block _ (by omega)).trans ca)).1;have k2:=(box1 (((hbS q os).block _ (by omega)).trans cx)).1;have hbx:=hbS q os;generalize Sort.grow _ os=w1 at *)
  go_region
  all_goals go_wp2
  all_goals (go_returns;refine⟨rfl,?_⟩;exact hB0.trans (hbx.drew.mono (by simp;omega)))
 ·have d1:decide ((idxM id l:Int)<(l.length:Int))=false:=by simp;omega
  have hres:hasM id l=false:=by
   cases hs:hasM id l with
   |true=>obtain⟨m,h1,_⟩:=sP hpw hs;have:=(gLz h1).1;omega
   |false=>rfl
  clear hpw
  rw[hres]
  generalize idxM id l=ix at *
  subst hW0
  go_enter Tryz.func242,Tryz.ntmps242
  go_wp2_with (go_at_call 279;refine hS.mono ?_;rintro e w1 ⟨rfl,q,os,rfl⟩;have k1:=(box1 (((hbS q os).block _ (by omega)).trans ca)).1;have k2:=(box1 (((hbS q os).block _ (by omega)).trans cx)).1;have hbx:=hbS q os;generalize Sort.grow _ os=w1 at *)
  go_region
  all_goals go_wp2
  all_goals (go_returns;refine⟨rfl,?_⟩;exact hB0.trans (hbx.drew.mono (by simp;omega)))
theorem aHv (bx:Nat) (id:Int) (m:MkV) (W:World) (hx:W.cell? ⟨bx,0,none⟩=some (.int .u32 id)) (hb:bx<W.heap.size) :
  Calls Tryz.prog 252 #[.agg #[.int .u32 m.id,.int .i64 m.at_,.int .u8 m.grav],.pointer (some ⟨bx,0,none⟩)] W fun e w'=>e = .returned (.bool (m.id == id))∧Below W.heap.size W w':=by
 have hc:=fun o=>Lib.cell?_alloc_some (W:=W) o hx
 have hb2:=fun o=>(Below.refl W.heap.size W).alloc (Nat.le_refl _) o
 go_enter Tryz.func252,Tryz.ntmps252
 go_wp2
 try go_region
 all_goals go_wp2
 all_goals (go_returns;exact⟨rfl,by first | exact hb2 _ | exact (hb2 _).drew⟩)
theorem vB {w:World} {b:Nat} {u v x:Value} {T:TypeId} (h:w.heap[b]? = some (.cells #[u,v,x] T (0,0))):w.frozen? ⟨b,0,none⟩=false∧w.frozen? ⟨b,1,none⟩=false∧w.frozen? ⟨b,2,none⟩=false:=by
 refine⟨?_,?_,?_⟩<;>simp[World.frozen?,h]
theorem set3 {w:World} {b:Nat} {u v x u' v' x':Value} {T:TypeId} (h:w.heap[b]? = some (.cells #[u,v,x] T (0,0))):(((w.setCell ⟨b,0,none⟩ u').setCell ⟨b,1,none⟩ v').setCell ⟨b,2,none⟩ x').heap[b]? = some (.cells #[u',v',x'] T (0,0)):=by
 simp[World.setCell,Array.getElem?_modify,h]
theorem jJ {B b:Nat} {w0 w:World} (h:Below B w0 w) (hb:B≤b) (u v x:Value):Below B w0 (((w.setCell ⟨b,0,none⟩ u).setCell ⟨b,1,none⟩ v).setCell ⟨b,2,none⟩ x) :=
 ((h.setCell (p:=⟨b,0,none⟩) hb _).setCell (p:=⟨b,1,none⟩) hb _).setCell (p:=⟨b,2,none⟩) hb _
def iY:MkV:=⟨0,0,0⟩
def fE (id:Int) (l:List MkV):Value := .tuple #[.agg (mkL ((iD id l).getD iY)).toArray,.bool (hasM id l)]
theorem aN6 {id:Int} {l:List MkV} (h:l.Pairwise (fun a b=>a.id<b.id)) {j:Nat} (hj:j<idxM id l) {m:MkV} (hm:l[j]? = some m):m.id<id:=by
 have h1:=(iK id h).1
 have:(l.take (idxM id l))[j]? = some m:=by rw[List.getElem?_take,if_pos hj,hm]
 rw[h1] at this
 have:=(List.mem_filter.1 (mGz this)).2
 simpa using this
theorem aHw (a:Option Addr) (c:Nat) (v:Value) (w:World):Calls Tryz.prog 251 #[.slice a 0 c,v] w fun e w'=>e = .returned (.int .i64 (-1))∧Below w.heap.size w w':=by
 go_enter Tryz.func251,Tryz.ntmps251
 go_wp2
 refine wp_loop_rounds 1 ?_
 rw[rounds_succ]
 go_wp2
 go_returns
 exact⟨rfl,Below.refl _ _⟩
theorem mP (a:Option Addr) (c:Nat) (l:List MkV) (id:Int) (w:World) (hr:MRow w a l) (hpw:l.Pairwise (fun a b=>a.id<b.id)) (hs:l.length≤1000) (hc:l.length≤c) :
  Calls Tryz.prog 202 #[.slice a l.length c,.int .u32 id] w fun e w'=>e = .returned (fE id l)∧Below w.heap.size w w':=by
 obtain⟨W0,hW0⟩:∃ W0,W0=(w.alloc (.cells #[.int .u32 id] 52)).alloc (.cells #[.int .u32 0,.int .i64 0,.int .u8 0] 74):=⟨_,rfl⟩
 have hsz:W0.heap.size=w.heap.size+1+1:=by rw[hW0];simp
 have hB0:Below w.heap.size w W0:=by rw[hW0];exact ((Below.refl _ w).alloc (Nat.le_refl _) _).alloc (by simp) _
 have cx:W0.cell? ⟨w.heap.size,0,none⟩=some (.int .u32 id):=by rw[hW0];exact Lib.cell?_alloc_some _ (box1 (heap_alloc_new w (.cells #[.int .u32 id] 52))).1
 have hres:W0.heap[w.heap.size+1]? = some (.cells #[.int .u32 0,.int .i64 0,.int .u8 0] 74 (0,0)):=by rw[hW0];have:=heap_alloc_new (w.alloc (.cells #[.int .u32 id] 52)) (.cells #[.int .u32 0,.int .i64 0,.int .u8 0] 74);rwa [World.size_alloc] at this
 have eg:∀ args w,(callFunc 252 args).run Tryz.prog w = .ok (.enter 252 args) w:=enters_of Tryz.func252 (by kernel_rfl) rfl
 have hP:PredBelow Tryz.prog 252 #[.pointer (some ⟨w.heap.size,0,none⟩)] (fun x => .agg (mkL x).toArray) (fun m=>m.id == id) W0:=by
  intro W x hW
  refine (aHv w.heap.size id x W ((hW.cell (p:=⟨w.heap.size,0,none⟩) (show w.heap.size<W0.heap.size by omega)).trans cx) (by have:=hW.size;omega)).mono ?_
  rintro e w' ⟨rfl,hB⟩
  exact⟨rfl,hW.trans (hB.mono hW.size)⟩
 have hr0:=hr.on hB0
 have hIdx:Calls Tryz.prog 251 #[.slice a l.length c,.func (.func 252) #[] #[.pointer (some ⟨w.heap.size,0,none⟩)]] W0 fun e w'=>e = .returned (.int .i64 (if hasM id l then (idxM id l:Int) else -1))∧Below W0.heap.size W0 w':=by
  rcases hr0 with⟨h1,h2⟩ | ⟨b,off,h1,h2,h3⟩
  ·subst h2
   refine (aHw a c _ _).mono ?_
   rintro e w' ⟨rfl,hB⟩
   exact⟨rfl,hB⟩
  ·subst h1
   have h:=AnyQ.slices_IndexFunc (P := Tryz.prog) Tryz.idxM 3 (fun w => Tryz.isAgg74 w) (fun w => Tryz.sizeOf74 w) mkL dB (fun m=>m.id == id) 252 #[.pointer (some ⟨w.heap.size,0,none⟩)] eg b off l.length c l _ hP (Nat.le_refl _) (by omega) h2 (fun j hj i v hv=>by
    rw[Nat.add_assoc]
    rw[getElem!_pos l j hj] at hv
    exact h3 j l[j] (gEz hj) i v hv)
   refine h.mono ?_
   rintro e w' ⟨rfl,hB⟩
   refine⟨?_,hB⟩
   congr 2
   cases hs2:hasM id l with
   |true =>
    obtain⟨m,g1,g2,_⟩:=sP hpw hs2
    have hlt:=(gLz g1).1
    rw[if_pos rfl]
    refine idxBy_hit _ l l.length (idxM id l) default hlt (Nat.le_refl _) ?_ ?_
    ·rw[getElem!_pos l _ hlt];have:=(gLz g1).2;rw[this];simpa using g2
    ·intro j hj
     have hjl:j<l.length:=by omega
     rw[getElem!_pos l j hjl]
     have:=aN6 hpw hj (gEz hjl)
     simp;omega
   |false =>
    rw[if_neg (by simp)]
    refine idxBy_miss _ l l.length default ?_
    intro j hj
    rw[getElem!_pos l j hj]
    unfold hasM at hs2
    rw[List.any_eq_false] at hs2
    simpa using hs2 l[j] (List.getElem_mem hj)
 clear hP
 cases hs2:hasM id l with
 |true =>
  obtain⟨m,g1,g2,_,g3,_⟩:=sP hpw hs2
  rw[hs2,if_pos rfl] at hIdx
  have hF:fE id l = .tuple #[.agg (mkL m).toArray,.bool true]:=by unfold fE;rw[g3,hs2];rfl
  have HF:=Lib.hid hF
  have hlt:=(gLz g1).1
  have hd:decide ((idxM id l:Int)<0)=false:=by simp
  rcases hr0 with⟨h1,h2⟩ | ⟨b,off,rfl,hb,h3⟩
  ·rw[h2] at hlt;simp at hlt
  generalize idxM id l=ix at *
  clear hpw hF g3 hs2
  subst hW0
  go_enter Tryz.func202,Tryz.ntmps202
  go_wp2_with (go_at_call 251;refine hIdx.mono ?_;rintro e w1 ⟨rfl,hB1⟩;have c0:w1.cell? ⟨b,off+ix*3,none⟩=some (.int .u32 m.id):=(hB1.cell (p:=⟨b,off+ix*3,none⟩) hb).trans (h3 ix m g1 0 _ rfl);have c1:w1.cell? ⟨b,off+ix*3+1,none⟩=some (.int .i64 m.at_):=(hB1.cell (p:=⟨b,off+ix*3+1,none⟩) hb).trans (h3 ix m g1 1 _ rfl);have c2:w1.cell? ⟨b,off+ix*3+2,none⟩=some (.int .u8 m.grav):=(hB1.cell (p:=⟨b,off+ix*3+2,none⟩) hb).trans (h3 ix m g1 2 _ rfl);have hz:=(hB1.block _ (by omega)).trans hres;obtain⟨z0,z1,z2⟩:=cZ hz;obtain⟨y0,y1,y2⟩:=vB hz)
  obtain⟨r0,r1,r2⟩:=cZ (set3 (u' := .int .u32 id) (v' := .int .i64 m.at_) (x' := .int .u8 m.grav) hz)
  have hBz:=jJ (hB0.trans (hB1.mono (by omega))) (show w.heap.size≤w.heap.size+1 by omega) (.int .u32 id) (.int .i64 m.at_) (.int .u8 m.grav)
  generalize ((w1.setCell ⟨w.heap.size+1,0,none⟩ (.int .u32 id)).setCell ⟨w.heap.size+1,1,none⟩ (.int .i64 m.at_)).setCell ⟨w.heap.size+1,2,none⟩ (.int .u8 m.grav)=W3 at *
  refine bodyPost_ret (v:=fE id l) ?_ rfl ⟨rfl,hBz⟩
  rw[HF.out]
  simp[results,Tryz.f202,go_sem,r0,r1,r2,mkL,g2]
 |false =>
  rw[hs2,if_neg (by simp)] at hIdx
  have hF:fE id l = .tuple #[.agg (mkL iY).toArray,.bool false]:=by unfold fE;rw[(aKj hpw hs2).2.2.1,hs2];rfl
  have HF:=Lib.hid hF
  clear hpw hF hs2
  subst hW0
  go_enter Tryz.func202,Tryz.ntmps202
  go_wp2_with (go_at_call 251;refine hIdx.mono ?_;rintro e w1 ⟨rfl,hB1⟩;have hz:=(hB1.block _ (by omega)).trans hres;obtain⟨z0,z1,z2⟩:=cZ hz;obtain⟨y0,y1,y2⟩:=vB hz)
  obtain⟨r0,r1,r2⟩:=cZ (set3 (u' := .int .u32 0) (v' := .int .i64 0) (x' := .int .u8 0) hz)
  have hBz:=jJ (hB0.trans (hB1.mono (by omega))) (show w.heap.size≤w.heap.size+1 by omega) (.int .u32 0) (.int .i64 0) (.int .u8 0)
  generalize ((w1.setCell ⟨w.heap.size+1,0,none⟩ (.int .u32 0)).setCell ⟨w.heap.size+1,1,none⟩ (.int .i64 0)).setCell ⟨w.heap.size+1,2,none⟩ (.int .u8 0)=W3 at *
  refine bodyPost_ret (v:=fE id l) ?_ rfl ⟨rfl,hBz⟩
  rw[HF.out]
  simp[results,Tryz.f202,go_sem,r0,r1,r2,mkL,iY]
end Go.Proofs.YtdeiocppghhfdaaGreat
namespace Go.Proofs.YtdeiocppghhfdaaGreat
def cntB (p:Int→Bool) (l:List UInt8):Nat:=(l.filter fun b=>p (b.toNat:Int)).length
def nthB (p:Int→Bool):List UInt8→Int→Option Nat
 |[],_=>none
 |b::l,n=>if p (b.toNat:Int) then (if n=0 then some 0 else (nthB p l (n-1)).map (· + 1)) else (nthB p l n).map (· + 1)
theorem jU (p:Int→Bool) (l:List UInt8):cntB p l≤l.length:=List.length_filter_le _ _
theorem kN (p:Int→Bool) (l:List UInt8) (k:Nat) (h:k<l.length):cntB p (l.take (k+1))=cntB p (l.take k)+if p (byt l k) then 1 else 0:=by
 unfold cntB byt
 rw[List.take_add_one,gEz h,Option.toList_some,List.filter_append,List.length_append,List.getD_eq_getElem?_getD,gEz h,Option.getD_some]
 by_cases hp:p ((l[k]).toNat:Int)=true
 ·simp[hp]
 ·simp[hp]
theorem iF (p:Int→Bool) (l:List UInt8) (k:Nat) (n:Int) (h:k<l.length):nthB p (l.drop k) n=if p (byt l k) then (if n=0 then some 0 else (nthB p (l.drop (k+1)) (n-1)).map (· + 1)) else (nthB p (l.drop (k+1)) n).map (· + 1):=by
 rw[List.drop_eq_getElem_cons h,nthB]
 have:((l[k]).toNat:Int)=byt l k:=by unfold byt;rw[List.getD_eq_getElem?_getD,gEz h,Option.getD_some]
 rw[this]
theorem qE (p:Int→Bool) (l:List UInt8) (k:Nat) (n:Int) (h:l.length≤k):nthB p (l.drop k) n=none:=by rw[List.drop_of_length_le h];rfl
theorem zM (p:Int→Bool):∀ (l:List UInt8) (n:Int) (k:Nat),nthB p l n=some k→k<l.length
 |[],_,_,h=>by cases h
 |b::l,n,k,h=>by
  rw[nthB] at h
  split at h
  ·split at h
   ·cases h;simp
   ·cases hq:nthB p l (n-1) with
    |none=>rw[hq] at h;cases h
    |some q=>rw[hq] at h;cases h;have:=zM p l _ q hq;simp;omega
  ·cases hq:nthB p l n with
   |none=>rw[hq] at h;cases h
   |some q=>rw[hq] at h;cases h;have:=zM p l _ q hq;simp;omega
theorem nS (p:Int→Bool):∀ (l:List UInt8) (n:Int),0≤n→(nthB p l n=none↔(cntB p l:Int)≤n)
 |[],n,h=>by simp[nthB,cntB,h]
 |b::l,n,h=>by
  rw[nthB]
  have hc:cntB p (b::l)=(if p (b.toNat:Int) then 1 else 0)+cntB p l:=by
   unfold cntB
   rw[List.filter_cons]
   split<;>simp_all [Nat.add_comm]
  rw[hc]
  split
  ·split
   ·simp;omega
   ·rename_i hn
    have:=nS p l (n-1) (by omega)
    rw[Option.map_eq_none_iff,this]
    omega
  ·have:=nS p l n h
   rw[Option.map_eq_none_iff,this]
   omega
def begB (b:Int):Bool := !gT b
def bY (b:Int):Bool:=b == 10
def dW (l:List UInt8) (n:Int):Int × Int:=if n<0 then (0,3) else match nthB begB l n with | some k=>(k,0) | none=>if n=cntB begB l then (l.length,0) else (0,3)
def dX (l:List UInt8) (n:Int):Int × Int:=if n=0 then (0,0) else if n<0 then (0,3) else match nthB bY l (n-1) with | some k=>(k+1,0) | none=>(0,3)
open Go.RowKit
def evB (_:Int):Bool:=true
theorem xS (b:Int) (w:World):Calls Tryz.prog 245 #[.int .u8 b] w fun e w'=>e = .returned (.bool (evB b))∧w=w':=by
 go_enter Tryz.func245,Tryz.ntmps245
 go_wp2
 all_goals (go_ret;exact⟨rfl,rfl⟩)
theorem jK (b:Int) (w:World):Calls Tryz.prog 246 #[.int .u8 b] w fun e w'=>e = .returned (.bool (begB b))∧w=w':=by
 go_enter Tryz.func246,Tryz.ntmps246
 go_wp2
 all_goals (go_ret;exact⟨aO (by rw[Bool.eq_iff_iff];simp[begB,gT];try omega),rfl⟩)
theorem kP (b:Int) (w:World):Calls Tryz.prog 247 #[.int .u8 b] w fun e w'=>e = .returned (.bool (bY b))∧w=w':=by
 go_enter Tryz.func247,Tryz.ntmps247
 go_wp2
 all_goals (go_ret;exact⟨aO (by rw[Bool.eq_iff_iff];simp[bY]),rfl⟩)
theorem aBd (s:ByteArray) (w:World) (hs:s.size≤maxLen):Calls Tryz.prog 248 #[.string s,.func (.func 245) #[] #[]] w fun e w'=>e = .returned (.int .i64 (cntB evB s.data.toList))∧w=w':=by
 unfold maxLen at hs
 have hl:s.data.toList.length=s.size:=by simp
 have HL:=Lib.hid hl;clear hl
 go_enter Tryz.func248,Tryz.ntmps248
 go_wp2
 go_loop [5,6,9,10,11,12,13,14,15,16,17,18,19] (fun n x5 i x6 x7 x8 x9 x10 x11 x12 x13 x14 x15=>∃ k:Nat,i = .int .i64 k∧k≤s.size∧n = .int .i64 (cntB evB (s.data.toList.take k))) (fun n x5 i x6 x7 x8 x9 x10 x11 x12 x13 x14 x15=>s.size-(intOf i).toNat)
 case atStart=>exact⟨0,rfl,by omega,rfl⟩
 case round =>
  obtain⟨k,rfl,hk,rfl⟩:=hrel
  have hc:=jU evB (s.data.toList.take k)
  rw[List.length_take,HL.out] at hc
  by_cases hlt:k<s.size
  ·have hb:=dS s k hlt
   have hsn:=kN evB s.data.toList k (by rw[HL.out];exact hlt)
   have Hs:=Lib.hid hsn;clear hsn
   cases hp:evB (byt s.data.toList k) with
   |true =>
    rw[hp] at Hs
    go_wp2_with (go_at_call 245;refine (xS _ _).mono ?_;try rw[hp];rintro e w' ⟨rfl,rfl⟩)
    go_round
    case rel=>exact⟨k+1,by go_num,by omega,by rw[Hs.out];go_num⟩
    case measure=>simp[intOf];omega
   |false =>
    rw[hp] at Hs
    go_wp2_with (go_at_call 245;refine (xS _ _).mono ?_;try rw[hp];rintro e w' ⟨rfl,rfl⟩)
    go_round
    case rel=>exact⟨k+1,by go_num,by omega,by rw[Hs.out];go_num⟩
    case measure=>simp[intOf];omega
  ·go_wp2
   go_ret
   exact⟨by rw[List.take_of_length_le (by rw[HL.out];omega)];rfl,rfl⟩
theorem lI (s:ByteArray) (w:World) (hs:s.size≤maxLen):Calls Tryz.prog 248 #[.string s,.func (.func 246) #[] #[]] w fun e w'=>e = .returned (.int .i64 (cntB begB s.data.toList))∧w=w':=by
 unfold maxLen at hs
 have hl:s.data.toList.length=s.size:=by simp
 have HL:=Lib.hid hl;clear hl
 go_enter Tryz.func248,Tryz.ntmps248
 go_wp2
 go_loop [5,6,9,10,11,12,13,14,15,16,17,18,19] (fun n x5 i x6 x7 x8 x9 x10 x11 x12 x13 x14 x15=>∃ k:Nat,i = .int .i64 k∧k≤s.size∧n = .int .i64 (cntB begB (s.data.toList.take k))) (fun n x5 i x6 x7 x8 x9 x10 x11 x12 x13 x14 x15=>s.size-(intOf i).toNat)
 case atStart=>exact⟨0,rfl,by omega,rfl⟩
 case round =>
  obtain⟨k,rfl,hk,rfl⟩:=hrel
  have hc:=jU begB (s.data.toList.take k)
  rw[List.length_take,HL.out] at hc
  by_cases hlt:k<s.size
  ·have hb:=dS s k hlt
   have hsn:=kN begB s.data.toList k (by rw[HL.out];exact hlt)
   have Hs:=Lib.hid hsn;clear hsn
   cases hp:begB (byt s.data.toList k) with
   |true =>
    rw[hp] at Hs
    go_wp2_with (go_at_call 246;refine (jK _ _).mono ?_;try rw[hp];rintro e w' ⟨rfl,rfl⟩)
    go_round
    case rel=>exact⟨k+1,by go_num,by omega,by rw[Hs.out];go_num⟩
    case measure=>simp[intOf];omega
   |false =>
    rw[hp] at Hs
    go_wp2_with (go_at_call 246;refine (jK _ _).mono ?_;try rw[hp];rintro e w' ⟨rfl,rfl⟩)
    go_round
    case rel=>exact⟨k+1,by go_num,by omega,by rw[Hs.out];go_num⟩
    case measure=>simp[intOf];omega
  ·go_wp2
   go_ret
   exact⟨by rw[List.take_of_length_le (by rw[HL.out];omega)];rfl,rfl⟩
theorem aBe (s:ByteArray) (w:World) (hs:s.size≤maxLen):Calls Tryz.prog 248 #[.string s,.func (.func 247) #[] #[]] w fun e w'=>e = .returned (.int .i64 (cntB bY s.data.toList))∧w=w':=by
 unfold maxLen at hs
 have hl:s.data.toList.length=s.size:=by simp
 have HL:=Lib.hid hl;clear hl
 go_enter Tryz.func248,Tryz.ntmps248
 go_wp2
 go_loop [5,6,9,10,11,12,13,14,15,16,17,18,19] (fun n x5 i x6 x7 x8 x9 x10 x11 x12 x13 x14 x15=>∃ k:Nat,i = .int .i64 k∧k≤s.size∧n = .int .i64 (cntB bY (s.data.toList.take k))) (fun n x5 i x6 x7 x8 x9 x10 x11 x12 x13 x14 x15=>s.size-(intOf i).toNat)
 case atStart=>exact⟨0,rfl,by omega,rfl⟩
 case round =>
  obtain⟨k,rfl,hk,rfl⟩:=hrel
  have hc:=jU bY (s.data.toList.take k)
  rw[List.length_take,HL.out] at hc
  by_cases hlt:k<s.size
  ·have hb:=dS s k hlt
   have hsn:=kN bY s.data.toList k (by rw[HL.out];exact hlt)
   have Hs:=Lib.hid hsn;clear hsn
   cases hp:bY (byt s.data.toList k) with
   |true =>
    rw[hp] at Hs
    go_wp2_with (go_at_call 247;refine (kP _ _).mono ?_;try rw[hp];rintro e w' ⟨rfl,rfl⟩)
    go_round
    case rel=>exact⟨k+1,by go_num,by omega,by rw[Hs.out];go_num⟩
    case measure=>simp[intOf];omega
   |false =>
    rw[hp] at Hs
    go_wp2_with (go_at_call 247;refine (kP _ _).mono ?_;try rw[hp];rintro e w' ⟨rfl,rfl⟩)
    go_round
    case rel=>exact⟨k+1,by go_num,by omega,by rw[Hs.out];go_num⟩
    case measure=>simp[intOf];omega
  ·go_wp2
   go_ret
   exact⟨by rw[List.take_of_length_le (by rw[HL.out];omega)];rfl,rfl⟩
end Go.Proofs.YtdeiocppghhfdaaGreat
