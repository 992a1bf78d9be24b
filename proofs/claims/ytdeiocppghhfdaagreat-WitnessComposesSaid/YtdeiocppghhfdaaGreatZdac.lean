/- Texts, one behind another. -/
import Derived.Test.YtdeiocppghhfdaaGreatZdab
import Derived.Test.YtdeiocppghhfdaaGreatShelf2
import Derived.Deep.AppendLies
import Derived.RangeFuncBox
import Derived.Maps.AppendAt
import Derived.Shelf.SlSortCmp.Whole1
import Derived.Sort.OwnSortedInts
import Derived.Lib.RowBridge
set_option linter.unusedVariables false
set_option linter.unusedSimpArgs false
set_option maxRecDepth 100000
set_option maxHeartbeats 8000000
namespace Go.Proofs.YtdeiocppghhfdaaGreat.KitI
open Go.RowKit Go.Lib
def iv (x:Int):Value := .int .i64 x
theorem iL {a b:Bool} (h:a=b):Ending.returned (.bool a) = .returned (.bool b):=by rw[h]
theorem iD {w:World} {a:Addr} {v:Value} (h:w.cell? a=some v):a.block<w.heap.size:=by
 rcases Nat.lt_or_ge a.block w.heap.size with h' | h'
 ·exact h'
 ·simp[World.cell?,Array.getElem?_eq_none h'] at h
def IRow (w:World) (v:Value) (zs:List Int):Prop :=
 (v = .slice none 0 0∧zs=[])∨∃ b off c,v = .slice (some ⟨b,off,none⟩) zs.length c∧∀ j u,zs[j]? = some u→w.cell? ⟨b,off+j,none⟩=some (iv u)
theorem IRow.own {w:World} {base:Nat} {e:TypeId} {v:Value} {n:Nat} {zs:List Int} (h:w.ownsRow base e 1 v n (zs.map iv)) (hn:n=zs.length):IRow w v zs:=by
 subst hn
 rcases h.2 with⟨h1,h2⟩ | ⟨g,cap,cur,h1,_⟩
 ·exact .inl ⟨h1,List.length_eq_zero_iff.1 h2⟩
 ·refine .inr ⟨g,0,cap,h1,fun j u hj => ?_⟩
  subst h1
  have hlt:=(List.getElem?_eq_some_iff.1 hj).1
  rw[Nat.zero_add,h.cellAt j (by omega),List.getElem?_map,hj]
  rfl
theorem IRow.on {w w':World} {v:Value} {zs:List Int} (h:IRow w v zs) (hb:Below w.heap.size w w'):IRow w' v zs:=by
 rcases h with h | ⟨b,off,c,h1,h2⟩
 ·exact .inl h
 ·exact .inr ⟨b,off,c,h1,fun j u hj=>by rw[hb.cell (iD (h2 j u hj))];exact h2 j u hj⟩
theorem IRow.nil (w:World):IRow w (.slice none 0 0) [] := .inl ⟨rfl,rfl⟩
theorem IRow.new (zs:List Int) (cs:Array Value) (T:TypeId) (n c:Nat) (hc:cs=(zs.map iv).toArray) (hl:n=zs.length) (W:World):IRow (W.alloc (.cells cs T)) (.slice (some ⟨W.heap.size,0,none⟩) n c) zs:=by
 subst hc hl
 refine .inr ⟨_,0,c,rfl,fun j u hj => ?_⟩
 rw[Nat.zero_add,World.cell?_alloc_new]
 simp[hj]
def ERel (za zb:List Int) (w:World) (i:Value) (wr:World):Prop:=∃ k n:Nat,i = .int .i64 k∧wr=w.drewN n∧k≤za.length∧za.take k=zb.take k
theorem below_drewN' (w:World) (n:Nat):Below w.heap.size w (w.drewN n):=below_drewN (Below.refl _ _) n
theorem zF {α:Type} {a b:List α} {k:Nat} (x:α) (h1:a[k]? = some x) (h2:b[k]? = some x) (h:a.take k=b.take k):a.take (k+1)=b.take (k+1):=by
 rw[List.take_add_one,List.take_add_one,h,h1,h2]
theorem aLt (w:World) (b1 o1 c1 b2 o2 c2:Nat) (za zb:List Int) (hl:za.length=zb.length) (hs:za.length≤1000000)
  (h1:∀ j u,za[j]? = some u→w.cell? ⟨b1,o1+j,none⟩=some (iv u)) (h2:∀ j u,zb[j]? = some u→w.cell? ⟨b2,o2+j,none⟩=some (iv u)) :
  Calls Tryz.prog 24 #[.slice (some ⟨b1,o1,none⟩) za.length c1,.slice (some ⟨b2,o2,none⟩) za.length c2] w fun e w'=>e = .returned (.bool (decide (za=zb)))∧Below w.heap.size w w':=by
 have H1:=Lib.hid h1
 have H2:=Lib.hid h2
 have Hl:=Lib.hid hl
 clear h1 h2 hl
 go_enter Tryz.func24,Tryz.ntmps24
 go_wp2
 go_loopw [5] (fun i wr=>ERel za zb w i wr) (fun i wr=>za.length-(intOf i).toNat)
 case atStart=>exact⟨0,0,rfl,rfl,by omega,rfl⟩
 case round =>
  obtain⟨k,n,rfl,rfl,hk,he⟩:=hrel
  have He:=Lib.hid he;clear he
  by_cases hlt:k<za.length
  ·obtain⟨x,hx⟩:∃ x,za[k]? = some x:=⟨_,List.getElem?_eq_getElem hlt⟩
   obtain⟨y,hy⟩:∃ y,zb[k]? = some y:=⟨_,List.getElem?_eq_getElem (by rw[← Hl.out];exact hlt)⟩
   have cx:=H1.out k x hx
   have cy:=H2.out k y hy
   unfold iv at cx cy
   have Hx:=Lib.hid hx
   have Hy:=Lib.hid hy
   clear hx hy
   by_cases hxy:x=y
   ·subst hxy
    go_wp2_with (go_quiet (fail))
    go_roundw
    case rel=>exact⟨k+1,_,rfl,rfl,by omega,zF x Hx.out Hy.out He.out⟩
    case measure=>simp[intOf];omega
   ·have hd:(x == y)=false:=by simpa using hxy
    have hz:za≠zb:=fun e=>by
     have h1:=Hx.out
     rw[e,Hy.out] at h1
     exact hxy (Option.some.inj h1).symm
    have Hz:=Lib.hid hz
    clear hxy hz
    go_wp2_with (go_quiet (fail))
    go_returns
    exact⟨iL (by simp[Hz.out]),below_drewN (below_drewN' _ _) _⟩
  ·go_wp2
   go_returns
   refine⟨iL ?_,below_drewN' _ _⟩
   have hkk:k=za.length:=by omega
   have:=He.out
   rw[hkk,List.take_length,Hl.out,List.take_length] at this
   simp[this]
theorem aCt (w:World) (va vb:Value) (za zb:List Int) (ha:IRow w va za) (hb:IRow w vb zb) (hs:za.length≤1000000) (hs2:zb.length≤1000000) :
  Calls Tryz.prog 24 #[va,vb] w fun e w'=>e = .returned (.bool (decide (za=zb)))∧Below w.heap.size w w':=by
 by_cases hl:za.length=zb.length
 ·rcases ha with⟨rfl,rfl⟩ | ⟨b1,o1,c1,rfl,h1⟩
  ·obtain rfl:zb=[]:=List.length_eq_zero_iff.1 hl.symm
   clear hs hs2 hl
   rcases hb with⟨rfl,_⟩ | ⟨b2,o2,c2,rfl,h2⟩
   all_goals
    go_enter Tryz.func24,Tryz.ntmps24
    go_wp2
    refine wp_loop_rounds 1 ?_
    rw[rounds_succ]
    go_wp2
    go_returns
    exact⟨rfl,Below.refl _ _⟩
  ·rcases hb with⟨rfl,rfl⟩ | ⟨b2,o2,c2,rfl,h2⟩
   ·obtain rfl:za=[]:=List.length_eq_zero_iff.1 hl
    clear hs hs2 hl h1
    go_enter Tryz.func24,Tryz.ntmps24
    go_wp2
    refine wp_loop_rounds 1 ?_
    rw[rounds_succ]
    go_wp2
    go_returns
    exact⟨rfl,Below.refl _ _⟩
   ·rw[← hl]
    exact aLt w b1 o1 c1 b2 o2 c2 za zb hl hs h1 h2
 ·have hz:decide (za=zb)=false:=by
   rw[decide_eq_false_iff_not]
   intro e
   exact hl (by rw[e])
  rw[hz]
  obtain⟨pa,ca,rfl⟩:∃ pa ca,va = .slice pa za.length ca:=by
   rcases ha with⟨rfl,rfl⟩ | ⟨b1,o1,c1,rfl,h1⟩
   ·exact⟨_,_,rfl⟩
   ·exact⟨_,_,rfl⟩
  obtain⟨pb,cb,rfl⟩:∃ pb cb,vb = .slice pb zb.length cb:=by
   rcases hb with⟨rfl,rfl⟩ | ⟨b1,o1,c1,rfl,h1⟩
   ·exact⟨_,_,rfl⟩
   ·exact⟨_,_,rfl⟩
  have hd:((za.length:Int) == (zb.length:Int))=false:=by
   rw[beq_eq_false_iff_ne]
   intro e
   exact hl (by omega)
  clear ha hb hz hl
  go_enter Tryz.func24,Tryz.ntmps24
  go_wp2
  go_returns
  exact⟨rfl,Below.refl _ _⟩
theorem lS:(Tryz.prog.info? 3).map (fun i=>(i.zero,i.size,i.bytes))=some (some (.int .i64 0),1,8):=by kernel_rfl
theorem own_below {w w':World} {base:Nat} {e:TypeId} {size:Nat} {v:Value} {n:Nat} {xs:List Value} (h:w.ownsRow base e size v n xs) (hb:Below w.heap.size w w'):w'.ownsRow base e size v n xs:=by
 refine⟨h.1,?_⟩
 rcases h.2 with hn | ⟨g,cap,cur,rfl,hbs,hgg,rest⟩
 ·exact .inl hn
 ·exact .inr ⟨g,cap,cur,rfl,hbs,by rw[hb.block g (Array.getElem?_eq_some_iff.1 hgg).1];exact hgg,rest⟩
end Go.Proofs.YtdeiocppghhfdaaGreat.KitI
namespace Go.Proofs.YtdeiocppghhfdaaGreat.Hs
open Go.RowKit Go.Lib
open KitI (iv IRow own_below lS)
attribute [local go_sem, local simp] dB dG dE dH dI dJ dK dL dM dF aR aW bB bC aS aV aY bD bE bF bG bH bI bJ bK aU aQ fH fI fJ fK fM fO fP fQ fT fU dN dO dP dQ dR dS dU dV dW dX dY dZ eB bL bM bN bO bP bQ bR bS bT bU bV bW bX bY bZ cB aX fV fZ gB gD gF gG gH gI gJ gK eD eG eH aH aJ
attribute [local go_sem ↓] aK aN
attribute [local go_sem] fF cK aP eO fD
def places (q:aA→Bool):List aA→Nat→List Nat
 | [],_=>[]
 | c::cs,k=>if q c then k::places q cs (k+1) else places q cs (k+1)
theorem oO {q:aA→Bool}:∀ {cs:List aA} {k:Nat},(places q cs k).length≤cs.length
 | [],_=>by simp[places]
 | c::cs,k=>by
  unfold places
  have:=oO (q:=q) (cs:=cs) (k:=k+1)
  split<;>simp<;>omega
theorem xP {q:aA→Bool} {c:aA}:∀ {cs:List aA} {k:Nat},places q (cs++[c]) k=places q cs k++if q c then[k+cs.length] else[]
 | [],k=>by simp[places]
 | a::cs,k=>by
  have ih:=xP (q:=q) (c:=c) (cs:=cs) (k:=k+1)
  rw[List.cons_append]
  unfold places
  rw[ih,show k+1+cs.length=k+(a::cs).length from by simp;omega]
  split<;>simp
theorem aEi {q:aA→Bool} {cs:List aA} {k:Nat} {c:aA} (h:cs[k]? = some c):places q (cs.take (k+1)) 0=places q (cs.take k) 0++if q c then[k] else[]:=by
 have hlt:=(List.getElem?_eq_some_iff.1 h).1
 rw[List.take_add_one,h,Option.toList_some,xP,List.length_take,Nat.min_eq_left (by omega),Nat.zero_add]
def nv (n:Nat):Value := .int .i64 (n:Int)
theorem aA6 (W:World) (o:Obj) (v:Value) (T:TypeId):∀ (j:Nat) (u:Value),[v][j]? = some u→((W.alloc o).alloc (.cells #[v] T)).cell? ((⟨W.heap.size+1,0,none⟩:Addr).add j)=some u:=by
 have h:=cell_one_new (W.alloc o) v T
 rw[World.size_alloc] at h
 exact h
end Go.Proofs.YtdeiocppghhfdaaGreat.Hs
namespace Go.Proofs.YtdeiocppghhfdaaGreat.Hs
open Go.RowKit Go.Lib Go.Sort Go.Shelf
open KitI (iv IRow own_below lS)
attribute [local go_sem, local simp] dB dG dE dH dI dJ dK dL dM dF aR aW bB bC aS aV aY bD bE bF bG bH bI bJ bK aU aQ fH fI fJ fK fM fO fP fQ fT fU dN dO dP dQ dR dS dU dV dW dX dY dZ eB bL bM bN bO bP bQ bR bS bT bU bV bW bX bY bZ cB aX fV fZ gB gD gF gG gH gI gJ gK eD eG eH aH aJ
attribute [local go_sem ↓] aK aN
attribute [local go_sem] fF cK aP eO fD
section
variable {α:Type} [Inhabited α] {enc:α→Value}
theorem aJ3 {w:World} {g:Nat} {cur:Array Value} {e:TypeId} {ss:List α} (hb:w.heap[g]? = some (.cells cur e (0,0))) (ht:cur.toList.take ss.length=ss.map enc):Holds enc w g 0 ss.toArray:=by
 intro j hj
 have hj':j<ss.length:=by simpa using hj
 refine⟨?_,by simp[World.frozen?,hb]⟩
 have h1:(cur.toList.take ss.length)[j]? = (ss.map enc)[j]? := by rw[ht]
 rw[List.getElem?_take_of_lt hj'] at h1
 simp only[World.cell?,hb,Nat.zero_add]
 simp only[Option.isSome_none,Bool.false_eq_true,if_false]
 rw[← Array.getElem?_toList,h1]
 simp[hj']
theorem heap_put {w:World} {g n:Nat} {os:Array Obj} {cur:Array Value} {e:TypeId} {fr:Nat × Nat} (d:Array α) (hb:w.heap[g]? = some (.cells cur e fr)) :
  (grow (putRow enc (Sort.ahead w n) g 0 d) os).heap[g]? = some (.cells (putCells enc 0 d cur) e fr):=by
 have hg:g<w.heap.size:=(Array.getElem?_eq_some_iff.1 hb).1
 rw[Sort.heap_grow_old _ _ (by simpa using hg)]
 simp[putRow,mapBlock,Sort.ahead,Array.getElem?_modify,hb,onCells]
theorem xQ {w:World} {g n:Nat} {os:Array Obj} (d:Array α):w.grownBy (grow (putRow enc (Sort.ahead w n) g 0 d) os) (some g):=by
 refine⟨rfl,rfl,rfl,by simp,fun k hk hne => ?_⟩
 rw[Sort.heap_grow_old _ _ (by simpa using hk)]
 have:g≠k:=fun e=>hne (by rw[e])
 simp[putRow,mapBlock,Sort.ahead,Array.getElem?_modify,this]
theorem aLu (cur:Array Value) (ts:List α) (k:Nat) (hk:k≤ts.length) (h:ts.length≤cur.size):(putCells enc 0 ts.toArray cur).toList.take k=(ts.take k).map enc:=by
 apply List.ext_getElem?
 intro j
 by_cases hj:j<k
 ·rw[List.getElem?_take_of_lt hj,Array.getElem?_toList]
  simp[putCells,hj,show j<cur.size by omega,show j<ts.length by omega]
 ·rw[List.getElem?_take_eq_none (by omega),List.getElem?_eq_none (by simp;omega)]
theorem aEj {w:World} {base g cap n:Nat} {e:TypeId} {os:Array Obj} {cur:Array Value} {ts:List α} (hbase:base≤g) (hb:w.heap[g]? = some (.cells cur e (0,0)))
  (h1:ts.length≤cap) (h2:cap≤maxLen) (h3:cur.size=cap*1) :
  (grow (putRow enc (Sort.ahead w n) g 0 ts.toArray) os).ownsRow base e 1 (.slice (some ⟨g,0,none⟩) ts.length cap) ts.length (ts.map enc) :=
 ⟨by simp,.inr ⟨g,cap,_,rfl,hbase,heap_put _ hb,by omega,h2,by simp[putCells,h3],by rw[Nat.mul_one,aLu cur ts ts.length (Nat.le_refl _) (by omega),List.take_length]⟩⟩
end
def eP (c:aA):Bool:=decide (0≤c.took)
theorem wY {q:aA→Bool}:∀ {cs:List aA} {k x:Nat},x∈places q cs k→k≤x∧∃ c,cs[x-k]? = some c∧q c=true
 | [],k,x,h=>by simp[places] at h
 | c::cs,k,x,h=>by
  unfold places at h
  have rest:x∈places q cs (k+1)→k≤x∧∃ d,(c::cs)[x-k]? = some d∧q d=true:=fun h=>by
   obtain⟨h1,d,h2,h3⟩:=wY h
   refine⟨by omega,d,?_,h3⟩
   rw[show x-k=(x-(k+1))+1 from by omega]
   simpa using h2
  split at h
  ·rename_i hc
   rcases List.mem_cons.1 h with rfl | h
   ·exact⟨Nat.le_refl _,c,by simp,hc⟩
   ·exact rest h
  ·exact rest h
theorem nA {q:aA→Bool} {cs:List aA} {x:Nat} (h:x∈places q cs 0):∃ c,cs[x]? = some c∧q c=true:=by
 obtain⟨_,c,h1,h2⟩:=wY h
 exact⟨c,h1,h2⟩
theorem zG {q:aA→Bool}:∀ {cs:List aA} {k x:Nat} {c:aA},cs[x]? = some c→q c=true→k+x∈places q cs k
 | [],k,x,c,h,_=>by simp at h
 | a::cs,k,0,c,h,hq=>by
  simp at h
  subst h
  unfold places
  rw[if_pos hq]
  simp
 | a::cs,k,x+1,c,h,hq=>by
  have ih:=zG (k:=k+1) (x:=x) (c:=c) (cs:=cs) (by simpa using h) hq
  unfold places
  have e:k+(x+1)=k+1+x:=by omega
  rw[e]
  split
  ·exact List.mem_cons_of_mem _ ih
  ·exact ih
theorem qM {q:aA→Bool}:∀ {cs:List aA} {k:Nat},(places q cs k).Pairwise (· < ·)
 | [],_=>by simp[places]
 | c::cs,k=>by
  unfold places
  have ih:=qM (q:=q) (cs:=cs) (k:=k+1)
  split
  ·refine List.pairwise_cons.2 ⟨fun x hx => ?_,ih⟩
   have:=(wY hx).1
   omega
  ·exact ih
def tk (cs:List aA) (i:Nat):Int:=((cs[i]?).map (·.took)).getD 0
def rk (cs:List aA) (i:Nat):Int:=((cs[i]?).map (·.rank)).getD 0
def lexB (cs:List aA) (i j:Nat):Bool:=decide (tk cs i<tk cs j∨(tk cs i=tk cs j∧rk cs i<rk cs j))
def lX (cs:List aA) (L:List Nat):Prop:=L.Perm (places eP cs 0)∧L.Pairwise fun i j=>lexB cs i j=true
def cfE (cs:List aA) (i j:Nat):Int:=if tk cs i-tk cs j=0 then rk cs i-rk cs j else tk cs i-tk cs j
theorem aCu (cs:List aA) (i j:Nat):decide (cfE cs i j<0)=lexB cs i j:=by
 unfold cfE lexB
 rw[Bool.eq_iff_iff]
 simp only[decide_eq_true_eq]
 split<;>omega
theorem oP {cs:List aA} (h:(dD cs).2=0):∀ i c,cs[i]? = some c→accB (cs.take i) c=true:=by
 intro i c hc
 unfold dD at h
 cases hf:(List.range cs.length).find? (fun i => !okAt cs i) with
 | some k=>rw[hf] at h;cases h
 | none =>
  rw[List.find?_eq_none] at hf
  have h1:=hf i (List.mem_range.2 (List.getElem?_eq_some_iff.1 hc).1)
  rw[← aRs hc]
  simpa using h1
theorem uR {pre:List aA} {c:aA} (h:accB pre c=true):jT c=true:=by unfold accB at h;simp at h;exact h.1.1.1.1
theorem aBo {pre:List aA} {c d:aA} (h:accB pre c=true) (hd:d∈pre):kU c d=false:=by
 unfold accB at h
 simp at h
 exact h.2 d hd
theorem xR {c:aA} (h:jT c=true):0≤c.rank:=by unfold jT at h;simp at h;omega
theorem aLv {cs:List aA} (h:(dD cs).2=0) {i j:Nat} {c d:aA} (hc:cs[i]? = some c) (hd:cs[j]? = some d) (ht:0≤c.took) (h1:c.took=d.took) (h2:c.rank=d.rank):i=j:=by
 rcases Nat.lt_trichotomy i j with hlt | he | hlt
 ·have hcl:=aBo (d:=c) (oP h j d hd) (List.mem_iff_getElem?.2 ⟨i,by rw[List.getElem?_take_of_lt hlt];exact hc⟩)
  unfold kU at hcl
  simp at hcl
  omega
 ·exact he
 ·have hcl:=aBo (d:=d) (oP h i c hc) (List.mem_iff_getElem?.2 ⟨j,by rw[List.getElem?_take_of_lt hlt];exact hd⟩)
  unfold kU at hcl
  simp at hcl
  omega
abbrev InE (cs:List aA):Type:={ x:Nat // x∈places eP cs 0 }
def encE {cs:List aA} (x:InE cs):Value:=nv x.1
theorem aLw (Bl b off cap:Nat) (cs:List aA) (hw:(dD cs).2=0) (hok:∀ c∈cs,c.Ok) (x y:InE cs) (W:World) (hBl:W.cell? ⟨Bl,0,none⟩=some (.slice (some ⟨b,off,none⟩) cs.length cap)) (hC:CAt W b off cs) :
  Calls Tryz.prog 105 #[encE x,encE y,.pointer (some ⟨Bl,0,none⟩)] W fun e w'=>e = .returned (.int .i64 (cfE cs x.1 y.1))∧∃ q,w'=W.drewN q:=by
 obtain⟨i,hi⟩:=x
 obtain⟨j,hj⟩:=y
 obtain⟨c,hc,qc⟩:=nA hi
 obtain⟨d,hd,qd⟩:=nA hj
 have c10:=hC.cell hc 10 (by omega)
 have c11:=hC.cell hc 11 (by omega)
 have d10:=hC.cell hd 10 (by omega)
 have d11:=hC.cell hd 11 (by omega)
 rw[aR] at c10 d10
 rw[aW] at c11 d11
 have hil:(i:Int)<cs.length:=by have:=(List.getElem?_eq_some_iff.1 hc).1;omega
 have hjl:(j:Int)<cs.length:=by have:=(List.getElem?_eq_some_iff.1 hd).1;omega
 have hi0:(0:Int)≤i:=by omega
 have hj0:(0:Int)≤j:=by omega
 have tc:tk cs i=c.took:=by unfold tk;rw[hc];rfl
 have td:tk cs j=d.took:=by unfold tk;rw[hd];rfl
 have rc:rk cs i=c.rank:=by unfold rk;rw[hc];rfl
 have rd:rk cs j=d.rank:=by unfold rk;rw[hd];rfl
 have oc:=hok c (List.mem_of_getElem? hc)
 have od:=hok d (List.mem_of_getElem? hd)
 have t1:=oc.t1
 have t2:=od.t1
 have t3:=oc.r1
 have t4:=od.r1
 have t5:0≤c.took:=by simpa [eP] using qc
 have t6:0≤d.took:=by simpa [eP] using qd
 have t7:=xR (uR (oP hw i c hc))
 have t8:=xR (uR (oP hw j d hd))
 have hcf:cfE cs i j=if c.took-d.took=0 then c.rank-d.rank else c.took-d.took:=by unfold cfE;rw[tc,td,rc,rd]
 have Hcf:=Lib.hid hcf
 generalize c.took=ct at *
 generalize d.took=dt at *
 generalize c.rank=cr at *
 generalize d.rank=dr at *
 have w1:IntKind.i64.wrap (ct-dt)=ct-dt:=IntWalk.i64_in _ (by omega)
 have w2:IntKind.i64.wrap (cr-dr)=cr-dr:=IntWalk.i64_in _ (by omega)
 clear hc hd tc td rc rd oc od hcf qc qd hok hw
 have hl:cs.length=cs.length:=rfl
 generalize cs.length=nn at *
 clear hl
 by_cases hz:ct-dt=0
 all_goals
  have Hz:=Lib.hid hz
  have hz1:(ct-dt == 0)=decide (ct-dt=0):=by rw[Bool.eq_iff_iff];simp
  first | (have hz2:(ct-dt == 0)=true:=by rw[hz1];simpa using hz) | (have hz2:(ct-dt == 0)=false:=by rw[hz1];simpa using hz)
  clear hz hz1
  unfold encE nv
  go_enter Tryz.func105,Tryz.ntmps105
  go_wp2
  go_quiet (fail)
  go_wp2
  try (go_quiet (fail))
  go_wp2
  go_returns
  refine⟨yN (by rw[Hcf.out];first | rw[if_pos Hz.out] | rw[if_neg Hz.out]),?_⟩
  first | exact⟨_,rfl⟩ | exact⟨_,World.drewN_drewN _ _ _⟩
theorem cmpE (Bl b off cap blk size:Nat) (cs:List aA) (hw:(dD cs).2=0) (hok:∀ c∈cs,c.Ok) (w:World) [Inhabited (InE cs)] (hBl:w.cell? ⟨Bl,0,none⟩=some (.slice (some ⟨b,off,none⟩) cs.length cap)) (hC:CAt w b off cs) (h1:Bl≠blk) (h2:b≠blk) :
  CmpReads Tryz.prog 105 #[.pointer (some ⟨Bl,0,none⟩)] (encE (cs:=cs)) (fun x y=>cfE cs x.1 y.1) blk 0 size w:=by
 intro m os dk hd x y
 have hg:w.grownBy (sortWorld (encE (cs:=cs)) w blk 0 m dk os) (some blk):=xQ dk
 refine aLw Bl b off cap cs hw hok x y _ ?_ ?_
 ·rw[World.cell?_of_block (hg.block Bl (iD hBl) (fun e=>h1 (by cases e;rfl)))]
  exact hBl
 ·intro j u hj
  have h:=hC j u hj
  rw[World.cell?_of_block (hg.block b (iD h) (fun e=>h2 (by cases e;rfl)))]
  exact h
theorem aLx (cs:List aA):SWO (ltOf fun (x y:InE cs)=>cfE cs x.1 y.1):=by
 have e:(ltOf fun (x y:InE cs)=>cfE cs x.1 y.1)=fun x y=>lexB cs x.1 y.1:=by
  funext x y
  exact aCu cs x.1 y.1
 rw[e]
 constructor
 ·intro x;unfold lexB;simp
 ·intro x y z h1 h2;unfold lexB at *;simp at *;omega
 ·intro x y z h1 h2;unfold lexB at *;simp at *;omega
theorem aEk {cs:List aA} (hw:(dD cs).2=0) (x y:InE cs) (h1:lexB cs x.1 y.1=false) (h2:lexB cs y.1 x.1=false):x=y:=by
 obtain⟨i,hi⟩:=x
 obtain⟨j,hj⟩:=y
 obtain⟨c,hc,qc⟩:=nA hi
 obtain⟨d,hd,qd⟩:=nA hj
 have tc:tk cs i=c.took:=by unfold tk;rw[hc];rfl
 have td:tk cs j=d.took:=by unfold tk;rw[hd];rfl
 have rc:rk cs i=c.rank:=by unfold rk;rw[hc];rfl
 have rd:rk cs j=d.rank:=by unfold rk;rw[hd];rfl
 unfold lexB at h1 h2
 simp[tc,td,rc,rd] at h1 h2
 have t5:0≤c.took:=by simpa [eP] using qc
 have:i=j:=aLv hw hc hd t5 (by omega) (by omega)
 subst this
 rfl
theorem aS4 (Bl b off cap g capg:Nat) (cs:List aA) (hw:(dD cs).2=0) (hok:∀ c∈cs,c.Ok) (w:World) (cur:Array Value) (e:TypeId) (h0:0<(places eP cs 0).length) (hs:cs.length≤1000000)
  (hBl:w.cell? ⟨Bl,0,none⟩=some (.slice (some ⟨b,off,none⟩) cs.length cap)) (hC:CAt w b off cs) (h1:Bl≠g) (h2:b≠g)
  (hg:w.heap[g]? = some (.cells cur e (0,0))) (ht:cur.toList.take (places eP cs 0).length=(places eP cs 0).map nv) (hcg:(places eP cs 0).length≤capg) (hcm:capg≤maxLen) (hcs:cur.size=capg*1) (base:Nat) (hbase:base≤g) :
  Calls Tryz.prog 104 #[.slice (some ⟨g,0,none⟩) (places eP cs 0).length capg,.func (.func 105) #[] #[.pointer (some ⟨Bl,0,none⟩)]] w fun e' w'=>e' = .returned (.tuple #[]) ∧
   ∃ L,lX cs L∧w'.ownsRow base e 1 (.slice (some ⟨g,0,none⟩) L.length capg) L.length (L.map nv)∧w.grownBy w' (some g)∧L.length=(places eP cs 0).length:=by
 haveI:Inhabited (InE cs):=⟨⟨(places eP cs 0)[0],List.getElem_mem h0⟩⟩
 have eg:∀ args w,(callFunc 105 args).run Tryz.prog w = .ok (.enter 105 args) w:=enters_of Tryz.func105 (by kernel_rfl) rfl
 have hatt:(places eP cs 0).attach.length=(places eP cs 0).length:=by simp
 have hmap:((places eP cs 0).attach).map (encE (cs:=cs))=(places eP cs 0).map nv:=by
  show (places eP cs 0).attach.map (fun x=>nv x.1)=_
  have e:(places eP cs 0).attach.map (fun x=>nv x.1)=((places eP cs 0).attach.map Subtype.val).map nv:=by rw[List.map_map];rfl
  rw[e,List.attach_map_subtype_val]
 have hle:=oO (q:=eP) (cs:=cs) (k:=0)
 have h:=Any.slices_SortFunc_total Tryz.sortL (encE (cs:=cs)) (fun _=>rfl) (fun x y=>cfE cs x.1 y.1) (aLx cs) 105 #[.pointer (some ⟨Bl,0,none⟩)] g 0 capg ((places eP cs 0).attach.toArray) w eg
  (cmpE Bl b off cap g _ cs hw hok w hBl hC h1 h2).lays (aJ3 hg (by rw[hatt,hmap];exact ht)) (Array.getElem?_eq_some_iff.1 hg).1 (by simp;omega) (fun x y h1 h2=>aEk hw x y (by rw[← aCu];exact h1) (by rw[← aCu];exact h2))
 have hsz:((places eP cs 0).attach.toArray).size=(places eP cs 0).length:=by simp
 rw[hsz] at h
 refine h.mono ?_
 rintro e' w' ⟨rfl,n,os,rfl⟩
 have hlt:(ltOf fun (x y:InE cs)=>cfE cs x.1 y.1)=fun x y=>lexB cs x.1 y.1:=by
  funext x y
  exact aCu cs x.1 y.1
 rw[hlt]
 obtain⟨ms,hms⟩:∃ ms,ms=((places eP cs 0).attach.mergeSort fun x y => !lexB cs y.1 x.1):=⟨_,rfl⟩
 have hperm:ms.Perm (places eP cs 0).attach:=by rw[hms];exact List.mergeSort_perm _ _
 have hlen:ms.length=(places eP cs 0).length:=by rw[hperm.length_eq,hatt]
 have hpw:ms.Pairwise fun x y=>(!lexB cs y.1 x.1)=true:=by
  rw[hms]
  refine List.pairwise_mergeSort (fun x y z h1 h2 => ?_) (fun x y => ?_) _
  ·unfold lexB at *;simp at *;omega
  ·unfold lexB;simp;omega
 have hp2:(ms.map (·.1)).Perm (places eP cs 0):=by
  have:=hperm.map Subtype.val
  rwa [List.attach_map_subtype_val] at this
 have hnd:(ms.map (·.1)).Nodup:=hp2.nodup_iff.2 (qM.imp fun h=>by omega)
 refine⟨rfl,ms.map (·.1),⟨hp2,?_⟩,?_,xQ _,by rw[List.length_map,hlen]⟩
 ·rw[List.pairwise_map]
  rw[List.Nodup,List.pairwise_map] at hnd
  refine (hpw.and hnd).imp ?_
  rintro x y ⟨h1,h2⟩
  cases hl:lexB cs x.1 y.1 with
  | true=>rfl
  | false=>exact absurd (congrArg Subtype.val (aEk hw x y hl (by simpa using h1))) h2
 ·have hrow:=aEj (enc:=encE (cs:=cs)) (n:=n) (os:=os) (ts:=ms) hbase hg (by omega) hcm hcs
  have em:ms.map (encE (cs:=cs))=(ms.map (·.1)).map nv:=by rw[List.map_map];rfl
  rw[em] at hrow
  rw[List.length_map]
  show (grow (putRow _ (Sort.ahead w n) g 0 _) os).ownsRow _ _ _ _ _ _
  have ea:((places eP cs 0).attach.toArray.toList.mergeSort fun x y => !lexB cs y.1 x.1)=ms:=by rw[hms]
  rw[ea]
  exact hrow
end Go.Proofs.YtdeiocppghhfdaaGreat.Hs
namespace Go.Proofs.YtdeiocppghhfdaaGreat.Hs
open Go.RowKit Go.Lib Go.Sort Go.Shelf
open KitI (iv IRow own_below lS)
attribute [local go_sem, local simp] dB dG dE dH dI dJ dK dL dM dF aR aW bB bC aS aV aY bD bE bF bG bH bI bJ bK aU aQ fH fI fJ fK fM fO fP fQ fT fU dN dO dP dQ dR dS dU dV dW dX dY dZ eB bL bM bN bO bP bQ bR bS bT bU bV bW bX bY bZ cB aX fV fZ gB gD gF gG gH gI gJ gK eD eG eH aH aJ
attribute [local go_sem ↓] aK aN
attribute [local go_sem] fF cK aP eO fD
theorem aBp (cs:List aA):(dD cs).2=0∨(dD cs).2=22:=by
 unfold dD
 split
 ·exact .inr rfl
 ·exact .inl rfl
def BRel (w:World) (base b off cap Bl:Nat) (cs:List aA) (q:aA→Bool) (o i:Value) (wr:World):Prop :=
 ∃ k:Nat,i = .int .i64 k∧k≤cs.length∧wr.ownsRow base 3 1 o (places q (cs.take k) 0).length ((places q (cs.take k) 0).map nv)∧Below w.heap.size w wr∧base≤wr.heap.size∧CAt wr b off cs∧wr.cell? ⟨Bl,0,none⟩=some (.slice (some ⟨b,off,none⟩) cs.length cap)
def aCv (w:World) (base:Nat) (cs:List aA) (e:Ending) (w':World):Prop :=
 ((dD cs).2=22∧e = .returned (.tuple #[.slice none 0 0,.int .i64 22])∧Below w.heap.size w w') ∨
 ((dD cs).2=0∧∃ v L,lX cs L∧e = .returned (.tuple #[v,.int .i64 0])∧w'.ownsRow base 3 1 v L.length (L.map nv)∧Below w.heap.size w w')
theorem aBq (p:Option Addr) (c:Nat) (f:FuncId) (cb:Array Value) (W:World):Calls Tryz.prog 104 #[.slice p 0 c,.func (.func f) #[] cb] W fun e w'=>e = .returned (.tuple #[])∧w'=W :=
 AnyF.slices_SortFunc_none (P := Tryz.prog) (ρ := Tryz.sortL_ren) { Tryz.sortL with } p c _ W
theorem aCw (b off cap:Nat) (cs:List aA) (w:World) (hcap:cs.length≤cap) (hb:b<w.heap.size) (hC:CAt w b off cs) (hs:cs.length≤1000000) (hok:∀ c∈cs,c.Ok) :
  Calls Tryz.prog 54 #[.slice (some ⟨b,off,none⟩) cs.length cap] w (aCv w (w.heap.size+1) cs):=by
 obtain⟨i0,hi,hz0,hz1,hz2⟩:=info_parts lS
 obtain⟨wa,hwa⟩:∃ wa,w.alloc (.cells #[.slice (some ⟨b,off,none⟩) cs.length cap] 25)=wa:=⟨_,rfl⟩
 have hsz:wa.heap.size=w.heap.size+1:=by rw[← hwa];simp
 have hBa:Below w.heap.size w wa:=by rw[← hwa];exact (Below.refl _ _).alloc (Nat.le_refl _) _
 have hbox:wa.cell? ⟨w.heap.size,0,none⟩=some (.slice (some ⟨b,off,none⟩) cs.length cap):=by rw[← hwa];exact (Boxed.new w _ _).cell
 have hCa:=hC.below hBa hb
 have ck:=wX (some ⟨b,off,none⟩) cap cs wa (.inr ⟨b,off,rfl,hcap,by omega,hCa⟩) hs hok
 obtain⟨k1,hk1⟩:∃ k1,(dD cs).1=k1:=⟨_,rfl⟩
 rw[hk1] at ck
 rcases aBp cs with h0 | h22
 ·rw[h0] at ck
  have H0:=Lib.hid h0
  have Hk1:=Lib.hid hk1
  clear h0 hk1 hC
  go_enter Tryz.func54,Tryz.ntmps54
  go_wp2_with fail
  have Hwa:=Lib.hid hwa
  clear hwa
  refine ck.mono ?_
  clear ck
  rintro e w1 ⟨rfl,hB1⟩
  have hb1:=(hB1.cell (p:=⟨w.heap.size,0,none⟩) (by simp;omega)).trans hbox
  have hC1:=hCa.on hB1
  have hBw:=hBa.trans (hB1.mono (by omega))
  have hz:=hB1.size
  clear hbox hCa hB1 hBa
  go_wp2
  go_loopw [6,19] (fun o i wr=>BRel w (w.heap.size+1) b off cap w.heap.size cs eP o i wr) (fun o i wr=>cs.length-(intOf i).toNat)
  case atStart=>exact⟨0,rfl,by omega,World.ownsRow_nil _ _ _ _,hBw,by omega,hC1,hb1⟩
  case round =>
   clear hb1 hC1 hBw hz
   obtain⟨k,rfl,hk,hown,hB,hz,hC2,hb2⟩:=hrel
   by_cases hlt:k<cs.length
   ·obtain⟨c,hc⟩:∃ c,cs[k]? = some c:=⟨_,List.getElem?_eq_getElem hlt⟩
    have hld:=hC2.load hc
    have hst:=aEi (q:=eP) hc
    have hle:=oO (q:=eP) (cs:=cs.take k) (k:=0)
    rw[List.length_take,Nat.min_eq_left hk] at hle
    generalize places eP (cs.take k) 0=pl at *
    have Hst:=Lib.hid hst
    clear hst hc
    have hBq:Below wr.heap.size wr (wr.alloc (.cells (aB c).toArray 56)):=(Below.refl _ _).alloc (Nat.le_refl _) _
    have hown2:=hown.alloc (.cells (aB c).toArray 56)
    by_cases hq:0≤c.took
    ·have hq':eP c=true:=by simpa [eP] using hq
     have Hq:=Lib.hid hq'
     clear hq'
     go_wp2_with (at_builtin;refine wpList_append_own _ rfl _ _ 28 rfl (w.heap.size+1) 3 i0 (.int .i64 0) 1 8 Tryz.underlying28 hi hz0 hz1 hz2 rfl (by decide) _ _ _ rfl (hown2.alloc _) ⟨_,0,none⟩ 1 1 [.int .i64 (k:Int)] rfl rfl (aA6 _ _ _ _) (by simp[Value.oneCell']) (by unfold maxLen;omega) (by omega) (by simp at *;omega) ?_;intro v' w3 hown' hgrow _)
     have hB3:=((hB.alloc hB.size (.cells (aB c).toArray 56)).alloc (by have:=hB.size;simp;omega) (.cells #[.int .i64 (k:Int)] 3)).grown hgrow (by have:=hB.size;simp at *;omega) fun k hk=>(by have:=(hown2.lt k hk).1;omega)
     have hk3:∀ p:Addr,p.block<w.heap.size+1→w3.cell? p=wr.cell? p:=fun p hp=>by
      have h1:Below (w.heap.size+1) wr w3:=(((Below.refl _ _).alloc hz (.cells (aB c).toArray 56)).alloc (by simp;omega) (.cells #[.int .i64 (k:Int)] 3)).grown hgrow (by simp;omega) fun k hk=>(hown2.lt k hk).1
      exact h1.cell hp
     have hz3:w.heap.size+1≤w3.heap.size:=by have:=hgrow.size;simp at this;omega
     go_roundw
     case rel=>exact⟨k+1,by go_num,by omega,by rw[Hst.out,Hq.out];simpa [nv] using hown',hB3,hz3,fun j u hj=>(hk3 _ (by simp;omega)).trans (hC2 j u hj),(hk3 _ (by simp)).trans hb2⟩
     case measure=>simp[intOf];omega
    ·have hq':eP c=false:=by simpa [eP] using hq
     have Hq:=Lib.hid hq'
     have hlt0:c.took<0:=by omega
     clear hq' hq
     have hC4:=hC2.on hBq
     have hb4:=(hBq.cell (p:=⟨w.heap.size,0,none⟩) (by simp;omega)).trans hb2
     go_wp2
     go_roundw
     case rel=>exact⟨k+1,by go_num,by omega,by rw[Hst.out,Hq.out];simpa [nv] using hown2,hB.alloc hB.size _,by simp;omega,hC4,hb4⟩
     case measure=>simp[intOf];omega
   ·have hkk:k=cs.length:=by omega
    rw[hkk,List.take_length] at hown
    have hlen:=oO (q:=eP) (cs:=cs) (k:=0)
    clear hkk
    by_cases hp0:(places eP cs 0).length=0
    ·have hnil:places eP cs 0=[]:=List.length_eq_zero_iff.1 hp0
     rw[hnil] at hown
     obtain⟨p,c',rfl⟩:∃ p c',u6 = .slice p 0 c':=by
      rcases hown.2 with⟨h1,_⟩ | ⟨g,c',cur,h1,_⟩
      ·exact⟨_,_,h1⟩
      ·exact⟨_,_,h1⟩
     have Hnil:=Lib.hid hnil
     clear hnil hp0 hlen
     go_wp2_with (go_at_call 104;refine (aBq _ _ _ _ _).mono ?_;rintro e w' ⟨rfl,rfl⟩)
     go_returns
     exact .inr ⟨H0.out,_,[],⟨by rw[Hnil.out],List.Pairwise.nil⟩,rfl,hown,hB⟩
    ·rcases hown.2 with⟨_,h1⟩ | ⟨g,cg,cur,rfl,hbase,hg,hnc,hcm,hcs,htake⟩
     ·exact absurd h1 hp0
     ·rw[Nat.mul_one] at htake
      have so:=aS4 w.heap.size b off cap g cg cs H0.out hok wr cur _ (by omega) hs hb2 hC2 (by omega) (by omega) hg htake hnc hcm hcs (w.heap.size+1) hbase
      clear hg htake hcs hcm hp0 hown
      go_wp2_with fail
      refine so.mono ?_
      clear so
      rintro e w' ⟨rfl,L,hL,hrow,hgr,hll⟩
      have hrow2:w'.ownsRow (w.heap.size+1) 3 1 (.slice (some ⟨g,0,none⟩) (places eP cs 0).length cg) L.length (L.map nv):=by rw[← hll];exact hrow
      have hB5:=hB.grown hgr hB.size (fun k hk=>by cases hk;omega)
      go_wp2
      go_returns
      exact .inr ⟨H0.out,_,L,hL,rfl,hrow2,hB5⟩
 ·rw[h22] at ck
  have H0:=Lib.hid h22
  have Hk1:=Lib.hid hk1
  clear h22 hk1 hC
  go_enter Tryz.func54,Tryz.ntmps54
  go_wp2_with fail
  refine ck.mono ?_
  clear ck
  rintro e w1 ⟨rfl,hB1⟩
  have hBw:=hBa.trans (hB1.mono (by omega))
  clear hbox hCa hB1 hBa hwa
  go_wp2
  go_returns
  exact .inl ⟨H0.out,rfl,hBw⟩
theorem aG5:dD []=(0,0):=rfl
theorem aEl (w:World):Calls Tryz.prog 54 #[.slice none 0 0] w (aCv w (w.heap.size+1) []):=by
 have ck:=fun W=>aBn W
 rw[aG5] at ck
 go_enter Tryz.func54,Tryz.ntmps54
 go_wp2_with fail
 refine (ck _).mono ?_
 rintro e w1 ⟨rfl,hB1⟩
 have hb1:=(hB1.cell (p:=⟨w.heap.size,0,none⟩) (by simp)).trans (Boxed.new w 25 (.slice none 0 0)).cell
 have hBw:=((Below.refl w.heap.size w).alloc (Nat.le_refl _) (.cells #[.slice none 0 0] 25)).trans (hB1.mono (by simp))
 go_wp2
 refine wp_loop_rounds 1 ?_
 rw[rounds_succ]
 go_wp2_with (go_at_call 104;refine (aBq _ _ _ _ _).mono ?_;rintro e w' ⟨rfl,rfl⟩)
 go_returns
 exact .inr ⟨rfl,_,[],⟨List.Perm.refl _,List.Pairwise.nil⟩,rfl,World.ownsRow_nil _ _ _ _,hBw⟩
theorem xS (p:Option Addr) (cap:Nat) (cs:List aA) (w:World) (hC:CRow w p cap cs) (hs:cs.length≤1000000) (hok:∀ c∈cs,c.Ok) :
  Calls Tryz.prog 54 #[.slice p cs.length cap] w (aCv w (w.heap.size+1) cs):=by
 rcases hC with⟨rfl,rfl,rfl⟩ | ⟨b,off,rfl,h1,h2,h3⟩
 ·exact aEl w
 ·exact aCw b off cap cs w h1 h2 h3 hs hok
end Go.Proofs.YtdeiocppghhfdaaGreat.Hs
namespace Go.Proofs.YtdeiocppghhfdaaGreat.Hs
open Go.RowKit Go.Lib Go.Shelf
open KitI (iv IRow own_below lS)
attribute [local go_sem, local simp] dB dG dE dH dI dJ dK dL dM dF aR aW bB bC aS aV aY bD bE bF bG bH bI bJ bK aU aQ fH fI fJ fK fM fO fP fQ fT fU dN dO dP dQ dR dS dU dV dW dX dY dZ eB bL bM bN bO bP bQ bR bS bT bU bV bW bX bY bZ cB aX fV fZ gB gD gF gG gH gI gJ gK eD eG eH aH aJ
attribute [local go_sem ↓] aK aN
attribute [local go_sem] fF cK aP eO fD
def IRd (w:World) (po:Option Addr) (zs:List Int):Prop:=zs=[]∨∃ b off,po=some ⟨b,off,none⟩∧∀ j u,zs[j]? = some u→w.cell? ⟨b,off+j,none⟩=some (iv u)
theorem IRd.of {w:World} {po:Option Addr} {n c:Nat} {zs:List Int} (h:IRow w (.slice po n c) zs):IRd w po zs:=by
 rcases h with⟨_,h⟩ | ⟨b,off,c',h,hc⟩
 ·exact .inl h
 ·injection h with h _ _;exact .inr ⟨b,off,h,hc⟩
theorem IRd.on {w w':World} {po:Option Addr} {zs:List Int} (h:IRd w po zs) (hb:Below w.heap.size w w'):IRd w' po zs:=by
 rcases h with h | ⟨b,off,h,hc⟩
 ·exact .inl h
 ·exact .inr ⟨b,off,h,fun j u hj=>(hb.cell (KitI.iD (hc j u hj))).trans (hc j u hj)⟩
end Go.Proofs.YtdeiocppghhfdaaGreat.Hs
