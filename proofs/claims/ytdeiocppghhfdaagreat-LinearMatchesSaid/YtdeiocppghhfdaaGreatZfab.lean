/- Texts, one behind another. -/
import Derived.Test.YtdeiocppghhfdaaGreatZfha
import Derived.Deep.LoopGhost
import Derived.IntWalk
import Derived.Deep.AppendLies
import Derived.RangeFuncBox
import Derived.Maps.AppendAt
set_option linter.unusedVariables false
set_option linter.unusedSimpArgs false
set_option maxRecDepth 100000
set_option maxHeartbeats 40000000
namespace Go.Proofs.YtdeiocppghhfdaaGreat.Hs
open Go.RowKit Go.Shelf
attribute [local go_sem] Oper.semAt_some
attribute [local go_sem, local simp] dP
attribute [local go_sem ↓] aN aR
attribute [local go_sem] bX bB aX bH cK
def dK (n₀:Nat) (w:World):List Deferred→Prop
 |[]=>True
 |d::ds=>∃ D,d={ target := .collected D,args := #[] }∧n₀≤D∧w.heap[D]? = some (.deferred (some []))∧(∀ d'∈ds,d'.target ≠ .collected D)∧dK n₀ w ds
theorem dK.keep {n₀:Nat} {w w':World} (hk:KeepsOthers w w'):∀ {ds:List Deferred},dK n₀ w ds→dK n₀ w' ds
 |[],_=>trivial
 |_::_,⟨D,h1,h2,h3,h4,h5⟩=>⟨D,h1,h2,hk.same D _ h3 rfl,h4,dK.keep hk h5⟩
theorem uN {w w':World} (h:Below w.heap.size w w'):KeepsOthers w w':=⟨h.size,fun k _ hk _=>(h.block k (gAz hk).1).trans hk⟩
theorem dK.below {n₀:Nat} {w w':World} {ds:List Deferred} (h:dK n₀ w ds) (hb:Below w.heap.size w w'):dK n₀ w' ds:=h.keep (uN hb)
theorem dK.put {n₀:Nat} {w:World} {D:Nat} {o:Obj}:∀ {ds:List Deferred},dK n₀ w ds→(∀ d'∈ds,d'.target ≠ .collected D)→dK n₀ (w.putObj D o) ds
 |[],_,_=>trivial
 |d::ds,⟨D',h1,h2,h3,h4,h5⟩,hne=>⟨D',h1,h2,(World.putObj_heap_other (fun e=>hne d (List.mem_cons_self ..) (by rw[h1,e]))).trans h3,h4,dK.put h5 fun d' hd'=>hne d' (List.mem_cons_of_mem _ hd')⟩
theorem dK.fresh {n₀:Nat} {w:World} {D:Nat} (hD:w.heap.size≤D):∀ {ds:List Deferred},dK n₀ w ds→∀ d'∈ds,d'.target ≠ .collected D
 |[],_,d',h=>by cases h
 |_::_,⟨D',h1,_,h3,_,h5⟩,d',h=>by
  rcases List.mem_cons.1 h with rfl | h
  ·rw[h1]
   intro e
   have:D'=D:=by simpa using e
   have:=(gAz h3).1
   omega
  ·exact dK.fresh hD h5 d' h
theorem aHk {n₀ D:Nat} (h:n₀≤D) (w:World) (o:Obj):Below n₀ w (w.putObj D o):=⟨rfl,rfl,rfl,by simp,fun k hk=>World.putObj_heap_other (by omega)⟩
theorem iZ {F:Fence} {n:Nat} {P:Program} {fn:Func} {tmps:Array Value} {R:Ending→World→Prop} {n₀:Nat}:∀ (ds:List Deferred) (w:World),dK n₀ w ds→(∀ w',Below n₀ w w'→LeavesIn F n P fn tmps R [] .returning w')→LeavesInM F n P fn tmps R ds .returning w
 |[],w,_,h=>h w (Below.refl _ _)
 |d::ds,w,⟨D,h1,h2,h3,h4,h5⟩,h=>by
  subst h1
  refine⟨by simp,.inl ⟨D,_,rfl,run_takeDeferred h3,iZ ds _ (h5.put h4) fun w' hw'=>h w' ((aHk h2 w _).trans hw')⟩⟩
def lastOf (t:Int) (cs:List aA):Option aA:=((dR t cs 0).getLast?).bind fun i=>cs[i]?
def accB (pre:List aA) (c:aA):Bool :=
 iC c && (match pre.getLast? with | some p=>decide (p.invoked<c.invoked) | none=>true) && decide (c.index=(dR c.thread pre 0).length) &&
  (match lastOf c.thread pre with | some d=>befB d c | none=>true) && pre.all fun d => !dF c d
def okAt (cs:List aA) (i:Nat):Bool:=match cs[i]? with | some c=>accB (cs.take i) c | none=>true
def bF (cs:List aA):Int × Int:=match (List.range cs.length).find? (fun i => !okAt cs i) with | some i=>((i:Int),22) | none=>(0,0)
theorem aDr {n k:Nat} {q:Nat→Bool} (hk:k<n) (h:∀ i,i<k→q i=false) (hq:q k=true):(List.range n).find? q=some k:=by
 rw[List.find?_range_eq_some]
 exact⟨hq,by simpa using hk,fun j hj=>by simp[h j hj]⟩
theorem jE {cs:List aA} {k:Nat} (hk:k<cs.length) (hg:∀ i,i<k→okAt cs i=true) (hb:okAt cs k=false):bF cs=((k:Int),22):=by
 unfold bF
 rw[aDr hk (fun i hi=>by rw[hg i hi];rfl) (by rw[hb];rfl)]
theorem oV {cs:List aA} (hg:∀ i,i<cs.length→okAt cs i=true):bF cs=(0,0):=by
 unfold bF
 have:(List.range cs.length).find? (fun i => !okAt cs i)=none:=by
  rw[List.find?_eq_none]
  intro i hi
  simp[hg i (List.mem_range.1 hi)]
 rw[this]
theorem aQe {cs:List aA} {k:Nat} {c:aA} (hc:cs[k]? = some c):okAt cs k=accB (cs.take k) c:=by unfold okAt;rw[hc]
theorem nK {a b c d:Int} (h:a=c) (h2:b=d):Ending.returned (.tuple #[.int .i64 a,.int .i64 b]) = .returned (.tuple #[.int .i64 c,.int .i64 d]):=by rw[h,h2]
theorem pX {t:Int}:∀ {cs:List aA} {k x:Nat},x∈dR t cs k→k≤x∧x<k+cs.length
 |[],k,x,h=>by simp[dR] at h
 |c::cs,k,x,h=>by
  unfold dR at h
  have rest:x∈dR t cs (k+1)→k≤x∧x<k+(c::cs).length:=fun h=>by
   have:=pX h
   simp;omega
  split at h
  ·rcases List.mem_cons.1 h with rfl | h
   ·simp
   ·exact rest h
  ·exact rest h
theorem aHl (cs:List aA) {k:Nat} (h0:0<k) (hk:k≤cs.length):(cs.take k).getLast? = cs[k-1]? := by
 rw[List.getLast?_eq_getElem?,List.length_take,Nat.min_eq_left hk,List.getElem?_take_of_lt (by omega)]
def iI (W:World) (g:Nat) (c:aA):Prop:=W.heap[g]? = some (.cells (aB c).toArray 56 (0,0))
theorem aAx {β:Type} (g:Nat) (c:aA):Own (fun (_:β) W=>iI W g c):=fun s X Y row hs hg hrow =>
 (hg.block g (gAz hs).1 (fun e=>by
  obtain⟨o,ho,hc⟩:=hrow g e.symm
  have h2:X.heap[g]? = _:=hs
  rw[h2] at ho
  cases ho
  cases hc)).trans hs
def jZ (pre:List Nat):Int:=match pre.getLast? with | some x=>(x:Int) | none => -1
def ICnt (wr:World) (c:aA) (n:Nat) (pre:List (InC n)) (W:World):Prop :=
 (Boxed W (wr.heap.size+1) 3 (.int .i64 (pre.length:Int))∧Boxed W (wr.heap.size+1+1) 3 (.int .i64 (jZ (pre.map (·.1))))∧iI W wr.heap.size c)∧Below wr.heap.size wr W
theorem aJo (wr:World) (c:aA) (n B:Nat) (hB:wr.heap.size≤B):OwnFrom B (ICnt wr c n) :=
 OwnFrom.and (Own.from (fun s X Y row hs hg hrow=>⟨boxed_own (β:=List (InC n)) _ _ (fun pre => .int .i64 (pre.length:Int)) s X Y row hs.1 hg hrow,boxed_own (β:=List (InC n)) _ _ (fun pre => .int .i64 (jZ (pre.map (·.1)))) s X Y row hs.2.1 hg hrow,aAx _ _ s X Y row hs.2.2 hg hrow⟩) _) (ownFrom_below (Nat.le_refl _) hB)
theorem aHm (wr:World) (c:aA) (k b off cap:Nat) (X:World) (hX:X=(((((wr.alloc (.cells (aB c).toArray 56)).alloc (.cells #[.int .i64 0] 3)).alloc (.cells #[.int .i64 (-1)] 3)).alloc (.cells #[.int .i64 c.thread] 3)).alloc (.cells #[.slice (some ⟨b,off,none⟩) k cap] 25)).drew) :
  Boxed X (wr.heap.size+1) 3 (.int .i64 0)∧Boxed X (wr.heap.size+1+1) 3 (.int .i64 (-1))∧X.cell? ⟨wr.heap.size+1+1+1,0,none⟩=some (.int .i64 c.thread)∧X.cell? ⟨wr.heap.size+1+1+1+1,0,none⟩=some (.slice (some ⟨b,off,none⟩) k cap) ∧
  iI X wr.heap.size c∧Below wr.heap.size wr X∧X.heap.size=wr.heap.size+5:=by
 subst hX
 have hs1:=Boxed.new (wr.alloc (.cells (aB c).toArray 56)) 3 (.int .i64 0)
 have hs2:=Boxed.new ((wr.alloc (.cells (aB c).toArray 56)).alloc (.cells #[.int .i64 0] 3)) 3 (.int .i64 (-1))
 have hs3:=Boxed.new (((wr.alloc (.cells (aB c).toArray 56)).alloc (.cells #[.int .i64 0] 3)).alloc (.cells #[.int .i64 (-1)] 3)) 3 (.int .i64 c.thread)
 have hs4:=Boxed.new ((((wr.alloc (.cells (aB c).toArray 56)).alloc (.cells #[.int .i64 0] 3)).alloc (.cells #[.int .i64 (-1)] 3)).alloc (.cells #[.int .i64 c.thread] 3)) 25 (.slice (some ⟨b,off,none⟩) k cap)
 simp only[World.size_alloc] at hs1 hs2 hs3 hs4
 refine⟨((hs1.alloc _).alloc _).alloc _,(hs2.alloc _).alloc _,(hs3.alloc _).cell,hs4.cell,aZ (aZ (aZ (aZ (bE wr (aB c) 56) _) _) _) _,Below.drew ?_,?_⟩
 ·exact (((((Below.refl _ _).alloc (Nat.le_refl _) _).alloc (by simp) _).alloc (by simp;omega) _).alloc (by simp;omega) _).alloc (by simp;omega) _
 ·show (((((wr.alloc _).alloc _).alloc _).alloc _).alloc _).heap.size=_
  simp
theorem aAy (l:List Nat) (x:Nat):jZ (l++[x])=x:=by unfold jZ;simp
theorem aHn {wr W:World} {c:aA} {n:Nat} {pre:List (InC n)} (x:InC n) (h1:Boxed W (wr.heap.size+1) 3 (.int .i64 (pre.length:Int))) (h2:Boxed W (wr.heap.size+1+1) 3 (.int .i64 (jZ (pre.map (·.1))))) (h3:iI W wr.heap.size c) (hB:Below wr.heap.size wr W) :
  KeepsOthers W ((W.setCell ⟨wr.heap.size+1,0,none⟩ (.int .i64 (pre.length+1))).setCell ⟨wr.heap.size+1+1,0,none⟩ (.int .i64 (x.1:Int))) ∧
  eP (fun i=>i<wr.heap.size+5∧i≠wr.heap.size+1∧i≠wr.heap.size+1+1) W ((W.setCell ⟨wr.heap.size+1,0,none⟩ (.int .i64 (pre.length+1))).setCell ⟨wr.heap.size+1+1,0,none⟩ (.int .i64 (x.1:Int))) ∧
  ICnt wr c n (pre++[x]) ((W.setCell ⟨wr.heap.size+1,0,none⟩ (.int .i64 (pre.length+1))).setCell ⟨wr.heap.size+1+1,0,none⟩ (.int .i64 (x.1:Int))):=by
 refine⟨(KeepsOthers.setCell _ _ _).trans (KeepsOthers.setCell _ _ _),(eP.set (by simp) _).trans (eP.set (by simp) _),⟨⟨?_,?_,?_⟩,?_⟩⟩
 ·have:=((Boxed.set (.int .i64 (pre.length+1)) h1).other (B':=wr.heap.size+1+1) (by omega) (.int .i64 (x.1:Int)))
  simpa using this
 ·have:=Boxed.set (.int .i64 (x.1:Int)) (h2.other (B':=wr.heap.size+1) (by omega) (.int .i64 (pre.length+1)))
  rw[List.map_append]
  show Boxed _ _ _ (.int .i64 (jZ (pre.map (·.1)++[x.1])))
  rw[aAy]
  exact this
 ·exact (Below.heap_setCell _ ⟨wr.heap.size+1+1,0,none⟩ _ wr.heap.size (by simp;omega)).trans ((Below.heap_setCell _ ⟨wr.heap.size+1,0,none⟩ _ wr.heap.size (by simp)).trans h3)
 ·exact (hB.setCell (p:=⟨wr.heap.size+1,0,none⟩) (by simp) _).setCell (p:=⟨wr.heap.size+1+1,0,none⟩) (by simp;omega) _
structure RInv (b off:Nat) (cs:List aA) (g:Nat) (c:aA) (n:Nat) (la:Int) (W:World):Prop where
 blk:iI W g c
 cnt:Boxed W (g+1) 3 (.int .i64 (n:Int))
 last:Boxed W (g+1+1) 3 (.int .i64 la)
 row:CAt W b off cs
theorem RInv.on {b off:Nat} {cs:List aA} {g:Nat} {c:aA} {n:Nat} {la:Int} {W W':World} (h:RInv b off cs g c n la W) (hb:Below W.heap.size W W'):RInv b off cs g c n la W' :=
 ⟨aU h.blk hb (gAz h.blk).1,(hb.block _ h.cnt.lt).trans h.cnt,(hb.block _ h.last.lt).trans h.last,h.row.on hb⟩
theorem RInv.drew {b off:Nat} {cs:List aA} {g:Nat} {c:aA} {n:Nat} {la:Int} {W:World} (h:RInv b off cs g c n la W):RInv b off cs g c n la W.drew:=⟨h.blk,h.cnt,h.last,h.row⟩
def ClR (w:World) (b off:Nat) (cs:List aA) (g:Nat) (c:aA) (n:Nat) (la:Int) (k:Nat) (ds:List Deferred) (i:Value) (W:World):Prop :=
 ∃ j:Nat,i = .int .i64 j∧j≤k∧(∀ m d,m<j→cs[m]? = some d→dF c d=false)∧RInv b off cs g c n la W∧dK w.heap.size W ds∧Below w.heap.size w W
theorem aJp {cs:List aA} {c:aA} {k:Nat} (h:∀ m d,m<k→cs[m]? = some d→dF c d=false):((cs.take k).all fun d => !dF c d)=true:=by
 rw[List.all_eq_true]
 intro d hd
 obtain⟨m,hm⟩:=List.mem_iff_getElem?.1 hd
 have hlt:m<k:=by have:=(gLz hm).1;simp at this;omega
 rw[List.getElem?_take_of_lt hlt] at hm
 simp[h m d hlt hm]
theorem aAz {cs:List aA} {c d:aA} {k m:Nat} (hm:m<k) (hd:cs[m]? = some d) (h:dF c d=true):((cs.take k).all fun d => !dF c d)=false:=by
 rw[List.all_eq_false]
 exact⟨d,List.mem_iff_getElem?.2 ⟨m,by rw[List.getElem?_take_of_lt hm];exact hd⟩,by simp[h]⟩
def ChkI (w:World) (b off cap:Nat) (cs:List aA) (a:Act) (wr:World):Prop :=
 ∃ (k:Nat) (ds:List Deferred) (u:Nat→Value),a={ tmps := #[.slice (some ⟨b,off,none⟩) cs.length cap,undef,u 2,u 3,u 4,u 5,u 6,u 7,u 8,u 9,u 10,.slice (some ⟨b,off,none⟩) cs.length cap,.int .i64 cs.length,.int .i64 k,u 14,u 15,u 16,u 17,u 18,u 19,u 20,u 21,u 22,u 23,u 24,u 25,u 26,u 27,u 28,u 29,u 30,u 31,u 32,u 33,u 34,u 35,u 36,u 37,u 38,u 39,u 40,u 41,u 42,u 43,u 44,u 45,u 46,u 47,u 48,u 49,u 50,u 51,u 52,u 53,u 54,u 55,u 56,u 57,u 58,u 59,u 60,u 61,u 62,u 63,u 64,u 65,u 66,u 67,u 68,u 69,u 70,u 71,u 72,u 73,u 74,u 75,u 76,u 77,u 78,u 79],defers:=ds } ∧
  k≤cs.length∧(∀ i,i<k→okAt cs i=true)∧dK w.heap.size wr ds∧Below w.heap.size w wr
theorem ChkI.intro {w:World} {b off cap:Nat} {cs:List aA} {a:Act} {wr:World} (k:Nat) (ds:List Deferred) {uu:Nat→Value} (_:uu=fun i=>a.tmps.getD i undef) (h:a={ tmps := #[.slice (some ⟨b,off,none⟩) cs.length cap,undef,uu 2,uu 3,uu 4,uu 5,uu 6,uu 7,uu 8,uu 9,uu 10,.slice (some ⟨b,off,none⟩) cs.length cap,.int .i64 cs.length,.int .i64 k,uu 14,uu 15,uu 16,uu 17,uu 18,uu 19,uu 20,uu 21,uu 22,uu 23,uu 24,uu 25,uu 26,uu 27,uu 28,uu 29,uu 30,uu 31,uu 32,uu 33,uu 34,uu 35,uu 36,uu 37,uu 38,uu 39,uu 40,uu 41,uu 42,uu 43,uu 44,uu 45,uu 46,uu 47,uu 48,uu 49,uu 50,uu 51,uu 52,uu 53,uu 54,uu 55,uu 56,uu 57,uu 58,uu 59,uu 60,uu 61,uu 62,uu 63,uu 64,uu 65,uu 66,uu 67,uu 68,uu 69,uu 70,uu 71,uu 72,uu 73,uu 74,uu 75,uu 76,uu 77,uu 78,uu 79],defers:=ds })
  (hk:k≤cs.length) (hg:∀ i,i<k→okAt cs i=true) (hM:dK w.heap.size wr ds) (hB:Below w.heap.size w wr):ChkI w b off cap cs a wr:=⟨k,ds,uu,h,hk,hg,hM,hB⟩
set_option linter.unusedSimpArgs false in
theorem aDs (b off cap:Nat) (cs:List aA) (w:World) (hcap:cs.length≤cap) (hb:b<w.heap.size) (hC:CAt w b off cs) (hs:cs.length≤1000000) (hok:∀ c∈cs,c.Ok) :
  Calls Tryz.prog 75 #[.slice (some ⟨b,off,none⟩) cs.length cap] w fun e w'=>e = .returned (.tuple #[.int .i64 (bF cs).1,.int .i64 (bF cs).2])∧Below w.heap.size w w':=by
 refine (callsIn_wide (n:=4)).1 (callsIn_of_wp_marks Tryz.func75 rfl trivial (wpIn_wide.2 ?_) rfl)
 simp only[Tryz.ntmps75,List.size_toArray,List.length_cons,List.length_nil,Nat.reduceAdd,Nat.reduceSub,Array.replicate_succ,Array.replicate_zero,List.push_toArray,List.append_toArray,List.nil_append,List.cons_append]
 go_wp2
 refine wp_loop (ChkI w b off cap cs) (fun a _=>cs.length-(intOf (a.tmps.getD 13 undef)).toNat) ?_ ?_
 ·exact ChkI.intro 0 [] rfl rfl (by omega) (fun i hi=>by omega) trivial (Below.refl _ _)
 ·rintro a wo ⟨k,ds,u,rfl,hk,hgood,hM,hB⟩
  have Hg:=Lib.hid hgood;clear hgood
  by_cases hlt:k<cs.length
  ·obtain⟨c,hc⟩:∃ c,cs[k]? = some c:=⟨_,gEz hlt⟩
   have hld:=(hC.below hB hb).load hc
   have hkc:(k:Int)≤(cap:Int):=by omega
   have Hc:=Lib.hid hc;clear hc
   go_wp2
   have ct:(((wo.alloc (.cells (aB c).toArray 56)).alloc (.cells #[.int .i64 0] 3)).alloc (.cells #[.int .i64 (-1)] 3)).cell? ⟨wo.heap.size,0,none⟩=some (.int .i64 c.thread):=by simp[go_sem]
   go_region_held3 (fun W=>W.cell? ⟨wo.heap.size,0,none⟩=some (.int .i64 c.thread)) (go_keep) ((go_at_call 110;refine (aRt _ _ _ _ _).mono ?_;rintro e w' ⟨rfl,rfl⟩))
   go_wp2
   obtain⟨hs1,hs2,hs3,hs4,hcb,hBL,hsz⟩:=aHm wo c k b off cap _ rfl
   generalize (((((wo.alloc (.cells (aB c).toArray 56)).alloc (.cells #[.int .i64 0] 3)).alloc (.cells #[.int .i64 (-1)] 3)).alloc (.cells #[.int .i64 c.thread] 3)).alloc (.cells #[.slice (some ⟨b,off,none⟩) k cap] 25)).drew=X at hs1 hs2 hs3 hs4 hcb hBL hsz ⊢
   have hbw:b<wo.heap.size:=Nat.lt_of_lt_of_le hb hB.size
   have hrow:CRow X (some ⟨b,off,none⟩) cap (cs.take k) := .inr ⟨b,off,rfl,by simp;omega,by omega,((hC.below hB hb).below hBL hbw).take k⟩
   refine (wpIn_wide (n:=4)).1 ?_
   refine wpIn_rangeFunc_ownF rfl (by omega) (gf:=159) (lb := #[.pointer (some ⟨wo.heap.size+1+1+1+1,0,none⟩),.pointer (some ⟨wo.heap.size+1+1+1,0,none⟩)]) rfl trivial (enters_of Tryz.func159 (by kernel_rfl) rfl)
    (aJn k 3 (by omega) _ _ cap (fun i=>i<wo.heap.size+5∧i≠wo.heap.size+1∧i≠wo.heap.size+1+1) _ (cs.take k) (by simp;omega) c.thread (by omega) X hs4 hs3 hrow (by intro i hi;omega) (by omega) (by omega) (by intro b' o' e;cases e;omega))
    eP.trans (aQc (by intro i hi;omega)) (Below.refl _ _) (fun _=>rfl)
    (ICnt wo c k) (fun _ _ _=>False) (aJo wo c k _ (by omega)) (fun _ _ _ _ _ hs _ _=>hs) ⟨⟨hs1,hs2,hcb⟩,hBL⟩ ?a1 ?assign ?body ?done ?stop
   case assign =>
    intro l x W K hK
    gi_wp2
    exact hK
   case body =>
    rintro l pre x W ⟨⟨h1,h2,h3⟩,hBW⟩ hlen
    have c1:=h1.cell
    have f1:=h1.frozen
    have c2:=h2.cell
    have f2:=h2.frozen
    gi_wp2
    exact aHn x h1 h2 h3 hBW
   case done =>
    rintro D ys W hD hys ⟨⟨h1,h2,h3⟩,hBW⟩ hK
    have hR:RInv b off cs wo.heap.size c (dR c.thread (cs.take k) 0).length (jZ (dR c.thread (cs.take k) 0)) W:=⟨h3,by rw[← hys,List.length_map];exact h1,by rw[← hys];exact h2,(hC.below hB hb).below hBW hbw⟩
    have hM2:dK w.heap.size W ({ target := .collected D,args := #[] }::ds) :=
     ⟨D,rfl,by have:=hB.size;omega,hK,hM.fresh (by omega),hM.below hBW⟩
    have hBw:=hB.trans (hBW.mono hB.size)
    clear h1 h2 h3 hs1 hs2 hs3 hs4 hcb hBL hsz hrow hys ct hld hBW hM hK
    have fc:=fun W=>aFp c (hok c (mGz Hc.out)) W
    generalize hfv:iC c=f at fc
    generalize hnv:(dR c.thread (cs.take k) 0).length=n at hR
    generalize hlv:jZ (dR c.thread (cs.take k) 0)=la at hR
    have Hfv:=Lib.hid hfv
    have Hnv:=Lib.hid hnv
    have Hlv:=Lib.hid hlv
    clear hfv hnv hlv
    have kx:∀ W,RInv b off cs wo.heap.size c n la W→(aM (.pointer (some ⟨wo.heap.size,0,none⟩))).run Tryz.prog W = .ok (.agg (aB c).toArray) W∧W.cell? ⟨wo.heap.size,9,none⟩=some (.int .i64 c.invoked)∧W.cell? ⟨wo.heap.size,1,none⟩=some (.int .i64 c.index)∧W.cell? ⟨wo.heap.size+1,0,none⟩=some (.int .i64 n)∧W.cell? ⟨wo.heap.size+1+1,0,none⟩=some (.int .i64 la)∧RInv b off cs wo.heap.size c n la W :=
     fun W h=>⟨dD c h.blk,aD h.blk 9,aD h.blk 1,h.cnt.cell,h.last.cell,h⟩
    have Kx:=Lib.hid kx
    obtain⟨q1,q2,q3,q4,q5,_⟩:=kx W hR
    clear kx
    have hacc:=aQe Hc.out
    have Hacc:=Lib.hid hacc
    clear hacc
    cases f
    focus
     have hbad:okAt cs k=false:=by rw[Hacc.out];unfold accB;rw[Hfv.out];rfl
     have Hbad:=Lib.hid hbad
     clear hbad
    rotate_left
    by_cases hk0:k=0
    focus
     have hd0:decide (0<k)=false:=by simp[hk0]
     have hla:decide (0≤la)=false:=by rw[← Hlv.out,hk0];rfl
     have hlast:lastOf c.thread (cs.take k)=none:=by rw[hk0];rfl
     have hprev:(cs.take k).getLast? = none:=by rw[hk0];rfl
     have Hlast:=Lib.hid hlast
     have Hprev:=Lib.hid hprev
     clear hk0 hlast hprev
     by_cases hix:c.index=(n:Int)
     focus
      have he:(c.index == (n:Int))=true:=by simpa using hix
      have hne:(c.index != (n:Int))=false:=by simpa using hix
      have hpre:∀ b,((cs.take k).all fun d => !dF c d)=b→okAt cs k=b:=by
       rintro _ rfl
       rw[Hacc.out];unfold accB;rw[Hfv.out,Hlast.out,Hprev.out,Hnv.out];simp[hix]
      have Hpre:=Lib.hid hpre
      clear hix hpre
     rotate_left
     focus
      have he:(c.index == (n:Int))=false:=by simpa using hix
      have hne:(c.index != (n:Int))=true:=by simpa using hix
      have hbad:okAt cs k=false:=by rw[Hacc.out];unfold accB;rw[Hnv.out];simp[hix]
      have Hbad:=Lib.hid hbad
      clear hix hbad
    rotate_left 2
    focus
     obtain⟨p,hp⟩:∃ p,cs[k-1]? = some p:=⟨_,gEz (by omega)⟩
     have hd0:decide (0<k)=true:=by simp;omega
     have hprev:(cs.take k).getLast? = some p:=(aHl cs (by omega) hk).trans hp
     have hk1:(0:Int)≤(k:Int)-1:=by omega
     have hk3:(1:Int)≤(k:Int):=by omega
     have hk2:(k:Int)-1<cs.length:=by omega
     have hw1:IntKind.i64.wrap ((k:Int)-1)=(k:Int)-1:=IntWalk.i64_in _ (by omega)
     have q9:∀ W,RInv b off cs wo.heap.size c n la W→W.cell? ⟨b,off+(k-1)*27+9,none⟩=some (.int .i64 p.invoked):=fun W h=>h.row.cell hp 9 (by omega)
     have Q9:=Lib.hid q9
     have Hprev:=Lib.hid hprev
     have Hp:=Lib.hid hp
     clear hprev hp q9
     by_cases hinv:p.invoked<c.invoked
     focus
      have hle:decide (c.invoked≤p.invoked)=false:=by simp;omega
      by_cases hix:c.index=(n:Int)
      focus
       have he:(c.index == (n:Int))=true:=by simpa using hix
       have hne:(c.index != (n:Int))=false:=by simpa using hix
       rcases hT:(dR c.thread (cs.take k) 0).getLast? with _ | i
       focus
        have hla:decide (0≤la)=false:=by rw[← Hlv.out];unfold jZ;rw[hT];rfl
        have hlast:lastOf c.thread (cs.take k)=none:=by unfold lastOf;rw[hT];rfl
        have hpre:∀ b,((cs.take k).all fun d => !dF c d)=b→okAt cs k=b:=by
         rintro _ rfl
         rw[Hacc.out];unfold accB;rw[Hfv.out,hlast,Hprev.out,Hnv.out];simp[hix,hinv]
        have Hpre:=Lib.hid hpre
        clear hix hpre hT hlast hinv
       rotate_left
       focus
        have hlt2:=pX (List.mem_of_getLast? hT)
        rw[List.length_take,Nat.min_eq_left hk] at hlt2
        have hlai:la=(i:Int):=by rw[← Hlv.out];unfold jZ;rw[hT]
        have hla:decide (0≤la)=true:=by simp;omega
        have hl1:0≤la:=by omega
        have hl2:la<cs.length:=by omega
        obtain⟨d,hd⟩:∃ d,cs[i]? = some d:=⟨_,gEz (by omega)⟩
        have hlast:lastOf c.thread (cs.take k)=some d:=by
         unfold lastOf
         rw[hT,Option.bind_some,List.getElem?_take_of_lt (by omega),hd]
        have ks:∀ W,RInv b off cs wo.heap.size c n la W→(aM (.pointer (some ⟨wo.heap.size,0,none⟩))).run Tryz.prog W = .ok (.agg (aB c).toArray) W∧W.cell? ⟨wo.heap.size,9,none⟩=some (.int .i64 c.invoked)∧W.cell? ⟨wo.heap.size,1,none⟩=some (.int .i64 c.index)∧W.cell? ⟨wo.heap.size+1,0,none⟩=some (.int .i64 n)∧W.cell? ⟨wo.heap.size+1+1,0,none⟩=some (.int .i64 la)∧W.cell? ⟨b,off+(k-1)*27+9,none⟩=some (.int .i64 p.invoked)∧(aM (.pointer (some ⟨b,off+la.toNat*27,none⟩))).run Tryz.prog W = .ok (.agg (aB d).toArray) W∧RInv b off cs wo.heap.size c n la W:=fun W h =>
         ⟨(Kx.out _ h).1,(Kx.out _ h).2.1,(Kx.out _ h).2.2.1,(Kx.out _ h).2.2.2.1,(Kx.out _ h).2.2.2.2.1,Q9.out _ h,h.row.load (k:=la.toNat) (by rw[hlai];exact hd),h⟩
        have Ks:=Lib.hid ks
        have bc:=fun W=>pV d c W
        generalize hx:befB d c=x at bc
        have Hx:=Lib.hid hx
        clear ks hT hlai hd hx hlt2
        cases x
        focus
         have hbad:okAt cs k=false:=by rw[Hacc.out];unfold accB;rw[hlast];simp[Hx.out]
         have Hbad:=Lib.hid hbad
         clear hix hbad hlast hinv
        rotate_left
        focus
         have hpre:∀ b,((cs.take k).all fun d => !dF c d)=b→okAt cs k=b:=by
          rintro _ rfl
          rw[Hacc.out];unfold accB;rw[Hfv.out,hlast,Hprev.out,Hnv.out];simp[hix,hinv,Hx.out]
         have Hpre:=Lib.hid hpre
         clear hix hpre hlast hinv
      rotate_left 3
      focus
       have he:(c.index == (n:Int))=false:=by simpa using hix
       have hne:(c.index != (n:Int))=true:=by simpa using hix
       have hbad:okAt cs k=false:=by rw[Hacc.out];unfold accB;rw[Hnv.out];simp[hix]
       have Hbad:=Lib.hid hbad
       clear hix hbad hinv
     rotate_left 4
     focus
      have hle:decide (c.invoked≤p.invoked)=true:=by simp;omega
      have hbad:okAt cs k=false:=by rw[Hacc.out];unfold accB;rw[Hprev.out];simp[hinv]
      have Hbad:=Lib.hid hbad
      clear hinv hbad
    all_goals
     go_wp2
     first
     |skip
      refine aP (S:=fun W=>(aM (.pointer (some ⟨wo.heap.size,0,none⟩))).run Tryz.prog W = .ok (.agg (aB c).toArray) W∧W.cell? ⟨wo.heap.size,9,none⟩=some (.int .i64 c.invoked)∧W.cell? ⟨wo.heap.size,1,none⟩=some (.int .i64 c.index)∧W.cell? ⟨wo.heap.size+1,0,none⟩=some (.int .i64 n)∧W.cell? ⟨wo.heap.size+1+1,0,none⟩=some (.int .i64 la)∧W.cell? ⟨b,off+(k-1)*27+9,none⟩=some (.int .i64 p.invoked)∧(aM (.pointer (some ⟨b,off+la.toNat*27,none⟩))).run Tryz.prog W = .ok (.agg (aB d).toArray) W∧RInv b off cs wo.heap.size c n la W) ?_ (fun hHeld => ?_)
      ·first | exact Ks.out _ hR.drew | exact Ks.out _ (hR.drew.on hbc) | exact Ks.out _ ((hR.drew.on hbc).on hbd)
      (first | refine aJ ?_ | refine np_q ?_ | refine aL 0 ?_);(try simp only[nSO])
      first | (refine np_s 1 ?_;(try simp only[nSO])) | (refine np_c 1 (fun K hK => ?_);go_simp;(first | (go_at_call 129;refine (fc _).mono ?_;rintro e w1 ⟨rfl,hbc⟩) | (go_at_call 106;refine (bc _).mono ?_;rintro e w2 ⟨rfl,hbd⟩));(try go_wp2_with fail);refine hK.out _ _ ?_ (fun hHeld => ?_);(· (first | exact Ks.out _ hR.drew | exact Ks.out _ (hR.drew.on hbc) | exact Ks.out _ ((hR.drew.on hbc).on hbd)));clear hK K;(try simp only[nSO]))
      iterate 31 ((first | refine aJ ?_ | refine np_q ?_);(try simp only[nSO]))
      first | (refine np_s 33 ?_;(try simp only[nSO])) | (refine np_c 33 (fun K hK => ?_);go_simp;(first | (go_at_call 129;refine (fc _).mono ?_;rintro e w1 ⟨rfl,hbc⟩) | (go_at_call 106;refine (bc _).mono ?_;rintro e w2 ⟨rfl,hbd⟩));(try go_wp2_with fail);refine hK.out _ _ ?_ (fun hHeld => ?_);(· (first | exact Ks.out _ hR.drew | exact Ks.out _ (hR.drew.on hbc) | exact Ks.out _ ((hR.drew.on hbc).on hbd)));clear hK K;(try simp only[nSO]))
      iterate 3 ((first | refine aJ ?_ | refine np_q ?_);(try simp only[nSO]))
      refine np_z ?_
      have hbt:Below W.heap.size W w2:=((Below.refl W.heap.size W).drew.trans hbc).trans (hbd.mono hbc.size)
     |skip
      refine aP (S:=fun W=>(aM (.pointer (some ⟨wo.heap.size,0,none⟩))).run Tryz.prog W = .ok (.agg (aB c).toArray) W∧W.cell? ⟨wo.heap.size,9,none⟩=some (.int .i64 c.invoked)∧W.cell? ⟨wo.heap.size,1,none⟩=some (.int .i64 c.index)∧W.cell? ⟨wo.heap.size+1,0,none⟩=some (.int .i64 n)∧W.cell? ⟨wo.heap.size+1+1,0,none⟩=some (.int .i64 la)∧W.cell? ⟨b,off+(k-1)*27+9,none⟩=some (.int .i64 p.invoked)∧RInv b off cs wo.heap.size c n la W) ?_ (fun hHeld => ?_)
      ·first | exact⟨(Kx.out _ hR.drew).1,(Kx.out _ hR.drew).2.1,(Kx.out _ hR.drew).2.2.1,(Kx.out _ hR.drew).2.2.2.1,(Kx.out _ hR.drew).2.2.2.2.1,Q9.out _ hR.drew,hR.drew⟩ | exact⟨(Kx.out _ (hR.drew.on hbc)).1,(Kx.out _ (hR.drew.on hbc)).2.1,(Kx.out _ (hR.drew.on hbc)).2.2.1,(Kx.out _ (hR.drew.on hbc)).2.2.2.1,(Kx.out _ (hR.drew.on hbc)).2.2.2.2.1,Q9.out _ (hR.drew.on hbc),hR.drew.on hbc⟩
      (first | refine aJ ?_ | refine np_q ?_ | refine aL 0 ?_);(try simp only[nSO])
      first | (refine np_s 1 ?_;(try simp only[nSO])) | (refine np_c 1 (fun K hK => ?_);go_simp;(first | (go_at_call 129;refine (fc _).mono ?_;rintro e w1 ⟨rfl,hbc⟩));(try go_wp2_with fail);refine hK.out _ _ ?_ (fun hHeld => ?_);(· (first | exact⟨(Kx.out _ hR.drew).1,(Kx.out _ hR.drew).2.1,(Kx.out _ hR.drew).2.2.1,(Kx.out _ hR.drew).2.2.2.1,(Kx.out _ hR.drew).2.2.2.2.1,Q9.out _ hR.drew,hR.drew⟩ | exact⟨(Kx.out _ (hR.drew.on hbc)).1,(Kx.out _ (hR.drew.on hbc)).2.1,(Kx.out _ (hR.drew.on hbc)).2.2.1,(Kx.out _ (hR.drew.on hbc)).2.2.2.1,(Kx.out _ (hR.drew.on hbc)).2.2.2.2.1,Q9.out _ (hR.drew.on hbc),hR.drew.on hbc⟩));clear hK K;(try simp only[nSO]))
      iterate 31 ((first | refine aJ ?_ | refine np_q ?_);(try simp only[nSO]))
      first | (refine np_s 33 ?_;(try simp only[nSO])) | (refine np_c 33 (fun K hK => ?_);go_simp;(first | (go_at_call 129;refine (fc _).mono ?_;rintro e w1 ⟨rfl,hbc⟩));(try go_wp2_with fail);refine hK.out _ _ ?_ (fun hHeld => ?_);(· (first | exact⟨(Kx.out _ hR.drew).1,(Kx.out _ hR.drew).2.1,(Kx.out _ hR.drew).2.2.1,(Kx.out _ hR.drew).2.2.2.1,(Kx.out _ hR.drew).2.2.2.2.1,Q9.out _ hR.drew,hR.drew⟩ | exact⟨(Kx.out _ (hR.drew.on hbc)).1,(Kx.out _ (hR.drew.on hbc)).2.1,(Kx.out _ (hR.drew.on hbc)).2.2.1,(Kx.out _ (hR.drew.on hbc)).2.2.2.1,(Kx.out _ (hR.drew.on hbc)).2.2.2.2.1,Q9.out _ (hR.drew.on hbc),hR.drew.on hbc⟩));clear hK K;(try simp only[nSO]))
      iterate 3 ((first | refine aJ ?_ | refine np_q ?_);(try simp only[nSO]))
      refine np_z ?_
      have hbt:Below W.heap.size W w1:=(Below.refl W.heap.size W).drew.trans hbc
     |skip
      refine aP (S:=fun W=>(aM (.pointer (some ⟨wo.heap.size,0,none⟩))).run Tryz.prog W = .ok (.agg (aB c).toArray) W∧W.cell? ⟨wo.heap.size,9,none⟩=some (.int .i64 c.invoked)∧W.cell? ⟨wo.heap.size,1,none⟩=some (.int .i64 c.index)∧W.cell? ⟨wo.heap.size+1,0,none⟩=some (.int .i64 n)∧W.cell? ⟨wo.heap.size+1+1,0,none⟩=some (.int .i64 la)∧RInv b off cs wo.heap.size c n la W) ?_ (fun hHeld => ?_)
      ·first | exact Kx.out _ hR.drew | exact Kx.out _ (hR.drew.on hbc)
      (first | refine aJ ?_ | refine np_q ?_ | refine aL 0 ?_);(try simp only[nSO])
      first | (refine np_s 1 ?_;(try simp only[nSO])) | (refine np_c 1 (fun K hK => ?_);go_simp;(first | (go_at_call 129;refine (fc _).mono ?_;rintro e w1 ⟨rfl,hbc⟩));(try go_wp2_with fail);refine hK.out _ _ ?_ (fun hHeld => ?_);(· (first | exact Kx.out _ hR.drew | exact Kx.out _ (hR.drew.on hbc)));clear hK K;(try simp only[nSO]))
      iterate 31 ((first | refine aJ ?_ | refine np_q ?_);(try simp only[nSO]))
      first | (refine np_s 33 ?_;(try simp only[nSO])) | (refine np_c 33 (fun K hK => ?_);go_simp;(first | (go_at_call 129;refine (fc _).mono ?_;rintro e w1 ⟨rfl,hbc⟩));(try go_wp2_with fail);refine hK.out _ _ ?_ (fun hHeld => ?_);(· (first | exact Kx.out _ hR.drew | exact Kx.out _ (hR.drew.on hbc)));clear hK K;(try simp only[nSO]))
      iterate 3 ((first | refine aJ ?_ | refine np_q ?_);(try simp only[nSO]))
      refine np_z ?_
      have hbt:Below W.heap.size W w1:=(Below.refl W.heap.size W).drew.trans hbc
     first
     |have _:=Hbad
      have hB5:=hBw.trans (hbt.mono hBw.size)
      have hM5:=hM2.below hbt
      go_wp2
      refine iZ _ _ hM5 (fun w' hw'=>⟨.tuple #[.int .i64 k,.int .i64 22],by simp[results,Tryz.f75,go_sem],nK ?_ ?_,hB5.trans hw'⟩)
      all_goals rw[jE hlt Hg.out Hbad.out]
     |skip
      have hB5:=hBw.trans (hbt.mono hBw.size)
      have hM5:=hM2.below hbt
      have hR5:=hR.on hbt
      (try clear hbd)
      clear hB hBw hM2 hR q1 q2 q3 q4 q5 hbc hbt
      go_wp2
      go_loopw [70] (fun i W=>ClR w b off cs wo.heap.size c n la k ({ target := .collected D,args := #[] }::ds) i W) (fun i W=>k-(intOf i).toNat)
      case atStart=>exact⟨0,rfl,by omega,by intro m d hm;omega,hR5,hM5,hB5⟩
      case round =>
       clear hB5 hM5 hR5
       obtain⟨j,rfl,hj,hcl,hR5,hM5,hB5⟩:=hrel
       have Hcl:=Lib.hid hcl
       clear hcl
       by_cases hjk:j<k
       ·obtain⟨d,hd⟩:∃ d,cs[j]? = some d:=⟨_,gEz (by omega)⟩
        have hldd:=hR5.row.load hd
        have hl5:=dD c (aZ hR5.blk (.cells (aB d).toArray 56))
        have cl:=fun W=>aJm c d W
        generalize hx:dF c d=x at cl
        have Hx:=Lib.hid hx
        have Hd:=Lib.hid hd
        have hBa:Below wr.heap.size wr (wr.alloc (.cells (aB d).toArray 56)):=(Below.refl _ _).alloc (Nat.le_refl _) _
        clear hx hd
        cases x with
        |true =>
         have hbad:okAt cs k=false:=(Hpre.out _ (aAz hjk Hd.out Hx.out))
         have Hbad:=Lib.hid hbad
         clear hbad
         go_wp2_with fail
         refine (cl _).mono ?_
         rintro e W3 ⟨rfl,hb3⟩
         have hB6:=hB5.trans ((hBa.trans (hb3.mono (by simp))).mono hB5.size)
         have hM6:=hM5.below (hBa.trans (hb3.mono (by simp)))
         go_wp2
         refine iZ _ _ hM6 (fun w' hw'=>⟨.tuple #[.int .i64 k,.int .i64 22],by simp[results,Tryz.f75,go_sem],nK ?_ ?_,hB6.trans hw'⟩)
         all_goals rw[jE hlt Hg.out Hbad.out]
        |false =>
         go_wp2_with fail
         refine (cl _).mono ?_
         rintro e W3 ⟨rfl,hb3⟩
         have hb6:=hBa.trans (hb3.mono (by simp))
         have hB6:=hB5.trans (hb6.mono hB5.size)
         have hM6:=hM5.below hb6
         have hR6:=hR5.on hb6
         go_wp2
         go_roundw
         case rel=>exact⟨j+1,by go_num,by omega,by
          intro m d' hm hd'
          by_cases e:m=j
          ·subst e
           rw[Hd.out] at hd'
           cases hd'
           exact Hx.out
          ·exact Hcl.out m d' (by omega) hd',hR6,hM6,hB6⟩
         case measure=>simp[intOf];omega
       ·have hjj:j=k:=by omega
        have hgd:okAt cs k=true:=Hpre.out _ (aJp (fun m d hm=>Hcl.out m d (by omega)))
        have Hgd:=Lib.hid hgd
        have Hjj:=Lib.hid hjj
        clear hgd hjj
        go_wp2
        refine⟨ChkI.intro (k+1) _ rfl rfl (by omega) (fun i hi => ?_) hM5 hB5,?_⟩
        ·by_cases e:i=k
         ·rw[e];exact Hgd.out
         ·exact Hg.out i (by omega)
        ·simp[intOf];omega
   case stop =>
    rintro D c' pre W hD _ h _
    exact h.elim
  ·have hkk:k=cs.length:=by omega
   have hgd:bF cs=(0,0):=oV (fun i hi=>Hg.out i (by omega))
   have Hgd:=Lib.hid hgd
   clear hkk hgd
   go_wp2
   refine iZ _ _ hM (fun w' hw'=>⟨.tuple #[.int .i64 0,.int .i64 0],by simp[results,Tryz.f75,go_sem],nK ?_ ?_,hB.trans hw'⟩)
   all_goals rw[Hgd.out]
theorem aHo (w:World):Calls Tryz.prog 75 #[.slice none 0 0] w fun e w'=>e = .returned (.tuple #[.int .i64 (bF []).1,.int .i64 (bF []).2])∧Below w.heap.size w w':=by
 refine (callsIn_wide (n:=4)).1 (callsIn_of_wp_marks Tryz.func75 rfl trivial (wpIn_wide.2 ?_) rfl)
 simp only[Tryz.ntmps75,List.size_toArray,List.length_cons,List.length_nil,Nat.reduceAdd,Nat.reduceSub,Array.replicate_succ,Array.replicate_zero,List.push_toArray,List.append_toArray,List.nil_append,List.cons_append]
 go_wp2
 refine wp_loop_rounds 1 ?_
 rw[rounds_succ]
 go_wp2
 exact⟨.tuple #[.int .i64 0,.int .i64 0],by simp[results,Tryz.f75,go_sem],rfl,Below.refl _ _⟩
theorem rO (p:Option Addr) (cap:Nat) (cs:List aA) (w:World) (hC:CRow w p cap cs) (hs:cs.length≤1000000) (hok:∀ c∈cs,c.Ok) :
  Calls Tryz.prog 75 #[.slice p cs.length cap] w fun e w'=>e = .returned (.tuple #[.int .i64 (bF cs).1,.int .i64 (bF cs).2])∧Below w.heap.size w w':=by
 rcases hC with⟨rfl,rfl,rfl⟩ | ⟨b,off,rfl,h1,h2,h3⟩
 ·exact aHo w
 ·exact aDs b off cap cs w h1 h2 h3 hs hok
end Go.Proofs.YtdeiocppghhfdaaGreat.Hs
namespace Go.Proofs.YtdeiocppghhfdaaGreat.KitI
open Go.RowKit Go.Lib
def iv (x:Int):Value := .int .i64 x
theorem aO {a b:Bool} (h:a=b):Ending.returned (.bool a) = .returned (.bool b):=by rw[h]
theorem cO {w:World} {a:Addr} {v:Value} (h:w.cell? a=some v):a.block<w.heap.size:=by
 rcases Nat.lt_or_ge a.block w.heap.size with h' | h'
 ·exact h'
 ·simp[World.cell?,Array.getElem?_eq_none h'] at h
def IRow (w:World) (v:Value) (zs:List Int):Prop :=
 (v = .slice none 0 0∧zs=[])∨∃ b off c,v = .slice (some ⟨b,off,none⟩) zs.length c∧∀ j u,zs[j]? = some u→w.cell? ⟨b,off+j,none⟩=some (iv u)
theorem IRow.own {w:World} {base:Nat} {e:TypeId} {v:Value} {n:Nat} {zs:List Int} (h:w.ownsRow base e 1 v n (zs.map iv)) (hn:n=zs.length):IRow w v zs:=by
 subst hn
 rcases h.2 with⟨h1,h2⟩ | ⟨g,cap,cur,h1,_⟩
 ·exact .inl ⟨h1,List.length_eq_zero_iff.1 h2⟩
 ·refine .inr ⟨g,0,cap,h1,fun j u hj => ?_⟩
  subst h1
  have hlt:=(gLz hj).1
  rw[Nat.zero_add,h.cellAt j (by omega),List.getElem?_map,hj]
  rfl
theorem IRow.on {w w':World} {v:Value} {zs:List Int} (h:IRow w v zs) (hb:Below w.heap.size w w'):IRow w' v zs:=by
 rcases h with h | ⟨b,off,c,h1,h2⟩
 ·exact .inl h
 ·exact .inr ⟨b,off,c,h1,fun j u hj=>by rw[hb.cell (cO (h2 j u hj))];exact h2 j u hj⟩
theorem IRow.nil (w:World):IRow w (.slice none 0 0) [] := .inl ⟨rfl,rfl⟩
theorem IRow.new (zs:List Int) (cs:Array Value) (T:TypeId) (n c:Nat) (hc:cs=(zs.map iv).toArray) (hl:n=zs.length) (W:World):IRow (W.alloc (.cells cs T)) (.slice (some ⟨W.heap.size,0,none⟩) n c) zs:=by
 subst hc hl
 refine .inr ⟨_,0,c,rfl,fun j u hj => ?_⟩
 rw[Nat.zero_add,World.cell?_alloc_new]
 simp[hj]
def ERel (za zb:List Int) (w:World) (i:Value) (wr:World):Prop:=∃ k n:Nat,i = .int .i64 k∧wr=w.drewN n∧k≤za.length∧za.take k=zb.take k
theorem below_drewN' (w:World) (n:Nat):Below w.heap.size w (w.drewN n):=below_drewN (Below.refl _ _) n
theorem aJq {α:Type} {a b:List α} {k:Nat} (x:α) (h1:a[k]? = some x) (h2:b[k]? = some x) (h:a.take k=b.take k):a.take (k+1)=b.take (k+1):=by
 rw[List.take_add_one,List.take_add_one,h,h1,h2]
theorem aA0 (w:World) (b1 o1 c1 b2 o2 c2:Nat) (za zb:List Int) (hl:za.length=zb.length) (hs:za.length≤1000000)
  (h1:∀ j u,za[j]? = some u→w.cell? ⟨b1,o1+j,none⟩=some (iv u)) (h2:∀ j u,zb[j]? = some u→w.cell? ⟨b2,o2+j,none⟩=some (iv u)) :
  Calls Tryz.prog 24 #[.slice (some ⟨b1,o1,none⟩) za.length c1,.slice (some ⟨b2,o2,none⟩) za.length c2] w fun e w'=>e = .returned (.bool (decide (za=zb)))∧Below w.heap.size w w':=by
 have H1:=Lib.hid h1
 have H2:=Lib.hid h2
 have Hl:=Lib.hid hl
 clear h1 h2 hl
 go_enter Tryz.func24,Tryz.ntmps24
 go_wp2
 go_loopw [5] (fun i wr=>ERel za zb w i wr) (fun i wr=>za.length-(intOf i).toNat)
 case atStart=>exact⟨0,0,rfl,rfl,by omega,rfl⟩
 case round =>
  obtain⟨k,n,rfl,rfl,hk,he⟩:=hrel
  have He:=Lib.hid he;clear he
  by_cases hlt:k<za.length
  ·obtain⟨x,hx⟩:∃ x,za[k]? = some x:=⟨_,gEz hlt⟩
   obtain⟨y,hy⟩:∃ y,zb[k]? = some y:=⟨_,gEz (by rw[← Hl.out];exact hlt)⟩
   have cx:=H1.out k x hx
   have cy:=H2.out k y hy
   unfold iv at cx cy
   have Hx:=Lib.hid hx
   have Hy:=Lib.hid hy
   clear hx hy
   by_cases hxy:x=y
   ·subst hxy
    go_wp2_with (go_quiet (fail))
    go_roundw
    case rel=>exact⟨k+1,_,rfl,rfl,by omega,aJq x Hx.out Hy.out He.out⟩
    case measure=>simp[intOf];omega
   ·have hd:(x == y)=false:=by simpa using hxy
    have hz:za≠zb:=fun e=>by
     have h1:=Hx.out
     rw[e,Hy.out] at h1
     exact hxy (Option.some.inj h1).symm
    have Hz:=Lib.hid hz
    clear hxy hz
    go_wp2_with (go_quiet (fail))
    go_returns
    exact⟨aO (by simp[Hz.out]),below_drewN (below_drewN' _ _) _⟩
  ·go_wp2
   go_returns
   refine⟨aO ?_,below_drewN' _ _⟩
   have hkk:k=za.length:=by omega
   have:=He.out
   rw[hkk,List.take_length,Hl.out,List.take_length] at this
   simp[this]
theorem zA (w:World) (va vb:Value) (za zb:List Int) (ha:IRow w va za) (hb:IRow w vb zb) (hs:za.length≤1000000) (hs2:zb.length≤1000000) :
  Calls Tryz.prog 24 #[va,vb] w fun e w'=>e = .returned (.bool (decide (za=zb)))∧Below w.heap.size w w':=by
 by_cases hl:za.length=zb.length
 ·rcases ha with⟨rfl,rfl⟩ | ⟨b1,o1,c1,rfl,h1⟩
  ·obtain rfl:zb=[]:=List.length_eq_zero_iff.1 hl.symm
   clear hs hs2 hl
   rcases hb with⟨rfl,_⟩ | ⟨b2,o2,c2,rfl,h2⟩
   all_goals
    go_enter Tryz.func24,Tryz.ntmps24
    go_wp2
    refine wp_loop_rounds 1 ?_
    rw[rounds_succ]
    go_wp2
    go_returns
    exact⟨rfl,Below.refl _ _⟩
  ·rcases hb with⟨rfl,rfl⟩ | ⟨b2,o2,c2,rfl,h2⟩
   ·obtain rfl:za=[]:=List.length_eq_zero_iff.1 hl
    clear hs hs2 hl h1
    go_enter Tryz.func24,Tryz.ntmps24
    go_wp2
    refine wp_loop_rounds 1 ?_
    rw[rounds_succ]
    go_wp2
    go_returns
    exact⟨rfl,Below.refl _ _⟩
   ·rw[← hl]
    exact aA0 w b1 o1 c1 b2 o2 c2 za zb hl hs h1 h2
 ·have hz:decide (za=zb)=false:=by
   rw[decide_eq_false_iff_not]
   intro e
   exact hl (by rw[e])
  rw[hz]
  obtain⟨pa,ca,rfl⟩:∃ pa ca,va = .slice pa za.length ca:=by
   rcases ha with⟨rfl,rfl⟩ | ⟨b1,o1,c1,rfl,h1⟩
   ·exact⟨_,_,rfl⟩
   ·exact⟨_,_,rfl⟩
  obtain⟨pb,cb,rfl⟩:∃ pb cb,vb = .slice pb zb.length cb:=by
   rcases hb with⟨rfl,rfl⟩ | ⟨b1,o1,c1,rfl,h1⟩
   ·exact⟨_,_,rfl⟩
   ·exact⟨_,_,rfl⟩
  have hd:((za.length:Int) == (zb.length:Int))=false:=by
   rw[beq_eq_false_iff_ne]
   intro e
   exact hl (by omega)
  clear ha hb hz hl
  go_enter Tryz.func24,Tryz.ntmps24
  go_wp2
  go_returns
  exact⟨rfl,Below.refl _ _⟩
theorem kH:(Tryz.prog.info? 3).map (fun i=>(i.zero,i.size,i.bytes))=some (some (.int .i64 0),1,8):=by kernel_rfl
theorem own_below {w w':World} {base:Nat} {e:TypeId} {size:Nat} {v:Value} {n:Nat} {xs:List Value} (h:w.ownsRow base e size v n xs) (hb:Below w.heap.size w w'):w'.ownsRow base e size v n xs:=by
 refine⟨h.1,?_⟩
 rcases h.2 with hn | ⟨g,cap,cur,rfl,hbs,hgg,rest⟩
 ·exact .inl hn
 ·exact .inr ⟨g,cap,cur,rfl,hbs,by rw[hb.block g (gAz hgg).1];exact hgg,rest⟩
end Go.Proofs.YtdeiocppghhfdaaGreat.KitI
namespace Go.Proofs.YtdeiocppghhfdaaGreat.Hs
open Go.RowKit Go.Lib
open KitI (iv IRow own_below kH)
attribute [local go_sem, local simp] dP
attribute [local go_sem ↓] aN aR
attribute [local go_sem] bX bB aX bH cK
def places (q:aA→Bool):List aA→Nat→List Nat
 |[],_=>[]
 |c::cs,k=>if q c then k::places q cs (k+1) else places q cs (k+1)
end Go.Proofs.YtdeiocppghhfdaaGreat.Hs
