/- Texts, one behind another. -/
import Derived.Test.YtdeiocppghhfdaaGreatZdaa
import Derived.Test.YtdeiocppghhfdaaGreatZdha
import Derived.Deep.LoopGhost
import Derived.IntWalk
set_option linter.unusedVariables false
set_option linter.unusedSimpArgs false
set_option maxRecDepth 100000
set_option maxHeartbeats 8000000
namespace Go.Proofs.YtdeiocppghhfdaaGreat.Hs
open Go.RowKit Go.Shelf
attribute [local go_sem] Oper.semAt_some
attribute [local go_sem, local simp] dB dG dE dH dI dJ dK dL dM dF aR aW bB bC aS aV aY bD bE bF bG bH bI bJ bK aU aQ fH fI fJ fK fM fO fP fQ fT fU dN dO dP dQ dR dS dU dV dW dX dY dZ eB bL bM bN bO bP bQ bR bS bT bU bV bW bX bY bZ cB aX fV fZ gB gD gF gG gH gI gJ gK eD eG eH aH aJ
attribute [local go_sem ↓] aK aN
attribute [local go_sem] fF cK aP eO fD
def iV (n₀:Nat) (w:World):List Deferred→Prop
 | []=>True
 | d::ds=>∃ D,d={ target := .collected D,args := #[] }∧n₀≤D∧w.heap[D]? = some (.deferred (some []))∧(∀ d'∈ds,d'.target ≠ .collected D)∧iV n₀ w ds
theorem iV.keep {n₀:Nat} {w w':World} (hk:KeepsOthers w w'):∀ {ds:List Deferred},iV n₀ w ds→iV n₀ w' ds
 | [],_=>trivial
 | _::_,⟨D,h1,h2,h3,h4,h5⟩=>⟨D,h1,h2,hk.same D _ h3 rfl,h4,iV.keep hk h5⟩
theorem gZ {w w':World} (h:Below w.heap.size w w'):KeepsOthers w w':=⟨h.size,fun k _ hk _=>(h.block k (Array.getElem?_eq_some_iff.1 hk).1).trans hk⟩
theorem iV.below {n₀:Nat} {w w':World} {ds:List Deferred} (h:iV n₀ w ds) (hb:Below w.heap.size w w'):iV n₀ w' ds:=h.keep (gZ hb)
theorem iV.put {n₀:Nat} {w:World} {D:Nat} {o:Obj}:∀ {ds:List Deferred},iV n₀ w ds→(∀ d'∈ds,d'.target ≠ .collected D)→iV n₀ (w.putObj D o) ds
 | [],_,_=>trivial
 | d::ds,⟨D',h1,h2,h3,h4,h5⟩,hne=>⟨D',h1,h2,(World.putObj_heap_other (fun e=>hne d (List.mem_cons_self ..) (by rw[h1,e]))).trans h3,h4,iV.put h5 fun d' hd'=>hne d' (List.mem_cons_of_mem _ hd')⟩
theorem iV.fresh {n₀:Nat} {w:World} {D:Nat} (hD:w.heap.size≤D):∀ {ds:List Deferred},iV n₀ w ds→∀ d'∈ds,d'.target ≠ .collected D
 | [],_,d',h=>by cases h
 | _::_,⟨D',h1,_,h3,_,h5⟩,d',h=>by
  rcases List.mem_cons.1 h with rfl | h
  ·rw[h1]
   intro e
   have:D'=D:=by simpa using e
   have:=(Array.getElem?_eq_some_iff.1 h3).1
   omega
  ·exact iV.fresh hD h5 d' h
theorem aBm {n₀ D:Nat} (h:n₀≤D) (w:World) (o:Obj):Below n₀ w (w.putObj D o):=⟨rfl,rfl,rfl,by simp,fun k hk=>World.putObj_heap_other (by omega)⟩
theorem gQ {F:Fence} {n:Nat} {P:Program} {fn:Func} {tmps:Array Value} {R:Ending→World→Prop} {n₀:Nat}:∀ (ds:List Deferred) (w:World),iV n₀ w ds→(∀ w',Below n₀ w w'→LeavesIn F n P fn tmps R [] .returning w')→LeavesInM F n P fn tmps R ds .returning w
 | [],w,_,h=>h w (Below.refl _ _)
 | d::ds,w,⟨D,h1,h2,h3,h4,h5⟩,h=>by
  subst h1
  refine⟨by simp,.inl ⟨D,_,rfl,run_takeDeferred h3,gQ ds _ (h5.put h4) fun w' hw'=>h w' ((aBm h2 w _).trans hw')⟩⟩
def lastOf (t:Int) (cs:List aA):Option aA:=((jB t cs 0).getLast?).bind fun i=>cs[i]?
def accB (pre:List aA) (c:aA):Bool :=
 jT c && (match pre.getLast? with | some p=>decide (p.invoked<c.invoked) | none=>true) && decide (c.index=(jB c.thread pre 0).length) &&
  (match lastOf c.thread pre with | some d=>befB d c | none=>true) && pre.all fun d => !kU c d
def okAt (cs:List aA) (i:Nat):Bool:=match cs[i]? with | some c=>accB (cs.take i) c | none=>true
def dD (cs:List aA):Int × Int:=match (List.range cs.length).find? (fun i => !okAt cs i) with | some i=>((i:Int),22) | none=>(0,0)
theorem aG2 {n k:Nat} {q:Nat→Bool} (hk:k<n) (h:∀ i,i<k→q i=false) (hq:q k=true):(List.range n).find? q=some k:=by
 rw[List.find?_range_eq_some]
 exact⟨hq,by simpa using hk,fun j hj=>by simp[h j hj]⟩
theorem lQ {cs:List aA} {k:Nat} (hk:k<cs.length) (hg:∀ i,i<k→okAt cs i=true) (hb:okAt cs k=false):dD cs=((k:Int),22):=by
 unfold dD
 rw[aG2 hk (fun i hi=>by rw[hg i hi];rfl) (by rw[hb];rfl)]
theorem aG3 {cs:List aA} (hg:∀ i,i<cs.length→okAt cs i=true):dD cs=(0,0):=by
 unfold dD
 have:(List.range cs.length).find? (fun i => !okAt cs i)=none:=by
  rw[List.find?_eq_none]
  intro i hi
  simp[hg i (List.mem_range.1 hi)]
 rw[this]
theorem aRs {cs:List aA} {k:Nat} {c:aA} (hc:cs[k]? = some c):okAt cs k=accB (cs.take k) c:=by unfold okAt;rw[hc]
theorem oD {a b c d:Int} (h:a=c) (h2:b=d):Ending.returned (.tuple #[.int .i64 a,.int .i64 b]) = .returned (.tuple #[.int .i64 c,.int .i64 d]):=by rw[h,h2]
theorem vI {t:Int}:∀ {cs:List aA} {k x:Nat},x∈jB t cs k→k≤x∧x<k+cs.length
 | [],k,x,h=>by simp[jB] at h
 | c::cs,k,x,h=>by
  unfold jB at h
  have rest:x∈jB t cs (k+1)→k≤x∧x<k+(c::cs).length:=fun h=>by
   have:=vI h
   simp;omega
  split at h
  ·rcases List.mem_cons.1 h with rfl | h
   ·simp
   ·exact rest h
  ·exact rest h
theorem aJ0 (cs:List aA) {k:Nat} (h0:0<k) (hk:k≤cs.length):(cs.take k).getLast? = cs[k-1]? := by
 rw[List.getLast?_eq_getElem?,List.length_take,Nat.min_eq_left hk,List.getElem?_take_of_lt (by omega)]
def vJ (W:World) (g:Nat) (c:aA):Prop:=W.heap[g]? = some (.cells (aB c).toArray 56 (0,0))
theorem aEg {β:Type} (g:Nat) (c:aA):Own (fun (_:β) W=>vJ W g c):=fun s X Y row hs hg hrow =>
 (hg.block g (Array.getElem?_eq_some_iff.1 hs).1 (fun e=>by
  obtain⟨o,ho,hc⟩:=hrow g e.symm
  have h2:X.heap[g]? = _:=hs
  rw[h2] at ho
  cases ho
  cases hc)).trans hs
def qL (pre:List Nat):Int:=match pre.getLast? with | some x=>(x:Int) | none => -1
def ICnt (wr:World) (c:aA) (n:Nat) (pre:List (InC n)) (W:World):Prop :=
 (Boxed W (wr.heap.size+1) 3 (.int .i64 (pre.length:Int))∧Boxed W (wr.heap.size+1+1) 3 (.int .i64 (qL (pre.map (·.1))))∧vJ W wr.heap.size c)∧Below wr.heap.size wr W
theorem aLs (wr:World) (c:aA) (n B:Nat) (hB:wr.heap.size≤B):OwnFrom B (ICnt wr c n) :=
 OwnFrom.and (Own.from (fun s X Y row hs hg hrow=>⟨boxed_own (β:=List (InC n)) _ _ (fun pre => .int .i64 (pre.length:Int)) s X Y row hs.1 hg hrow,boxed_own (β:=List (InC n)) _ _ (fun pre => .int .i64 (qL (pre.map (·.1)))) s X Y row hs.2.1 hg hrow,aEg _ _ s X Y row hs.2.2 hg hrow⟩) _) (ownFrom_below (Nat.le_refl _) hB)
theorem aJ1 (wr:World) (c:aA) (k b off cap:Nat) (X:World) (hX:X=(((((wr.alloc (.cells (aB c).toArray 56)).alloc (.cells #[.int .i64 0] 3)).alloc (.cells #[.int .i64 (-1)] 3)).alloc (.cells #[.int .i64 c.thread] 3)).alloc (.cells #[.slice (some ⟨b,off,none⟩) k cap] 25)).drew) :
  Boxed X (wr.heap.size+1) 3 (.int .i64 0)∧Boxed X (wr.heap.size+1+1) 3 (.int .i64 (-1))∧X.cell? ⟨wr.heap.size+1+1+1,0,none⟩=some (.int .i64 c.thread)∧X.cell? ⟨wr.heap.size+1+1+1+1,0,none⟩=some (.slice (some ⟨b,off,none⟩) k cap) ∧
  vJ X wr.heap.size c∧Below wr.heap.size wr X∧X.heap.size=wr.heap.size+5:=by
 subst hX
 have hs1:=Boxed.new (wr.alloc (.cells (aB c).toArray 56)) 3 (.int .i64 0)
 have hs2:=Boxed.new ((wr.alloc (.cells (aB c).toArray 56)).alloc (.cells #[.int .i64 0] 3)) 3 (.int .i64 (-1))
 have hs3:=Boxed.new (((wr.alloc (.cells (aB c).toArray 56)).alloc (.cells #[.int .i64 0] 3)).alloc (.cells #[.int .i64 (-1)] 3)) 3 (.int .i64 c.thread)
 have hs4:=Boxed.new ((((wr.alloc (.cells (aB c).toArray 56)).alloc (.cells #[.int .i64 0] 3)).alloc (.cells #[.int .i64 (-1)] 3)).alloc (.cells #[.int .i64 c.thread] 3)) 25 (.slice (some ⟨b,off,none⟩) k cap)
 simp only[World.size_alloc] at hs1 hs2 hs3 hs4
 refine⟨((hs1.alloc _).alloc _).alloc _,(hs2.alloc _).alloc _,(hs3.alloc _).cell,hs4.cell,nP (nP (nP (nP (iM wr (aB c) 56) _) _) _) _,Below.drew ?_,?_⟩
 ·exact (((((Below.refl _ _).alloc (Nat.le_refl _) _).alloc (by simp) _).alloc (by simp;omega) _).alloc (by simp;omega) _).alloc (by simp;omega) _
 ·show (((((wr.alloc _).alloc _).alloc _).alloc _).alloc _).heap.size=_
  simp
theorem aEh (l:List Nat) (x:Nat):qL (l++[x])=x:=by unfold qL;simp
theorem aJ2 {wr W:World} {c:aA} {n:Nat} {pre:List (InC n)} (x:InC n) (h1:Boxed W (wr.heap.size+1) 3 (.int .i64 (pre.length:Int))) (h2:Boxed W (wr.heap.size+1+1) 3 (.int .i64 (qL (pre.map (·.1))))) (h3:vJ W wr.heap.size c) (hB:Below wr.heap.size wr W) :
  KeepsOthers W ((W.setCell ⟨wr.heap.size+1,0,none⟩ (.int .i64 (pre.length+1))).setCell ⟨wr.heap.size+1+1,0,none⟩ (.int .i64 (x.1:Int))) ∧
  gL (fun i=>i<wr.heap.size+5∧i≠wr.heap.size+1∧i≠wr.heap.size+1+1) W ((W.setCell ⟨wr.heap.size+1,0,none⟩ (.int .i64 (pre.length+1))).setCell ⟨wr.heap.size+1+1,0,none⟩ (.int .i64 (x.1:Int))) ∧
  ICnt wr c n (pre++[x]) ((W.setCell ⟨wr.heap.size+1,0,none⟩ (.int .i64 (pre.length+1))).setCell ⟨wr.heap.size+1+1,0,none⟩ (.int .i64 (x.1:Int))):=by
 refine⟨(KeepsOthers.setCell _ _ _).trans (KeepsOthers.setCell _ _ _),(gL.set (by simp) _).trans (gL.set (by simp) _),⟨⟨?_,?_,?_⟩,?_⟩⟩
 ·have:=((Boxed.set (.int .i64 (pre.length+1)) h1).other (B':=wr.heap.size+1+1) (by omega) (.int .i64 (x.1:Int)))
  simpa using this
 ·have:=Boxed.set (.int .i64 (x.1:Int)) (h2.other (B':=wr.heap.size+1) (by omega) (.int .i64 (pre.length+1)))
  rw[List.map_append]
  show Boxed _ _ _ (.int .i64 (qL (pre.map (·.1)++[x.1])))
  rw[aEh]
  exact this
 ·exact (Below.heap_setCell _ ⟨wr.heap.size+1+1,0,none⟩ _ wr.heap.size (by simp;omega)).trans ((Below.heap_setCell _ ⟨wr.heap.size+1,0,none⟩ _ wr.heap.size (by simp)).trans h3)
 ·exact (hB.setCell (p:=⟨wr.heap.size+1,0,none⟩) (by simp) _).setCell (p:=⟨wr.heap.size+1+1,0,none⟩) (by simp;omega) _
structure RInv (b off:Nat) (cs:List aA) (g:Nat) (c:aA) (n:Nat) (la:Int) (W:World):Prop where
 blk:vJ W g c
 cnt:Boxed W (g+1) 3 (.int .i64 (n:Int))
 last:Boxed W (g+1+1) 3 (.int .i64 la)
 row:CAt W b off cs
theorem RInv.on {b off:Nat} {cs:List aA} {g:Nat} {c:aA} {n:Nat} {la:Int} {W W':World} (h:RInv b off cs g c n la W) (hb:Below W.heap.size W W'):RInv b off cs g c n la W' :=
 ⟨gU h.blk hb (Array.getElem?_eq_some_iff.1 h.blk).1,(hb.block _ h.cnt.lt).trans h.cnt,(hb.block _ h.last.lt).trans h.last,h.row.on hb⟩
theorem RInv.drew {b off:Nat} {cs:List aA} {g:Nat} {c:aA} {n:Nat} {la:Int} {W:World} (h:RInv b off cs g c n la W):RInv b off cs g c n la W.drew:=⟨h.blk,h.cnt,h.last,h.row⟩
def ClR (w:World) (b off:Nat) (cs:List aA) (g:Nat) (c:aA) (n:Nat) (la:Int) (k:Nat) (ds:List Deferred) (i:Value) (W:World):Prop :=
 ∃ j:Nat,i = .int .i64 j∧j≤k∧(∀ m d,m<j→cs[m]? = some d→kU c d=false)∧RInv b off cs g c n la W∧iV w.heap.size W ds∧Below w.heap.size w W
theorem zD {cs:List aA} {c:aA} {k:Nat} (h:∀ m d,m<k→cs[m]? = some d→kU c d=false):((cs.take k).all fun d => !kU c d)=true:=by
 rw[List.all_eq_true]
 intro d hd
 obtain⟨m,hm⟩:=List.mem_iff_getElem?.1 hd
 have hlt:m<k:=by have:=(List.getElem?_eq_some_iff.1 hm).1;simp at this;omega
 rw[List.getElem?_take_of_lt hlt] at hm
 simp[h m d hlt hm]
theorem sP {cs:List aA} {c d:aA} {k m:Nat} (hm:m<k) (hd:cs[m]? = some d) (h:kU c d=true):((cs.take k).all fun d => !kU c d)=false:=by
 rw[List.all_eq_false]
 exact⟨d,List.mem_iff_getElem?.2 ⟨m,by rw[List.getElem?_take_of_lt hm];exact hd⟩,by simp[h]⟩
def ChkI (w:World) (b off cap:Nat) (cs:List aA) (a:Act) (wr:World):Prop :=
 ∃ (k:Nat) (ds:List Deferred) (u:Nat→Value),a={ tmps := #[.slice (some ⟨b,off,none⟩) cs.length cap,undef,u 2,u 3,u 4,u 5,u 6,u 7,u 8,u 9,u 10,.slice (some ⟨b,off,none⟩) cs.length cap,.int .i64 cs.length,.int .i64 k,u 14,u 15,u 16,u 17,u 18,u 19,u 20,u 21,u 22,u 23,u 24,u 25,u 26,u 27,u 28,u 29,u 30,u 31,u 32,u 33,u 34,u 35,u 36,u 37,u 38,u 39,u 40,u 41,u 42,u 43,u 44,u 45,u 46,u 47,u 48,u 49,u 50,u 51,u 52,u 53,u 54,u 55,u 56,u 57,u 58,u 59,u 60,u 61,u 62,u 63,u 64,u 65,u 66,u 67,u 68,u 69,u 70,u 71,u 72,u 73,u 74,u 75,u 76,u 77,u 78,u 79],defers:=ds } ∧
  k≤cs.length∧(∀ i,i<k→okAt cs i=true)∧iV w.heap.size wr ds∧Below w.heap.size w wr
theorem ChkI.intro {w:World} {b off cap:Nat} {cs:List aA} {a:Act} {wr:World} (k:Nat) (ds:List Deferred) (h:a={ tmps := #[.slice (some ⟨b,off,none⟩) cs.length cap,undef,a.tmps.getD 2 undef,a.tmps.getD 3 undef,a.tmps.getD 4 undef,a.tmps.getD 5 undef,a.tmps.getD 6 undef,a.tmps.getD 7 undef,a.tmps.getD 8 undef,a.tmps.getD 9 undef,a.tmps.getD 10 undef,.slice (some ⟨b,off,none⟩) cs.length cap,.int .i64 cs.length,.int .i64 k,a.tmps.getD 14 undef,a.tmps.getD 15 undef,a.tmps.getD 16 undef,a.tmps.getD 17 undef,a.tmps.getD 18 undef,a.tmps.getD 19 undef,a.tmps.getD 20 undef,a.tmps.getD 21 undef,a.tmps.getD 22 undef,a.tmps.getD 23 undef,a.tmps.getD 24 undef,a.tmps.getD 25 undef,a.tmps.getD 26 undef,a.tmps.getD 27 undef,a.tmps.getD 28 undef,a.tmps.getD 29 undef,a.tmps.getD 30 undef,a.tmps.getD 31 undef,a.tmps.getD 32 undef,a.tmps.getD 33 undef,a.tmps.getD 34 undef,a.tmps.getD 35 undef,a.tmps.getD 36 undef,a.tmps.getD 37 undef,a.tmps.getD 38 undef,a.tmps.getD 39 undef,a.tmps.getD 40 undef,a.tmps.getD 41 undef,a.tmps.getD 42 undef,a.tmps.getD 43 undef,a.tmps.getD 44 undef,a.tmps.getD 45 undef,a.tmps.getD 46 undef,a.tmps.getD 47 undef,a.tmps.getD 48 undef,a.tmps.getD 49 undef,a.tmps.getD 50 undef,a.tmps.getD 51 undef,a.tmps.getD 52 undef,a.tmps.getD 53 undef,a.tmps.getD 54 undef,a.tmps.getD 55 undef,a.tmps.getD 56 undef,a.tmps.getD 57 undef,a.tmps.getD 58 undef,a.tmps.getD 59 undef,a.tmps.getD 60 undef,a.tmps.getD 61 undef,a.tmps.getD 62 undef,a.tmps.getD 63 undef,a.tmps.getD 64 undef,a.tmps.getD 65 undef,a.tmps.getD 66 undef,a.tmps.getD 67 undef,a.tmps.getD 68 undef,a.tmps.getD 69 undef,a.tmps.getD 70 undef,a.tmps.getD 71 undef,a.tmps.getD 72 undef,a.tmps.getD 73 undef,a.tmps.getD 74 undef,a.tmps.getD 75 undef,a.tmps.getD 76 undef,a.tmps.getD 77 undef,a.tmps.getD 78 undef,a.tmps.getD 79 undef],defers:=ds })
  (hk:k≤cs.length) (hg:∀ i,i<k→okAt cs i=true) (hM:iV w.heap.size wr ds) (hB:Below w.heap.size w wr):ChkI w b off cap cs a wr:=⟨k,ds,fun i=>a.tmps.getD i undef,h,hk,hg,hM,hB⟩
set_option linter.unusedSimpArgs false in
theorem aG4 (b off cap:Nat) (cs:List aA) (w:World) (hcap:cs.length≤cap) (hb:b<w.heap.size) (hC:CAt w b off cs) (hs:cs.length≤1000000) (hok:∀ c∈cs,c.Ok) :
  Calls Tryz.prog 75 #[.slice (some ⟨b,off,none⟩) cs.length cap] w fun e w'=>e = .returned (.tuple #[.int .i64 (dD cs).1,.int .i64 (dD cs).2])∧Below w.heap.size w w':=by
 refine (callsIn_wide (n:=4)).1 (callsIn_of_wp_marks Tryz.func75 rfl trivial (wpIn_wide.2 ?_) rfl)
 simp only[Tryz.ntmps75,List.size_toArray,List.length_cons,List.length_nil,Nat.reduceAdd,Nat.reduceSub,Array.replicate_succ,Array.replicate_zero,List.push_toArray,List.append_toArray,List.nil_append,List.cons_append]
 go_wp2
 refine wp_loop (ChkI w b off cap cs) (fun a _=>cs.length-(intOf (a.tmps.getD 13 undef)).toNat) ?_ ?_
 ·exact ChkI.intro 0 [] rfl (by omega) (fun i hi=>by omega) trivial (Below.refl _ _)
 ·rintro a wo ⟨k,ds,u,rfl,hk,hgood,hM,hB⟩
  have Hg:=Lib.hid hgood;clear hgood
  by_cases hlt:k<cs.length
  ·obtain⟨c,hc⟩:∃ c,cs[k]? = some c:=⟨_,List.getElem?_eq_getElem hlt⟩
   have hld:=(hC.below hB hb).load hc
   have hkc:(k:Int)≤(cap:Int):=by omega
   have Hc:=Lib.hid hc;clear hc
   go_wp2
   have ct:(((wo.alloc (.cells (aB c).toArray 56)).alloc (.cells #[.int .i64 0] 3)).alloc (.cells #[.int .i64 (-1)] 3)).cell? ⟨wo.heap.size,0,none⟩=some (.int .i64 c.thread):=by simp[go_sem]
   go_region_held3 (fun W=>W.cell? ⟨wo.heap.size,0,none⟩=some (.int .i64 c.thread)) (go_keep) ((go_at_call 110;refine (aO2 _ _ _ _ _).mono ?_;rintro e w' ⟨rfl,rfl⟩))
   go_wp2
   obtain⟨hs1,hs2,hs3,hs4,hcb,hBL,hsz⟩:=aJ1 wo c k b off cap _ rfl
   generalize (((((wo.alloc (.cells (aB c).toArray 56)).alloc (.cells #[.int .i64 0] 3)).alloc (.cells #[.int .i64 (-1)] 3)).alloc (.cells #[.int .i64 c.thread] 3)).alloc (.cells #[.slice (some ⟨b,off,none⟩) k cap] 25)).drew=X at hs1 hs2 hs3 hs4 hcb hBL hsz ⊢
   have hbw:b<wo.heap.size:=Nat.lt_of_lt_of_le hb hB.size
   have hrow:CRow X (some ⟨b,off,none⟩) cap (cs.take k) := .inr ⟨b,off,rfl,by simp;omega,by omega,((hC.below hB hb).below hBL hbw).take k⟩
   refine (wpIn_wide (n:=4)).1 ?_
   refine wpIn_rangeFunc_ownF rfl (by omega) (gf:=159) (lb := #[.pointer (some ⟨wo.heap.size+1+1+1+1,0,none⟩),.pointer (some ⟨wo.heap.size+1+1+1,0,none⟩)]) rfl trivial (enters_of Tryz.func159 (by kernel_rfl) rfl)
    (aCr k 3 (by omega) _ _ cap (fun i=>i<wo.heap.size+5∧i≠wo.heap.size+1∧i≠wo.heap.size+1+1) _ (cs.take k) (by simp;omega) c.thread (by omega) X hs4 hs3 hrow (by intro i hi;omega) (by omega) (by omega) (by intro b' o' e;cases e;omega))
    gL.trans (zC (by intro i hi;omega)) (Below.refl _ _) (fun _=>rfl)
    (ICnt wo c k) (fun _ _ _=>False) (aLs wo c k _ (by omega)) (fun _ _ _ _ _ hs _ _=>hs) ⟨⟨hs1,hs2,hcb⟩,hBL⟩ ?a1 ?assign ?body ?done ?stop
   case assign =>
    intro l x W K hK
    gi_wp2
    exact hK
   case body =>
    rintro l pre x W ⟨⟨h1,h2,h3⟩,hBW⟩ hlen
    have c1:=h1.cell
    have f1:=h1.frozen
    have c2:=h2.cell
    have f2:=h2.frozen
    gi_wp2
    exact aJ2 x h1 h2 h3 hBW
   case done =>
    rintro D ys W hD hys ⟨⟨h1,h2,h3⟩,hBW⟩ hK
    have hR:RInv b off cs wo.heap.size c (jB c.thread (cs.take k) 0).length (qL (jB c.thread (cs.take k) 0)) W:=⟨h3,by rw[← hys,List.length_map];exact h1,by rw[← hys];exact h2,(hC.below hB hb).below hBW hbw⟩
    have hM2:iV w.heap.size W ({ target := .collected D,args := #[] }::ds) :=
     ⟨D,rfl,by have:=hB.size;omega,hK,hM.fresh (by omega),hM.below hBW⟩
    have hBw:=hB.trans (hBW.mono hB.size)
    clear h1 h2 h3 hs1 hs2 hs3 hs4 hcb hBL hsz hrow hys ct hld hBW hM hK
    have fc:=fun W=>aIq c (hok c (List.mem_of_getElem? Hc.out)) W
    generalize hfv:jT c=f at fc
    generalize hnv:(jB c.thread (cs.take k) 0).length=n at hR
    generalize hlv:qL (jB c.thread (cs.take k) 0)=la at hR
    have Hfv:=Lib.hid hfv
    have Hnv:=Lib.hid hnv
    have Hlv:=Lib.hid hlv
    clear hfv hnv hlv
    have kx:∀ W,RInv b off cs wo.heap.size c n la W→(gX (.pointer (some ⟨wo.heap.size,0,none⟩))).run Tryz.prog W = .ok (.agg (aB c).toArray) W∧W.cell? ⟨wo.heap.size,9,none⟩=some (.int .i64 c.invoked)∧W.cell? ⟨wo.heap.size,1,none⟩=some (.int .i64 c.index)∧W.cell? ⟨wo.heap.size+1,0,none⟩=some (.int .i64 n)∧W.cell? ⟨wo.heap.size+1+1,0,none⟩=some (.int .i64 la)∧RInv b off cs wo.heap.size c n la W :=
     fun W h=>⟨oJ c h.blk,aM h.blk 9,aM h.blk 1,h.cnt.cell,h.last.cell,h⟩
    have Kx:=Lib.hid kx
    obtain⟨q1,q2,q3,q4,q5,_⟩:=kx W hR
    clear kx
    have hacc:=aRs Hc.out
    have Hacc:=Lib.hid hacc
    clear hacc
    cases f with
    | false =>
     have hbad:okAt cs k=false:=by rw[Hacc.out];unfold accB;rw[Hfv.out];rfl
     have Hbad:=Lib.hid hbad
     clear hbad
     go_wp2
     refine wp_region_noPanic ?_
     refine wp_region_held_drew (S:=fun W=>(gX (.pointer (some ⟨wo.heap.size,0,none⟩))).run Tryz.prog W = .ok (.agg (aB c).toArray) W∧W.cell? ⟨wo.heap.size,9,none⟩=some (.int .i64 c.invoked)∧W.cell? ⟨wo.heap.size,1,none⟩=some (.int .i64 c.index)∧W.cell? ⟨wo.heap.size+1,0,none⟩=some (.int .i64 n)∧W.cell? ⟨wo.heap.size+1+1,0,none⟩=some (.int .i64 la)∧RInv b off cs wo.heap.size c n la W) (by kernel_rfl) ?_ (fun hHeld => ?_)
     ·first | exact Kx.out _ hR.drew | exact Kx.out _ (hR.drew.on hbc)
     first | (refine aL ?_;(try simp only[nSO])) | ((first | refine np_n ?_ ?_ ?_ | refine np_t 0 ?_ ?_ ?_);rotate_left 1;(· (intro w hSw;(try dsimp only at hSw);go_simp;all_goals with_reducible rfl));(try simp only[nSO]))
     first | (refine np_s 1 ?_;(try simp only[nSO])) | (refine aD (i:=1) rfl (by kernel_rfl) (fun K hK => ?_);rw[if_pos (by rfl)];go_simp;(first | (go_at_call 129;refine (fc _).mono ?_;rintro e w1 ⟨rfl,hbc⟩));(try go_wp2_with fail);refine hK.out _ _ ?_ (fun hHeld => ?_);(· (first | exact Kx.out _ hR.drew | exact Kx.out _ (hR.drew.on hbc)));clear hK K;(try simp only[nSO]))
     iterate 31 (first | (refine aL ?_;(try simp only[nSO])) | (refine np_n ?_ ?_ ?_;rotate_left 1;(· (intro w hSw;(try dsimp only at hSw);go_simp;all_goals with_reducible rfl));(try simp only[nSO])))
     first | (refine np_s 33 ?_;(try simp only[nSO])) | (refine aD (i:=33) rfl (by kernel_rfl) (fun K hK => ?_);rw[if_pos (by rfl)];go_simp;(first | (go_at_call 129;refine (fc _).mono ?_;rintro e w1 ⟨rfl,hbc⟩));(try go_wp2_with fail);refine hK.out _ _ ?_ (fun hHeld => ?_);(· (first | exact Kx.out _ hR.drew | exact Kx.out _ (hR.drew.on hbc)));clear hK K;(try simp only[nSO]))
     iterate 3 (first | (refine aL ?_;(try simp only[nSO])) | (refine np_n ?_ ?_ ?_;rotate_left 1;(· (intro w hSw;(try dsimp only at hSw);go_simp;all_goals with_reducible rfl));(try simp only[nSO])))
     refine wpAnyH_done (by kernel_rfl) ?_ _
     refine NoPanic.normal ?_
     have hbt:Below W.heap.size W w1:=(Below.refl W.heap.size W).drew.trans hbc
     have hB5:=hBw.trans (hbt.mono hBw.size)
     have hM5:=hM2.below hbt
     go_wp2
     refine gQ _ _ hM5 (fun w' hw'=>⟨.tuple #[.int .i64 k,.int .i64 22],by simp[results,Tryz.f75,go_sem],oD ?_ ?_,hB5.trans hw'⟩)
     all_goals rw[lQ hlt Hg.out Hbad.out]
    | true =>
     by_cases hk0:k=0
     ·have hd0:decide (0<k)=false:=by simp[hk0]
      have hla:decide (0≤la)=false:=by rw[← Hlv.out,hk0];rfl
      have hlast:lastOf c.thread (cs.take k)=none:=by rw[hk0];rfl
      have hprev:(cs.take k).getLast? = none:=by rw[hk0];rfl
      have Hlast:=Lib.hid hlast
      have Hprev:=Lib.hid hprev
      clear hk0 hlast hprev
      by_cases hix:c.index=(n:Int)
      ·have he:(c.index == (n:Int))=true:=by simpa using hix
       have hne:(c.index != (n:Int))=false:=by simpa using hix
       have hpre:∀ b,((cs.take k).all fun d => !kU c d)=b→okAt cs k=b:=by
        rintro _ rfl
        rw[Hacc.out];unfold accB;rw[Hfv.out,Hlast.out,Hprev.out,Hnv.out];simp[hix]
       have Hpre:=Lib.hid hpre
       clear hix hpre
       go_wp2
       refine wp_region_noPanic ?_
       refine wp_region_held_drew (S:=fun W=>(gX (.pointer (some ⟨wo.heap.size,0,none⟩))).run Tryz.prog W = .ok (.agg (aB c).toArray) W∧W.cell? ⟨wo.heap.size,9,none⟩=some (.int .i64 c.invoked)∧W.cell? ⟨wo.heap.size,1,none⟩=some (.int .i64 c.index)∧W.cell? ⟨wo.heap.size+1,0,none⟩=some (.int .i64 n)∧W.cell? ⟨wo.heap.size+1+1,0,none⟩=some (.int .i64 la)∧RInv b off cs wo.heap.size c n la W) (by kernel_rfl) ?_ (fun hHeld => ?_)
       ·first | exact Kx.out _ hR.drew | exact Kx.out _ (hR.drew.on hbc)
       first | (refine aL ?_;(try simp only[nSO])) | ((first | refine np_n ?_ ?_ ?_ | refine np_t 0 ?_ ?_ ?_);rotate_left 1;(· (intro w hSw;(try dsimp only at hSw);go_simp;all_goals with_reducible rfl));(try simp only[nSO]))
       first | (refine np_s 1 ?_;(try simp only[nSO])) | (refine aD (i:=1) rfl (by kernel_rfl) (fun K hK => ?_);rw[if_pos (by rfl)];go_simp;(first | (go_at_call 129;refine (fc _).mono ?_;rintro e w1 ⟨rfl,hbc⟩));(try go_wp2_with fail);refine hK.out _ _ ?_ (fun hHeld => ?_);(· (first | exact Kx.out _ hR.drew | exact Kx.out _ (hR.drew.on hbc)));clear hK K;(try simp only[nSO]))
       iterate 31 (first | (refine aL ?_;(try simp only[nSO])) | (refine np_n ?_ ?_ ?_;rotate_left 1;(· (intro w hSw;(try dsimp only at hSw);go_simp;all_goals with_reducible rfl));(try simp only[nSO])))
       first | (refine np_s 33 ?_;(try simp only[nSO])) | (refine aD (i:=33) rfl (by kernel_rfl) (fun K hK => ?_);rw[if_pos (by rfl)];go_simp;(first | (go_at_call 129;refine (fc _).mono ?_;rintro e w1 ⟨rfl,hbc⟩));(try go_wp2_with fail);refine hK.out _ _ ?_ (fun hHeld => ?_);(· (first | exact Kx.out _ hR.drew | exact Kx.out _ (hR.drew.on hbc)));clear hK K;(try simp only[nSO]))
       iterate 3 (first | (refine aL ?_;(try simp only[nSO])) | (refine np_n ?_ ?_ ?_;rotate_left 1;(· (intro w hSw;(try dsimp only at hSw);go_simp;all_goals with_reducible rfl));(try simp only[nSO])))
       refine wpAnyH_done (by kernel_rfl) ?_ _
       refine NoPanic.normal ?_
       have hbt:Below W.heap.size W w1:=(Below.refl W.heap.size W).drew.trans hbc
       have hB5:=hBw.trans (hbt.mono hBw.size)
       have hM5:=hM2.below hbt
       have hR5:=hR.on hbt
       clear hB hBw hM2 hR q1 q2 q3 q4 q5 hbc hbt
       go_wp2
       go_loopw [70] (fun i W=>ClR w b off cs wo.heap.size c n la k ({ target := .collected D,args := #[] }::ds) i W) (fun i W=>k-(intOf i).toNat)
       case atStart=>exact⟨0,rfl,by omega,by intro m d hm;omega,hR5,hM5,hB5⟩
       case round =>
        clear hB5 hM5 hR5
        obtain⟨j,rfl,hj,hcl,hR5,hM5,hB5⟩:=hrel
        have Hcl:=Lib.hid hcl
        clear hcl
        by_cases hjk:j<k
        ·obtain⟨d,hd⟩:∃ d,cs[j]? = some d:=⟨_,List.getElem?_eq_getElem (by omega)⟩
         have hldd:=hR5.row.load hd
         have hl5:=oJ c (nP hR5.blk (.cells (aB d).toArray 56))
         have cl:=fun W=>xO c d W
         generalize hx:kU c d=x at cl
         have Hx:=Lib.hid hx
         have Hd:=Lib.hid hd
         have hBa:Below wr.heap.size wr (wr.alloc (.cells (aB d).toArray 56)):=(Below.refl _ _).alloc (Nat.le_refl _) _
         clear hx hd
         cases x with
         | true =>
          have hbad:okAt cs k=false:=(Hpre.out _ (sP hjk Hd.out Hx.out))
          have Hbad:=Lib.hid hbad
          clear hbad
          go_wp2_with fail
          refine (cl _).mono ?_
          rintro e W3 ⟨rfl,hb3⟩
          have hB6:=hB5.trans ((hBa.trans (hb3.mono (by simp))).mono hB5.size)
          have hM6:=hM5.below (hBa.trans (hb3.mono (by simp)))
          go_wp2
          refine gQ _ _ hM6 (fun w' hw'=>⟨.tuple #[.int .i64 k,.int .i64 22],by simp[results,Tryz.f75,go_sem],oD ?_ ?_,hB6.trans hw'⟩)
          all_goals rw[lQ hlt Hg.out Hbad.out]
         | false =>
          go_wp2_with fail
          refine (cl _).mono ?_
          rintro e W3 ⟨rfl,hb3⟩
          have hb6:=hBa.trans (hb3.mono (by simp))
          have hB6:=hB5.trans (hb6.mono hB5.size)
          have hM6:=hM5.below hb6
          have hR6:=hR5.on hb6
          go_wp2
          go_roundw
          case rel=>exact⟨j+1,by go_num,by omega,by
           intro m d' hm hd'
           by_cases e:m=j
           ·subst e
            rw[Hd.out] at hd'
            cases hd'
            exact Hx.out
           ·exact Hcl.out m d' (by omega) hd',hR6,hM6,hB6⟩
          case measure=>simp[intOf];omega
        ·have hjj:j=k:=by omega
         have hgd:okAt cs k=true:=Hpre.out _ (zD (fun m d hm=>Hcl.out m d (by omega)))
         have Hgd:=Lib.hid hgd
         have Hjj:=Lib.hid hjj
         clear hgd hjj
         go_wp2
         refine⟨ChkI.intro (k+1) _ rfl (by omega) (fun i hi => ?_) hM5 hB5,?_⟩
         ·by_cases e:i=k
          ·rw[e];exact Hgd.out
          ·exact Hg.out i (by omega)
         ·simp[intOf];omega
      ·have he:(c.index == (n:Int))=false:=by simpa using hix
       have hne:(c.index != (n:Int))=true:=by simpa using hix
       have hbad:okAt cs k=false:=by rw[Hacc.out];unfold accB;rw[Hnv.out];simp[hix]
       have Hbad:=Lib.hid hbad
       clear hix hbad
       go_wp2
       refine wp_region_noPanic ?_
       refine wp_region_held_drew (S:=fun W=>(gX (.pointer (some ⟨wo.heap.size,0,none⟩))).run Tryz.prog W = .ok (.agg (aB c).toArray) W∧W.cell? ⟨wo.heap.size,9,none⟩=some (.int .i64 c.invoked)∧W.cell? ⟨wo.heap.size,1,none⟩=some (.int .i64 c.index)∧W.cell? ⟨wo.heap.size+1,0,none⟩=some (.int .i64 n)∧W.cell? ⟨wo.heap.size+1+1,0,none⟩=some (.int .i64 la)∧RInv b off cs wo.heap.size c n la W) (by kernel_rfl) ?_ (fun hHeld => ?_)
       ·first | exact Kx.out _ hR.drew | exact Kx.out _ (hR.drew.on hbc)
       first | (refine aL ?_;(try simp only[nSO])) | ((first | refine np_n ?_ ?_ ?_ | refine np_t 0 ?_ ?_ ?_);rotate_left 1;(· (intro w hSw;(try dsimp only at hSw);go_simp;all_goals with_reducible rfl));(try simp only[nSO]))
       first | (refine np_s 1 ?_;(try simp only[nSO])) | (refine aD (i:=1) rfl (by kernel_rfl) (fun K hK => ?_);rw[if_pos (by rfl)];go_simp;(first | (go_at_call 129;refine (fc _).mono ?_;rintro e w1 ⟨rfl,hbc⟩));(try go_wp2_with fail);refine hK.out _ _ ?_ (fun hHeld => ?_);(· (first | exact Kx.out _ hR.drew | exact Kx.out _ (hR.drew.on hbc)));clear hK K;(try simp only[nSO]))
       iterate 31 (first | (refine aL ?_;(try simp only[nSO])) | (refine np_n ?_ ?_ ?_;rotate_left 1;(· (intro w hSw;(try dsimp only at hSw);go_simp;all_goals with_reducible rfl));(try simp only[nSO])))
       first | (refine np_s 33 ?_;(try simp only[nSO])) | (refine aD (i:=33) rfl (by kernel_rfl) (fun K hK => ?_);rw[if_pos (by rfl)];go_simp;(first | (go_at_call 129;refine (fc _).mono ?_;rintro e w1 ⟨rfl,hbc⟩));(try go_wp2_with fail);refine hK.out _ _ ?_ (fun hHeld => ?_);(· (first | exact Kx.out _ hR.drew | exact Kx.out _ (hR.drew.on hbc)));clear hK K;(try simp only[nSO]))
       iterate 3 (first | (refine aL ?_;(try simp only[nSO])) | (refine np_n ?_ ?_ ?_;rotate_left 1;(· (intro w hSw;(try dsimp only at hSw);go_simp;all_goals with_reducible rfl));(try simp only[nSO])))
       refine wpAnyH_done (by kernel_rfl) ?_ _
       refine NoPanic.normal ?_
       have hbt:Below W.heap.size W w1:=(Below.refl W.heap.size W).drew.trans hbc
       have hB5:=hBw.trans (hbt.mono hBw.size)
       have hM5:=hM2.below hbt
       go_wp2
       refine gQ _ _ hM5 (fun w' hw'=>⟨.tuple #[.int .i64 k,.int .i64 22],by simp[results,Tryz.f75,go_sem],oD ?_ ?_,hB5.trans hw'⟩)
       all_goals rw[lQ hlt Hg.out Hbad.out]
     ·obtain⟨p,hp⟩:∃ p,cs[k-1]? = some p:=⟨_,List.getElem?_eq_getElem (by omega)⟩
      have hd0:decide (0<k)=true:=by simp;omega
      have hprev:(cs.take k).getLast? = some p:=(aJ0 cs (by omega) hk).trans hp
      have hk1:(0:Int)≤(k:Int)-1:=by omega
      have hk3:(1:Int)≤(k:Int):=by omega
      have hk2:(k:Int)-1<cs.length:=by omega
      have hw1:IntKind.i64.wrap ((k:Int)-1)=(k:Int)-1:=IntWalk.i64_in _ (by omega)
      have q9:∀ W,RInv b off cs wo.heap.size c n la W→W.cell? ⟨b,off+(k-1)*27+9,none⟩=some (.int .i64 p.invoked):=fun W h=>h.row.cell hp 9 (by omega)
      have Q9:=Lib.hid q9
      have Hprev:=Lib.hid hprev
      have Hp:=Lib.hid hp
      clear hprev hp q9
      by_cases hinv:p.invoked<c.invoked
      ·have hle:decide (c.invoked≤p.invoked)=false:=by simp;omega
       by_cases hix:c.index=(n:Int)
       ·have he:(c.index == (n:Int))=true:=by simpa using hix
        have hne:(c.index != (n:Int))=false:=by simpa using hix
        cases hT:(jB c.thread (cs.take k) 0).getLast? with
        | none =>
         have hla:decide (0≤la)=false:=by rw[← Hlv.out];unfold qL;rw[hT];rfl
         have hlast:lastOf c.thread (cs.take k)=none:=by unfold lastOf;rw[hT];rfl
         have hpre:∀ b,((cs.take k).all fun d => !kU c d)=b→okAt cs k=b:=by
          rintro _ rfl
          rw[Hacc.out];unfold accB;rw[Hfv.out,hlast,Hprev.out,Hnv.out];simp[hix,hinv]
         have Hpre:=Lib.hid hpre
         clear hix hpre hT hlast hinv
         go_wp2
         refine wp_region_noPanic ?_
         refine wp_region_held_drew (S:=fun W=>(gX (.pointer (some ⟨wo.heap.size,0,none⟩))).run Tryz.prog W = .ok (.agg (aB c).toArray) W∧W.cell? ⟨wo.heap.size,9,none⟩=some (.int .i64 c.invoked)∧W.cell? ⟨wo.heap.size,1,none⟩=some (.int .i64 c.index)∧W.cell? ⟨wo.heap.size+1,0,none⟩=some (.int .i64 n)∧W.cell? ⟨wo.heap.size+1+1,0,none⟩=some (.int .i64 la)∧W.cell? ⟨b,off+(k-1)*27+9,none⟩=some (.int .i64 p.invoked)∧RInv b off cs wo.heap.size c n la W) (by kernel_rfl) ?_ (fun hHeld => ?_)
         ·first | exact⟨(Kx.out _ hR.drew).1,(Kx.out _ hR.drew).2.1,(Kx.out _ hR.drew).2.2.1,(Kx.out _ hR.drew).2.2.2.1,(Kx.out _ hR.drew).2.2.2.2.1,Q9.out _ hR.drew,hR.drew⟩ | exact⟨(Kx.out _ (hR.drew.on hbc)).1,(Kx.out _ (hR.drew.on hbc)).2.1,(Kx.out _ (hR.drew.on hbc)).2.2.1,(Kx.out _ (hR.drew.on hbc)).2.2.2.1,(Kx.out _ (hR.drew.on hbc)).2.2.2.2.1,Q9.out _ (hR.drew.on hbc),hR.drew.on hbc⟩
         first | (refine aL ?_;(try simp only[nSO])) | ((first | refine np_n ?_ ?_ ?_ | refine np_t 0 ?_ ?_ ?_);rotate_left 1;(· (intro w hSw;(try dsimp only at hSw);go_simp;all_goals with_reducible rfl));(try simp only[nSO]))
         first | (refine np_s 1 ?_;(try simp only[nSO])) | (refine aD (i:=1) rfl (by kernel_rfl) (fun K hK => ?_);rw[if_pos (by rfl)];go_simp;(first | (go_at_call 129;refine (fc _).mono ?_;rintro e w1 ⟨rfl,hbc⟩));(try go_wp2_with fail);refine hK.out _ _ ?_ (fun hHeld => ?_);(· (first | exact⟨(Kx.out _ hR.drew).1,(Kx.out _ hR.drew).2.1,(Kx.out _ hR.drew).2.2.1,(Kx.out _ hR.drew).2.2.2.1,(Kx.out _ hR.drew).2.2.2.2.1,Q9.out _ hR.drew,hR.drew⟩ | exact⟨(Kx.out _ (hR.drew.on hbc)).1,(Kx.out _ (hR.drew.on hbc)).2.1,(Kx.out _ (hR.drew.on hbc)).2.2.1,(Kx.out _ (hR.drew.on hbc)).2.2.2.1,(Kx.out _ (hR.drew.on hbc)).2.2.2.2.1,Q9.out _ (hR.drew.on hbc),hR.drew.on hbc⟩));clear hK K;(try simp only[nSO]))
         iterate 31 (first | (refine aL ?_;(try simp only[nSO])) | (refine np_n ?_ ?_ ?_;rotate_left 1;(· (intro w hSw;(try dsimp only at hSw);go_simp;all_goals with_reducible rfl));(try simp only[nSO])))
         first | (refine np_s 33 ?_;(try simp only[nSO])) | (refine aD (i:=33) rfl (by kernel_rfl) (fun K hK => ?_);rw[if_pos (by rfl)];go_simp;(first | (go_at_call 129;refine (fc _).mono ?_;rintro e w1 ⟨rfl,hbc⟩));(try go_wp2_with fail);refine hK.out _ _ ?_ (fun hHeld => ?_);(· (first | exact⟨(Kx.out _ hR.drew).1,(Kx.out _ hR.drew).2.1,(Kx.out _ hR.drew).2.2.1,(Kx.out _ hR.drew).2.2.2.1,(Kx.out _ hR.drew).2.2.2.2.1,Q9.out _ hR.drew,hR.drew⟩ | exact⟨(Kx.out _ (hR.drew.on hbc)).1,(Kx.out _ (hR.drew.on hbc)).2.1,(Kx.out _ (hR.drew.on hbc)).2.2.1,(Kx.out _ (hR.drew.on hbc)).2.2.2.1,(Kx.out _ (hR.drew.on hbc)).2.2.2.2.1,Q9.out _ (hR.drew.on hbc),hR.drew.on hbc⟩));clear hK K;(try simp only[nSO]))
         iterate 3 (first | (refine aL ?_;(try simp only[nSO])) | (refine np_n ?_ ?_ ?_;rotate_left 1;(· (intro w hSw;(try dsimp only at hSw);go_simp;all_goals with_reducible rfl));(try simp only[nSO])))
         refine wpAnyH_done (by kernel_rfl) ?_ _
         refine NoPanic.normal ?_
         have hbt:Below W.heap.size W w1:=(Below.refl W.heap.size W).drew.trans hbc
         have hB5:=hBw.trans (hbt.mono hBw.size)
         have hM5:=hM2.below hbt
         have hR5:=hR.on hbt
         clear hB hBw hM2 hR q1 q2 q3 q4 q5 hbc hbt
         go_wp2
         go_loopw [70] (fun i W=>ClR w b off cs wo.heap.size c n la k ({ target := .collected D,args := #[] }::ds) i W) (fun i W=>k-(intOf i).toNat)
         case atStart=>exact⟨0,rfl,by omega,by intro m d hm;omega,hR5,hM5,hB5⟩
         case round =>
          clear hB5 hM5 hR5
          obtain⟨j,rfl,hj,hcl,hR5,hM5,hB5⟩:=hrel
          have Hcl:=Lib.hid hcl
          clear hcl
          by_cases hjk:j<k
          ·obtain⟨d,hd⟩:∃ d,cs[j]? = some d:=⟨_,List.getElem?_eq_getElem (by omega)⟩
           have hldd:=hR5.row.load hd
           have hl5:=oJ c (nP hR5.blk (.cells (aB d).toArray 56))
           have cl:=fun W=>xO c d W
           generalize hx:kU c d=x at cl
           have Hx:=Lib.hid hx
           have Hd:=Lib.hid hd
           have hBa:Below wr.heap.size wr (wr.alloc (.cells (aB d).toArray 56)):=(Below.refl _ _).alloc (Nat.le_refl _) _
           clear hx hd
           cases x with
           | true =>
            have hbad:okAt cs k=false:=(Hpre.out _ (sP hjk Hd.out Hx.out))
            have Hbad:=Lib.hid hbad
            clear hbad
            go_wp2_with fail
            refine (cl _).mono ?_
            rintro e W3 ⟨rfl,hb3⟩
            have hB6:=hB5.trans ((hBa.trans (hb3.mono (by simp))).mono hB5.size)
            have hM6:=hM5.below (hBa.trans (hb3.mono (by simp)))
            go_wp2
            refine gQ _ _ hM6 (fun w' hw'=>⟨.tuple #[.int .i64 k,.int .i64 22],by simp[results,Tryz.f75,go_sem],oD ?_ ?_,hB6.trans hw'⟩)
            all_goals rw[lQ hlt Hg.out Hbad.out]
           | false =>
            go_wp2_with fail
            refine (cl _).mono ?_
            rintro e W3 ⟨rfl,hb3⟩
            have hb6:=hBa.trans (hb3.mono (by simp))
            have hB6:=hB5.trans (hb6.mono hB5.size)
            have hM6:=hM5.below hb6
            have hR6:=hR5.on hb6
            go_wp2
            go_roundw
            case rel=>exact⟨j+1,by go_num,by omega,by
             intro m d' hm hd'
             by_cases e:m=j
             ·subst e
              rw[Hd.out] at hd'
              cases hd'
              exact Hx.out
             ·exact Hcl.out m d' (by omega) hd',hR6,hM6,hB6⟩
            case measure=>simp[intOf];omega
          ·have hjj:j=k:=by omega
           have hgd:okAt cs k=true:=Hpre.out _ (zD (fun m d hm=>Hcl.out m d (by omega)))
           have Hgd:=Lib.hid hgd
           have Hjj:=Lib.hid hjj
           clear hgd hjj
           go_wp2
           refine⟨ChkI.intro (k+1) _ rfl (by omega) (fun i hi => ?_) hM5 hB5,?_⟩
           ·by_cases e:i=k
            ·rw[e];exact Hgd.out
            ·exact Hg.out i (by omega)
           ·simp[intOf];omega
        | some i =>
         have hlt2:=vI (List.mem_of_getLast? hT)
         rw[List.length_take,Nat.min_eq_left hk] at hlt2
         have hlai:la=(i:Int):=by rw[← Hlv.out];unfold qL;rw[hT]
         have hla:decide (0≤la)=true:=by simp;omega
         have hl1:0≤la:=by omega
         have hl2:la<cs.length:=by omega
         obtain⟨d,hd⟩:∃ d,cs[i]? = some d:=⟨_,List.getElem?_eq_getElem (by omega)⟩
         have hlast:lastOf c.thread (cs.take k)=some d:=by
          unfold lastOf
          rw[hT,Option.bind_some,List.getElem?_take_of_lt (by omega),hd]
         have ks:∀ W,RInv b off cs wo.heap.size c n la W→(gX (.pointer (some ⟨wo.heap.size,0,none⟩))).run Tryz.prog W = .ok (.agg (aB c).toArray) W∧W.cell? ⟨wo.heap.size,9,none⟩=some (.int .i64 c.invoked)∧W.cell? ⟨wo.heap.size,1,none⟩=some (.int .i64 c.index)∧W.cell? ⟨wo.heap.size+1,0,none⟩=some (.int .i64 n)∧W.cell? ⟨wo.heap.size+1+1,0,none⟩=some (.int .i64 la)∧W.cell? ⟨b,off+(k-1)*27+9,none⟩=some (.int .i64 p.invoked)∧(gX (.pointer (some ⟨b,off+la.toNat*27,none⟩))).run Tryz.prog W = .ok (.agg (aB d).toArray) W∧RInv b off cs wo.heap.size c n la W:=fun W h =>
          ⟨(Kx.out _ h).1,(Kx.out _ h).2.1,(Kx.out _ h).2.2.1,(Kx.out _ h).2.2.2.1,(Kx.out _ h).2.2.2.2.1,Q9.out _ h,h.row.load (k:=la.toNat) (by rw[hlai];exact hd),h⟩
         have Ks:=Lib.hid ks
         have bc:=fun W=>aIp d c W
         generalize hx:befB d c=x at bc
         have Hx:=Lib.hid hx
         clear ks hT hlai hd hx hlt2
         cases x with
         | true =>
          have hpre:∀ b,((cs.take k).all fun d => !kU c d)=b→okAt cs k=b:=by
           rintro _ rfl
           rw[Hacc.out];unfold accB;rw[Hfv.out,hlast,Hprev.out,Hnv.out];simp[hix,hinv,Hx.out]
          have Hpre:=Lib.hid hpre
          clear hix hpre hlast hinv
          go_wp2
          refine wp_region_noPanic ?_
          refine wp_region_held_drew (S:=fun W=>(gX (.pointer (some ⟨wo.heap.size,0,none⟩))).run Tryz.prog W = .ok (.agg (aB c).toArray) W∧W.cell? ⟨wo.heap.size,9,none⟩=some (.int .i64 c.invoked)∧W.cell? ⟨wo.heap.size,1,none⟩=some (.int .i64 c.index)∧W.cell? ⟨wo.heap.size+1,0,none⟩=some (.int .i64 n)∧W.cell? ⟨wo.heap.size+1+1,0,none⟩=some (.int .i64 la)∧W.cell? ⟨b,off+(k-1)*27+9,none⟩=some (.int .i64 p.invoked)∧(gX (.pointer (some ⟨b,off+la.toNat*27,none⟩))).run Tryz.prog W = .ok (.agg (aB d).toArray) W∧RInv b off cs wo.heap.size c n la W) (by kernel_rfl) ?_ (fun hHeld => ?_)
          ·first | exact Ks.out _ hR.drew | exact Ks.out _ (hR.drew.on hbc) | exact Ks.out _ ((hR.drew.on hbc).on hbd)
          first | (refine aL ?_;(try simp only[nSO])) | ((first | refine np_n ?_ ?_ ?_ | refine np_t 0 ?_ ?_ ?_);rotate_left 1;(· (intro w hSw;(try dsimp only at hSw);go_simp;all_goals with_reducible rfl));(try simp only[nSO]))
          first | (refine np_s 1 ?_;(try simp only[nSO])) | (refine aD (i:=1) rfl (by kernel_rfl) (fun K hK => ?_);rw[if_pos (by rfl)];go_simp;(first | (go_at_call 129;refine (fc _).mono ?_;rintro e w1 ⟨rfl,hbc⟩) | (go_at_call 106;refine (bc _).mono ?_;rintro e w2 ⟨rfl,hbd⟩));(try go_wp2_with fail);refine hK.out _ _ ?_ (fun hHeld => ?_);(· (first | exact Ks.out _ hR.drew | exact Ks.out _ (hR.drew.on hbc) | exact Ks.out _ ((hR.drew.on hbc).on hbd)));clear hK K;(try simp only[nSO]))
          iterate 31 (first | (refine aL ?_;(try simp only[nSO])) | (refine np_n ?_ ?_ ?_;rotate_left 1;(· (intro w hSw;(try dsimp only at hSw);go_simp;all_goals with_reducible rfl));(try simp only[nSO])))
          first | (refine np_s 33 ?_;(try simp only[nSO])) | (refine aD (i:=33) rfl (by kernel_rfl) (fun K hK => ?_);rw[if_pos (by rfl)];go_simp;(first | (go_at_call 129;refine (fc _).mono ?_;rintro e w1 ⟨rfl,hbc⟩) | (go_at_call 106;refine (bc _).mono ?_;rintro e w2 ⟨rfl,hbd⟩));(try go_wp2_with fail);refine hK.out _ _ ?_ (fun hHeld => ?_);(· (first | exact Ks.out _ hR.drew | exact Ks.out _ (hR.drew.on hbc) | exact Ks.out _ ((hR.drew.on hbc).on hbd)));clear hK K;(try simp only[nSO]))
          iterate 3 (first | (refine aL ?_;(try simp only[nSO])) | (refine np_n ?_ ?_ ?_;rotate_left 1;(· (intro w hSw;(try dsimp only at hSw);go_simp;all_goals with_reducible rfl));(try simp only[nSO])))
          refine wpAnyH_done (by kernel_rfl) ?_ _
          refine NoPanic.normal ?_
          have hbt:Below W.heap.size W w2:=((Below.refl W.heap.size W).drew.trans hbc).trans (hbd.mono hbc.size)
          clear hbd
          have hB5:=hBw.trans (hbt.mono hBw.size)
          have hM5:=hM2.below hbt
          have hR5:=hR.on hbt
          clear hB hBw hM2 hR q1 q2 q3 q4 q5 hbc hbt
          go_wp2
          go_loopw [70] (fun i W=>ClR w b off cs wo.heap.size c n la k ({ target := .collected D,args := #[] }::ds) i W) (fun i W=>k-(intOf i).toNat)
          case atStart=>exact⟨0,rfl,by omega,by intro m d hm;omega,hR5,hM5,hB5⟩
          case round =>
           clear hB5 hM5 hR5
           obtain⟨j,rfl,hj,hcl,hR5,hM5,hB5⟩:=hrel
           have Hcl:=Lib.hid hcl
           clear hcl
           by_cases hjk:j<k
           ·obtain⟨d,hd⟩:∃ d,cs[j]? = some d:=⟨_,List.getElem?_eq_getElem (by omega)⟩
            have hldd:=hR5.row.load hd
            have hl5:=oJ c (nP hR5.blk (.cells (aB d).toArray 56))
            have cl:=fun W=>xO c d W
            generalize hx:kU c d=x at cl
            have Hx:=Lib.hid hx
            have Hd:=Lib.hid hd
            have hBa:Below wr.heap.size wr (wr.alloc (.cells (aB d).toArray 56)):=(Below.refl _ _).alloc (Nat.le_refl _) _
            clear hx hd
            cases x with
            | true =>
             have hbad:okAt cs k=false:=(Hpre.out _ (sP hjk Hd.out Hx.out))
             have Hbad:=Lib.hid hbad
             clear hbad
             go_wp2_with fail
             refine (cl _).mono ?_
             rintro e W3 ⟨rfl,hb3⟩
             have hB6:=hB5.trans ((hBa.trans (hb3.mono (by simp))).mono hB5.size)
             have hM6:=hM5.below (hBa.trans (hb3.mono (by simp)))
             go_wp2
             refine gQ _ _ hM6 (fun w' hw'=>⟨.tuple #[.int .i64 k,.int .i64 22],by simp[results,Tryz.f75,go_sem],oD ?_ ?_,hB6.trans hw'⟩)
             all_goals rw[lQ hlt Hg.out Hbad.out]
            | false =>
             go_wp2_with fail
             refine (cl _).mono ?_
             rintro e W3 ⟨rfl,hb3⟩
             have hb6:=hBa.trans (hb3.mono (by simp))
             have hB6:=hB5.trans (hb6.mono hB5.size)
             have hM6:=hM5.below hb6
             have hR6:=hR5.on hb6
             go_wp2
             go_roundw
             case rel=>exact⟨j+1,by go_num,by omega,by
              intro m d' hm hd'
              by_cases e:m=j
              ·subst e
               rw[Hd.out] at hd'
               cases hd'
               exact Hx.out
              ·exact Hcl.out m d' (by omega) hd',hR6,hM6,hB6⟩
             case measure=>simp[intOf];omega
           ·have hjj:j=k:=by omega
            have hgd:okAt cs k=true:=Hpre.out _ (zD (fun m d hm=>Hcl.out m d (by omega)))
            have Hgd:=Lib.hid hgd
            have Hjj:=Lib.hid hjj
            clear hgd hjj
            go_wp2
            refine⟨ChkI.intro (k+1) _ rfl (by omega) (fun i hi => ?_) hM5 hB5,?_⟩
            ·by_cases e:i=k
             ·rw[e];exact Hgd.out
             ·exact Hg.out i (by omega)
            ·simp[intOf];omega
         | false =>
          have hbad:okAt cs k=false:=by rw[Hacc.out];unfold accB;rw[hlast];simp[Hx.out]
          have Hbad:=Lib.hid hbad
          clear hix hbad hlast hinv
          go_wp2
          refine wp_region_noPanic ?_
          refine wp_region_held_drew (S:=fun W=>(gX (.pointer (some ⟨wo.heap.size,0,none⟩))).run Tryz.prog W = .ok (.agg (aB c).toArray) W∧W.cell? ⟨wo.heap.size,9,none⟩=some (.int .i64 c.invoked)∧W.cell? ⟨wo.heap.size,1,none⟩=some (.int .i64 c.index)∧W.cell? ⟨wo.heap.size+1,0,none⟩=some (.int .i64 n)∧W.cell? ⟨wo.heap.size+1+1,0,none⟩=some (.int .i64 la)∧W.cell? ⟨b,off+(k-1)*27+9,none⟩=some (.int .i64 p.invoked)∧(gX (.pointer (some ⟨b,off+la.toNat*27,none⟩))).run Tryz.prog W = .ok (.agg (aB d).toArray) W∧RInv b off cs wo.heap.size c n la W) (by kernel_rfl) ?_ (fun hHeld => ?_)
          ·first | exact Ks.out _ hR.drew | exact Ks.out _ (hR.drew.on hbc) | exact Ks.out _ ((hR.drew.on hbc).on hbd)
          first | (refine aL ?_;(try simp only[nSO])) | ((first | refine np_n ?_ ?_ ?_ | refine np_t 0 ?_ ?_ ?_);rotate_left 1;(· (intro w hSw;(try dsimp only at hSw);go_simp;all_goals with_reducible rfl));(try simp only[nSO]))
          first | (refine np_s 1 ?_;(try simp only[nSO])) | (refine aD (i:=1) rfl (by kernel_rfl) (fun K hK => ?_);rw[if_pos (by rfl)];go_simp;(first | (go_at_call 129;refine (fc _).mono ?_;rintro e w1 ⟨rfl,hbc⟩) | (go_at_call 106;refine (bc _).mono ?_;rintro e w2 ⟨rfl,hbd⟩));(try go_wp2_with fail);refine hK.out _ _ ?_ (fun hHeld => ?_);(· (first | exact Ks.out _ hR.drew | exact Ks.out _ (hR.drew.on hbc) | exact Ks.out _ ((hR.drew.on hbc).on hbd)));clear hK K;(try simp only[nSO]))
          iterate 31 (first | (refine aL ?_;(try simp only[nSO])) | (refine np_n ?_ ?_ ?_;rotate_left 1;(· (intro w hSw;(try dsimp only at hSw);go_simp;all_goals with_reducible rfl));(try simp only[nSO])))
          first | (refine np_s 33 ?_;(try simp only[nSO])) | (refine aD (i:=33) rfl (by kernel_rfl) (fun K hK => ?_);rw[if_pos (by rfl)];go_simp;(first | (go_at_call 129;refine (fc _).mono ?_;rintro e w1 ⟨rfl,hbc⟩) | (go_at_call 106;refine (bc _).mono ?_;rintro e w2 ⟨rfl,hbd⟩));(try go_wp2_with fail);refine hK.out _ _ ?_ (fun hHeld => ?_);(· (first | exact Ks.out _ hR.drew | exact Ks.out _ (hR.drew.on hbc) | exact Ks.out _ ((hR.drew.on hbc).on hbd)));clear hK K;(try simp only[nSO]))
          iterate 3 (first | (refine aL ?_;(try simp only[nSO])) | (refine np_n ?_ ?_ ?_;rotate_left 1;(· (intro w hSw;(try dsimp only at hSw);go_simp;all_goals with_reducible rfl));(try simp only[nSO])))
          refine wpAnyH_done (by kernel_rfl) ?_ _
          refine NoPanic.normal ?_
          have hbt:Below W.heap.size W w2:=((Below.refl W.heap.size W).drew.trans hbc).trans (hbd.mono hbc.size)
          have hB5:=hBw.trans (hbt.mono hBw.size)
          have hM5:=hM2.below hbt
          go_wp2
          refine gQ _ _ hM5 (fun w' hw'=>⟨.tuple #[.int .i64 k,.int .i64 22],by simp[results,Tryz.f75,go_sem],oD ?_ ?_,hB5.trans hw'⟩)
          all_goals rw[lQ hlt Hg.out Hbad.out]
       ·have he:(c.index == (n:Int))=false:=by simpa using hix
        have hne:(c.index != (n:Int))=true:=by simpa using hix
        have hbad:okAt cs k=false:=by rw[Hacc.out];unfold accB;rw[Hnv.out];simp[hix]
        have Hbad:=Lib.hid hbad
        clear hix hbad hinv
        go_wp2
        refine wp_region_noPanic ?_
        refine wp_region_held_drew (S:=fun W=>(gX (.pointer (some ⟨wo.heap.size,0,none⟩))).run Tryz.prog W = .ok (.agg (aB c).toArray) W∧W.cell? ⟨wo.heap.size,9,none⟩=some (.int .i64 c.invoked)∧W.cell? ⟨wo.heap.size,1,none⟩=some (.int .i64 c.index)∧W.cell? ⟨wo.heap.size+1,0,none⟩=some (.int .i64 n)∧W.cell? ⟨wo.heap.size+1+1,0,none⟩=some (.int .i64 la)∧W.cell? ⟨b,off+(k-1)*27+9,none⟩=some (.int .i64 p.invoked)∧RInv b off cs wo.heap.size c n la W) (by kernel_rfl) ?_ (fun hHeld => ?_)
        ·first | exact⟨(Kx.out _ hR.drew).1,(Kx.out _ hR.drew).2.1,(Kx.out _ hR.drew).2.2.1,(Kx.out _ hR.drew).2.2.2.1,(Kx.out _ hR.drew).2.2.2.2.1,Q9.out _ hR.drew,hR.drew⟩ | exact⟨(Kx.out _ (hR.drew.on hbc)).1,(Kx.out _ (hR.drew.on hbc)).2.1,(Kx.out _ (hR.drew.on hbc)).2.2.1,(Kx.out _ (hR.drew.on hbc)).2.2.2.1,(Kx.out _ (hR.drew.on hbc)).2.2.2.2.1,Q9.out _ (hR.drew.on hbc),hR.drew.on hbc⟩
        first | (refine aL ?_;(try simp only[nSO])) | ((first | refine np_n ?_ ?_ ?_ | refine np_t 0 ?_ ?_ ?_);rotate_left 1;(· (intro w hSw;(try dsimp only at hSw);go_simp;all_goals with_reducible rfl));(try simp only[nSO]))
        first | (refine np_s 1 ?_;(try simp only[nSO])) | (refine aD (i:=1) rfl (by kernel_rfl) (fun K hK => ?_);rw[if_pos (by rfl)];go_simp;(first | (go_at_call 129;refine (fc _).mono ?_;rintro e w1 ⟨rfl,hbc⟩));(try go_wp2_with fail);refine hK.out _ _ ?_ (fun hHeld => ?_);(· (first | exact⟨(Kx.out _ hR.drew).1,(Kx.out _ hR.drew).2.1,(Kx.out _ hR.drew).2.2.1,(Kx.out _ hR.drew).2.2.2.1,(Kx.out _ hR.drew).2.2.2.2.1,Q9.out _ hR.drew,hR.drew⟩ | exact⟨(Kx.out _ (hR.drew.on hbc)).1,(Kx.out _ (hR.drew.on hbc)).2.1,(Kx.out _ (hR.drew.on hbc)).2.2.1,(Kx.out _ (hR.drew.on hbc)).2.2.2.1,(Kx.out _ (hR.drew.on hbc)).2.2.2.2.1,Q9.out _ (hR.drew.on hbc),hR.drew.on hbc⟩));clear hK K;(try simp only[nSO]))
        iterate 31 (first | (refine aL ?_;(try simp only[nSO])) | (refine np_n ?_ ?_ ?_;rotate_left 1;(· (intro w hSw;(try dsimp only at hSw);go_simp;all_goals with_reducible rfl));(try simp only[nSO])))
        first | (refine np_s 33 ?_;(try simp only[nSO])) | (refine aD (i:=33) rfl (by kernel_rfl) (fun K hK => ?_);rw[if_pos (by rfl)];go_simp;(first | (go_at_call 129;refine (fc _).mono ?_;rintro e w1 ⟨rfl,hbc⟩));(try go_wp2_with fail);refine hK.out _ _ ?_ (fun hHeld => ?_);(· (first | exact⟨(Kx.out _ hR.drew).1,(Kx.out _ hR.drew).2.1,(Kx.out _ hR.drew).2.2.1,(Kx.out _ hR.drew).2.2.2.1,(Kx.out _ hR.drew).2.2.2.2.1,Q9.out _ hR.drew,hR.drew⟩ | exact⟨(Kx.out _ (hR.drew.on hbc)).1,(Kx.out _ (hR.drew.on hbc)).2.1,(Kx.out _ (hR.drew.on hbc)).2.2.1,(Kx.out _ (hR.drew.on hbc)).2.2.2.1,(Kx.out _ (hR.drew.on hbc)).2.2.2.2.1,Q9.out _ (hR.drew.on hbc),hR.drew.on hbc⟩));clear hK K;(try simp only[nSO]))
        iterate 3 (first | (refine aL ?_;(try simp only[nSO])) | (refine np_n ?_ ?_ ?_;rotate_left 1;(· (intro w hSw;(try dsimp only at hSw);go_simp;all_goals with_reducible rfl));(try simp only[nSO])))
        refine wpAnyH_done (by kernel_rfl) ?_ _
        refine NoPanic.normal ?_
        have hbt:Below W.heap.size W w1:=(Below.refl W.heap.size W).drew.trans hbc
        have hB5:=hBw.trans (hbt.mono hBw.size)
        have hM5:=hM2.below hbt
        go_wp2
        refine gQ _ _ hM5 (fun w' hw'=>⟨.tuple #[.int .i64 k,.int .i64 22],by simp[results,Tryz.f75,go_sem],oD ?_ ?_,hB5.trans hw'⟩)
        all_goals rw[lQ hlt Hg.out Hbad.out]
      ·have hle:decide (c.invoked≤p.invoked)=true:=by simp;omega
       have hbad:okAt cs k=false:=by rw[Hacc.out];unfold accB;rw[Hprev.out];simp[hinv]
       have Hbad:=Lib.hid hbad
       clear hinv hbad
       go_wp2
       refine wp_region_noPanic ?_
       refine wp_region_held_drew (S:=fun W=>(gX (.pointer (some ⟨wo.heap.size,0,none⟩))).run Tryz.prog W = .ok (.agg (aB c).toArray) W∧W.cell? ⟨wo.heap.size,9,none⟩=some (.int .i64 c.invoked)∧W.cell? ⟨wo.heap.size,1,none⟩=some (.int .i64 c.index)∧W.cell? ⟨wo.heap.size+1,0,none⟩=some (.int .i64 n)∧W.cell? ⟨wo.heap.size+1+1,0,none⟩=some (.int .i64 la)∧W.cell? ⟨b,off+(k-1)*27+9,none⟩=some (.int .i64 p.invoked)∧RInv b off cs wo.heap.size c n la W) (by kernel_rfl) ?_ (fun hHeld => ?_)
       ·first | exact⟨(Kx.out _ hR.drew).1,(Kx.out _ hR.drew).2.1,(Kx.out _ hR.drew).2.2.1,(Kx.out _ hR.drew).2.2.2.1,(Kx.out _ hR.drew).2.2.2.2.1,Q9.out _ hR.drew,hR.drew⟩ | exact⟨(Kx.out _ (hR.drew.on hbc)).1,(Kx.out _ (hR.drew.on hbc)).2.1,(Kx.out _ (hR.drew.on hbc)).2.2.1,(Kx.out _ (hR.drew.on hbc)).2.2.2.1,(Kx.out _ (hR.drew.on hbc)).2.2.2.2.1,Q9.out _ (hR.drew.on hbc),hR.drew.on hbc⟩
       first | (refine aL ?_;(try simp only[nSO])) | ((first | refine np_n ?_ ?_ ?_ | refine np_t 0 ?_ ?_ ?_);rotate_left 1;(· (intro w hSw;(try dsimp only at hSw);go_simp;all_goals with_reducible rfl));(try simp only[nSO]))
       first | (refine np_s 1 ?_;(try simp only[nSO])) | (refine aD (i:=1) rfl (by kernel_rfl) (fun K hK => ?_);rw[if_pos (by rfl)];go_simp;(first | (go_at_call 129;refine (fc _).mono ?_;rintro e w1 ⟨rfl,hbc⟩));(try go_wp2_with fail);refine hK.out _ _ ?_ (fun hHeld => ?_);(· (first | exact⟨(Kx.out _ hR.drew).1,(Kx.out _ hR.drew).2.1,(Kx.out _ hR.drew).2.2.1,(Kx.out _ hR.drew).2.2.2.1,(Kx.out _ hR.drew).2.2.2.2.1,Q9.out _ hR.drew,hR.drew⟩ | exact⟨(Kx.out _ (hR.drew.on hbc)).1,(Kx.out _ (hR.drew.on hbc)).2.1,(Kx.out _ (hR.drew.on hbc)).2.2.1,(Kx.out _ (hR.drew.on hbc)).2.2.2.1,(Kx.out _ (hR.drew.on hbc)).2.2.2.2.1,Q9.out _ (hR.drew.on hbc),hR.drew.on hbc⟩));clear hK K;(try simp only[nSO]))
       iterate 31 (first | (refine aL ?_;(try simp only[nSO])) | (refine np_n ?_ ?_ ?_;rotate_left 1;(· (intro w hSw;(try dsimp only at hSw);go_simp;all_goals with_reducible rfl));(try simp only[nSO])))
       first | (refine np_s 33 ?_;(try simp only[nSO])) | (refine aD (i:=33) rfl (by kernel_rfl) (fun K hK => ?_);rw[if_pos (by rfl)];go_simp;(first | (go_at_call 129;refine (fc _).mono ?_;rintro e w1 ⟨rfl,hbc⟩));(try go_wp2_with fail);refine hK.out _ _ ?_ (fun hHeld => ?_);(· (first | exact⟨(Kx.out _ hR.drew).1,(Kx.out _ hR.drew).2.1,(Kx.out _ hR.drew).2.2.1,(Kx.out _ hR.drew).2.2.2.1,(Kx.out _ hR.drew).2.2.2.2.1,Q9.out _ hR.drew,hR.drew⟩ | exact⟨(Kx.out _ (hR.drew.on hbc)).1,(Kx.out _ (hR.drew.on hbc)).2.1,(Kx.out _ (hR.drew.on hbc)).2.2.1,(Kx.out _ (hR.drew.on hbc)).2.2.2.1,(Kx.out _ (hR.drew.on hbc)).2.2.2.2.1,Q9.out _ (hR.drew.on hbc),hR.drew.on hbc⟩));clear hK K;(try simp only[nSO]))
       iterate 3 (first | (refine aL ?_;(try simp only[nSO])) | (refine np_n ?_ ?_ ?_;rotate_left 1;(· (intro w hSw;(try dsimp only at hSw);go_simp;all_goals with_reducible rfl));(try simp only[nSO])))
       refine wpAnyH_done (by kernel_rfl) ?_ _
       refine NoPanic.normal ?_
       have hbt:Below W.heap.size W w1:=(Below.refl W.heap.size W).drew.trans hbc
       have hB5:=hBw.trans (hbt.mono hBw.size)
       have hM5:=hM2.below hbt
       go_wp2
       refine gQ _ _ hM5 (fun w' hw'=>⟨.tuple #[.int .i64 k,.int .i64 22],by simp[results,Tryz.f75,go_sem],oD ?_ ?_,hB5.trans hw'⟩)
       all_goals rw[lQ hlt Hg.out Hbad.out]
   case stop =>
    rintro D c' pre W hD _ h _
    exact h.elim
  ·have hkk:k=cs.length:=by omega
   have hgd:dD cs=(0,0):=aG3 (fun i hi=>Hg.out i (by omega))
   have Hgd:=Lib.hid hgd
   clear hkk hgd
   go_wp2
   refine gQ _ _ hM (fun w' hw'=>⟨.tuple #[.int .i64 0,.int .i64 0],by simp[results,Tryz.f75,go_sem],oD ?_ ?_,hB.trans hw'⟩)
   all_goals rw[Hgd.out]
theorem aBn (w:World):Calls Tryz.prog 75 #[.slice none 0 0] w fun e w'=>e = .returned (.tuple #[.int .i64 (dD []).1,.int .i64 (dD []).2])∧Below w.heap.size w w':=by
 refine (callsIn_wide (n:=4)).1 (callsIn_of_wp_marks Tryz.func75 rfl trivial (wpIn_wide.2 ?_) rfl)
 simp only[Tryz.ntmps75,List.size_toArray,List.length_cons,List.length_nil,Nat.reduceAdd,Nat.reduceSub,Array.replicate_succ,Array.replicate_zero,List.push_toArray,List.append_toArray,List.nil_append,List.cons_append]
 go_wp2
 refine wp_loop_rounds 1 ?_
 rw[rounds_succ]
 go_wp2
 exact⟨.tuple #[.int .i64 0,.int .i64 0],by simp[results,Tryz.f75,go_sem],rfl,Below.refl _ _⟩
theorem wX (p:Option Addr) (cap:Nat) (cs:List aA) (w:World) (hC:CRow w p cap cs) (hs:cs.length≤1000000) (hok:∀ c∈cs,c.Ok) :
  Calls Tryz.prog 75 #[.slice p cs.length cap] w fun e w'=>e = .returned (.tuple #[.int .i64 (dD cs).1,.int .i64 (dD cs).2])∧Below w.heap.size w w':=by
 rcases hC with⟨rfl,rfl,rfl⟩ | ⟨b,off,rfl,h1,h2,h3⟩
 ·exact aBn w
 ·exact aG4 b off cap cs w h1 h2 h3 hs hok
end Go.Proofs.YtdeiocppghhfdaaGreat.Hs
