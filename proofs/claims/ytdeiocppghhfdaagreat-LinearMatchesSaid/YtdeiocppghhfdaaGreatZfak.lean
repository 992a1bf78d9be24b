/- Texts, one behind another. -/
import Derived.Test.YtdeiocppghhfdaaGreatZfah
import Derived.RangeFuncNested
import Derived.RangeFuncBound
import Derived.RangeFuncCalls
import Derived.RangeFuncLeaves
import Derived.RangeFuncFrom
import Derived.Shelf.Abstract
import Derived.Shelf.RegionOpen
import Derived.OwnWalkIn
import Derived.TacticsInMore
import Derived.LoopNIn
import Derived.LoopIn
set_option linter.unusedVariables false
set_option linter.unusedSimpArgs false
set_option maxRecDepth 100000
set_option maxHeartbeats 40000000
namespace Go.Proofs.YtdeiocppghhfdaaGreat
open Go Go.RowKit
variable {F:Fence} {n:Nat} {P:Program} {w:World}
def xU {α:Type} (F:Fence) (n:Nat) (P:Program) (g:Nat) (bs lb:Array Value) (encs:α→Array Value) (Kp:World→World→Prop) (S Sp:List α→Prop) (N:Nat) (w:World):Prop :=
 ∀ (l:Nat) (J Jx:List α→World→Prop) (W:World),Below w.heap.size w W→AbidesFrom W.heap.size J→AbidesFrom W.heap.size Jx →
  (∀ pre x W1,J pre W1→pre.length<N→YieldAt F (n-1) P l (encs x) W1 fun e W' =>
   (e = .returned (.bool true)∧J (pre++[x]) W'∧Kp W1 W')∨(e = .returned (.bool false)∧Jx (pre++[x]) W')) →
  J [] W →
  CallsIn F n P g (bs ++ #[.func (.yield l) #[] #[]]++lb) W fun e W'=>(∃ v,e = .returned v)∧((∃ xs,S xs∧J xs W')∨(∃ pre,Sp pre∧Jx pre W'))
theorem aKn {α:Type} {g:Operand} {ps:Array Tmp} {assign body:Code} {Q:Exit→Act→World→Prop} {a:Act} {w:World}
  (hro:F.round=none) (h1:1≤n) {gf:Nat} {bs lb:Array Value} (hg:a.eval g = .func (.func gf) bs lb) (hFg:F.fn gf) (eg:∀ args w,(callFunc gf args).run P w = .ok (.enter gf args) w)
  {encs:α→Array Value} {Kp:World→World→Prop} {S Sp:List α→Prop} {N:Nat} {w0:World} (hseq:xU F (n-1) P gf bs lb encs Kp S Sp N w0)
  (hKt:∀ {A B C:World},Kp A B→Kp B C→Kp A C) (hKb:∀ (W:World) (l:Nat) (o o':Obj),w.heap.size≤l→W.heap[l]? = some o→o.isCells=false→o.isWalk=false→Kp W (W.putObj l o')) (hb0:Below w0.heap.size w0 w) (hps:∀ x,(encs x).size=ps.size)
  (I:List α→World→Prop) (Ix:Code→List α→World→Prop) (hI:OwnFrom w.heap.size I) (hIx:∀ c,OwnFrom w.heap.size (Ix c)) (h0:I [] w) (Ax:α→Act→World→Prop) (hAx:∀ x a',OwnFrom w.heap.size (fun (_:Unit) W=>Ax x a' W))
  (hassign:∀ (l:Nat) (pre:List α) (x:α) (W:World) (K:Act→World→Prop),I pre W→(∀ a' W',KeepsFrom w.heap.size W W'→Kp W W'→I pre W'→Ax x a' W'→K a' W') →
   assign.wpIn (F.inRound l) (n-1-1) P (Exit.then K (fun _ _ _=>False)) { tmps:=(ps.zip (encs x)).foldl (fun t (p,v)=>t.setIfInBounds p v) a.tmps,defers:=[] } W)
  (hbody:∀ (l:Nat) (pre:List α) (x:α) (a':Act) (W:World),w.heap.size≤l→(∃ r,W.heap[l]? = some (.loop r))→I pre W→Ax x a' W→pre.length<N→body.wpIn (F.inRound l) (n-1-1) P (ownPostG w.heap.size Kp I Ix (pre++[x]) W) a' W)
  (hdone:∀ (D:Nat) (xs:List α) (W:World),w.heap.size≤D→S xs→I xs W→W.heap[D]? = some (.deferred (some []))→Q .normal { a with defers:={ target := .collected D,args := #[] }::a.defers } W)
  (hstop:∀ (D:Nat) (c:Code) (pre:List α) (W:World),w.heap.size≤D→Sp pre→Ix c pre W→W.heap[D]? = some (.deferred (some []))→c.wpIn F n P Q { a with defers:={ target := .collected D,args := #[] }::a.defers } W) :
  (Code.rangeFunc g ps assign body).wpIn F n P Q a w:=by
 refine wpIn_rangeFunc ?_
 intro fn hfn
 rw[hro]
 obtain⟨rec,hrec⟩:∃ rec:LoopState→Option Code→Loop,rec=fun st pe=>{ state:=st,pending:=pe,fn,tmps:=a.tmps,params:=ps,assign,body,defers:=w.heap.size }:=⟨_,rfl⟩
 obtain⟨W1,hW1⟩:∃ W1,(w.alloc (.deferred (some []))).alloc (.loop (rec .ready none))=W1:=⟨_,rfl⟩
 have hL1:W1.heap[w.heap.size+1]? = some (.loop (rec .ready none)):=by
  rw[← hW1];have:=World.alloc_heap_new (w.alloc (.deferred (some []))) (.loop (rec .ready none));rwa [World.size_alloc] at this
 have hK1:W1.heap[w.heap.size]? = some (.deferred (some [])):=by
  rw[← hW1];exact (Below.heap_alloc _ _ _ (by simp)).trans (World.alloc_heap_new w _)
 have hI1:I [] W1:=by rw[← hW1];exact hI.alloc _ (hI.alloc _ h0)
 have hb1:Below w0.heap.size w0 W1:=by
  rw[← hW1];exact hb0.trans ((((Below.refl _ w).alloc (Nat.le_refl _) _).alloc (by simp) _).mono hb0.size)
 refine⟨w.heap.size+1,[{ target := .collected w.heap.size,args := #[] }],W1,{ target := .fn (.func gf) lb,args:=bs ++ #[.func (.yield (w.heap.size+1)) #[] #[]] },W1,gf,
  bs ++ #[.func (.yield (w.heap.size+1)) #[] #[]]++lb,W1,?_,?_,?_,?_,fun _=>h1,?_⟩
 ·rw[← hW1,hrec];exact run_enterLoop_outer _ _ _ _ _
 ·simp only[resolve,hg]
  simp[go_sem]
 ·intro f' hf';simp[Target.leads] at hf';subst hf';exact hFg
 ·simp[invoke,go_sem,eg]
 ·have hnw:∀ {A B:World} {row:Option Nat},(∀ r,row=some r→W1.heap.size≤r∧∃ o:Obj,A.heap[r]? = some o∧o.isWalk=true)→(∀ r,row=some r→w.heap.size≤r∧∃ o:Obj,A.heap[r]? = some o∧o.isCells=false) :=
   fun hr r e=>by obtain⟨hB,o,ho,hw⟩:=hr r e;exact⟨by rw[← hW1] at hB;simp at hB;omega,o,ho,Obj.not_cells_of_walk hw⟩
  refine (hseq (w.heap.size+1)
   (fun pre W=>I pre W∧W.heap[w.heap.size+1]? = some (.loop (rec .ready none))∧W.heap[w.heap.size]? = some (.deferred (some [])))
   (fun pre W=>∃ c,Ix c pre W∧W.heap[w.heap.size+1]? = some (.loop (rec .done (some c)))∧W.heap[w.heap.size]? = some (.deferred (some [])))
   W1 hb1
   (fun s A B row hs hg' hr=>⟨hI s A B row hs.1 hg' (hnw (B:=B) hr),(grownBy_keeps hg' (fun r e=>(hr r e).2) hs.2.1 rfl).trans hs.2.1,(grownBy_keeps hg' (fun r e=>(hr r e).2) hs.2.2 rfl).trans hs.2.2⟩)
   (fun s A B row hs hg' hr=>by
    obtain⟨c,hc,hl,hk⟩:=hs
    exact⟨c,hIx c s A B row hc hg' (hnw (B:=B) hr),(grownBy_keeps hg' (fun r e=>(hr r e).2) hl rfl).trans hl,(grownBy_keeps hg' (fun r e=>(hr r e).2) hk rfl).trans hk⟩)
   ?_ ⟨hI1,hL1,hK1⟩).mono ?_
  ·rintro pre x W ⟨hi,hl,hk⟩ hlen
   have hlt:w.heap.size+1<W.heap.size:=(gAz hl).1
   have hy:=run_yield (P:=P) (args:=encs x) hl (by rw[hrec];exact hps x)
   rw[hrec] at hy
   refine⟨fn,_,assign,body,hy,roundIn_of_wpIn hfn (hassign _ pre x W _ hi ?_)⟩
   clear hy
   intro a' Wa hkfa hkpa hia hax
   replace hl:=hkfa.same _ _ (by omega) hl rfl
   replace hk:=hkfa.same _ _ (Nat.le_refl _) hk rfl
   replace hlt:w.heap.size+1<Wa.heap.size:=(gAz hl).1
   replace hi:=hia
   clear hia
   revert hkpa hkfa
   generalize W=Wb
   intro hkfa hkpa
   obtain⟨W,rfl⟩:∃ W,W=Wa:=⟨_,rfl⟩
   refine⟨_,run_beginRound hl (by rw[hrec]),?_⟩
   have hl2:(W.putObj (w.heap.size+1) (.loop { rec .ready none with state := .busy })).heap[w.heap.size+1]? = some (.loop { rec .ready none with state := .busy }):=World.putObj_heap_same hlt
   have hk2:(W.putObj (w.heap.size+1) (.loop { rec .ready none with state := .busy })).heap[w.heap.size]? = some (.deferred (some [])):=(World.putObj_heap_other (by omega)).trans hk
   have hw2:Kp W (W.putObj (w.heap.size+1) (.loop { rec .ready none with state := .busy })):=hKb _ _ _ _ (by omega) hl rfl rfl
   refine wpIn_mono (hbody _ pre x a' _ (by omega) ⟨_,hl2⟩ (hI.putObj _ hi (by omega) hl rfl) ((hAx x a').putObj (s:=()) _ hax (by omega) hl rfl) hlen) ?_
   have fin:∀ (jump:Option Code) (W3:World),KeepsFrom w.heap.size (W.putObj (w.heap.size+1) (.loop { rec .ready none with state := .busy })) W3 →
     (Instr.endRound (w.heap.size+1) jump).run P W3 = .ok (.bool jump.isNone) (W3.putObj (w.heap.size+1) (.loop (rec (if jump.isNone then .ready else .done) jump))) ∧
     W3.heap[w.heap.size+1]? = some (.loop { rec .ready none with state := .busy }) ∧
     (W3.putObj (w.heap.size+1) (.loop (rec (if jump.isNone then .ready else .done) jump))).heap[w.heap.size+1]? = some (.loop (rec (if jump.isNone then .ready else .done) jump)) ∧
     (W3.putObj (w.heap.size+1) (.loop (rec (if jump.isNone then .ready else .done) jump))).heap[w.heap.size]? = some (.deferred (some [])):=fun jump W3 hk3=>by
    have hl3:=hk3.same _ _ (by omega) hl2 rfl
    have:=run_endRound (P:=P) jump hl3
    rw[hrec] at this ⊢
    exact⟨this,by rw[hrec] at hl3;exact hl3,World.putObj_heap_same (gAz hl3).1,(World.putObj_heap_other (by omega)).trans (hk3.same _ _ (Nat.le_refl _) hk2 rfl)⟩
   rintro e a3 W3 hp
   cases e with
   |normal =>
    obtain⟨hk3,hkp3,hi3⟩:=hp
    obtain⟨hr,hl3,hl4,hk4⟩:=fin none W3 hk3
    exact⟨_,_,hr,.inl ⟨rfl,⟨hI.putObj _ hi3 (by omega) hl3 rfl,hl4,hk4⟩,hKt hkpa (hKt (hKt hw2 hkp3) (hKb _ _ _ _ (by omega) hl3 rfl rfl))⟩⟩
   |ret =>
    obtain⟨hk3,hi3⟩:=hp
    obtain⟨hr,hl3,hl4,hk4⟩:=fin (some .ret) W3 hk3
    exact⟨_,_,hr,.inr ⟨rfl,.ret,(hIx _).putObj _ hi3 (by omega) hl3 rfl,hl4,hk4⟩⟩
   |exit id =>
    obtain⟨hk3,hi3⟩:=hp
    obtain⟨hr,hl3,hl4,hk4⟩:=fin (some (.exit id)) W3 hk3
    exact⟨_,_,hr,.inr ⟨rfl,.exit id,(hIx _).putObj _ hi3 (by omega) hl3 rfl,hl4,hk4⟩⟩
   |goto t =>
    obtain⟨hk3,hi3⟩:=hp
    obtain⟨hr,hl3,hl4,hk4⟩:=fin (some (.goto t)) W3 hk3
    exact⟨_,_,hr,.inr ⟨rfl,.goto t,(hIx _).putObj _ hi3 (by omega) hl3 rfl,hl4,hk4⟩⟩
   |panic ch=>exact hp.elim
   |outgrown=>exact hp.elim
  ·rintro e W2 ⟨⟨v,rfl⟩,(⟨xs,hS,hi,hl,hk⟩ | ⟨pre,hSp,c,hi,hl,hk⟩)⟩
   ·exact⟨none,_,by have:=run_endLoop (P:=P) hl (by rw[hrec];simp);rw[hrec] at this;exact this,hdone _ xs _ (Nat.le_refl _) hS (hI.putObj _ hi (by omega) hl rfl) ((World.putObj_heap_other (by omega)).trans hk)⟩
   ·exact⟨some c,_,by have:=run_endLoop (P:=P) hl (by rw[hrec];simp);rw[hrec] at this;exact this,hstop _ c pre _ (Nat.le_refl _) hSp ((hIx c).putObj _ hi (by omega) hl rfl) ((World.putObj_heap_other (by omega)).trans hk)⟩
end Go.Proofs.YtdeiocppghhfdaaGreat
namespace Go.Proofs.YtdeiocppghhfdaaGreat
open Go.RowKit Go.Lib Go.Shelf
attribute [local go_sem] Oper.semAt_some
abbrev R3:=Int × Int × Int
def fG:List PcV→Int→Int→List R3
 |[],_,_=>[]
 |c::d,a,t=>if c.kind=2 then fG d a (t+c.text.size) else if c.kind=3 then fG d (a+c.n) t else (a,t,c.n)::fG d (a+c.n) (t+c.n)
def aBi (p:Int):List R3→Int→Int
 |[],r=>r
 |x::l,r=>if p≤x.1 then r else aBi p l (x.2.1+min x.2.2 (p-x.1))
def vD (p:Int):List R3→Int→Int
 |[],e=>e
 |x::l,e=>if p<x.1+x.2.2 then x.2.1+max 0 (p-x.1) else vD p l e
def mR (p:Int):List R3→Int→Int
 |[],r=>r
 |x::l,r=>if p≤x.1 then r else mR p l (IntKind.i64.wrap (x.2.1+min x.2.2 (IntKind.i64.wrap (p-x.1))))
def jL (p:Int):List R3→Int→Int
 |[],e=>e
 |x::l,e=>if p<IntKind.i64.wrap (x.1+x.2.2) then IntKind.i64.wrap (x.2.1+max 0 (IntKind.i64.wrap (p-x.1))) else jL p l e
def InR (x:R3):Prop:=0≤x.1∧x.1≤1048576∧0≤x.2.1∧x.2.1≤1048576∧0≤x.2.2∧x.2.2≤1048576
theorem aBj {p:Int} (h0:0≤p) (h1:p≤1048576):∀ (l:List R3) (r:Int),(∀ x∈l,InR x)→mR p l r=aBi p l r
 |[],_,_=>rfl
 |x::l,r,h=>by
  have hx:=h x (by simp)
  unfold InR at hx
  rw[mR,aBi,aBj h0 h1 l _ (fun y hy=>h y (by simp[hy]))]
  split
  ·rfl
  ·rw[IntWalk.i64_in (p-x.1) (by omega),IntWalk.i64_in _ (by omega)]
theorem xV {p:Int} (h0:0≤p) (h1:p≤1048576):∀ (l:List R3) (e:Int),(∀ x∈l,InR x)→jL p l e=vD p l e
 |[],_,_=>rfl
 |x::l,e,h=>by
  have hx:=h x (by simp)
  unfold InR at hx
  rw[jL,vD,xV h0 h1 l _ (fun y hy=>h y (by simp[hy])),IntWalk.i64_in (p-x.1) (by omega),IntWalk.i64_in (x.1+x.2.2) (by omega),IntWalk.i64_in (x.2.1+_) (by omega)]
theorem nU (p:Int):∀ (d:List PcV) (a t r:Int),gP p d a t r=aBi p (fG d a t) r
 |[],_,_,_=>rfl
 |c::d,a,t,r=>by
  rw[gP,fG]
  split
  ·exact nU p d _ _ _
  ·split
   ·exact nU p d _ _ _
   ·rw[aBi];dsimp only;split
    ·rfl
    ·exact nU p d _ _ _
theorem lJ (p:Int):∀ (d:List PcV) (a t e:Int),eD p d a t e=vD p (fG d a t) e
 |[],_,_,_=>rfl
 |c::d,a,t,e=>by
  rw[eD,fG]
  split
  ·exact lJ p d _ _ _
  ·split
   ·exact lJ p d _ _ _
   ·rw[vD];dsimp only;split
    ·rfl
    ·exact lJ p d _ _ _
theorem aEa (d:List PcV) (k:Nat) (c:PcV) (h:d[k]? = some c) (a t:Int):fG (d.drop k) a t=if c.kind=2 then fG (d.drop (k+1)) a (t+c.text.size) else if c.kind=3 then fG (d.drop (k+1)) (a+c.n) t else (a,t,c.n)::fG (d.drop (k+1)) (a+c.n) (t+c.n):=by
 obtain⟨hk,h⟩:=gLz h
 rw[List.drop_eq_getElem_cons hk,fG,h]
def runV (x:R3):Value := .agg #[.int .i64 x.1,.int .i64 x.2.1,.int .i64 x.2.2]
def mU (L:List R3) (J Jx:List R3→World→Prop) (e:Ending) (W':World):Prop:=(∃ v,e = .returned v)∧((∃ ys,ys=L∧J ys W')∨(∃ pre,pre <+: L∧Jx pre W'))
def eH (s:Nat) (X Y:World):Prop:=X.heap.size≤Y.heap.size∧∀ (k:Nat) (cs:Array Value) (T:TypeId) (fz:Nat × Nat),k≠s→X.heap[k]? = some (.cells cs T fz)→Y.heap[k]? = some (.cells cs T fz)
theorem eH.refl (s:Nat) (X:World):eH s X X:=⟨Nat.le_refl _,fun _ _ _ _ _ h=>h⟩
theorem eH.trans {s:Nat} {A B C:World} (h:eH s A B) (k:eH s B C):eH s A C:=⟨Nat.le_trans h.1 k.1,fun i cs T fz hi ho=>k.2 i cs T fz hi (h.2 i cs T fz hi ho)⟩
theorem eH.alloc (s:Nat) (X:World) (o:Obj):eH s X (X.alloc o):=⟨by simp,fun k _ _ _ _ h=>(heap_alloc_old X o (gAz h).1).trans h⟩
theorem eH.set (s:Nat) (X:World) (v:Value):eH s X (X.setCell ⟨s,0,none⟩ v):=⟨by simp[World.setCell],fun k _ _ _ hk h=>(Below.heap_setCell _ _ _ _ hk).trans h⟩
theorem eH.put (s:Nat) (W:World) (l:Nat) (o o':Obj) (h:W.heap[l]? = some o) (ho:o.isCells=false):eH s W (W.putObj l o'):=⟨by simp[World.putObj],fun k cs T fz _ hk=>(World.putObj_heap_other (fun e=>by subst e;rw[hk] at h;cases h;simp[Obj.isCells] at ho)).trans hk⟩
theorem eH.cell {s:Nat} {X Y:World} (h:eH s X Y) {a:Addr} {v:Value} (hs:a.block≠s) (hc:X.cell? a=some v):Y.cell? a=some v:=by
 unfold World.cell? at hc
 split at hc
 ·rename_i cs T fz ho
  unfold World.cell?
  rw[h.2 _ _ _ _ hs ho]
  exact hc
 ·cases hc
def RuI (L:List R3) (J:List R3→World→Prop) (d:List PcV) (s:Nat) (W:World) (a t i:Value) (wr:World):Prop :=
 ∃ (k:Nat) (a' t':Int) (pre:List R3),a = .int .i64 a'∧t = .int .i64 t'∧i = .int .i64 k∧k≤d.length∧pre++fG (d.drop k) a' t'=L∧lenF (d.drop k) a' t'=lenF d 0 0∧0≤a'∧a'≤1048576∧0≤t'∧t'≤1048576∧pre.length≤k∧J pre wr∧eH s W wr
theorem aFx {p:PcV} {X Y Z:Int × Int × Int} {i o:Int} (h:Y.2.2=0) (hX:X=Y) (he:X=if pcB p then (if 1048576-i<pcIn p∨1048576-o<gD p then (0,0,5) else Z) else (0,0,2)):pcP p∧pcIn p≤1048576-i∧gD p≤1048576-o∧Z=Y:=by
 subst hX
 split at he
 ·rename_i hp
  split at he
  ·rw[he] at h;simp at h
  ·rename_i h2
   exact⟨zJ.1 hp,by omega,by omega,he.symm⟩
 ·rw[he] at h;simp at h
theorem vE:∀ (d:List PcV) (a t:Int),(lenF d a t).2.2=0→0≤a→a≤1048576→0≤t→t≤1048576→∀ x∈fG d a t,InR x
 |[],_,_,_,_,_,_,_,x,hx=>by simp[fG] at hx
 |c::d,a,t,h,h1,h2,h3,h4,x,hx=>by
  obtain⟨hp,hi,ho,hz⟩:=aFx h rfl (by rw[lenF])
  have hi0:=qD hp
  have ho0:=xO hp
  rw[← hz] at h
  have ih:=vE d (a+pcIn c) (t+gD c) h (by omega) (by omega) (by omega) (by omega)
  rw[fG] at hx
  unfold pcIn gD at *
  split at hx
  ·rename_i hk;simp[hk] at ih;exact ih x.1 x.2.1 x.2.2 hx
  ·split at hx
   ·rename_i hk;simp[hk] at ih;exact ih x.1 x.2.1 x.2.2 hx
   ·rename_i hk2 hk3
    have hk:c.kind=1:=by unfold pcP at hp;omega
    simp[hk] at ih hi ho hi0 ho0
    rcases List.mem_cons.1 hx with rfl | hx
    ·unfold InR;dsimp only;omega
    ·exact ih x.1 x.2.1 x.2.2 hx
theorem aOa (n:Nat) (hn:1≤n) (l s c:Nat) (ao:Option Addr) (d:List PcV) (hs:d.length≤4096) (hl:(lenF d 0 0).2.2=0) (J Jx:List R3→World→Prop)
  (hY:∀ pre x W,J pre W→pre.length<5000→YieldAt Fence.wide (n-1) Tryz.prog l #[runV x] W fun e W' =>
   (e = .returned (.bool true)∧J (pre++[x]) W'∧eH s W W')∨(e = .returned (.bool false)∧Jx (pre++[x]) W'))
  (W:World) (hA:∀ pre X o,J pre X→J pre (X.alloc o)) (hr:PRow W ao d) (hr0:∀ b off,ao=some ⟨b,off,none⟩→b≠s) (hn0:s<W.heap.size) (hJ:J [] W) :
  CallsIn Fence.wide n Tryz.prog 297 #[.agg #[.slice ao d.length c,.bool false],.func (.yield l) #[] #[]] W (mU (fG d 0 0) J Jx):=by
 have HL:=Lib.hid hl;clear hl
 refine callsIn_of_wp Tryz.func297 rfl trivial ?_ rfl
 simp only[Tryz.ntmps297,List.size_toArray,List.length_cons,List.length_nil,Nat.reduceAdd,Nat.reduceSub,Array.replicate_succ,Array.replicate_zero,List.push_toArray,List.append_toArray,List.nil_append,List.cons_append]
 gi_wp2
 gi_loopw [4,5,12] (fun a t i wr=>RuI (fG d 0 0) J d s (W.alloc (.cells #[.slice ao d.length c,.bool false] 306)) a t i wr) (fun a t i wr=>d.length-(intOf i).toNat)
 case atStart=>exact⟨0,0,0,[],rfl,rfl,rfl,by omega,rfl,rfl,by omega,by omega,by omega,by omega,by simp,hA _ _ _ hJ,eH.refl _ _⟩
 case round =>
  obtain⟨k,a,t,pre,rfl,rfl,rfl,hk,hp,hlen,ha0,ha1,ht0,ht1,hpl,hJ',hB⟩:=hrel
  have Hp:=Lib.hid hp;have Hlen:=Lib.hid hlen;clear hp hlen
  have hlook:=hB.2 _ _ _ _ (by omega) (heap_alloc_new W (.cells #[.slice ao d.length c,.bool false] 306))
  obtain⟨lk0,lk1,_,_⟩:=xQ hlook
  have hlkl:=(gAz hlook).1
  by_cases hlt:k<d.length
  ·have hc:d[k]? = some d[k]:=gEz hlt
   generalize d[k]=p at hc
   obtain⟨hpP,hpi,hpo,hZ⟩:=aFx HL.out Hlen.out (xP d k p hc a t)
   have hrd:=aEa d k p hc a t
   have Hrd:=Lib.hid hrd;have HZ:=Lib.hid hZ;clear hrd hZ
   rcases hr with⟨_,h⟩ | ⟨b,off,rfl,hb,hcell⟩
   ·rw[h] at hlt;simp at hlt
   have hbs:=hr0 b off rfl
   have cc:∀ i u,(pcL p)[i]? = some u→wr.cell? ⟨b,off+(k*3+i),none⟩=some u:=fun i u hu=>hB.cell (a:=⟨b,off+(k*3+i),none⟩) hbs (Lib.cell?_alloc_some _ (hcell k p hc i u hu))
   have c0:=cc 0 _ rfl
   have c1:=cc 1 _ rfl
   have c2:=cc 2 _ rfl
   simp only[Nat.add_zero,← Nat.add_assoc] at c0 c1 c2
   clear cc hcell
   have hBp:=hB.trans (eH.alloc s wr (.cells #[.int .u8 p.kind,.int .i64 p.n,.string p.text] 94))
   have hJp:=hA pre wr (.cells #[.int .u8 p.kind,.int .i64 p.n,.string p.text] 94) hJ'
   by_cases hk2:p.kind=2
   ·have e2:(p.kind == 2)=true:=by simpa using hk2
    have ho:gD p=p.text.size:=by simp[gD,hk2]
    have hi:pcIn p=0:=by simp[pcIn,hk2]
    rw[ho] at hpo;have HZ':=HZ.out;rw[ho,hi] at HZ';have HZ:=Lib.hid HZ';clear HZ'
    rw[hk2] at hBp hJp
    gi_wp2
    go_roundw
    case rel=>exact⟨k+1,a,t+p.text.size,pre,rfl,by go_num,by go_num,by omega,by rw[← Hp.out,Hrd.out,if_pos hk2],by rw[← HZ.out,Int.add_zero],ha0,ha1,by omega,by omega,by omega,hJp,hBp⟩
    case measure=>simp[intOf];omega
   ·by_cases hk3:p.kind=3
    ·have e2:(p.kind == 2)=false:=by simpa using hk2
     have e3:(p.kind == 3)=true:=by simpa using hk3
     have ho:gD p=0:=by simp[gD,hk3]
     have hi:pcIn p=p.n:=by simp[pcIn,hk3]
     have hn:=qD hpP
     rw[hi] at hpi hn;have HZ':=HZ.out;rw[ho,hi] at HZ';have HZ:=Lib.hid HZ';clear HZ'
     rw[hk3] at hBp hJp
     gi_wp2
     go_roundw
     case rel=>exact⟨k+1,a+p.n,t,pre,by go_num,rfl,by go_num,by omega,by rw[← Hp.out,Hrd.out,if_neg hk2,if_pos hk3],by rw[← HZ.out,Int.add_zero],by omega,by omega,ht0,ht1,by omega,hJp,hBp⟩
     case measure=>simp[intOf];omega
    ·have hk1:p.kind=1:=by unfold pcP at hpP;omega
     have e2:(p.kind == 2)=false:=by simpa using hk2
     have e3:(p.kind == 3)=false:=by simpa using hk3
     have ho:gD p=p.n:=by simp[gD,hk1]
     have hi:pcIn p=p.n:=by simp[pcIn,hk1]
     have hn:=qD hpP
     rw[hi] at hpi hn;rw[ho] at hpo;have HZ':=HZ.out;rw[ho,hi] at HZ';have HZ:=Lib.hid HZ';clear HZ'
     rw[hk1] at hBp hJp
     have hBr:=hBp.trans (eH.alloc s _ (.cells #[.int .i64 a,.int .i64 t,.int .i64 p.n] 313))
     have hJr:=hA pre _ (.cells #[.int .i64 a,.int .i64 t,.int .i64 p.n] 313) hJp
     obtain⟨fn,tmps,assign,body,hy,hR⟩:=hY pre (a,t,p.n) _ hJr (by omega)
     have hpb:=(heap_alloc_old (wr.alloc (.cells #[.int .u8 1,.int .i64 p.n,.string p.text] 94)) (.cells #[.int .i64 a,.int .i64 t,.int .i64 p.n] 313) (by simp)).trans (heap_alloc_new wr (.cells #[.int .u8 1,.int .i64 p.n,.string p.text] 94))
     unfold runV at hy
     gi_wp2
     refine hR.mono ?_
     rintro e W1 (⟨rfl,hJ1,hk1'⟩ | ⟨rfl,hJ1⟩)
     ·obtain⟨q0,q1,q2⟩:=cZ (hk1'.2 _ _ _ _ (by omega) hpb)
      gi_wp2
      go_roundw
      case rel=>exact⟨k+1,a+p.n,t+p.n,pre++[(a,t,p.n)],by go_num,by go_num,by go_num,by omega,by rw[← Hp.out,Hrd.out,if_neg hk2,if_neg hk3,List.append_assoc];rfl,HZ.out,by omega,by omega,by omega,by omega,by simp;omega,hJ1,hBr.trans hk1'⟩
      case measure=>simp[intOf];omega
     ·gi_wp2
      refine bodyPost_ret (results_none rfl _ _ _) rfl ?_
      exact⟨⟨_,rfl⟩,.inr ⟨pre++[(a,t,p.n)],⟨fG (d.drop (k+1)) (a+p.n) (t+p.n),by rw[← Hp.out,Hrd.out,if_neg hk2,if_neg hk3,List.append_assoc];rfl⟩,hJ1⟩⟩
  ·gi_wp2
   go_end0
   refine⟨⟨_,rfl⟩,.inl ⟨_,rfl,?_⟩⟩
   rw[← Hp.out,List.drop_eq_nil_of_le (by omega)]
   simpa [fG] using hJ'
theorem vF (n:Nat) (hn:1≤n) (s c:Nat) (ao:Option Addr) (d:List PcV) (hs:d.length≤4096) (hl:(lenF d 0 0).2.2=0) (w:World) (hr:PRow w ao d) (hr0:∀ b off,ao=some ⟨b,off,none⟩→b≠s) (hn0:s<w.heap.size) :
  xU Fence.wide n Tryz.prog 297 #[.agg #[.slice ao d.length c,.bool false]] #[] (fun x:R3 => #[runV x]) (eH s) (fun ys=>ys=fG d 0 0) (fun pre=>pre <+: fG d 0 0) 5000 w:=fun l J Jx W hW hJ _ hY h0 =>
 aOa n hn l s c ao d hs hl J Jx hY W (fun pre X o h=>hJ pre X _ none h (World.grownBy_alloc X o none) (fun r e=>by cases e)) (hr.on hW) hr0 (Nat.lt_of_lt_of_le hn0 hW.size) h0
def LI (w:World) (p:Int) (pre:List R3) (W:World):Prop :=
 (∃ r,W.heap[w.heap.size+1]? = some (.cells #[.int .i64 p] 3 (0,0))∧W.heap[w.heap.size+1+1]? = some (.cells #[.int .i64 r] 3 (0,0))∧∀ rest,mR p (pre++rest) 0=mR p rest r)∧Below w.heap.size w W
def LIx (w:World) (p:Int) (c:Code) (pre:List R3) (W:World):Prop :=
 (c = .exit 0∧∃ r,W.heap[w.heap.size+1+1]? = some (.cells #[.int .i64 r] 3 (0,0))∧∀ rest,mR p (pre++rest) 0=r)∧Below w.heap.size w W
theorem gV {W W':World} {row:Option Nat} {k:Nat} {cs:Array Value} {T:TypeId} (h:W.heap[k]? = some (.cells cs T (0,0))) (hg:W.grownBy W' row) (hr:∀ r,row=some r→∃ o:Obj,W.heap[r]? = some o∧o.isCells=false):W'.heap[k]? = some (.cells cs T (0,0)) :=
 (hg.block k (gAz h).1 (fun e=>by obtain⟨o,h1,h2⟩:=hr k e.symm;rw[h] at h1;cases h1;simp[Obj.isCells] at h2)).trans h
theorem aKo (w:World) (p:Int) (B:Nat) (hB:w.heap.size≤B):OwnFrom B (LI w p) :=
 OwnFrom.and (fun _ _ _ _ hs hg hr=>by obtain⟨r,h1,h2,h3⟩:=hs;exact⟨r,gV h1 hg (fun r e=>(hr r e).2),gV h2 hg (fun r e=>(hr r e).2),h3⟩) (ownFrom_below (Nat.le_refl _) hB)
theorem aOb (w:World) (p:Int) (B:Nat) (hB:w.heap.size≤B) (c:Code):OwnFrom B (LIx w p c) :=
 OwnFrom.and (fun _ _ _ _ hs hg hr=>by obtain⟨h0,r,h1,h2⟩:=hs;exact⟨h0,r,gV h1 hg (fun r e=>(hr r e).2),h2⟩) (ownFrom_below (Nat.le_refl _) hB)
def AxR (slot:Nat) (mk:Value→Value→Act) (x:R3) (a':Act) (W:World):Prop:=∃ g,a'=mk (.pointer (some ⟨g,0,none⟩)) (runV x)∧W.heap[g]? = some (.cells #[.int .i64 x.1,.int .i64 x.2.1,.int .i64 x.2.2] 313 (0,0))
theorem aH1 {w:World} {b k:Nat} {o:Obj} (_:w.heap[k]? = some o) (hne:k≠b) (u:Value):(w.setCell ⟨b,0,none⟩ u).heap[k]? = w.heap[k]? := Below.heap_setCell _ _ _ _ hne
theorem aFy (B:Nat) (slot:Nat) (mk:Value→Value→Act) (x:R3) (a':Act):OwnFrom B (fun (_:Unit) W=>AxR slot mk x a' W) :=
 fun _ _ _ _ hs hg hr=>by obtain⟨g,h1,h2⟩:=hs;exact⟨g,h1,gV h2 hg (fun r e=>(hr r e).2)⟩
def LMk (w:World) (ao:Option Addr) (n c:Nat) (p:Int) (u v:Value):Act :=
 { tmps := #[.agg #[.slice ao n c,.bool false],.int .i64 p,.pointer (some ⟨w.heap.size,0,none⟩),.pointer (some ⟨w.heap.size+1,0,none⟩),.int .i64 0,.pointer (some ⟨w.heap.size+1+1,0,none⟩),.func (.func 297) #[.agg #[.slice ao n c,.bool false]] #[],u,.agg #[.slice ao n c,.bool false],.func (.func 297) #[.agg #[.slice ao n c,.bool false]] #[],.func (.func 297) #[.agg #[.slice ao n c,.bool false]] #[],v,undef,undef,undef,undef,undef,undef,undef,undef,undef,undef,undef,undef,undef,undef,undef],defers:=[] }
theorem aKp (ao:Option Addr) (c:Nat) (d:List PcV) (p:Int) (w:World) (hr:PRow w ao d) (hs:d.length≤4096) (hl:(lenF d 0 0).2.2=0) (hp0:0≤p) (hp1:p≤1048576) :
  Calls Tryz.prog 294 #[.agg #[.slice ao d.length c,.bool false],.int .i64 p] w fun e w'=>e = .returned (.int .i64 (gP p d 0 0 0))∧Below w.heap.size w w':=by
 rw[nU,← aBj hp0 hp1 _ _ (vE d 0 0 hl (by omega) (by omega) (by omega) (by omega))]
 have hrb:∀ b off,ao=some ⟨b,off,none⟩→b≠w.heap.size+1+1:=fun b off e=>by
  rcases hr with⟨h,_⟩ | ⟨b',off',h,hb,_⟩
  ·rw[h] at e;cases e
  ·rw[h] at e;injection e with e;injection e with e _ _;omega
 refine (callsIn_wide (n:=4)).1 ?_
 refine callsIn_of_wp_marks Tryz.func294 rfl trivial ?_ rfl
 simp only[Tryz.ntmps294,List.size_toArray,List.length_cons,List.length_nil,Nat.reduceAdd,Nat.reduceSub,Array.replicate_succ,Array.replicate_zero,List.push_toArray,List.append_toArray,List.nil_append,List.cons_append]
 gi_wp2
 have hrd:PRow (((w.alloc (.cells #[.slice ao d.length c,.bool false] 306)).alloc (.cells #[.int .i64 p] 3)).alloc (.cells #[.int .i64 0] 3)) ao d:=hr.on ((((Below.refl _ w).alloc (Nat.le_refl _) _).alloc (by simp) _).alloc (by simp;omega) _)
 refine aKn (α:=R3) rfl (by omega) (gf:=297) (bs := #[.agg #[.slice ao d.length c,.bool false]]) (lb := #[]) rfl trivial (enters_of Tryz.func297 (by kernel_rfl) rfl)
  (vF 3 (by omega) (w.heap.size+1+1) c ao d hs hl _ hrd hrb (by simp)) (fun h k=>h.trans k) (fun W l o o' _ h ho _=>eH.put _ W l o o' h ho) (Below.refl _ _) (fun _=>rfl)
  (LI w p) (LIx w p) (aKo w p _ (by simp;omega)) (aOb w p _ (by simp;omega)) ?start (AxR 7 (LMk w ao d.length c p)) (fun x a'=>aFy _ _ _ x a') ?assign ?body ?done ?stop
 case start =>
  have h1:=heap_alloc_new (w.alloc (.cells #[.slice ao d.length c,.bool false] 306)) (.cells #[.int .i64 p] 3)
  have h2:=heap_alloc_new ((w.alloc (.cells #[.slice ao d.length c,.bool false] 306)).alloc (.cells #[.int .i64 p] 3)) (.cells #[.int .i64 0] 3)
  simp only[World.size_alloc] at h1 h2
  exact⟨⟨0,(heap_alloc_old _ _ (by simp)).trans h1,h2,fun _=>rfl⟩,(((Below.refl _ w).alloc (Nat.le_refl _) _).alloc (by simp) _).alloc (by simp;omega) _⟩
 case assign =>
  rintro l pre ⟨x0,x1,x2⟩ W K hI hK
  simp only[runV]
  gi_wp2
  exact hK _ _ (KeepsFrom.of_grownBy (World.grownBy_alloc W _ none) (fun j e=>by cases e)) (eH.alloc _ _ _) ((aKo w p _ (Nat.le_refl _)).alloc _ hI) ⟨W.heap.size,rfl,heap_alloc_new W _⟩
 case body =>
  rintro l pre x a' W _ _ ⟨⟨r,hp,ho,hf⟩,hB⟩ ⟨g,rfl,hg⟩ _
  obtain⟨x0,x1,x2⟩:=x
  obtain⟨cp,_⟩:=box1 hp
  obtain⟨co,fo⟩:=box1 ho
  obtain⟨g0,g1,g2⟩:=cZ hg
  unfold LMk
  gi_wp2
  ·exact⟨KeepsFrom.refl _ _,⟨rfl,r,ho,fun rest=>by rw[List.append_assoc,hf];show mR p ((x0,x1,x2)::rest) r=r;rw[mR,if_pos (by assumption)]⟩,hB⟩
  ·refine⟨KeepsFrom.of_grownBy (grownBy_setCell' W _ _) (fun j e=>by cases e;simp),eH.set _ _ _,⟨_,(aH1 hp (by omega) _).trans hp,nO ho,fun rest => ?_⟩,hB.setCell (p:=⟨w.heap.size+1+1,0,none⟩) (by simp;omega) _⟩
   rw[List.append_assoc,hf]
   show mR p ((x0,x1,x2)::rest) r=_
   rw[mR,if_neg (by omega)]
   simp only[IntWalk.i64_left]
 case done =>
  rintro D ys W hD rfl ⟨⟨r,hp,ho,hf⟩,hB⟩ hK
  obtain⟨co,fo⟩:=box1 ho
  have hres:=hf []
  rw[List.append_nil] at hres
  have Hres:=Lib.hid (show mR p (fG d 0 0) 0=r from hres)
  gi_wp2
  refine⟨by simp,.inl ⟨_,_,rfl,run_takeDeferred hK,?_⟩⟩
  exact⟨.int .i64 r,by simp[results,Tryz.f294,go_sem],by rw[Hres.out],hB.trans (belowK_b (w:=w) (Nat.le_refl _) W D _ _ (by simp at hD;omega) hK rfl rfl)⟩
 case stop =>
  rintro D cd pre W hD hpre ⟨⟨rfl,r,ho,hf⟩,hB⟩ hK
  obtain⟨co,fo⟩:=box1 ho
  obtain⟨tl,htl⟩:=hpre
  have hres:=hf tl
  rw[htl] at hres
  have Hres:=Lib.hid hres
  gi_wp2
  refine⟨by simp,.inl ⟨_,_,rfl,run_takeDeferred hK,?_⟩⟩
  exact⟨.int .i64 r,by simp[results,Tryz.f294,go_sem],by rw[Hres.out],hB.trans (belowK_b (w:=w) (Nat.le_refl _) W D _ _ (by simp at hD;omega) hK rfl rfl)⟩
def RI2 (w:World) (p q:Int) (pre:List R3) (W:World):Prop :=
 (W.heap[w.heap.size+1]? = some (.cells #[.int .i64 p] 3 (0,0))∧W.heap[w.heap.size+1+1]? = some (.cells #[.int .i64 0] 3 (0,0))∧∀ rest,jL p (pre++rest) q=jL p rest q)∧Below w.heap.size w W
def RIx2 (w:World) (p q:Int) (c:Code) (pre:List R3) (W:World):Prop :=
 (c = .ret∧∃ r,W.heap[w.heap.size+1+1]? = some (.cells #[.int .i64 r] 3 (0,0))∧∀ rest,jL p (pre++rest) q=r)∧Below w.heap.size w W
theorem aFz (w:World) (p q:Int) (B:Nat) (hB:w.heap.size≤B):OwnFrom B (RI2 w p q) :=
 OwnFrom.and (fun _ _ _ _ hs hg hr=>by obtain⟨h1,h2,h3⟩:=hs;exact⟨gV h1 hg (fun r e=>(hr r e).2),gV h2 hg (fun r e=>(hr r e).2),h3⟩) (ownFrom_below (Nat.le_refl _) hB)
theorem aKq (w:World) (p q:Int) (B:Nat) (hB:w.heap.size≤B) (c:Code):OwnFrom B (RIx2 w p q c) :=
 OwnFrom.and (fun _ _ _ _ hs hg hr=>by obtain⟨h0,r,h1,h2⟩:=hs;exact⟨h0,r,gV h1 hg (fun r e=>(hr r e).2),h2⟩) (ownFrom_below (Nat.le_refl _) hB)
def RMk (w:World) (ao:Option Addr) (n c:Nat) (p q:Int) (u v:Value):Act :=
 { tmps := #[.agg #[.slice ao n c,.bool false],.int .i64 p,.int .i64 q,.pointer (some ⟨w.heap.size,0,none⟩),.pointer (some ⟨w.heap.size+1,0,none⟩),undef,.pointer (some ⟨w.heap.size+1+1,0,none⟩),.func (.func 297) #[.agg #[.slice ao n c,.bool false]] #[],u,.agg #[.slice ao n c,.bool false],.func (.func 297) #[.agg #[.slice ao n c,.bool false]] #[],.func (.func 297) #[.agg #[.slice ao n c,.bool false]] #[],v,undef,undef,undef,undef,undef,undef,undef,undef,undef,undef,undef,undef,undef,undef,undef,undef],defers:=[] }
theorem aH2 (ao:Option Addr) (c:Nat) (d:List PcV) (p q:Int) (w:World) (hr:PRow w ao d) (hs:d.length≤4096) (hl:(lenF d 0 0).2.2=0) (hp0:0≤p) (hp1:p≤1048576) :
  Calls Tryz.prog 295 #[.agg #[.slice ao d.length c,.bool false],.int .i64 p,.int .i64 q] w fun e w'=>e = .returned (.int .i64 (eD p d 0 0 q))∧Below w.heap.size w w':=by
 rw[lJ,← xV hp0 hp1 _ _ (vE d 0 0 hl (by omega) (by omega) (by omega) (by omega))]
 have hrb:∀ b off,ao=some ⟨b,off,none⟩→b≠w.heap.size+1+1:=fun b off e=>by
  rcases hr with⟨h,_⟩ | ⟨b',off',h,hb,_⟩
  ·rw[h] at e;cases e
  ·rw[h] at e;injection e with e;injection e with e _ _;omega
 refine (callsIn_wide (n:=4)).1 ?_
 refine callsIn_of_wp_marks Tryz.func295 rfl trivial ?_ rfl
 simp only[Tryz.ntmps295,List.size_toArray,List.length_cons,List.length_nil,Nat.reduceAdd,Nat.reduceSub,Array.replicate_succ,Array.replicate_zero,List.push_toArray,List.append_toArray,List.nil_append,List.cons_append]
 gi_wp2
 have hrd:PRow (((w.alloc (.cells #[.slice ao d.length c,.bool false] 306)).alloc (.cells #[.int .i64 p] 3)).alloc (.cells #[.int .i64 0] 3)) ao d:=hr.on ((((Below.refl _ w).alloc (Nat.le_refl _) _).alloc (by simp) _).alloc (by simp;omega) _)
 refine aKn (α:=R3) rfl (by omega) (gf:=297) (bs := #[.agg #[.slice ao d.length c,.bool false]]) (lb := #[]) rfl trivial (enters_of Tryz.func297 (by kernel_rfl) rfl)
  (vF 3 (by omega) (w.heap.size+1+1) c ao d hs hl _ hrd hrb (by simp)) (fun h k=>h.trans k) (fun W l o o' _ h ho _=>eH.put _ W l o o' h ho) (Below.refl _ _) (fun _=>rfl)
  (RI2 w p q) (RIx2 w p q) (aFz w p q _ (by simp;omega)) (aKq w p q _ (by simp;omega)) ?start (AxR 8 (RMk w ao d.length c p q)) (fun x a'=>aFy _ _ _ x a') ?assign ?body ?done ?stop
 case start =>
  have h1:=heap_alloc_new (w.alloc (.cells #[.slice ao d.length c,.bool false] 306)) (.cells #[.int .i64 p] 3)
  have h2:=heap_alloc_new ((w.alloc (.cells #[.slice ao d.length c,.bool false] 306)).alloc (.cells #[.int .i64 p] 3)) (.cells #[.int .i64 0] 3)
  simp only[World.size_alloc] at h1 h2
  exact⟨⟨(heap_alloc_old _ _ (by simp)).trans h1,h2,fun _=>rfl⟩,(((Below.refl _ w).alloc (Nat.le_refl _) _).alloc (by simp) _).alloc (by simp;omega) _⟩
 case assign =>
  rintro l pre ⟨x0,x1,x2⟩ W K hI hK
  simp only[runV]
  gi_wp2
  exact hK _ _ (KeepsFrom.of_grownBy (World.grownBy_alloc W _ none) (fun j e=>by cases e)) (eH.alloc _ _ _) ((aFz w p q _ (Nat.le_refl _)).alloc _ hI) ⟨W.heap.size,rfl,heap_alloc_new W _⟩
 case body =>
  rintro l pre x a' W _ _ ⟨⟨hp,ho,hf⟩,hB⟩ ⟨g,rfl,hg⟩ _
  obtain⟨x0,x1,x2⟩:=x
  obtain⟨cp,_⟩:=box1 hp
  obtain⟨co,fo⟩:=box1 ho
  obtain⟨g0,g1,g2⟩:=cZ hg
  unfold RMk
  gi_wp2
  ·refine⟨KeepsFrom.of_grownBy (grownBy_setCell' W _ _) (fun j e=>by cases e;simp),⟨rfl,_,nO ho,fun rest => ?_⟩,hB.setCell (p:=⟨w.heap.size+1+1,0,none⟩) (by simp;omega) _⟩
   rw[List.append_assoc,hf]
   show jL p ((x0,x1,x2)::rest) q=_
   rw[jL,if_pos (by simp only[IntWalk.i64_left];assumption)]
   simp only[IntWalk.i64_left]
  ·exact⟨KeepsFrom.refl _ _,eH.refl _ _,⟨hp,ho,fun rest=>by rw[List.append_assoc,hf];show jL p ((x0,x1,x2)::rest) q=_;rw[jL,if_neg (by simp only[IntWalk.i64_left];omega)]⟩,hB⟩
 case done =>
  rintro D ys W hD rfl ⟨⟨hp,ho,hf⟩,hB⟩ hK
  obtain⟨co,fo⟩:=box1 ho
  have hres:=hf []
  rw[List.append_nil] at hres
  have Hres:=Lib.hid (show jL p (fG d 0 0) q=q from hres)
  have hK':=(KeepsOthers.setCell W ⟨w.heap.size+1+1,0,none⟩ (.int .i64 q)).same D _ hK rfl
  have h5:=gV (nO (u := .int .i64 q) ho) (grownBy_putObj' _ D (.deferred none)) (fun r e=>by cases e;exact⟨_,hK',rfl⟩)
  obtain⟨c5,_⟩:=box1 h5
  gi_wp2
  refine⟨by simp,.inl ⟨_,_,rfl,run_takeDeferred hK',?_⟩⟩
  exact⟨.int .i64 q,by simp[results,Tryz.f295,go_sem,c5],by rw[Hres.out],(hB.setCell (p:=⟨w.heap.size+1+1,0,none⟩) (by simp;omega) _).trans (belowK_b (w:=w) (Nat.le_refl _) _ D _ _ (by simp at hD;omega) hK' rfl rfl)⟩
 case stop =>
  rintro D cd pre W hD hpre ⟨⟨rfl,r,ho,hf⟩,hB⟩ hK
  obtain⟨tl,htl⟩:=hpre
  have hres:=hf tl
  rw[htl] at hres
  have Hres:=Lib.hid hres
  have h5:=gV ho (grownBy_putObj' _ D (.deferred none)) (fun r e=>by cases e;exact⟨_,hK,rfl⟩)
  obtain⟨c5,_⟩:=box1 h5
  gi_wp2
  refine⟨by simp,.inl ⟨_,_,rfl,run_takeDeferred hK,?_⟩⟩
  exact⟨.int .i64 r,by simp[results,Tryz.f295,go_sem,c5],by rw[Hres.out],hB.trans (belowK_b (w:=w) (Nat.le_refl _) W D _ _ (by simp at hD;omega) hK rfl rfl)⟩
def posM (d:List PcV) (p g q:Int):Int:=if g=0 then gP p d 0 0 0 else eD p d 0 0 q
theorem zP (ao:Option Addr) (c:Nat) (d:List PcV) (p g:Int) (w:World) (hr:PRow w ao d) (hs:d.length≤4096) (hc:d.length≤c) (hl:(lenS d).2.2=0) (hp0:0≤p) (hp1:p≤(lenS d).1) (hin:(lenS d).1≤1048576) (hg:g=0∨g=1) :
  Calls Tryz.prog 278 #[.slice ao d.length c,.int .i64 p,.int .u8 g] w fun e w'=>e = .returned (.tuple #[.int .i64 (posS d p g),.int .i64 0])∧Below w.heap.size w w':=by
 have hl':(lenF d 0 0).2.2=0:=by unfold lenS at hl;rw[if_neg (by omega)] at hl;exact hl
 have mv:∀ (q:Int) (W:World),PRow W ao d→Calls Tryz.prog 290 #[.agg #[.slice ao d.length c,.bool false],.int .i64 p,.int .u8 g,.int .i64 (lenS d).1,.int .i64 q] W fun e w'=>e = .returned (.tuple #[.int .i64 (posM d p g q),.int .i64 0])∧Below W.heap.size W w':=by
  intro q W hW
  have d1:decide (p<0)=false:=by simp;omega
  have d2:decide ((lenS d).1<p)=false:=by simp;omega
  have hp2:p≤1048576:=by omega
  have hBa:=fun o=>(Below.refl W.heap.size W).alloc (Nat.le_refl _) o
  have hWo:=fun o=>hW.on (hBa o)
  clear hl hp1 hin
  rcases hg with rfl | rfl
  ·go_enter Tryz.func290,Tryz.ntmps290
   go_wp2_with (go_at_call 294;refine (aKp ao c d p _ (hWo _) hs hl' hp0 hp2).mono ?_;rintro e w' ⟨rfl,hB⟩)
   go_returns
   exact⟨rfl,(hBa _).trans (hB.mono (by simp))⟩
  ·go_enter Tryz.func290,Tryz.ntmps290
   go_wp2_with (go_at_call 295;refine (aH2 ao c d p q _ (hWo _) hs hl' hp0 hp2).mono ?_;rintro e w' ⟨rfl,hB⟩)
   go_returns
   exact⟨rfl,(hBa _).trans (hB.mono (by simp))⟩
 have ln:=mJ ao c d w hr (by omega) hc
 have hl2:=Lib.hid hl
 rw[hl] at ln
 have hrs:=fun W (hB:Below w.heap.size w W)=>hr.on hB
 clear hr hp1 hin hl hl'
 have hpm:posS d p g=posM d p g (lenS d).2.1:=rfl
 rw[hpm]
 clear hpm
 generalize (lenS d).1=i1 at *
 generalize (lenS d).2.1=i2 at *
 go_enter Tryz.func278,Tryz.ntmps278
 go_wp2_with (first | (go_at_call 111;refine ln.mono ?_;rintro e w1 ⟨rfl,hB1⟩) | (go_at_call 290;refine (mv i2 _ (hrs _ hB1)).mono ?_;rintro e w2 ⟨rfl,hB2⟩))
 go_returns
 exact⟨rfl,hB1.trans (hB2.mono hB1.size)⟩
end Go.Proofs.YtdeiocppghhfdaaGreat
