/- Texts, one behind another. -/
import Derived.Test.YtdeiocppghhfdaaGreatZfaz
import Derived.Test.YtdeiocppghhfdaaGreatZfba
import Derived.DeepKeys4
import Derived.Maps.Own
import Derived.Maps.OwnOps
import Derived.Carry
set_option linter.unusedVariables false
set_option linter.unusedSimpArgs false
set_option maxRecDepth 100000
set_option maxHeartbeats 40000000
namespace Go.Proofs.YtdeiocppghhfdaaGreat.Lin
open Go.Maps Go.ChangeMaps Go.MapKept
open Go.WideElems (Fit rd rg pl rd_val rd_key)
abbrev tSt:TypeId:=105
theorem laidOut:laidOutB Tryz.prog=true:=by kernel_rfl
theorem aGk:Keyed Tryz.prog tSt:=Keyed.of_law (deep_law_laid laidOut (m:=2) (by omega) (of_decide_eq_true (by kernel_rfl)) (by kernel_rfl) (by kernel_rfl))
def stV (u:Int) (s:ByteArray):Value := .agg #[.int .i64 u,.string s]
theorem aLx (u:Int) (s:ByteArray) (hu:(Lit.int .i64 u).wf=true) (hs:s.size≤maxLen):∃ kl,keyOf Tryz.prog tSt (stV u s)=some kl:=by
 unfold keyOf stV
 rw[Tryz.underlying105]
 have h1 : Tryz.prog.keyType tSt=true:=by kernel_rfl
 have h2:(Value.agg #[.int .i64 u,.string s]).formed Tryz.prog tSt=true:=by
  simp[Value.formed,Tryz.underlying105]
  kernel_rfl
 have h3 : Tryz.prog.keyLits (Tryz.prog.types.size+1) tSt (Value.agg #[.int .i64 u,.string s]).cells.toList=some [.int .i64 u,.string s.data.toList]:=by
  obtain⟨n,hn⟩:∃ n,Tryz.prog.types.size=n+1:=⟨_,rfl⟩
  rw[hn]
  have e2 : Tryz.prog.cellsOf tSt=2:=by kernel_rfl
  have e3 : Tryz.prog.cellsOf 3=1:=by kernel_rfl
  have e5 : Tryz.prog.cellsOf 9=1:=by kernel_rfl
  simp[Program.keyLits,Tryz.underlying105,Tryz.underlying3,Tryz.underlying9,Value.cells,e2,e3,e5,hu,hs]
 rw[h1,h2,h3]
 exact⟨_,rfl⟩
def MapP (w:World) (E:TypeId) (b n:Nat) (Pr:Int→ByteArray→Value→Prop):Prop :=
 ∃ es clock,w.heap[b]? = some (.map es clock)∧Fit (H:=Unit) Tryz.prog tSt (plainElem Tryz.prog E) es clock∧es.size≤n∧∀ e∈es.toList,∃ u s,e.key=stV u s∧Pr u s e.val
theorem MapP.made (w:World) (E:TypeId) (Pr:Int→ByteArray→Value→Prop):MapP (w.alloc (.map #[] 0)) E w.heap.size 0 Pr :=
 ⟨#[],0,(MapKept.heap_alloc w _).1,⟨by simp,stamped_empty 0,by simp⟩,Nat.le_refl _,by simp⟩
theorem MapP.mono {w:World} {E:TypeId} {b n m:Nat} {Pr:Int→ByteArray→Value→Prop} (h:MapP w E b n Pr) (hm:n≤m):MapP w E b m Pr:=by
 obtain⟨es,clock,hb,F,hs,hP⟩:=h
 exact⟨es,clock,hb,F,Nat.le_trans hs hm,hP⟩
theorem MapP.keep {w w':World} {E:TypeId} {b n:Nat} {Pr:Int→ByteArray→Value→Prop} (h:MapP w E b n Pr) (hk:w'.heap[b]? = w.heap[b]?):MapP w' E b n Pr:=by
 obtain⟨es,clock,hb,F,hs,hP⟩:=h
 exact⟨es,clock,hk.trans hb,F,hs,hP⟩
theorem MapP.lt {w:World} {E:TypeId} {b n:Nat} {Pr:Int→ByteArray→Value→Prop} (h:MapP w E b n Pr):b<w.heap.size:=by
 obtain⟨es,clock,hb,_⟩:=h
 exact (gAz hb).1
section
variable {w:World} {t E:TypeId} {b n:Nat} {Pr:Int→ByteArray→Value→Prop}
theorem aPf {u v:Int} {s r:ByteArray} (h:stV u s=stV v r):u=v∧s=r:=by
 unfold stV at h;injection h with h;simp at h;exact h
theorem MapP.look (h:MapP w E b n Pr) (c:Bool) (ht : Tryz.prog.underlying t=some (.map tSt E)) {z:Value} (hz:(zeroValue E).run Tryz.prog w = .ok z w) {u:Int} {s:ByteArray} (hu:(Lit.int .i64 u).wf=true) (hs:s.size≤maxLen) :
  (Instr.lookup t (.map (some b)) (stV u s) c).run Tryz.prog w = .ok (if c then .tuple #[z,.bool false] else z) w ∨
  ∃ v y,Pr u s v∧plainElem (H:=Unit) Tryz.prog E v=some y∧(Instr.lookup t (.map (some b)) (stV u s) c).run Tryz.prog w = .ok (if c then .tuple #[v,.bool true] else v) w:=by
 obtain⟨es,clock,hb,F,hn,hP⟩:=h
 obtain⟨kl,hkl⟩:=aLx u s hu hs
 rcases fit_look c aGk ht hz hb F hkl with⟨hr,_⟩ | ⟨e0,y,hm,hk,hr,hy,_⟩
 ·exact .inl hr
 ·obtain⟨u',s',e1,hp⟩:=hP e0 hm
  obtain⟨rfl,rfl⟩:=aPf (hk.symm.trans e1)
  exact .inr ⟨e0.val,y,hp,hy,hr⟩
theorem MapP.store (h:MapP w E b n Pr) (ht : Tryz.prog.underlying t=some (.map tSt E)) (hn:n<maxLen) {u:Int} {s:ByteArray} {val:Value} {y:DataW Unit × List MemPlace} (hu:(Lit.int .i64 u).wf=true) (hs:s.size≤maxLen) (hv:plainElem Tryz.prog E val=some y) (hp:Pr u s val) :
  ∃ w',(Instr.mapUpdate t (.map (some b)) (stV u s) val).run Tryz.prog w = .ok () w'∧MapP w' E b (n+1) Pr∧w.grownBy w' (some b):=by
 obtain⟨es,clock,hb,F,hsz,hP⟩:=h
 obtain⟨kl,hkl⟩:=aLx u s hu hs
 obtain⟨es',clock',hrun,F',hput,_,_,hmem⟩:=fit_store (R':=plainElem Tryz.prog E) aGk ht hb F (Nat.lt_of_le_of_lt hsz hn) (fun _ _ _ _ hz=>hz) hkl hv
 refine⟨_,hrun,⟨es',clock',heap_setBlock_same hb _,F',?_,?_⟩,⟨rfl,rfl,rfl,by simp[setBlock],fun i _ hi=>heap_setBlock_other hb _ (fun e=>hi (by rw[e]))⟩⟩
 ·have e1:es'.size=((es'.toList.map (rg Tryz.prog tSt (plainElem (H:=Unit) Tryz.prog E))).foldr DataW.insert []).length:=by rw[length_sorted];simp
  rw[e1,hput]
  unfold putKey
  rw[length_insert]
  have e2:=List.length_filter_le (notKey kl) ((es.toList.map (rg Tryz.prog tSt (plainElem (H:=Unit) Tryz.prog E))).foldr DataW.insert [])
  rw[length_sorted] at e2
  simp at e2
  omega
 ·intro x hx
  rcases hmem x hx with⟨h1,_⟩ | ⟨h1,h2⟩
  ·exact hP x h1
  ·exact⟨u,s,h1,by rw[h2];exact hp⟩
end
theorem rY (w:World) {ops:Array Oper} {rest:List Oper} {o:Oper} {a:Act} {Q:Exit→Act→World→Prop} (hg:o.guard=none) (m x:Operand) (t:TypeId) (hop:o.op=Op.lookup t m x false)
  (E:TypeId) (ht : Tryz.prog.underlying t=some (.map tSt E)) (hE : Tryz.prog.underlying E=some .bool) (hz:(zeroValue E).run Tryz.prog w = .ok (.bool false) w) {b n:Nat} {Pr:Int→ByteArray→Value→Prop} (hm:a.eval m = .map (some b)) (h:MapP w E b n Pr) (u:Int) (s:ByteArray) (hx:a.eval x=stV u s) (hu:(Lit.int .i64 u).wf=true) (hs:s.size≤maxLen)
  (hK:∀ y:Bool,(y=false∨Pr u s (.bool y))→wpList Tryz.prog ops Q rest (a.put o.dst (.bool y)) w):wpList Tryz.prog ops Q (o::rest) a w:=by
 refine wpList_plain hg fun K' hK' => ?_
 have hl:∃ y:Bool,(Instr.lookup t (.map (some b)) (stV u s) false).run Tryz.prog w = .ok (.bool y) w∧(y=false∨Pr u s (.bool y)):=by
  rcases h.look false ht hz hu hs with hr | ⟨v,y,hp,hy,hr⟩
  ·exact⟨false,hr,.inl rfl⟩
  ·unfold plainElem at hy
   rw[hE] at hy
   cases v<;>simp at hy
   exact⟨_,hr,.inr hp⟩
 obtain⟨y,hr,hy⟩:=hl
 unfold Oper.wp
 simp[execOp,hop,hm,hx,hr,Result.andThen]
 exact hK' _ _ (hK y hy)
theorem tL (w:World) {ops:Array Oper} {rest:List Oper} {o:Oper} {a:Act} {Q:Exit→Act→World→Prop} (hg:o.guard=none) (m x:Operand) (t:TypeId) (hop:o.op=Op.lookup t m x true)
  (E:TypeId) (ht : Tryz.prog.underlying t=some (.map tSt E)) (hE : Tryz.prog.underlying E=some (.int .i64)) (hz:(zeroValue E).run Tryz.prog w = .ok (.int .i64 0) w) {b n:Nat} {Pr:Int→ByteArray→Value→Prop} (hm:a.eval m = .map (some b)) (h:MapP w E b n Pr) (u:Int) (s:ByteArray) (hx:a.eval x=stV u s) (hu:(Lit.int .i64 u).wf=true) (hs:s.size≤maxLen)
  (hK:∀ (y:Bool) (c:Int),(y=true→Pr u s (.int .i64 c))→wpList Tryz.prog ops Q rest (a.put o.dst (.tuple #[.int .i64 c,.bool y])) w):wpList Tryz.prog ops Q (o::rest) a w:=by
 refine wpList_plain hg fun K' hK' => ?_
 have hl:∃ (y:Bool) (c:Int),(Instr.lookup t (.map (some b)) (stV u s) true).run Tryz.prog w = .ok (.tuple #[.int .i64 c,.bool y]) w∧(y=true→Pr u s (.int .i64 c)):=by
  rcases h.look true ht hz hu hs with hr | ⟨v,y,hp,hy,hr⟩
  ·exact⟨false,0,hr,by simp⟩
  ·obtain⟨c,rfl,_,_⟩:=plainElem_int_inv hE hy
   exact⟨true,c,hr,fun _=>hp⟩
 obtain⟨y,c,hr,hy⟩:=hl
 unfold Oper.wp
 simp[execOp,hop,hm,hx,hr,Result.andThen]
 exact hK' _ _ (hK y c hy)
theorem lZ (w:World) {ops:Array Oper} {rest:List Oper} {o:Oper} {a:Act} {Q:Exit→Act→World→Prop} (hg:o.guard=none) (m x v:Operand) (t:TypeId) (hop:o.op=Op.mapUpdate t m x v)
  (E:TypeId) (ht : Tryz.prog.underlying t=some (.map tSt E)) {b n:Nat} {Pr:Int→ByteArray→Value→Prop} (hm:a.eval m = .map (some b)) (h:MapP w E b n Pr) (hn:n<maxLen) (u:Int) (s:ByteArray) (val:Value) (hx:a.eval x=stV u s) (hv:a.eval v=val) (hu:(Lit.int .i64 u).wf=true) (hs:s.size≤maxLen)
  {y:DataW Unit × List MemPlace} (hval:plainElem Tryz.prog E val=some y) (hp:Pr u s val)
  (hK:∀ w',MapP w' E b (n+1) Pr→w.grownBy w' (some b)→wpList Tryz.prog ops Q rest (a.put o.dst undef) w'):wpList Tryz.prog ops Q (o::rest) a w:=by
 refine wpList_plain hg fun K' hK' => ?_
 obtain⟨w',hrun,r1,r2⟩:=h.store ht hn hu hs hval hp
 unfold Oper.wp
 simp[execOp,hop,hm,hx,hv,hrun,Result.andThen]
 exact hK' _ _ (hK w' r1 r2)
end Go.Proofs.YtdeiocppghhfdaaGreat.Lin
namespace Go.Proofs.YtdeiocppghhfdaaGreat.Lin
open Go.RowKit Go.Lib Go.Shelf
open Hs
open KitI (iv own_below)
abbrev tInt:TypeId:=3
abbrev tSl:TypeId:=28
structure FK (n0 s:Nat) (W W':World):Prop where
 bel:Below n0 W W'
 low:∀ j,j<s+4→j≠n0+2→j≠s→W'.heap[j]? = W.heap[j]?
 high:∀ j (cs:Array Value) T r,s+4≤j→W.heap[j]? = some (.cells cs T r)→T≠tInt→W'.heap[j]? = some (.cells cs T r)
theorem FK.refl (n0 s:Nat) (W:World):FK n0 s W W:=⟨Below.refl _ _,fun _ _ _ _=>rfl,fun _ _ _ _ _ h _=>h⟩
theorem FK.trans {n0 s:Nat} {A B C:World} (h:FK n0 s A B) (k:FK n0 s B C):FK n0 s A C :=
 ⟨h.bel.trans k.bel,fun j h1 h2 h3=>(k.low j h1 h2 h3).trans (h.low j h1 h2 h3),fun j cs T r h1 h2 h3=>k.high j cs T r h1 (h.high j cs T r h1 h2 h3) h3⟩
theorem FK.below {n0 s:Nat} {W W':World} (h:Below W.heap.size W W') (h1:s+4≤W.heap.size) (h2:n0≤s):FK n0 s W W' :=
 ⟨h.mono (by omega),fun j hj _ _=>h.block j (by omega),fun j cs T r _ hc _=>(h.block j (gAz hc).1).trans hc⟩
theorem FK.row {n0 s n:Nat} {W W':World} {v:Value} {xs:List Value} (ho:W.ownsRow (s+4) tInt 1 v n xs) (hg:W.grownBy W' v.ownBlock) (h1:s+4≤W.heap.size) (h2:n0≤s):FK n0 s W W':=by
 have hrow:∀ j,some j=v.ownBlock→s+4≤j∧∃ cur,W.heap[j]? = some (.cells cur tInt (0,0)):=fun j e=>by
  rcases ho.2 with⟨h1,_⟩ | ⟨g,cap,cur,h1,h3,h4,_⟩
  ·rw[h1] at e;cases e
  ·rw[h1] at e;injection e with e;subst e;exact⟨h3,cur,h4⟩
 refine⟨⟨hg.os,hg.tape,hg.output,hg.size,fun j hj=>hg.block j (by omega) fun e => ?_⟩,fun j hj _ _=>hg.block j (by omega) fun e => ?_,fun j cs T r _ hc hT=>(hg.block j (gAz hc).1 fun e => ?_).trans hc⟩
 ·have:=(hrow j e).1;omega
 ·have:=(hrow j e).1;omega
 ·obtain⟨_,cur,h⟩:=hrow j e
  rw[hc] at h;injection h with h;injection h with _ h _;exact hT h
theorem FK.box {n0 s:Nat} (W:World) (v:Value) (h2:n0+3≤s):FK n0 s W (W.setCell ⟨n0+2,0,none⟩ v):=by
 refine⟨(Below.refl n0 W).setCell (p:=⟨n0+2,0,none⟩) (by simp) v,fun j _ h _=>Below.heap_setCell W _ v j h,fun j cs T r h1 hc _=>(Below.heap_setCell W _ v j ?_).trans hc⟩
 show j≠n0+2
 omega
theorem FK.map {n0 s:Nat} {W W':World} (hg:W.grownBy W' (some s)) (hs:s+4≤W.heap.size) (h2:n0≤s):FK n0 s W W':=by
 refine⟨⟨hg.os,hg.tape,hg.output,hg.size,fun j hj=>hg.block j (by omega) fun e => ?_⟩,fun j hj _ h=>hg.block j (by omega) fun e=>h (Option.some.inj e),fun j cs T r h1 hc _=>(hg.block j (gAz hc).1 fun e => ?_).trans hc⟩
 ·injection e with e;omega
 ·injection e with e;omega
def vP (cs:List aA) (u:Int) (k:ByteArray) (_:Value):Prop:=∀ (x:Nat) (st:MS),(x:Int)=u→MSok st 100000→k=strOf (keyL st)→SS cs st x=none
abbrev jP:FuncId:=63
def aSa (n0 s:Nat):Value := .func (.func jP) #[] #[.pointer (some ⟨s+1,0,none⟩),.pointer (some ⟨s+2,0,none⟩),.pointer (some ⟨n0+1,0,none⟩),.pointer (some ⟨n0+2,0,none⟩),.pointer (some ⟨s+3,0,none⟩)]
structure FE (n0 s:Nat) (w0:World) (p:Option Addr) (cap:Nat) (cs:List aA) (nm:Nat) (v:Value) (W:World):Prop where
 bel:Below n0 w0 W
 le:s+4≤W.heap.size
 cl:W.cell? ⟨n0+1,0,none⟩=some (.slice p cs.length cap)
 co:W.heap[n0+2]? = some (.cells #[v] tSl (0,0))
 mp:MapP W 4 s nm (vP cs)
 ca:W.cell? ⟨s+1,0,none⟩=some (.int .i64 (allB cs cs.length:Nat))
 cd:W.cell? ⟨s+2,0,none⟩=some (.map (some s))
 cf:W.cell? ⟨s+3,0,none⟩=some (aSa n0 s)
section
variable {n0 s:Nat} {w0:World} {p:Option Addr} {cap:Nat} {cs:List aA} {nm nm':Nat} {v v':Value} {W W':World}
theorem FE.step (h:FE n0 s w0 p cap cs nm v W) (k:FK n0 s W W') (hs:n0+3≤s) (hb:W'.heap[n0+2]? = some (.cells #[v'] tSl (0,0))) (hm:MapP W' 4 s nm' (vP cs)):FE n0 s w0 p cap cs nm' v' W':=by
 have hc:∀ j o,j<s+4→j≠n0+2→j≠s→W'.cell? ⟨j,o,none⟩=W.cell? ⟨j,o,none⟩:=fun j o h1 h2 h3=>World.cell?_of_block (a:=⟨j,o,none⟩) (k.low j h1 h2 h3)
 refine⟨h.bel.trans k.bel,Nat.le_trans h.le k.bel.size,?_,hb,hm,?_,?_,?_⟩
 ·rw[hc _ _ (by omega) (by omega) (by omega)];exact h.cl
 ·rw[hc _ _ (by omega) (by omega) (by omega)];exact h.ca
 ·rw[hc _ _ (by omega) (by omega) (by omega)];exact h.cd
 ·rw[hc _ _ (by omega) (by omega) (by omega)];exact h.cf
theorem FE.on (h:FE n0 s w0 p cap cs nm v W) (hb:Below W.heap.size W W') (hs:n0+3≤s):FE n0 s w0 p cap cs nm v W' :=
 h.step (FK.below hb h.le (by omega)) hs ((hb.block _ (by have:=h.le;omega)).trans h.co) (h.mp.keep (hb.block _ h.mp.lt))
theorem FE.grown {n:Nat} {xs:List Value} (h:FE n0 s w0 p cap cs nm v W) (ho:W.ownsRow (s+4) tInt 1 v' n xs) (hg:W.grownBy W' v'.ownBlock) (hs:n0+3≤s):FE n0 s w0 p cap cs nm v W':=by
 have hlow:∀ j,j<s+4→W'.heap[j]? = W.heap[j]? := fun j hj=>hg.block j (by have:=h.le;omega) fun e=>by
  rcases ho.2 with⟨h1,_⟩ | ⟨g,cap,cur,h1,h3,h4,_⟩
  ·rw[h1] at e;cases e
  ·rw[h1] at e;injection e with e;simp at e;omega
 exact h.step (FK.row ho hg h.le (by omega)) hs ((hlow _ (by omega)).trans h.co) (h.mp.keep (hlow _ (by omega)))
theorem FE.box (h:FE n0 s w0 p cap cs nm v W) (hs:n0+3≤s) (u:Value):FE n0 s w0 p cap cs nm u (W.setCell ⟨n0+2,0,none⟩ u) :=
 h.step (FK.box W u hs) hs (by have:=bZ (L:=[v]) h.co 0 u;simpa using this) (h.mp.keep (Below.heap_setCell W _ u s (by simp;omega)))
theorem FE.store (h:FE n0 s w0 p cap cs nm v W) (hs:n0+3≤s) (hg:W.grownBy W' (some s)) (hm:MapP W' 4 s nm' (vP cs)):FE n0 s w0 p cap cs nm' v W' :=
 h.step (FK.map hg h.le (by omega)) hs ((hg.block _ (by have:=h.le;omega) (fun e=>by injection e with e;omega)).trans h.co) hm
theorem FE.blk (h:FE n0 s w0 p cap cs nm v W) (k:FK n0 s W W') {j:Nat} {c:Array Value} {T:TypeId} {r:Nat × Nat} (hj:W.heap[j]? = some (.cells c T r)) (h1:T≠tInt) (h2:T≠tSl):W'.heap[j]? = some (.cells c T r):=by
 by_cases hlt:j<s+4
 ·refine (k.low j hlt (fun e => ?_) (fun e => ?_)).trans hj
  ·subst e;rw[h.co] at hj;injection hj with hj;injection hj with _ hj _;exact h2 hj.symm
  ·subst e
   obtain⟨es,ck,hm,_⟩:=h.mp
   rw[hm] at hj;cases hj
 ·exact k.high j c T r (by omega) hj h1
theorem FE.row (h:FE n0 s w0 p cap cs nm v W) (k:FK n0 s W W') {base sz n:Nat} {e:TypeId} {x:Value} {xs:List Value} (ho:W.ownsRow base e sz x n xs) (h1:e≠tInt) (h2:e≠tSl):W'.ownsRow base e sz x n xs:=by
 refine⟨ho.1,?_⟩
 rcases ho.2 with hn | ⟨g,cap,cur,rfl,hB,hg,rest⟩
 ·exact .inl hn
 ·exact .inr ⟨g,cap,cur,rfl,hB,h.blk k hg h1 h2,rest⟩
theorem FE.model (h:FE n0 s w0 p cap cs nm v W) (k:FK n0 s W W') {b:Nat} {M:MM} (hM:MdAt W b M):MdAt W' b M :=
 ⟨h.blk k hM.blk (by decide) (by decide),h.row k hM.marks (by decide) (by decide),h.row k hM.seats (by decide) (by decide),fun S hS=>h.row k (hM.slots S hS) (by decide) (by decide),fun S hS x hx=>h.row k (hM.smarks S hS x hx) (by decide) (by decide),hM.some_,hM.nodup⟩
theorem uE {n:Nat} {W:World} {x u:Value} {xs:List Value} (h:W.ownsRow (s+4) tInt 1 x n xs) (hs:n0+3≤s):(W.setCell ⟨n0+2,0,none⟩ u).ownsRow (s+4) tInt 1 x n xs:=by
 refine⟨h.1,?_⟩
 rcases h.2 with hn | ⟨g,cap,cur,rfl,hB,hg,rest⟩
 ·exact .inl hn
 ·exact .inr ⟨g,cap,cur,rfl,hB,(Below.heap_setCell W _ u g (by show g≠n0+2;omega)).trans hg,rest⟩
theorem aPg {n:Nat} {W W':World} {x:Value} {xs:List Value} (h:W.ownsRow (s+4) tInt 1 x n xs) (hg:W.grownBy W' (some s)):W'.ownsRow (s+4) tInt 1 x n xs:=by
 refine⟨h.1,?_⟩
 rcases h.2 with hn | ⟨g,cap,cur,rfl,hB,hc,rest⟩
 ·exact .inl hn
 ·exact .inr ⟨g,cap,cur,rfl,hB,(hg.block g (gAz hc).1 (fun e=>by injection e with e;omega)).trans hc,rest⟩
theorem uF {st t:MS} {c:aA} {K:Int} (h:MSok st K) (hc:c.Ok) (hn:eZ st c=some t):MSok t (K+1):=by
 unfold eZ at hn
 split at hn
 ·cases hn;exact aEf h (yI hc)
 ·split at hn
  ·cases hn
   unfold accS
   split
   ·exact aEf h (yI hc)
   ·exact h.mono (by omega)
  ·cases hn
theorem aB8 {W:World} {b off cap:Nat} {cs:List aA} (h:CRow W (some ⟨b,off,none⟩) cap cs):CAt W b off cs:=by
 rcases h with⟨h,_⟩ | ⟨b',off',h,_,_,hA⟩
 ·cases h
 ·injection h with h;injection h with h1 h2;subst h1 h2;exact hA
theorem aPh {base n:Nat} {W:World} {e:TypeId} {a:Option Addr} {cap:Nat} {xs:List Value} (h:W.ownsRow base e 1 (.slice a n cap) n xs):n≤cap:=by
 rcases h.2 with⟨_,hn⟩ | ⟨g,c,cur,h1,hB,hc,h4,h5,h6,h7⟩
 ·omega
 ·injection h1 with h1 h2 h3;omega
theorem aPi {base n:Nat} {W:World} {e:TypeId} {a:Option Addr} {cap:Nat} {xs:List Value} {y:Value} (h:W.ownsRow base e 1 (.slice a (n+1) cap) (n+1) (xs++[y])):W.ownsRow base e 1 (.slice a n cap) n xs:=by
 have hl:xs.length=n:=by have:=h.1;simp at this;omega
 refine⟨by omega,?_⟩
 rcases h.2 with⟨_,hn⟩ | ⟨g,c,cur,h1,hB,hc,h4,h5,h6,h7⟩
 ·omega
 ·injection h1 with h1 h2 h3
  subst h1 h3
  refine .inr ⟨g,cap,cur,rfl,hB,hc,by omega,h5,h6,?_⟩
  rw[Nat.mul_one] at h7 ⊢
  have:=congrArg (List.take n) h7
  rw[List.take_take,List.take_append_of_le_length (by omega),List.take_of_length_le (l:=xs) (by omega),Nat.min_eq_left (by omega)] at this
  exact this
end
end Go.Proofs.YtdeiocppghhfdaaGreat.Lin
namespace Go.Proofs.YtdeiocppghhfdaaGreat
def InN (a:Int):Prop:=0≤a∧a<9223372036854775808
theorem aLy {a b:Int} (ha:InN a) (hb:InN b) (h:numL a=numL b):a=b:=by
 have hw:∀ x,InN x→IntKind.u64.wrap x=x:=fun x hx=>by
  obtain⟨h1,h2⟩:=hx
  show x % 18446744073709551616=x
  omega
 have e:∀ i,i<8→a / 2 ^ (8*i) % 256=b / 2 ^ (8*i) % 256:=fun i hi=>by
  have h0:((numL a)[i]?)=((numL b)[i]?):=by rw[h]
  unfold numL at h0
  rw[List.getElem?_map,List.getElem?_map,List.getElem?_range hi] at h0
  have h1:nbB a i=nbB b i:=by simpa using h0
  unfold nbB at h1
  rw[hw a ha,hw b hb] at h1
  exact h1
 obtain⟨a1,a2⟩:=ha
 obtain⟨b1,b2⟩:=hb
 have e0:=e 0 (by omega)
 have e1:=e 1 (by omega)
 have e2:=e 2 (by omega)
 have e3:=e 3 (by omega)
 have e4:=e 4 (by omega)
 have e5:=e 5 (by omega)
 have e6:=e 6 (by omega)
 have e7:=e 7 (by omega)
 clear e hw h
 simp only[Nat.mul_zero,Nat.mul_one,Nat.reduceMul,Int.reducePow,Int.pow_zero,Int.ediv_one] at e0 e1 e2 e3 e4 e5 e6 e7
 omega
theorem gH {a b:Int} {X Y:List Int} (ha:InN a) (hb:InN b) (h:numL a++X=numL b++Y):a=b∧X=Y:=by
 obtain⟨h1,h2⟩:=List.append_inj h (by rw[dC,dC])
 exact⟨aLy ha hb h1,h2⟩
theorem aEv {a b:Bool} {X Y:List Int} (h:b2 a++X=b2 b++Y):a=b∧X=Y:=by
 cases a<;>cases b<;>simp[b2] at h ⊢ <;> exact h
theorem aQ7 {s t:ByteArray} (h:bL s=bL t):s=t:=by
 have h1:s.data.toList=t.data.toList:=by
  unfold bL at h
  refine List.map_inj_right (f:=fun b:UInt8=>(b.toNat:Int)) (fun a b hab => ?_) |>.1 h
  exact UInt8.toNat_inj.1 (by have h3:(a.toNat:Int)=(b.toNat:Int):=hab;omega)
 have h2:s.data=t.data:=Array.toList_inj.1 h1
 cases s;cases t;exact congrArg ByteArray.mk h2
theorem qV {α:Type} (f:α→List Int) (P:α→Prop) (hf:∀ a b X Y,P a→P b→f a++X=f b++Y→a=b∧X=Y):∀ (l k:List α) (X Y:List Int),l.length=k.length→(∀ x∈l,P x)→(∀ x∈k,P x)→l.flatMap f++X=k.flatMap f++Y→l=k∧X=Y
 |[],[],X,Y,_,_,_,h=>⟨rfl,by simpa using h⟩
 |[],_::_,_,_,h,_,_,_=>by simp at h
 |_::_,[],_,_,h,_,_,_=>by simp at h
 |a::l,b::k,X,Y,hl,ha,hb,h=>by
  rw[List.flatMap_cons,List.flatMap_cons,List.append_assoc,List.append_assoc] at h
  obtain⟨e1,e2⟩:=hf a b _ _ (ha a (by simp)) (hb b (by simp)) h
  obtain⟨e3,e4⟩:=qV f P hf l k X Y (by simpa using hl) (fun x hx=>ha x (by simp[hx])) (fun x hx=>hb x (by simp[hx])) e2
  exact⟨by rw[e1,e3],e4⟩
def MkN (m:MkV):Prop:=InN m.id∧InN m.at_∧InN m.grav
theorem aPj (a b:MkV) (X Y:List Int) (ha:MkN a) (hb:MkN b) (h:mkKL a++X=mkKL b++Y):a=b∧X=Y:=by
 unfold mkKL at h
 simp only[List.append_assoc] at h
 obtain⟨e1,h⟩:=gH ha.1 hb.1 h
 obtain⟨e2,h⟩:=gH ha.2.1 hb.2.1 h
 obtain⟨e3,hx⟩:=gH ha.2.2 hb.2.2 h
 refine⟨?_,hx⟩
 cases a;cases b;simp_all
theorem aB9 {s t:ByteArray} {l k:List MkV} {X Y:List Int} (hs:s.size≤65536) (ht:t.size≤65536) (hl:l.length≤64) (hk:k.length≤64) (hlm:∀ m∈l,MkN m) (hkm:∀ m∈k,MkN m) (h:txtL s l++X=txtL t k++Y):s=t∧l=k∧X=Y:=by
 unfold txtL at h
 simp only[List.append_assoc] at h
 obtain⟨e1,h⟩:=gH ⟨by omega,by omega⟩ ⟨by omega,by omega⟩ h
 obtain⟨e2,h⟩:=List.append_inj h (by rw[rW,rW];omega)
 obtain⟨e3,h⟩:=gH ⟨by omega,by omega⟩ ⟨by omega,by omega⟩ h
 obtain⟨e4,h⟩:=qV mkKL MkN aPj l k X Y (by omega) hlm hkm h
 exact⟨aQ7 e2,e4,h⟩
theorem mk_N {n:Int} (hn:n≤65536) {l:List MkV} (h:MkOK n l):∀ m∈l,MkN m:=fun m hm=>by
 obtain⟨h1,h2,h3,h4,h5⟩:=h.2.2 m hm
 refine⟨⟨?_,?_⟩,⟨?_,?_⟩,⟨?_,?_⟩⟩<;>omega
theorem aPk (a b:SnV) (X Y:List Int) (ha:SnOK a) (hb:SnOK b) (h:snK a++X=snK b++Y):a=b∧X=Y:=by
 obtain⟨a1,a2,a3,a4⟩:=ha
 obtain⟨b1,b2,b3,b4⟩:=hb
 unfold snK at h
 simp only[List.append_assoc] at h
 obtain⟨e1,h⟩:=aEv h
 obtain⟨e2,e3,h⟩:=aB9 a1 b1 a2.1 b2.1 (mk_N (by omega) a2) (mk_N (by omega) b2) h
 obtain⟨e4,hx⟩:=gH ⟨by omega,by omega⟩ ⟨by omega,by omega⟩ h
 refine⟨?_,hx⟩
 cases a;cases b;simp_all
def SeOK (r:Nat) (s:SeV):Prop:=s.slots.length=r∧r≤8∧∀ x∈s.slots,SnOK x
theorem aPl (r:Nat) (a b:SeV) (X Y:List Int) (ha:SeOK r a) (hb:SeOK r b) (h:seK a++X=seK b++Y):a=b∧X=Y:=by
 obtain⟨a1,a2,a3⟩:=ha
 obtain⟨b1,b2,b3⟩:=hb
 unfold seK at h
 simp only[List.append_assoc] at h
 obtain⟨e1,h⟩:=aEv h
 obtain⟨e2,h⟩:=gH ⟨by omega,by omega⟩ ⟨by omega,by omega⟩ h
 obtain⟨e3,hx⟩:=qV snK SnOK aPk _ _ _ _ (by omega) a3 b3 h
 refine⟨?_,hx⟩
 cases a;cases b;simp_all
theorem aLz {s t:MS} {K J:Int} (hs:MSok s K) (ht:MSok t J) (hK:K≤1000000) (hJ:J≤1000000) (h:keyL s=keyL t):s=t:=by
 have h0:keyL s++[]=keyL t++[]:=by rw[h]
 unfold keyL hdK at h0
 simp only[List.append_assoc] at h0
 have s1:=hs.num0
 have s2:=hs.num1
 have s3:=hs.readers
 have s4:=hs.clients
 have s5:=hs.size
 have t1:=ht.num0
 have t2:=ht.num1
 have t3:=ht.readers
 have t4:=ht.clients
 have t5:=ht.size
 obtain⟨e1,e2,h0⟩:=aB9 s5 t5 hs.marks.1 ht.marks.1 (mk_N (by omega) hs.marks) (mk_N (by omega) ht.marks) h0
 obtain⟨e3,h0⟩:=gH ⟨s1,by omega⟩ ⟨t1,by omega⟩ h0
 obtain⟨e4,h0⟩:=aEv h0
 obtain⟨e5,h0⟩:=gH ⟨by omega,by omega⟩ ⟨by omega,by omega⟩ h0
 obtain⟨e6,h0⟩:=gH ⟨by omega,by omega⟩ ⟨by omega,by omega⟩ h0
 have e5':s.readers=t.readers:=by omega
 obtain⟨e7,_⟩:=qV seK (SeOK t.readers) (aPl t.readers) s.seats t.seats [] [] (by omega) (fun x hx=>⟨(hs.slots x hx).1.trans e5',t3,(hs.slots x hx).2⟩) (fun x hx=>⟨(ht.slots x hx).1,t3,(ht.slots x hx).2⟩) h0
 cases s;cases t;simp_all
def Byt (L:List Int):Prop:=∀ x∈L,0≤x∧x<256
theorem Byt.app {A B:List Int} (h:Byt A) (k:Byt B):Byt (A++B):=fun x hx=>(List.mem_append.1 hx).elim (h x) (k x)
theorem Byt.flat {α:Type} {f:α→List Int} (h:∀ a,Byt (f a)) (l:List α):Byt (l.flatMap f):=fun x hx=>by
 obtain⟨a,_,hx⟩:=List.mem_flatMap.1 hx
 exact h a x hx
theorem iL (a:Int):Byt (numL a):=fun x hx=>by
 obtain⟨i,_,rfl⟩:=List.mem_map.1 hx
 unfold nbB;omega
theorem aEw (a:Bool):Byt (b2 a):=fun x hx=>by
 cases a<;>simp[b2] at hx<;>omega
theorem aQ8 (s:ByteArray):Byt (bL s):=fun x hx=>by
 obtain⟨i,_,rfl⟩:=List.mem_map.1 hx
 have:=i.toNat_lt
 omega
theorem aPm (m:MkV):Byt (mkKL m):=((iL _).app (iL _)).app (iL _)
theorem aGl (s:ByteArray) (l:List MkV):Byt (txtL s l):=(((iL _).app (aQ8 _)).app (iL _)).app (Byt.flat aPm l)
theorem aQ9 (s:SnV):Byt (snK s):=((aEw _).app (aGl _ _)).app (iL _)
theorem aRa (s:SeV):Byt (seK s):=((aEw _).app (iL _)).app (Byt.flat aQ9 _)
theorem aGm (s:MS):Byt (keyL s):=(((((aGl _ _).app (iL _)).app (aEw _)).app (iL _)).app (iL _)).app (Byt.flat aRa _)
theorem aEx (L:List Int):(strOf L).data.toList=L.map (fun n=>UInt8.ofNat n.toNat):=by
 have h:∀ (L:List Int) (r:ByteArray),(L.foldl (fun r n=>r.push (UInt8.ofNat n.toNat)) r).data.toList=r.data.toList++L.map (fun n=>UInt8.ofNat n.toNat):=by
  intro L
  induction L with
  |nil=>intro r;simp
  |cons x L ih=>intro r;rw[List.foldl_cons,ih];simp[ByteArray.push]
 unfold strOf;rw[h];rfl
theorem aIo {A B:List Int} (ha:Byt A) (hb:Byt B) (h:strOf A=strOf B):A=B:=by
 have h1:A.map (fun n=>UInt8.ofNat n.toNat)=B.map (fun n=>UInt8.ofNat n.toNat):=by rw[← aEx,← aEx,h]
 clear h
 induction A generalizing B with
 |nil=>cases B with | nil=>rfl | cons y B=>simp at h1
 |cons x A ih =>
  cases B with
  |nil=>simp at h1
  |cons y B =>
   rw[List.map_cons,List.map_cons] at h1
   injection h1 with h2 h3
   have e2:=congrArg UInt8.toNat h2
   have hx:=ha x (by simp)
   have hy:=hb y (by simp)
   simp only[UInt8.toNat_ofNat'] at e2
   have e3:x=y:=by
    rw[Nat.mod_eq_of_lt (by omega),Nat.mod_eq_of_lt (by omega)] at e2;omega
   rw[e3,ih (fun z hz=>ha z (by simp[hz])) (fun z hz=>hb z (by simp[hz])) h3]
theorem aGn {s t:MS} {K J:Int} (hs:MSok s K) (ht:MSok t J) (hK:K≤1000000) (hJ:J≤1000000):strOf (keyL s)=strOf (keyL t)↔s=t :=
 ⟨fun h=>aLz hs ht hK hJ (aIo (aGm s) (aGm t) h),fun h=>by rw[h]⟩
end Go.Proofs.YtdeiocppghhfdaaGreat
