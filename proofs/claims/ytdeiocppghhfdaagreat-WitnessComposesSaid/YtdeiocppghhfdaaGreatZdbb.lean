/- Texts, one behind another. -/
import Derived.Test.YtdeiocppghhfdaaGreatZdax
import Derived.Lib.AppendStr
import Derived.Laws.BytesString
set_option linter.unusedVariables false
set_option linter.unusedSimpArgs false
set_option maxRecDepth 100000
set_option maxHeartbeats 8000000
namespace Go.Proofs.YtdeiocppghhfdaaGreat
open Go.RowKit Go.Lib Go.Shelf
structure KK (B:Nat) (w w':World):Prop where
 os:w'.os=w.os
 tape:w'.tape=w.tape
 output:w'.output=w.output
 size:w.heap.size≤w'.heap.size
 low:∀ k,k<w.heap.size→k<B→w'.heap[k]? = w.heap[k]?
 typ:∀ (k:Nat) (cs:Array Value) (T:TypeId),w.heap[k]? = some (.cells cs T (0,0))→T≠5→w'.heap[k]? = some (.cells cs T (0,0))
theorem KK.refl (B:Nat) (w:World):KK B w w:=⟨rfl,rfl,rfl,Nat.le_refl _,fun _ _ _=>rfl,fun _ _ _ h _=>h⟩
theorem KK.trans {B:Nat} {a b c:World} (h:KK B a b) (k:KK B b c):KK B a c :=
 ⟨k.os.trans h.os,k.tape.trans h.tape,k.output.trans h.output,Nat.le_trans h.size k.size,fun i hi hB=>(k.low i (Nat.lt_of_lt_of_le hi h.size) hB).trans (h.low i hi hB),fun i cs T hi hT=>k.typ i cs T (h.typ i cs T hi hT) hT⟩
theorem KK.of_below {B:Nat} {w w':World} (h:Below w.heap.size w w'):KK B w w':=⟨h.os,h.tape,h.output,h.size,fun k hk _=>h.block k hk,fun k cs T hk _=>(h.block k (Array.getElem?_eq_some_iff.1 hk).1).trans hk⟩
theorem KK.below {B:Nat} {w w':World} (h:KK B w w') (hB:B≤w.heap.size):Below B w w':=⟨h.os,h.tape,h.output,h.size,fun k hk=>h.low k (by omega) hk⟩
theorem KK.drew {B:Nat} {w w':World} (h:KK B w w'):KK B w w'.drew:=⟨h.os,h.tape,h.output,h.size,h.low,h.typ⟩
theorem KK.grown {B n:Nat} {w w':World} {v:Value} {xs:List Value} (h:w.grownBy w' v.ownBlock) (ho:w.ownsRow B 5 1 v n xs):KK B w w':=by
 have hty:∀ k,v.ownBlock=some k→B≤k∧∃ cs,w.heap[k]? = some (.cells cs 5 (0,0)):=fun k hk=>by
  rcases ho.2 with⟨e1,_⟩ | ⟨g,cap,cur,e1,hB,hg,_⟩
  ·rw[e1] at hk;cases hk
  ·rw[e1] at hk;injection hk with hk;subst hk;exact⟨hB,_,hg⟩
 refine⟨h.os,h.tape,h.output,h.size,fun k hk hB=>h.block k hk fun e => ?_,fun k cs T hk hT=>(h.block k (Array.getElem?_eq_some_iff.1 hk).1 fun e => ?_).trans hk⟩
 ·have:=(hty k e.symm).1;omega
 ·obtain⟨_,cs',h2⟩:=hty k e.symm
  rw[hk] at h2;injection h2 with h2;injection h2 with _ h3 _;exact hT h3
end Go.Proofs.YtdeiocppghhfdaaGreat
namespace Go.Proofs.YtdeiocppghhfdaaGreat
open Go.RowKit Go.Lib Go.Shelf
def b2 (x:Bool):List Int:=[if x then 1 else 0]
end Go.Proofs.YtdeiocppghhfdaaGreat
