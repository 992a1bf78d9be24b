/- Texts, one behind another. -/
import Derived.Test.YtdeiocppghhfdaaGreatZfav
import Derived.Deep.Slices
set_option linter.unusedVariables false
set_option linter.unusedSimpArgs false
set_option maxRecDepth 100000
set_option maxHeartbeats 40000000
namespace Go.Proofs.YtdeiocppghhfdaaGreat
open Go.RowKit Go.WideShapes Go.ChangeShapes Go.Deep
section
variable {H:Type} {enc:TypeId × Value→H} {P:Program} {w:World} {base:Nat} {spare:Nat→Bool} {held:Bool}
theorem aT {t:TypeId} {fs:Array Field} {fuel:Nat} {cs:List Value} {x:DataW H × List MemPlace} (hs:P.underlying t=some (.struct fs)) (h:DataW.trod enc P w base spare held fuel t cs=some x) (i:Nat) (f:Field) (hf:fs[i]? = some f) :
  ∃ n y,DataW.trod enc P w base spare held n f.type ((cs.drop f.offset).take (P.cellsOf f.type))=some y:=by
 obtain⟨xs,n,_,_,_,hl,hx⟩:=DataW.trod_struct hs h
 have h1:=hx i f hf
 have hlt:=(gAz hf).1
 rw[gEz (by omega)] at h1
 exact⟨n,_,h1⟩
theorem cell_of {cs:List Value} {k m:Nat} {v:Value} (h:(cs.drop k).take m=[v]):cs[k]? = some v:=by
 have h1:((cs.drop k).take m)[0]? = some v:=by rw[h];rfl
 rw[List.getElem?_take] at h1
 split at h1
 ·rwa [List.getElem?_drop,Nat.add_zero] at h1
 ·cases h1
theorem bA {t:TypeId} {κ:IntKind} {fuel k m:Nat} {cs:List Value} {x:DataW H × List MemPlace} (ht:P.underlying t=some (.int κ)) (h:DataW.trod enc P w base spare held fuel t ((cs.drop k).take m)=some x):∃ z,cs[k]? = some (.int κ z)∧(Lit.int κ z).wf=true:=by
 obtain⟨z,h1,_,h2⟩:=DataW.trod_int ht h
 exact⟨z,cell_of h1,h2⟩
theorem qP {t:TypeId} {fuel k m:Nat} {cs:List Value} {x:DataW H × List MemPlace} (ht:P.underlying t=some .string) (h:DataW.trod enc P w base spare held fuel t ((cs.drop k).take m)=some x):∃ z,cs[k]? = some (.string z):=by
 obtain⟨z,h1,_,_⟩:=DataW.trod_string ht h
 exact⟨z,cell_of h1⟩
theorem bC {cs:List Value} {o m k:Nat} {v:Value} (h:((cs.drop o).take m)[k]? = some v):cs[o+k]? = some v:=by
 rw[List.getElem?_take] at h
 split at h
 ·rwa [List.getElem?_drop] at h
 ·cases h
theorem uC {α:Type} (f:α→List Value) (k:Nat) (hk:∀ x,(f x).length=k) (a:Addr) (Q:α→Prop):∀ (n:Nat),(∀ i,i<n→∃ x,w.cells? base (a.add (i*k)) k=some (f x)∧Q x) →
  ∃ xs:List α,xs.length=n∧(∀ x∈xs,Q x)∧∀ j u,(xs.flatMap f)[j]? = some u→w.cell? (a.add j)=some u
 |0,_=>⟨[],rfl,fun _ h=>by (cases h),fun j u h=>by simp at h⟩
 |n+1,h=>by
  obtain⟨xs,hl,hQ,hx⟩:=uC f k hk a Q n (fun i hi=>h i (by omega))
  obtain⟨x,hc,hq⟩:=h n (by omega)
  obtain⟨_,hlen,hcell⟩:=World.cells?_some hc
  have hfl:(xs.flatMap f).length=n*k:=by
   clear hx h
   rw[← hl]
   clear hl hQ
   induction xs with
   |nil=>simp
   |cons y ys ih=>rw[List.flatMap_cons,List.length_append,ih,hk,List.length_cons,Nat.succ_mul];omega
  refine⟨xs++[x],by simp[hl],fun y hy => ?_,fun j u hj => ?_⟩
  ·rcases List.mem_append.1 hy with h | h
   ·exact hQ y h
   ·rw[List.mem_singleton.1 h];exact hq
  ·rw[List.flatMap_append] at hj
   by_cases hlt:j<n*k
   ·rw[List.getElem?_append_left (by omega)] at hj
    exact hx j u hj
   ·rw[List.getElem?_append_right (by omega),hfl] at hj
    have hj2:(f x)[j-n*k]? = some u:=by simpa using hj
    have hlt2:j-n*k<k:=by
     have:=(gLz hj2).1
     rwa [hk] at this
    have:=hcell (j-n*k) hlt2
    rw[hj2,Deep.add_add,show n*k+(j-n*k)=j from by omega] at this
    exact this
theorem wf64 {z:Int} (h:(Lit.int .i64 z).wf=true) : -9223372036854775808≤z∧z≤9223372036854775807:=by
 simp only[Lit.wf,Bool.and_eq_true,decide_eq_true_eq] at h
 exact h
theorem cO {w:World} {a:Addr} {v:Value} (h:w.cell? a=some v):a.block<w.heap.size:=by
 rcases Nat.lt_or_ge a.block w.heap.size with h' | h'
 ·exact h'
 ·simp[World.cell?,Array.getElem?_eq_none h'] at h
theorem wf8 {z:Int} (h:(Lit.int .u8 z).wf=true):0≤z∧z≤255:=by
 simp only[Lit.wf,Bool.and_eq_true,decide_eq_true_eq] at h
 exact h
theorem wf32 {z:Int} (h:(Lit.int .u32 z).wf=true):0≤z∧z≤4294967295:=by
 simp only[Lit.wf,Bool.and_eq_true,decide_eq_true_eq] at h
 exact h
end
end Go.Proofs.YtdeiocppghhfdaaGreat
