/- Texts, one behind another. -/
import Derived.Test.YtdeiocppghhfdaaGreatZdau
set_option linter.unusedVariables false
set_option linter.unusedSimpArgs false
set_option maxRecDepth 100000
set_option maxHeartbeats 8000000
namespace Go.Proofs.YtdeiocppghhfdaaGreat.Hs
open Go.RowKit Go.Lib Go.Shelf
def thF (t:Int) (cs:List aA):List aA:=cs.filter fun c=>decide (c.thread=t)
theorem uL {t:Int}:∀ (cs:List aA) (k:Nat),(jB t cs k).map (fun i=>cs[i-k]?.getD default)=thF t cs
 | [],k=>rfl
 | c::cs,k=>by
  have ih:=uL (t:=t) cs (k+1)
  have e:(jB t cs (k+1)).map (fun i=>(c::cs)[i-k]?.getD default)=thF t cs:=by
   rw[← ih]
   refine List.map_congr_left fun i hi => ?_
   have:=vI hi
   rw[show i-k=(i-(k+1))+1 from by omega,List.getElem?_cons_succ]
  unfold jB thF
  by_cases h:c.thread=t
  ·rw[if_pos h,List.map_cons,e,Nat.sub_self,List.filter_cons_of_pos (by simpa using h)]
   rfl
  ·rw[if_neg h,e,List.filter_cons_of_neg (by simpa using h)]
   rfl
theorem aSf (t:Int) (cs:List aA):(jB t cs 0).length=(thF t cs).length:=by rw[← uL cs 0,List.length_map]
theorem aSg (t:Int) (cs:List aA):(jB t cs 0).map (atV cs)=(thF t cs).map aA.pure:=by
 rw[← uL cs 0,List.map_map]
 rfl
theorem aN2 (t:Int) (cs:List aA):lastOf t cs=(thF t cs).getLast? := by
 unfold lastOf
 rw[← uL cs 0,List.getLast?_map]
 cases h:(jB t cs 0).getLast? with
 | none=>rfl
 | some i =>
  have hm:=List.mem_of_getLast? h
  have:=vI hm
  simp only[Option.bind_some,Option.map_some,Nat.sub_zero]
  rw[List.getElem?_eq_getElem (by omega)]
  rfl
theorem aN3 {t:Int} {cs:List aA} {k:Nat} {c:aA} (h:cs[k]? = some c):thF t (cs.take (k+1))=thF t (cs.take k)++if c.thread=t then[c] else[]:=by
 rw[List.take_add_one,h,Option.toList_some]
 unfold thF
 rw[List.filter_append]
 congr 1
 by_cases hq:c.thread=t<;>simp[hq]
theorem aKz {pre:List aA} {c:aA} (h:accB pre c=true):c.index=(thF c.thread pre).length∧(∀ d,(thF c.thread pre).getLast? = some d→befB d c=true)∧∀ p,pre.getLast? = some p→p.invoked<c.invoked:=by
 unfold accB at h
 rw[aN2,aSf] at h
 simp only[Bool.and_eq_true,decide_eq_true_eq] at h
 obtain⟨⟨⟨⟨_,h4⟩,h1⟩,h2⟩,_⟩:=h
 refine⟨h1,fun d hd => ?_,fun p hp => ?_⟩
 ·rw[hd] at h2;exact h2
 ·rw[hp] at h4;simpa using h4
theorem aJa {cs:List aA} (h0:(dD cs).2=0) (t:Int):∀ k,k≤cs.length→∀ (j:Nat) (c:aA),(thF t (cs.take k))[j]? = some c→c.thread=t∧c.index=j∧∀ d,0<j→(thF t (cs.take k))[j-1]? = some d→befB d c=true
 | 0,_,j,c,h=>by simp[thF] at h
 | k+1,hk,j,c,h=>by
  obtain⟨x,hx⟩:∃ x,cs[k]? = some x:=⟨_,List.getElem?_eq_getElem (by omega)⟩
  have ih:=aJa h0 t k (by omega)
  have hacc:=aKz (oP h0 k x hx)
  have hst:=aN3 (t:=t) hx
  rw[hst] at h ⊢
  by_cases hq:x.thread=t
  ·rw[if_pos hq] at h ⊢
   rw[hq] at hacc
   by_cases hj:j<(thF t (cs.take k)).length
   ·rw[List.getElem?_append_left hj] at h
    obtain⟨h1,h2,h3⟩:=ih j c h
    refine⟨h1,h2,fun d h0 hd=>h3 d h0 ?_⟩
    rwa [List.getElem?_append_left (by omega)] at hd
   ·rw[List.getElem?_append_right (by omega)] at h
    have hj2:j-(thF t (cs.take k)).length=0:=by
     have:=(List.getElem?_eq_some_iff.1 h).1
     simp at this
     omega
    rw[hj2] at h
    simp at h
    subst h
    refine⟨hq,by rw[hacc.1];omega,fun d h0 hd=>hacc.2.1 d ?_⟩
    rw[List.getElem?_append_left (by omega),show j-1=(thF t (cs.take k)).length-1 from by omega] at hd
    rw[List.getLast?_eq_getElem?]
    exact hd
  ·rw[if_neg hq,List.append_nil] at h ⊢
   exact ih j c h
end Go.Proofs.YtdeiocppghhfdaaGreat.Hs
namespace Go.Proofs.YtdeiocppghhfdaaGreat.Hs
open Go.RowKit Go.Lib Go.Shelf
def many (s:Int) (cs:List aA):Nat:=(cs.filter fun c=>decide (c.invoked≤s)).length
end Go.Proofs.YtdeiocppghhfdaaGreat.Hs
