/- Texts, one behind another. -/
import Derived.Test.YtdeiocppghhfdaaGreatZfax
import Derived.Test.YtdeiocppghhfdaaGreatZfay
set_option linter.unusedVariables false
set_option linter.unusedSimpArgs false
set_option maxRecDepth 100000
set_option maxHeartbeats 40000000
namespace Go.Proofs.YtdeiocppghhfdaaGreat.Lin
section
variable {α:Type} (n:Nat) (next:α→Nat→Option α) (rdy:Nat→Nat→Bool) (fl:Nat→Bool)
def cand (u i:Nat):Bool := !u.testBit i && rdy u i
def fr (u:Nat):Nat:=((List.range n).filter fun i => !u.testBit i).length
def sr:Nat→α→Nat→Option (List Nat)
 |0,_,u=>if fl u then some [] else none
 |k+1,s,u=>if fl u then some [] else (List.range n).findSome? fun i=>if cand rdy u i then (next s i).bind fun t=>(sr k t (u ||| 2 ^ i)).map (i :: ·) else none
def S (s:α) (u:Nat):Option (List Nat):=sr n next rdy fl (fr n u) s u
def ct:Nat→α→Nat→Nat
 |0,_,u=>if fl u then 1 else 0
 |k+1,s,u=>(if fl u then 1 else 0)+((List.range n).map fun i=>if cand rdy u i then (match next s i with | none=>0 | some t=>ct k t (u ||| 2 ^ i)) else 0).sum
def C (s:α) (u:Nat):Nat:=ct n next rdy fl (fr n u) s u
def chain:α→Nat→List Nat→Bool
 |_,u,[]=>fl u
 |s,u,i::r=>decide (i<n) && cand rdy u i && (match next s i with | none=>false | some t=>chain t (u ||| 2 ^ i) r)
def tryS (s:α) (u i:Nat):Option (List Nat):=if cand rdy u i then (next s i).bind fun t=>(S n next rdy fl t (u ||| 2 ^ i)).map (i :: ·) else none
def tryC (s:α) (u i:Nat):Nat:=if cand rdy u i then (match next s i with | none=>0 | some t=>C n next rdy fl t (u ||| 2 ^ i)) else 0
end
theorem aAa (u i j:Nat):(u ||| 2 ^ i).testBit j=(u.testBit j || decide (i=j)):=by rw[Nat.testBit_or,Nat.testBit_two_pow]
theorem yG {n u i:Nat} (hi:i<n) (hu:u.testBit i=false):fr n (u ||| 2 ^ i)+1=fr n u:=by
 unfold fr
 have h1:(List.range n).filter (fun j => !(u ||| 2 ^ i).testBit j)=((List.range n).filter fun j => !u.testBit j).filter (fun j=>j != i):=by
  rw[List.filter_filter]
  apply List.filter_congr
  intro j _
  rw[aAa]
  by_cases h:i=j
  ·subst h;simp
  ·have h':j≠i:=fun e=>h e.symm
   simp[h,h']
 have hn:((List.range n).filter fun j => !u.testBit j).Nodup:=List.nodup_range.filter _
 have hm:i∈(List.range n).filter fun j => !u.testBit j:=List.mem_filter.2 ⟨List.mem_range.2 hi,by rw[hu];rfl⟩
 rw[h1]
 have h2:((List.range n).filter fun j => !u.testBit j).filter (fun j=>j != i)=((List.range n).filter fun j => !u.testBit j).erase i:=(hn.erase_eq_filter i).symm
 rw[h2,List.length_erase_of_mem hm]
 have:=List.length_pos_of_mem hm
 omega
theorem uD {n u i:Nat} (h:fr n u=0) (hi:i<n):u.testBit i=true:=by
 unfold fr at h
 have h1:=List.eq_nil_of_length_eq_zero h
 cases hb:u.testBit i
 ·have:i∈(List.range n).filter fun j => !u.testBit j:=List.mem_filter.2 ⟨List.mem_range.2 hi,by rw[hb];rfl⟩
  rw[h1] at this;cases this
 ·rfl
section
variable {α:Type} {n:Nat} {next:α→Nat→Option α} {rdy:Nat→Nat→Bool} {fl:Nat→Bool}
theorem nD {u i:Nat} (h:cand rdy u i=true):u.testBit i=false:=by unfold cand at h;simp at h;exact h.1
theorem nE {β:Type} {f g:Nat→Option β}:∀ {l:List Nat},(∀ i∈l,f i=g i)→l.findSome? f=l.findSome? g
 |[],_=>rfl
 |a::l,h=>by rw[List.findSome?_cons,List.findSome?_cons,h a (by simp),nE fun i hi=>h i (by simp[hi])]
theorem S_eq (s:α) (u:Nat):S n next rdy fl s u=if fl u then some [] else (List.range n).findSome? (tryS n next rdy fl s u):=by
 show sr n next rdy fl (fr n u) s u=_
 cases hk:fr n u with
 |zero =>
  show (if fl u then some [] else none)=_
  split
  ·rfl
  ·symm
   rw[List.findSome?_eq_none_iff]
   intro i hi
   have:=uD hk (List.mem_range.1 hi)
   unfold tryS cand
   rw[this];rfl
 |succ k =>
  show (if fl u then some [] else (List.range n).findSome? _)=_
  split
  ·rfl
  ·refine nE fun i hi => ?_
   unfold tryS
   split
   ·rename_i hc
    have h1:=yG (List.mem_range.1 hi) (nD hc)
    have h2:fr n (u ||| 2 ^ i)=k:=by omega
    unfold S
    rw[h2]
   ·rfl
theorem C_eq (s:α) (u:Nat):C n next rdy fl s u=(if fl u then 1 else 0)+((List.range n).map (tryC n next rdy fl s u)).sum:=by
 show ct n next rdy fl (fr n u) s u=_
 cases hk:fr n u with
 |zero =>
  show (if fl u then 1 else 0)=_
  have h:((List.range n).map (tryC n next rdy fl s u)).sum=0:=by
   rw[List.sum_eq_zero_iff_forall_eq_nat]
   intro x hx
   obtain⟨i,hi,rfl⟩:=List.mem_map.1 hx
   have:=uD hk (List.mem_range.1 hi)
   unfold tryC cand
   rw[this];rfl
  omega
 |succ k =>
  show (if fl u then 1 else 0)+((List.range n).map _).sum=_
  congr 2
  refine List.map_congr_left fun i hi => ?_
  unfold tryC
  split
  ·rename_i hc
   have h1:=yG (List.mem_range.1 hi) (nD hc)
   have h2:fr n (u ||| 2 ^ i)=k:=by omega
   unfold C
   rw[h2]
  ·rfl
theorem aLl {s:α} {u i:Nat} {a:List Nat} (hf:fl u=false) (hi:i<n) (h0:∀ j,j<i→tryS n next rdy fl s u j=none) (h1:tryS n next rdy fl s u i=some a):S n next rdy fl s u=some a:=by
 rw[S_eq,if_neg (by rw[hf];decide)]
 have e:List.range n=List.range i++(i::(List.range n).drop (i+1)):=by
  conv=>lhs;rw[← List.take_append_drop i (List.range n)]
  rw[List.take_range,Nat.min_eq_left (Nat.le_of_lt hi),List.drop_eq_getElem_cons (by simpa using hi)]
  simp
 rw[e,List.findSome?_append]
 have h2:(List.range i).findSome? (tryS n next rdy fl s u)=none:=by
  rw[List.findSome?_eq_none_iff]
  intro j hj
  exact h0 j (List.mem_range.1 hj)
 rw[h2,List.findSome?_cons,h1]
 rfl
theorem aLm {s:α} {u:Nat} (hf:fl u=false) (h0:∀ j,j<n→tryS n next rdy fl s u j=none):S n next rdy fl s u=none:=by
 rw[S_eq,if_neg (by rw[hf];decide),List.findSome?_eq_none_iff]
 exact fun j hj=>h0 j (List.mem_range.1 hj)
theorem vL {s:α} {u:Nat} (hf:fl u=true):S n next rdy fl s u=some []:=by rw[S_eq,if_pos hf]
theorem aAb {s:α} {u:Nat} {a:List Nat} (hf:fl u=false) (h:S n next rdy fl s u=some a):∃ i,i<n∧tryS n next rdy fl s u i=some a∧∀ j,j<i→tryS n next rdy fl s u j=none:=by
 cases hx:(List.range n).find? fun i=>(tryS n next rdy fl s u i).isSome with
 |none =>
  rw[aLm hf (fun j hj=>by
   have:=List.find?_eq_none.1 hx j (List.mem_range.2 hj)
   cases hy:tryS n next rdy fl s u j
   ·rfl
   ·rw[hy] at this;simp at this)] at h
  cases h
 |some i =>
  have h1:=List.find?_some hx
  have h2:=List.mem_range.1 (List.mem_of_find?_eq_some hx)
  have h3:∀ j,j<i→tryS n next rdy fl s u j=none:=by
   intro j hj
   obtain⟨_,l1,l2,e,h4⟩:=List.find?_eq_some_iff_append.1 hx
   have hl:l1=List.range i:=by
    have e2:(List.range n)[l1.length]? = some i:=by rw[e];simp
    have h5:l1.length<n:=by have:=(gLz e2).1;simpa using this
    have h6:l1.length=i:=by rw[List.getElem?_range h5] at e2;exact Option.some.inj e2
    have h7:(List.range n).take l1.length=l1:=by rw[e];simp
    rw[← h7,h6,List.take_range,Nat.min_eq_left (Nat.le_of_lt h2)]
   have:=h4 j (by rw[hl];exact List.mem_range.2 hj)
   cases hy:tryS n next rdy fl s u j
   ·rfl
   ·rw[hy] at this;simp at this
  cases hy:tryS n next rdy fl s u i with
  |none=>rw[hy] at h1;simp at h1
  |some b =>
   rw[aLl hf h2 h3 hy] at h
   exact⟨i,h2,hy.trans h,h3⟩
theorem vM {s:α} {u i:Nat} {a:List Nat} (h:tryS n next rdy fl s u i=some a):cand rdy u i=true∧∃ t b,next s i=some t∧S n next rdy fl t (u ||| 2 ^ i)=some b∧a=i::b:=by
 unfold tryS at h
 split at h
 ·rename_i hc
  cases hn:next s i with
  |none=>rw[hn] at h;cases h
  |some t =>
   rw[hn] at h
   cases hS:S n next rdy fl t (u ||| 2 ^ i) with
   |none=>simp[hS] at h
   |some b=>simp[hS] at h;exact⟨hc,t,b,rfl,hS,h.symm⟩
 ·cases h
theorem aPa:∀ (k:Nat) {s:α} {u:Nat} {a:List Nat},fr n u≤k→S n next rdy fl s u=some a→chain n next rdy fl s u a=true:=by
 intro k
 induction k with
 |zero =>
  intro s u a hk h
  cases hf:fl u
  ·obtain⟨i,hi,h1,_⟩:=aAb hf h
   have:=nD (vM h1).1
   rw[uD (by omega) hi] at this;cases this
  ·rw[vL hf] at h
   cases h;exact hf
 |succ k ih =>
  intro s u a hk h
  cases hf:fl u
  ·obtain⟨i,hi,h1,_⟩:=aAb hf h
   obtain⟨hc,t,b,hn,hS,rfl⟩:=vM h1
   have h2:=yG hi (nD hc)
   have h3:=ih (by omega) hS
   unfold chain
   simp[hi,hc,hn,h3]
  ·rw[vL hf] at h
   cases h;exact hf
def aGd:List Nat→List Nat→Bool
 |_,[]=>false
 |[],_::_=>true
 |a::r,b::q=>if a=b then aGd r q else decide (a<b)
theorem aGe:∀ (o:List Nat) {s:α} {u:Nat},chain n next rdy fl s u o=true→∃ a,S n next rdy fl s u=some a∧(a=o∨aGd a o=true)
 |[],s,u,h=>⟨[],vL h,.inl rfl⟩
 |i::r,s,u,h=>by
  unfold chain at h
  simp only[Bool.and_eq_true,decide_eq_true_eq] at h
  obtain⟨⟨hi,hc⟩,h⟩:=h
  cases hf:fl u
  ·cases hn:next s i with
   |none=>rw[hn] at h;cases h
   |some t =>
    rw[hn] at h
    obtain⟨b,hb,hl⟩:=aGe r h
    have ht:tryS n next rdy fl s u i=some (i::b):=by unfold tryS;rw[if_pos hc,hn];simp[hb]
    cases hS:S n next rdy fl s u with
    |none =>
     exfalso
     rw[S_eq,if_neg (by rw[hf];decide),List.findSome?_eq_none_iff] at hS
     have:=hS i (List.mem_range.2 hi)
     rw[ht] at this;cases this
    |some a =>
     obtain⟨j,hj,h1,h2⟩:=aAb hf hS
     refine⟨a,rfl,?_⟩
     obtain⟨_,t',b',_,_,rfl⟩:=vM h1
     rcases Nat.lt_trichotomy j i with hji | rfl | hji
     ·exact .inr (by unfold aGd;rw[if_neg (by omega)];simpa using hji)
     ·rw[ht] at h1
      cases h1
      rcases hl with rfl | hl
      ·exact .inl rfl
      ·exact .inr (by unfold aGd;rw[if_pos rfl];exact hl)
     ·rw[h2 i hji] at ht;cases ht
  ·exact⟨[],vL hf,.inr rfl⟩
theorem aPb {f:Nat→Nat} {l:List Nat} {i:Nat} (hi:i∈l):f i≤(l.map f).sum:=by
 induction l with
 |nil=>cases hi
 |cons a l ih =>
  rw[List.map_cons,List.sum_cons]
  rcases List.mem_cons.1 hi with rfl | h
  ·omega
  ·have:=ih h;omega
theorem aGf:∀ (o:List Nat) {s:α} {u:Nat},chain n next rdy fl s u o=true→1≤C n next rdy fl s u
 |[],s,u,h=>by
  have h':fl u=true:=h
  rw[C_eq,if_pos h'];omega
 |i::r,s,u,h=>by
  unfold chain at h
  simp only[Bool.and_eq_true,decide_eq_true_eq] at h
  obtain⟨⟨hi,hc⟩,h⟩:=h
  cases hn:next s i with
  |none=>rw[hn] at h;cases h
  |some t =>
   rw[hn] at h
   have h1:=aGf r h
   have h2:tryC n next rdy fl s u i=C n next rdy fl t (u ||| 2 ^ i):=by unfold tryC;rw[if_pos hc,hn]
   have h3:=aPb (f:=tryC n next rdy fl s u) (List.mem_range.2 hi)
   rw[C_eq];omega
theorem aPc:∀ (k:Nat) {s:α} {u:Nat},fr n u≤k→1≤C n next rdy fl s u→∃ a,chain n next rdy fl s u a=true:=by
 intro k
 induction k with
 |zero =>
  intro s u hk h
  cases hf:fl u
  ·exfalso
   rw[C_eq,hf] at h
   have h0:((List.range n).map (tryC n next rdy fl s u)).sum=0:=by
    rw[List.sum_eq_zero_iff_forall_eq_nat]
    intro x hx
    obtain⟨i,hi,rfl⟩:=List.mem_map.1 hx
    have:=uD (show fr n u=0 by omega) (List.mem_range.1 hi)
    unfold tryC cand
    rw[this];rfl
   rw[h0] at h;simp at h
  ·exact⟨[],hf⟩
 |succ k ih =>
  intro s u hk h
  cases hf:fl u
  ·rw[C_eq,hf] at h
   have h0:∃ i,i<n∧1≤tryC n next rdy fl s u i:=by
    refine Classical.byContradiction fun hno => ?_
    have h0:((List.range n).map (tryC n next rdy fl s u)).sum=0:=by
     rw[List.sum_eq_zero_iff_forall_eq_nat]
     intro x hx
     obtain⟨i,hi,rfl⟩:=List.mem_map.1 hx
     refine Classical.byContradiction fun h1=>hno ⟨i,List.mem_range.1 hi,by omega⟩
    rw[h0] at h;simp at h
   obtain⟨i,hi,h1⟩:=h0
   unfold tryC at h1
   split at h1
   ·rename_i hc
    cases hn:next s i with
    |none=>rw[hn] at h1;simp at h1
    |some t =>
     rw[hn] at h1
     have h2:=yG hi (nD hc)
     obtain⟨a,ha⟩:=ih (by omega) h1
     exact⟨i::a,by unfold chain;simp[hi,hc,hn,ha]⟩
   ·omega
  ·exact⟨[],hf⟩
end
end Go.Proofs.YtdeiocppghhfdaaGreat.Lin
namespace Go.Proofs.YtdeiocppghhfdaaGreat.Lin
open Hs (aA befB bF aQ fV dO ordE plc)
def opV (c:aA):OpV:=⟨c.okind,c.oslot,c.oat,c.on,c.oid,c.ograv,c.otext⟩
def resV (c:aA):ResV:=⟨c.err,c.rev,c.rslot,c.rat,c.rgrav,c.rtext,c.mb,c.mr,c.ml⟩
def itV (c:aA):ItV:=⟨c.ik,c.ifrom,c.ito,c.da,c.ps.length,c.dc⟩
def eZ (st:MS) (c:aA):Option MS :=
 if c.answered<0 then some (doS st c.thread (opV c)).2
 else if (accS st c.thread (opV c) (resV c) (itV c)).1 then some (accS st c.thread (opV c) (resV c) (itV c)).2 else none
theorem aIl (st:MS) (c:aA):eZ st c.pure=eZ st c:=rfl
def getC (L:List aA) (i:Nat):aA:=L.getD i default
def nx (L:List aA) (st:MS) (i:Nat):Option MS:=eZ st (getC L i)
def rdyB (L:List aA) (u i:Nat):Bool:=(List.range L.length).all fun j=>u.testBit j || !befB (getC L j) (getC L i)
def bW (L:List aA) (u:Nat):Bool:=(List.range L.length).all fun j=>u.testBit j || decide ((getC L j).answered<0)
def allB (L:List aA):Nat→Nat
 |0=>0
 |k+1=>if 0≤(getC L k).answered then allB L k ||| 2 ^ k else allB L k
theorem qQ (L:List aA):∀ (k j:Nat),(allB L k).testBit j=(decide (j<k) && decide (0≤(getC L j).answered))
 |0,j=>by simp[allB]
 |k+1,j=>by
  unfold allB
  split
  ·rename_i h
   rw[aAa,qQ L k j]
   by_cases hj:k=j
   ·subst hj;simp[h]
   ·have h1:decide (j<k+1)=decide (j<k):=decide_eq_decide.2 (by omega)
    rw[h1];simp[hj]
  ·rename_i h
   rw[qQ L k j]
   by_cases hj:k=j
   ·subst hj;simp[h]
   ·have h1:decide (j<k+1)=decide (j<k):=decide_eq_decide.2 (by omega)
    rw[h1]
theorem yH (L:List aA) (u:Nat):decide (u &&& allB L L.length=allB L L.length)=bW L u:=by
 rw[Bool.eq_iff_iff,decide_eq_true_eq]
 unfold bW
 rw[List.all_eq_true]
 constructor
 ·intro h j hj
  have h1:=congrArg (fun x=>x.testBit j) h
  simp only[Nat.testBit_and,qQ] at h1
  have hj':=List.mem_range.1 hj
  by_cases ha:(getC L j).answered<0
  ·simp[ha]
  ·have:decide (0≤(getC L j).answered)=true:=by simpa using ha
   rw[this] at h1
   simp[hj'] at h1
   simp[h1]
 ·intro h
  apply Nat.eq_of_testBit_eq
  intro j
  rw[Nat.testBit_and,qQ]
  by_cases hj:j<L.length
  ·have h1:=h j (List.mem_range.2 hj)
   by_cases ha:(getC L j).answered<0
   ·have:decide (0≤(getC L j).answered)=false:=by simpa using ha
    simp[this]
   ·have h2:u.testBit j=true:=by simpa [ha] using h1
    simp[h2]
  ·simp[hj]
def bK (c:CfgV) (L:List aA):Int:=if cfgE c≠0 then cfgE c else if (bF L).2≠0 then (bF L).2 else if 10<L.length then 5 else 0
abbrev SS (L:List aA) (st:MS) (u:Nat):Option (List Nat):=S L.length (nx L) (rdyB L) (bW L) st u
abbrev CC (L:List aA) (st:MS) (u:Nat):Nat:=C L.length (nx L) (rdyB L) (bW L) st u
def iE (c:CfgV) (L:List aA):List Nat × Bool × Int :=
 if bK c L≠0 then ([],false,bK c L) else match SS L (newS c) 0 with | some a=>(a,true,0) | none=>([],false,0)
def countP (c:CfgV) (most:Int) (L:List aA):Int × Int :=
 if bK c L≠0 then (0,bK c L) else if most<1∨1000000<most then (0,2) else (min (CC L (newS c) 0:Int) most,0)
def runO (L:List aA):MS→List Int→Option MS
 |st,[]=>some st
 |st,i::r=>(nx L st i.toNat).bind fun t=>runO L t r
def hasAll (L:List aA) (o:List Int):Bool:=(List.range L.length).all fun j=>decide ((getC L j).answered<0) || o.contains (j:Int)
def dI (c:CfgV) (o:List Int) (L:List aA):Int :=
 if bK c L≠0 then bK c L else if (aQ o L).2≠0 then (aQ o L).2 else if (aQ o L).1=false then 26 else
 match runO L (newS c) o with | none=>26 | some _=>if hasAll L o then 0 else 26
theorem aB7 {n:Nat}:∀ (r seen:List Int),ordE n seen r=0→(∀ x∈r,0≤x∧x<(n:Int))∧(∀ x∈r,x∉seen)∧r.Nodup
 |[],_,_=>⟨fun _ h=>(by cases h),fun _ h=>(by cases h),List.nodup_nil⟩
 |x::r,seen,h=>by
  unfold ordE at h
  split at h
  ·cases h
  ·rename_i h0
   split at h
   ·cases h
   ·rename_i h1
    obtain⟨a1,a2,a3⟩:=aB7 r (seen++[x]) h
    refine⟨?_,?_,?_⟩
    ·intro y hy;rcases List.mem_cons.1 hy with rfl | hy
     ·omega
     ·exact a1 y hy
    ·intro y hy;rcases List.mem_cons.1 hy with rfl | hy
     ·exact h1
     ·exact fun hm=>a2 y hy (by simp[hm])
    ·exact List.nodup_cons.2 ⟨fun hm=>a2 x hm (by simp),a3⟩
theorem bR {L:List aA} {i:Nat} (h:i<L.length):L[i]? = some (getC L i):=by
 unfold getC;rw[List.getD_eq_getElem?_getD,gEz h];rfl
end Go.Proofs.YtdeiocppghhfdaaGreat.Lin
namespace Go.Proofs.YtdeiocppghhfdaaGreat.Lin
open Go.RowKit Go.Lib Go.Shelf
open Hs
attribute [local go_sem, local simp] Hs.dP
attribute [local go_sem ↓] Hs.aN Hs.aR
attribute [local go_sem] Hs.bX Hs.bB Hs.aX Hs.bH Hs.cK
theorem yI {c:aA} (h:c.Ok):OpIn (opV c):=⟨h.kd.1,h.kd.2,h.id.1,h.id.2,h.gr,h.sl,h.at_,h.nn⟩
def opL (c:aA):List Value:=[.int .u8 c.okind,.int .i64 c.oslot,.int .i64 c.oat,.int .i64 c.on,.int .u32 c.oid,.int .u8 c.ograv,.string c.otext]
def aLn (v:Value):Sem Value:=Instr.loadAt 54 v
theorem yJ (v:Value):Instr.loadAt 54 v=aLn v:=rfl
theorem vN {W:World} {b:Nat} (c:aA) (h:W.heap[b]? = some (.cells (aB c).toArray 56 (0,0))):(aLn (.pointer (some ⟨b,2,none⟩))).run Tryz.prog W = .ok (.agg (opL c).toArray) W :=
 run_loadAt_mid W b 2 54 (opL c) _ (fun j v hv=>by
  rw[aD h]
  have hlt:=(gLz hv).1
  have:(opL c)[j]? = (aB c)[2+j]? := by
   rw[show opL c=((aB c).drop 2).take 7 from rfl,List.getElem?_take,List.getElem?_drop]
   rw[if_pos (by simpa [opL] using hlt)]
  rw[← this]
  exact hv) Tryz.underlying54 rfl (by kernel_rfl)
attribute [local go_sem ↓] yJ
theorem aPd {b:Nat} {M:MM} {c:aA} {w0 W:World} {K:Int} (h:Run w0 W b M) (hok:MSok M.st K) (hK:K≤100000) (hc:c.Ok) :
  Calls Tryz.prog 50 #[.pointer (some ⟨b,0,none⟩),.int .i64 c.thread,.agg (opL c).toArray] W fun e W'=>∃ v M',e = .returned v∧Run w0 W' b M'∧M'.st=(doS M.st c.thread (opV c)).2:=by
 refine (aQ3 b c.thread M (opV c) w0 W K h hok hK (yI hc)).mono ?_
 rintro e W' ⟨M',rfl,h1,h2,_,_⟩
 exact⟨_,M',rfl,h1,h2⟩
theorem aLo {b:Nat} {M:MM} {c:aA} {w0 W:World} (h:Run w0 W b M) (hok:MSok M.st 100000) (hc:c.Ok) (hn:c.ps.length≤1000000) :
  Calls Tryz.prog 53 #[.pointer (some ⟨b,0,none⟩),.int .i64 c.thread,.agg (opL c).toArray,.agg (Hs.resL c).toArray] W fun e W'=>∃ M',e = .returned (.bool (accS M.st c.thread (opV c) (resV c) (itV c)).1)∧Run w0 W' b M'∧M'.st=(accS M.st c.thread (opV c) (resV c) (itV c)).2:=by
 refine (aO9 b c.thread M (opV c) (resV c) (itV c) w0 W h hok (yI hc) (by show c.ps.length≤maxLen;unfold maxLen;omega)).mono ?_
 rintro e W' ⟨M',rfl,h1,h2,_⟩
 exact⟨M',rfl,h1,h2⟩
theorem aLp {b:Nat} {M:MM} {W:World} {K:Int} (h:MdAt W b M) (hok:MSok M.st K):Calls Tryz.prog 102 #[.pointer (some ⟨b,0,none⟩)] W fun e W'=>∃ b2 N,e = .returned (.pointer (some ⟨b2,0,none⟩))∧Run W W' b2 N∧N.st=M.st:=by
 refine (aB0 b M W K h hok).mono ?_
 rintro e W' ⟨b2,N,rfl,hN,hst,hb,hf⟩
 exact⟨b2,N,rfl,⟨hN,hf,hb⟩,hst⟩
theorem Run.up {w0 w W:World} {b:Nat} {M:MM} (h:Run w W b M) (hb:Below w0.heap.size w0 w):Run w0 W b M:=⟨h.at_,fun k hk=>Nat.le_trans hb.size (h.own k hk),hb.trans (h.bl.mono hb.size)⟩
def aLq (st:MS) (c:aA) (w:World) (e:Ending) (w':World):Prop :=
 ∃ b' M',e = .returned (.tuple #[.pointer (some ⟨b',0,none⟩),.bool (eZ st c).isSome])∧Run w w' b' M'∧∀ t,eZ st c=some t→M'.st=t
theorem kU (b:Nat) (M:MM) (c:aA) (w:World) (K:Int) (h:MdAt w b M) (hok:MSok M.st K) (hK:K≤100000) (hc:c.Ok) (hn:c.ps.length≤1000000) :
  Calls Tryz.prog 66 #[.pointer (some ⟨b,0,none⟩),.agg (aB c).toArray] w (aLq M.st c w):=by
 have hB0:Below w.heap.size w (w.alloc (.cells (aB c).toArray 56)):=(Below.refl _ _).alloc (Nat.le_refl _) _
 have hcp:=aLp (h.below hB0) hok
 have hz:=bE w (aB c) 56
 go_enter Tryz.func66,Tryz.ntmps66
 by_cases ha:c.answered<0
 ·go_wp2_with (first | (go_at_call 102;refine hcp.mono ?_;rintro e w1 ⟨b2,N,rfl,hR,hst⟩;have hz1:=aU hz hR.bl (by simp);have hR2:=Run.up hR hB0;have e12:w1.cell? ⟨w.heap.size,12,none⟩=some (.int .i64 c.answered):=(aD hz1 12).trans (fC c);have e0:w1.cell? ⟨w.heap.size,0,none⟩=some (.int .i64 c.thread):=(aD hz1 0).trans (fI c);have lo:=vN c hz1;have lr:=lD c hz1;clear hz1 hR hcp) | (go_at_call 50;refine (aPd hR2 (by rw[hst];exact hok) hK hc).mono ?_;rintro e w2 ⟨v,M2,rfl,hR3,hst2⟩))
  go_returns
  refine⟨b2,M2,?_,hR3,fun t ht => ?_⟩
  ·unfold eZ;rw[if_pos ha];rfl
  ·unfold eZ at ht;rw[if_pos ha] at ht;rw[hst2,hst];exact Option.some.inj ht
 ·go_wp2_with (first | (go_at_call 102;refine hcp.mono ?_;rintro e w1 ⟨b2,N,rfl,hR,hst⟩;have hz1:=aU hz hR.bl (by simp);have hR2:=Run.up hR hB0;have e12:w1.cell? ⟨w.heap.size,12,none⟩=some (.int .i64 c.answered):=(aD hz1 12).trans (fC c);have e0:w1.cell? ⟨w.heap.size,0,none⟩=some (.int .i64 c.thread):=(aD hz1 0).trans (fI c);have lo:=vN c hz1;have lr:=lD c hz1;clear hz1 hR hcp) | (go_at_call 53;refine (aLo hR2 (by rw[hst];exact hok.mono hK) hc hn).mono ?_;rintro e w2 ⟨M2,rfl,hR3,hst2⟩))
  go_returns
  refine⟨b2,M2,?_,hR3,fun t ht => ?_⟩
  ·unfold eZ;rw[if_neg (by omega)];(try rw[hst]);split<;>rename_i h<;>simp[h]
  ·unfold eZ at ht;rw[if_neg (by omega)] at ht
   split at ht
   ·rw[hst2,hst];exact Option.some.inj ht
   ·cases ht
def aIm (c:CfgV) (cs:List aA) (w:World) (e:Ending) (w':World):Prop :=
 (bK c cs≠0∧e = .returned (.tuple #[.pointer none,.int .i64 (bK c cs)])∧Below w.heap.size w w') ∨
 (bK c cs=0∧∃ b M,e = .returned (.tuple #[.pointer (some ⟨b,0,none⟩),.int .i64 0])∧Run w w' b M∧M.st=newS c)
theorem yK (c:CfgV) (p:Option Addr) (cap:Nat) (cs:List aA) (w:World) (hC:CRow w p cap cs) (hs:cs.length≤1000) (hok:∀ x∈cs,x.Ok) :
  Calls Tryz.prog 61 #[c.v,.slice p cs.length cap] w (aIm c cs w):=by
 have hB0:Below w.heap.size w (w.alloc (.cells #[.int .i64 c.slots,.int .u64 c.gens,.int .i64 c.clients,.int .i64 c.readers,.int .i64 c.queue,.int .i64 c.batch,.int .i64 c.feed,.string c.text] 24)):=(Below.refl w.heap.size w).alloc (Nat.le_refl _) _
 have hck:=fun W (h:Below w.heap.size w W)=>rO p cap cs W (hC.on h) (by omega) hok
 have hS:bK c cs=if cfgE c≠0 then cfgE c else if (bF cs).2≠0 then (bF cs).2 else if 10<cs.length then 5 else 0:=rfl
 by_cases hc:cfgE c=0
 ·have hnew:=aQ5 c w _ hc hB0
  rw[if_neg (by rw[hc];simp)] at hS
  unfold CfgV.v at *
  rcases nL cs with h2 | h2
  ·rw[if_neg (by rw[h2];simp)] at hS
   by_cases hl:10<cs.length
   ·rw[if_pos hl] at hS
    go_enter Tryz.func61,Tryz.ntmps61
    go_wp2_with (first | (go_at_call 49;refine hnew.mono ?_;rintro e w1 ⟨b,M,rfl,hR,hst,hb1⟩;clear hb1) | (go_at_call 75;refine (hck _ hR.bl).mono ?_;rw[h2];rintro e w2 ⟨rfl,hb2⟩))
    go_returns
    exact .inl ⟨by rw[hS];simp,by rw[hS];rfl,(hR.on hb2).bl⟩
   ·rw[if_neg hl] at hS
    go_enter Tryz.func61,Tryz.ntmps61
    go_wp2_with (first | (go_at_call 49;refine hnew.mono ?_;rintro e w1 ⟨b,M,rfl,hR,hst,hb1⟩;clear hb1) | (go_at_call 75;refine (hck _ hR.bl).mono ?_;rw[h2];rintro e w2 ⟨rfl,hb2⟩))
    go_returns
    exact .inr ⟨hS,b,M,rfl,hR.on hb2,hst⟩
  ·rw[h2,if_pos (by simp)] at hS
   go_enter Tryz.func61,Tryz.ntmps61
   go_wp2_with (first | (go_at_call 49;refine hnew.mono ?_;rintro e w1 ⟨b,M,rfl,hR,hst,hb1⟩;clear hb1) | (go_at_call 75;refine (hck _ hR.bl).mono ?_;rw[h2];rintro e w2 ⟨rfl,hb2⟩))
   go_returns
   exact .inl ⟨by rw[hS];simp,by rw[hS];rfl,(hR.on hb2).bl⟩
 ·have hnew:=fun W=>aQ4 c W hc
  rw[if_pos hc] at hS
  have hd:(cfgE c != 0)=true:=by simpa using hc
  generalize cfgE c=ce at *
  unfold CfgV.v at *
  go_enter Tryz.func61,Tryz.ntmps61
  go_wp2_with (go_at_call 49;refine (hnew _).mono ?_;rintro e w1 ⟨rfl,hb1⟩)
  go_returns
  exact .inl ⟨by rw[hS];exact hc,by rw[hS];rfl,hB0.trans (hb1.mono hB0.size)⟩
end Go.Proofs.YtdeiocppghhfdaaGreat.Lin
namespace Go.Proofs.YtdeiocppghhfdaaGreat.Lin
open Go.RowKit Go.Lib Go.Shelf
open Hs
attribute [local go_sem, local simp] Hs.dP
attribute [local go_sem ↓] Hs.aN Hs.aR
attribute [local go_sem] Hs.bX Hs.bB Hs.aX Hs.bH Hs.cK
theorem qR (a:Nat):BitVec.ofInt 64 (a:Int)=BitVec.ofNat 64 a:=by simp
theorem qB (a b:Nat) (ha:a<2 ^ 62) (hb:b<2 ^ 62):bits .or .i64 (a:Int) (b:Int)=((a ||| b:Nat):Int):=by
 have h:a ||| b<2 ^ 62:=Nat.or_lt_two_pow ha hb
 show IntKind.i64.wrap ((BitVec.ofInt 64 (a:Int) ||| BitVec.ofInt 64 (b:Int)).toNat:Int)=_
 rw[qR,qR,BitVec.toNat_or,BitVec.toNat_ofNat,BitVec.toNat_ofNat,Nat.mod_eq_of_lt (by omega),Nat.mod_eq_of_lt (by omega),IntKind.wrap_i64]
 omega
theorem mH (a b:Nat) (ha:a<2 ^ 62) (hb:b<2 ^ 62):bits .and .i64 (a:Int) (b:Int)=((a &&& b:Nat):Int):=by
 have h:a &&& b<2 ^ 62:=Nat.and_lt_two_pow _ hb
 show IntKind.i64.wrap ((BitVec.ofInt 64 (a:Int) &&& BitVec.ofInt 64 (b:Int)).toNat:Int)=_
 rw[qR,qR,BitVec.toNat_and,BitVec.toNat_ofNat,BitVec.toNat_ofNat,Nat.mod_eq_of_lt (by omega),Nat.mod_eq_of_lt (by omega),IntKind.wrap_i64]
 omega
theorem aAc (u i:Nat) (hu:u<2 ^ 62):bits .and .i64 ((u:Int) / 2 ^ i) 1=if u.testBit i then 1 else 0:=by
 have h1:((u:Int) / 2 ^ i)=((u / 2 ^ i:Nat):Int):=by simp
 rw[h1]
 have:=mH (u / 2 ^ i) 1 (Nat.lt_of_le_of_lt (Nat.div_le_self ..) hu) (by omega)
 rw[show ((1:Nat):Int)=1 from rfl] at this
 rw[this,Nat.and_one_is_mod,Nat.testBit_eq_decide_div_mod_eq]
 have:u / 2 ^ i % 2=0∨u / 2 ^ i % 2=1:=by omega
 rcases this with h | h<;>simp[h]
theorem aQ6 {L:List aA} {u i j:Nat} (hj:j<L.length) (hu:u.testBit j=false) (h:befB (getC L j) (getC L i)=true):rdyB L u i=false:=by
 unfold rdyB
 rw[List.all_eq_false]
 exact⟨j,List.mem_range.2 hj,by simp[hu,h]⟩
theorem aPe {L:List aA} {u i:Nat} (h:∀ j,j<L.length→(u.testBit j || !befB (getC L j) (getC L i))=true):rdyB L u i=true:=by
 unfold rdyB
 rw[List.all_eq_true]
 exact fun j hj=>h j (List.mem_range.1 hj)
theorem qU (cs:List aA):∀ (k n:Nat),k≤n→allB cs k<2 ^ n
 |0,n,_=>Nat.two_pow_pos n
 |k+1,n,h=>by
  unfold allB
  split
  ·exact Nat.or_lt_two_pow (qU cs k n (by omega)) (Nat.pow_lt_pow_right (by omega) (by omega))
  ·exact qU cs k n (by omega)
theorem aLr {k:Nat} (h:k≤60):wrap64 (2 ^ k)=((2 ^ k:Nat):Int):=by
 have h1:(2:Nat) ^ k≤2 ^ 60:=Nat.pow_le_pow_right (by omega) h
 have h2:((2:Int) ^ k)=((2 ^ k:Nat):Int):=by simp
 rw[h2]
 generalize (2:Nat) ^ k=z at *
 unfold wrap64
 omega
theorem sh_w {k:Nat} (h:k≤60):IntKind.i64.wrap (2 ^ k)=((2 ^ k:Nat):Int):=by
 have h1:=aLr h
 rw[IntKind.wrap_i64]
 unfold wrap64 at h1
 exact h1
theorem jA {W:World} {p:Option Addr} {cap:Nat} {cs:List aA} (h:CRow W p cap cs) (hn:0<cs.length):∃ b off,p=some ⟨b,off,none⟩∧cs.length≤cap∧b<W.heap.size∧CAt W b off cs:=by
 rcases h with⟨_,_,h⟩ | h
 ·rw[h] at hn;simp at hn
 ·exact h
theorem yL (p:Option Addr) (cap:Nat) (cs:List aA) (u i:Nat) (w:World) (hC:CRow w p cap cs) (hs:cs.length≤60) (hu:u<2 ^ 62) (hi:i<cs.length) :
  Calls Tryz.prog 65 #[.slice p cs.length cap,.int .i64 u,.int .i64 i] w fun e w'=>e = .returned (.bool (rdyB cs u i))∧Below w.heap.size w w':=by
 obtain⟨b,off,rfl,hcap,hb,hA⟩:=jA hC (by omega)
 have hic:=bR hi
 have hld:=fun W (hB:Below w.heap.size w W)=>(hA.below hB hb).load hic
 generalize hd:getC cs i=d at hld
 have Hd:=Lib.hid hd
 clear hd hic hC
 go_enter Tryz.func65,Tryz.ntmps65
 go_wp2
 go_loopw [7,10,13,14,15,16,17,18,19,20,21,22,23,24,25,26,27,28] (fun x7 j x13 x14 x15 x16 x17 x18 x19 x20 x21 x22 x23 x24 x25 x26 x27 x28 wr=>∃ k:Nat,j = .int .i64 k∧k≤cs.length∧Below w.heap.size w wr∧∀ x,x<k→(u.testBit x || !befB (getC cs x) d)=true) (fun x7 j x13 x14 x15 x16 x17 x18 x19 x20 x21 x22 x23 x24 x25 x26 x27 x28 wr=>cs.length-(intOf j).toNat)
 case atStart=>exact⟨0,rfl,by omega,Below.refl _ _,fun x h=>by omega⟩
 case round =>
  obtain⟨k,rfl,hk,hB,hall⟩:=hrel
  by_cases hlt:k<cs.length
  ·have hldk:=(hA.below hB hb).load (bR hlt)
   have hldi:=hld wr hB
   have hbit:=aAc u k hu
   have hbf:=fun W=>pV (getC cs k) d W
   generalize hc:getC cs k=c at hldk hbf
   have Hc:=Lib.hid hc
   clear hc
   have hbw0:=hB.drew
   have hld0:=hld wr.drew hbw0
   have hldk0:=(hA.below hbw0 hb).load (bR hlt)
   rw[Hc.out] at hldk0
   cases hub:u.testBit k with
   |true =>
    rw[hub] at hbit
    simp only[if_true] at hbit
    clear hld hbf hldi
    go_wp2
    refine aP (S:=fun W=>(aM (.pointer (some ⟨b,off+k*27,none⟩))).run Tryz.prog W = .ok (.agg (aB c).toArray) W) ?_ (fun hHeld => ?_)
    ·first | exact hldk | exact hldk0
    iterate 14 ((first | refine aJ ?_ | refine np_q ?_ | refine aL 0 ?_);(try simp only[nSO]))
    first | (refine np_s 14 ?_;(try simp only[nSO])) | (refine np_c 14 (fun K hK => ?_);go_simp;(fail);(try go_wp2_with fail);refine hK.out _ _ ?_ (fun hHeld => ?_);(· (first | exact hldk | exact hldk0));clear hK K;(try simp only[nSO]))
    (first | refine aJ ?_ | refine np_q ?_);(try simp only[nSO])
    refine np_z ?_
    go_wp2
    go_roundw
    case rel=>exact⟨k+1,by go_num,by omega,hbw0,fun x hx=>by
     rcases Nat.lt_or_ge x k with h | h
     ·exact hall x h
     ·have:x=k:=by omega
      subst this;rw[hub];rfl⟩
    case measure=>simp[intOf];omega
   |false =>
    rw[hub] at hbit
    simp only[Bool.false_eq_true,if_false] at hbit
    generalize hy:befB c d=y at hbf
    have Hy:=Lib.hid hy
    clear hy
    have hk1:∀ W',Below wr.drew.heap.size wr.drew W'→Below w.heap.size w W':=fun W' h=>hbw0.trans (h.mono hbw0.size)
    cases y with
    |true =>
     go_wp2
     refine aP (S:=fun W=>(aM (.pointer (some ⟨b,off+k*27,none⟩))).run Tryz.prog W = .ok (.agg (aB c).toArray) W∧(aM (.pointer (some ⟨b,off+i*27,none⟩))).run Tryz.prog W = .ok (.agg (aB d).toArray) W) ?_ (fun hHeld => ?_)
     ·first | exact⟨hldk,hldi⟩ | exact⟨hldk0,hld0⟩ | exact⟨by have:=(hA.below (hk1 _ hbc) hb).load (bR hlt);rw[Hc.out] at this;exact this,hld _ (hk1 _ hbc)⟩
     iterate 14 ((first | refine aJ ?_ | refine np_q ?_ | refine aL 0 ?_);(try simp only[nSO]))
     first | (refine np_s 14 ?_;(try simp only[nSO])) | (refine np_c 14 (fun K hK => ?_);go_simp;(go_at_call 106;refine (hbf _).mono ?_;rintro e w1 ⟨rfl,hbc⟩);(try go_wp2_with fail);refine hK.out _ _ ?_ (fun hHeld => ?_);(· (first | exact⟨hldk,hldi⟩ | exact⟨hldk0,hld0⟩ | exact⟨by have:=(hA.below (hk1 _ hbc) hb).load (bR hlt);rw[Hc.out] at this;exact this,hld _ (hk1 _ hbc)⟩));clear hK K;(try simp only[nSO]))
     (first | refine aJ ?_ | refine np_q ?_);(try simp only[nSO])
     refine np_z ?_
     have hbx:=hk1 _ hbc
     go_wp2
     go_returns
     exact⟨by rw[aQ6 hlt hub (by rw[Hc.out,Hd.out];exact Hy.out)];rfl,hbx⟩
    |false =>
     go_wp2
     refine aP (S:=fun W=>(aM (.pointer (some ⟨b,off+k*27,none⟩))).run Tryz.prog W = .ok (.agg (aB c).toArray) W∧(aM (.pointer (some ⟨b,off+i*27,none⟩))).run Tryz.prog W = .ok (.agg (aB d).toArray) W) ?_ (fun hHeld => ?_)
     ·first | exact⟨hldk,hldi⟩ | exact⟨hldk0,hld0⟩ | exact⟨by have:=(hA.below (hk1 _ hbc) hb).load (bR hlt);rw[Hc.out] at this;exact this,hld _ (hk1 _ hbc)⟩
     iterate 14 ((first | refine aJ ?_ | refine np_q ?_ | refine aL 0 ?_);(try simp only[nSO]))
     first | (refine np_s 14 ?_;(try simp only[nSO])) | (refine np_c 14 (fun K hK => ?_);go_simp;(go_at_call 106;refine (hbf _).mono ?_;rintro e w1 ⟨rfl,hbc⟩);(try go_wp2_with fail);refine hK.out _ _ ?_ (fun hHeld => ?_);(· (first | exact⟨hldk,hldi⟩ | exact⟨hldk0,hld0⟩ | exact⟨by have:=(hA.below (hk1 _ hbc) hb).load (bR hlt);rw[Hc.out] at this;exact this,hld _ (hk1 _ hbc)⟩));clear hK K;(try simp only[nSO]))
     (first | refine aJ ?_ | refine np_q ?_);(try simp only[nSO])
     refine np_z ?_
     have hbx:=hk1 _ hbc
     go_wp2
     go_roundw
     case rel=>exact⟨k+1,by go_num,by omega,hbx,fun x hx=>by
      rcases Nat.lt_or_ge x k with h | h
      ·exact hall x h
      ·have:x=k:=by omega
       subst this;rw[Hc.out,Hy.out];simp⟩
     case measure=>simp[intOf];omega
  ·have hke:k=cs.length:=by omega
   subst hke
   go_wp2
   go_returns
   exact⟨by rw[aPe (fun j hj=>by rw[Hd.out];exact hall j hj)];rfl,hB⟩
theorem lQ (p:Option Addr) (cap:Nat) (cs:List aA) (w:World) (hC:CRow w p cap cs) (hs:cs.length≤60) :
  Calls Tryz.prog 62 #[.slice p cs.length cap] w fun e w'=>e = .returned (.int .i64 (allB cs cs.length:Nat))∧Below w.heap.size w w':=by
 go_enter Tryz.func62,Tryz.ntmps62
 go_wp2
 go_loopw [3,4,5,8] (fun x3 x4 x5 j wr=>∃ k:Nat,j = .int .i64 k∧k≤cs.length∧x3 = .int .i64 (allB cs k:Nat)∧Below w.heap.size w wr) (fun x3 x4 x5 j wr=>cs.length-(intOf j).toNat)
 case atStart=>exact⟨0,rfl,by omega,rfl,Below.refl _ _⟩
 case round =>
  obtain⟨k,rfl,hk,rfl,hB⟩:=hrel
  by_cases hlt:k<cs.length
  ·obtain⟨b,off,rfl,hcap,hb,hA⟩:=jA hC (by omega)
   have hldk:=(hA.below hB hb).load (bR hlt)
   have hal:allB cs (k+1)=if 0≤(getC cs k).answered then allB cs k ||| 2 ^ k else allB cs k:=rfl
   generalize getC cs k=c at hldk hal
   have hsz:allB cs k<2 ^ 60:=qU cs k 60 (by omega)
   have hpw:(2:Nat) ^ k<2 ^ 60:=Nat.pow_lt_pow_right (by omega) (by omega)
   have hor:=qB (allB cs k) (2 ^ k) (by omega) (by omega)
   have hBa:Below w.heap.size w (wr.alloc (.cells (aB c).toArray 56)):=hB.alloc hB.size _
   have Hal:=Lib.hid hal
   clear hal
   by_cases ha:0≤c.answered
   ·go_wp2
    go_roundw
    case rel=>exact⟨k+1,by go_num,by omega,by rw[Hal.out,if_pos ha,← hor,aLr (by omega)],hBa⟩
    case measure=>simp[intOf];omega
   ·go_wp2
    go_roundw
    case rel=>exact⟨k+1,by go_num,by omega,by rw[Hal.out,if_neg ha],hBa⟩
    case measure=>simp[intOf];omega
  ·have hke:k=cs.length:=by omega
   subst hke
   go_wp2
   go_returns
   exact⟨rfl,hB⟩
end Go.Proofs.YtdeiocppghhfdaaGreat.Lin
