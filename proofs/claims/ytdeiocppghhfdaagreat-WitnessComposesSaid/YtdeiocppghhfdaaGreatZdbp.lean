/- Texts, one behind another. -/
import Derived.Test.YtdeiocppghhfdaaGreatZdbo
set_option linter.unusedVariables false
set_option linter.unusedSimpArgs false
set_option maxRecDepth 100000
set_option maxHeartbeats 8000000
namespace Go.Proofs.YtdeiocppghhfdaaGreat.Lin
open Hs
theorem aAj (st:MS) (c:Nat) (s:SeV) (k:Nat):(st.put c s).seat k=if k=c∧c<st.seats.length then s else st.seat k:=by
 unfold MS.put MS.seat
 simp only[List.getD_eq_getElem?_getD,List.getElem?_set]
 by_cases h:c=k
 ·subst h
  by_cases h2:c<st.seats.length
  ·rw[if_pos rfl,if_pos h2,if_pos ⟨rfl,h2⟩];rfl
  ·rw[if_pos rfl,if_neg h2,if_neg (fun e=>h2 e.2),List.getElem?_eq_none (by omega)]
 ·rw[if_neg h,if_neg (fun e=>h e.1.symm)]
theorem aSq {st:MS} {c:Nat} {q:OpV} {k:Nat} (h:(st.seat k).sub=true):((opS st c q).2.seat k).sub=true:=by
 have e:∀ st':MS,st'.seats=st.seats→(st'.seat k).sub=true:=fun st' e=>by unfold MS.seat at h ⊢;rw[e];exact h
 have ep:∀ s:SeV,s.sub=true∨s.sub=(st.seat c).sub→((st.put c s).seat k).sub=true:=fun s hs=>by
  rw[aAj]
  split
  ·rename_i h1
   rcases hs with hs | hs
   ·exact hs
   ·rw[hs,← h1.1];exact h
  ·exact h
 unfold opS
 split
 ·unfold insS;(repeat' split)<;>first | exact h | exact e _ rfl
 split
 ·unfold delS;(repeat' split)<;>first | exact h | exact e _ rfl
 split
 ·unfold setS;(repeat' split)<;>first | exact h | exact e _ rfl
 split
 ·unfold drpS;(repeat' split)<;>first | exact h | exact e _ rfl
 split
 ·unfold acqS;(repeat' split)<;>first | exact h | exact ep _ (.inr rfl)
 split
 ·unfold subS;(repeat' split)<;>first | exact h | exact ep _ (.inl rfl)
 split
 ·unfold recS;(repeat' split)<;>exact h
 split
 ·unfold cloS;(repeat' split)<;>first | exact h | exact e _ rfl
 ·unfold reaS;(repeat' split)<;>first | exact h | exact ep _ (.inr rfl)
theorem aGk {cs:List aA} {st:MS} {i:Nat} (h:(accO cs st i).1=true) {k:Nat} (hs:(st.seat k).sub=true):((accO cs st i).2.seat k).sub=true:=by
 unfold accO at h ⊢
 rcases wC h with⟨_,h2⟩ | ⟨_,_,h2⟩
 ·rw[h2]
  unfold doS
  split
  ·exact hs
  ·exact aSq hs
 ·rw[h2];exact hs
theorem op15 {st:MS} {c:Nat} {q:OpV} (hk:q.kind=15):opS st c q=recS st c:=by
 unfold opS
 rw[if_neg (by omega),if_neg (by omega),if_neg (by omega),if_neg (by omega),if_neg (by omega),if_neg (by omega),if_pos hk]
theorem op14 {st:MS} {c:Nat} {q:OpV} (hk:q.kind=14):opS st c q=subS st c:=by
 unfold opS
 rw[if_neg (by omega),if_neg (by omega),if_neg (by omega),if_neg (by omega),if_neg (by omega),if_pos hk]
theorem aJm (st:MS) (c:Nat):(recS st c).1.err≠0∧((recS st c).1.err=17→(st.seat c).sub=true):=by
 unfold recS
 split
 ·exact⟨fun h=>absurd (show (19:Int)=0 from h) (by decide),fun h=>absurd (show (19:Int)=17 from h) (by decide)⟩
 ·rename_i h
  have hs:(st.seat c).sub=true:=by simpa using h
  split
  ·exact⟨fun h=>absurd (show (13:Int)=0 from h) (by decide),fun _=>hs⟩
  ·exact⟨fun h=>absurd (show (17:Int)=0 from h) (by decide),fun _=>hs⟩
theorem aRc {cs:List aA} {st:MS} {i:Nat} (h:(accO cs st i).1=true) (hk:(getC cs i).okind=15) (he:(getC cs i).err=0):(st.seat (getC cs i).thread.toNat).sub=true:=by
 unfold accO at h
 have hkq:(opV (getC cs i)).kind=15:=hk
 rcases wC h with⟨h1,_⟩ | ⟨_,hb,_⟩
 ·exfalso
  have h2:=aCb h1
  have h3:(doS st (getC cs i).thread (opV (getC cs i))).1.err=0:=by rw[← h2];exact he
  unfold doS at h3
  split at h3
  ·rename_i hs;exact hs h3
  ·rw[op15 hkq] at h3
   exact (aJm _ _).1 h3
 ·unfold Go.Proofs.YtdeiocppghhfdaaGreat.accB at hb
  split at hb
  ·cases hb
  rename_i hs
  have h17:(doS st (getC cs i).thread (opV (getC cs i))).1.err=17:=by
   first | (simp only[Bool.and_eq_true,beq_iff_eq] at hb;exact hb.1.1) | (rw[if_pos hkq] at hb;simp only[Bool.and_eq_true,beq_iff_eq] at hb;exact hb.1.1)
  unfold doS at h17
  rw[if_neg hs,op15 hkq] at h17
  exact (aJm _ _).2 h17
theorem aGl {cs:List aA} {st:MS} {i:Nat} (h:(accO cs st i).1=true) (hk:(getC cs i).okind=14) (he:(getC cs i).err=0):(st.seat (getC cs i).thread.toNat).sub=false∧((accO cs st i).2.seat (getC cs i).thread.toNat).sub=true∧(getC cs i).rev=st.number:=by
 have hkq:(opV (getC cs i)).kind=14:=hk
 unfold accO at h ⊢
 rcases wC h with⟨h1,h2⟩ | ⟨_,hb,_⟩
 ·rw[h2]
  have h3:=(aFv h1).1
  have he2:(doS st (getC cs i).thread (opV (getC cs i))).1.err=0:=by rw[← h3];exact he
  have hr2:(getC cs i).rev=(doS st (getC cs i).thread (opV (getC cs i))).1.rev:=by rw[← h3];rfl
  rw[hr2]
  unfold doS at he2 ⊢
  split at he2
  ·rename_i hs;exact absurd he2 hs
  ·rename_i hs
   obtain⟨t0,t1,_⟩:=tJ (Decidable.not_not.1 hs)
   rw[if_neg hs]
   rw[op14 hkq] at he2 ⊢
   unfold subS at he2 ⊢
   split at he2
   ·exact absurd (show (18:Int)=0 from he2) (by decide)
   ·rename_i hsub
    rw[if_neg hsub]
    split at he2
    ·exact absurd (show (13:Int)=0 from he2) (by decide)
    ·rename_i hcl
     rw[if_neg hcl]
     refine⟨by simpa using hsub,?_,rfl⟩
     dsimp only
     rw[aAj,if_pos ⟨rfl,by omega⟩]
 ·exfalso
  unfold Go.Proofs.YtdeiocppghhfdaaGreat.accB at hb
  split at hb
  ·cases hb
  rw[if_neg (by omega),if_neg (by omega),if_neg (by omega)] at hb
  cases hb
theorem lW {cs:List aA} {st:MS} {i:Nat} {Q:List Nat} (h:lV cs st (i::Q)=none):(accO cs st i).1=true∧lV cs (accO cs st i).2 Q=none:=by
 unfold lV at h
 cases ha:(accO cs st i).1 with
 | false=>rw[ha] at h;cases h
 | true=>rw[ha,if_pos rfl] at h;exact⟨rfl,h⟩
theorem wP {cs:List aA}:∀ (P Q:List Nat) (st:MS),lV cs st (P++Q)=none→lV cs (mZ cs st P) Q=none
 | [],_,_,h=>h
 | _::P,Q,_,h=>wP P Q _ (lW h).2
theorem aCk {cs:List aA} {k:Nat}:∀ (P Q:List Nat) (st:MS),lV cs st (P++Q)=none→(st.seat k).sub=true→((mZ cs st P).seat k).sub=true
 | [],_,_,_,hs=>hs
 | _::P,Q,_,h,hs=>aCk P Q _ (lW h).2 (aGk (lW h).1 hs)
theorem aGm {cs:List aA}:∀ (P Q:List Nat) (st:MS),lV cs st (P++Q)=none→st.number≤(mZ cs st P).number
 | [],_,_,_=>Int.le_refl _
 | i::P,Q,st,h=>by
  have h1:=aGm P Q _ (lW h).2
  have h2:st.number≤(accO cs st i).2.number:=by rcases aF8 (lW h).1 with⟨_,h3,_⟩ | ⟨_,h3,_⟩<;>omega
  exact Int.le_trans h2 h1
theorem aRd {cs:List aA} {st:MS} {P Q R:List Nat} {a b:Nat} (h:lV cs st (P++a::(Q++b::R))=none) (ha:(getC cs a).okind=15∧(getC cs a).err=0) (hb:(getC cs b).okind=14∧(getC cs b).err=0) (ht:(getC cs a).thread=(getC cs b).thread):False:=by
 have h1:=wP P _ st h
 obtain⟨h2,h3⟩:=lW h1
 have h4:=aGk h2 (aRc h2 ha.1 ha.2)
 rw[ht] at h4
 have h5:=aCk Q _ _ h3 h4
 have h6:=aGl (lW (wP Q _ _ h3)).1 hb.1 hb.2
 rw[h6.1] at h5
 cases h5
theorem aIh {o:List Nat} {a b:Nat} (ha:a∈o) (hb:b∈o) (hne:a≠b):(∃ P Q R,o=P++a::(Q++b::R))∨∃ P Q R,o=P++b::(Q++a::R):=by
 obtain⟨P,S,rfl⟩:=List.append_of_mem ha
 rcases List.mem_append.1 hb with hb | hb
 ·obtain⟨P1,P2,rfl⟩:=List.append_of_mem hb
  exact .inr ⟨P1,P2,S,by simp⟩
 ·rcases List.mem_cons.1 hb with hb | hb
  ·exact absurd hb.symm hne
  ·obtain⟨S1,S2,rfl⟩:=List.append_of_mem hb
   exact .inl ⟨P,S1,S2,rfl⟩
theorem aCl {cs:List aA} (h0:(dD cs).2=0) {x:aA} (hx:x∈cs):jT x=true:=by
 obtain⟨k,hk⟩:=List.mem_iff_getElem?.1 hx
 have h:=oP h0 k x hk
 unfold Hs.accB at h
 simp only[Bool.and_eq_true] at h
 exact h.1.1.1.1
theorem aD6 {cs:List aA} (h0:(dD cs).2=0) (t:Int):∀ (n j:Nat) (c d:aA),(thF t cs)[j]? = some c→(thF t cs)[j+n+1]? = some d→befB c d=true
 | 0,j,c,d,hc,hd=>by
  have h:=aJa h0 t cs.length (Nat.le_refl _) (j+1) d
  rw[List.take_length] at h
  exact (h hd).2.2 c (by omega) hc
 | n+1,j,c,d,hc,hd=>by
  obtain⟨e,he⟩:∃ e,(thF t cs)[j+n+1]? = some e:=⟨_,List.getElem?_eq_getElem (by have:=(List.getElem?_eq_some_iff.1 hd).1;omega)⟩
  have h1:=aD6 h0 t n j c e hc he
  have h2:=aD6 h0 t 0 (j+n+1) e d he hd
  have hf:=aCl h0 ((List.mem_filter.1 (List.mem_of_getElem? he)).1)
  unfold jT at hf
  unfold befB at h1 h2 ⊢
  simp only[Bool.and_eq_true,decide_eq_true_eq] at hf h1 h2 ⊢
  omega
theorem aSr {c:CfgV} {cs:List aA} {t:Int} (h:(aT c cs).2=0) {A B:List aA} {x y:aA} (e:thF t cs=A++x::B) (hx:x.okind=15∧x.err=0∧0≤x.took) (hy:y∈B) (hy2:y.okind=14∧y.err=0∧0≤y.took):False:=by
 have h0:=qI h
 have hE:=yY h0
 obtain⟨_,_,h3⟩:=nI h
 have hb:befB x y=true:=by
  obtain⟨n,hn⟩:=List.mem_iff_getElem?.1 hy
  refine aD6 h0 t n A.length x y ?_ ?_
  ·rw[e,List.getElem?_append_right (Nat.le_refl _),Nat.sub_self];rfl
  ·rw[e,List.getElem?_append_right (by omega),show A.length+n+1-A.length=n+1 by omega];exact hn
 have hxm:x∈thF t cs:=by rw[e];simp
 have hym:y∈thF t cs:=by rw[e];simp[hy]
 have tx:x.thread=t:=of_decide_eq_true (List.mem_filter.1 hxm).2
 have ty:y.thread=t:=of_decide_eq_true (List.mem_filter.1 hym).2
 obtain⟨i,hi⟩:=List.mem_iff_getElem?.1 ((List.mem_filter.1 hxm).1)
 obtain⟨j,hj⟩:=List.mem_iff_getElem?.1 ((List.mem_filter.1 hym).1)
 have gi:=vZ hi
 have gj:=vZ hj
 have oi:i∈ordW cs (effC cs):=(xE hE).2 ⟨(List.getElem?_eq_some_iff.1 hi).1,by rw[gi];exact hx.2.2⟩
 have oj:j∈ordW cs (effC cs):=(xE hE).2 ⟨(List.getElem?_eq_some_iff.1 hj).1,by rw[gj];exact hy2.2.2⟩
 have hne:i≠j:=by
  rintro rfl
  rw[hi] at hj
  injection hj with hj
  subst hj
  omega
 rcases aIh oi oj hne with⟨P,Q,R,ho⟩ | ⟨P,Q,R,ho⟩
 ·rw[ho] at h3
  exact aRd h3 (by rw[gi];exact⟨hx.1,hx.2.1⟩) (by rw[gj];exact⟨hy2.1,hy2.2.1⟩) (by rw[gi,gj,tx,ty])
 ·have hnb:=aN0 h0 hE
  unfold aDu at hnb
  rw[ho] at hnb
  have h5:=(List.pairwise_cons.1 (List.pairwise_append.1 hnb).2.1).1 i (by simp)
  rw[gi,gj,hb] at h5
  cases h5
theorem aD7 {c:CfgV} {cs:List aA} (h:(aT c cs).2=0) {y:aA} (hy:y∈cs) (hk:y.okind=14) (he:y.err=0):0≤y.rev:=by
 have h0:=qI h
 have hE:=yY h0
 obtain⟨_,_,h3⟩:=nI h
 obtain⟨i,hi⟩:=List.mem_iff_getElem?.1 hy
 have gi:=vZ hi
 by_cases ht:0≤y.took
 ·have oi:i∈ordW cs (effC cs):=(xE hE).2 ⟨(List.getElem?_eq_some_iff.1 hi).1,by rw[gi];exact ht⟩
  obtain⟨P,S,ho⟩:=List.append_of_mem oi
  rw[ho] at h3
  have h4:=aGm P _ _ h3
  have h5:=(aGl (lW (wP P _ _ h3)).1 (by rw[gi];exact hk) (by rw[gi];exact he)).2.2
  rw[gi] at h5
  have h6:(newS c).number=0:=rfl
  omega
 ·have hf:=aCl h0 hy
  unfold jT aA4 at hf
  simp only[decide_eq_true_eq] at hf
  omega
theorem aGn (s:Int) (cs:List aA):numP s cs≤aF9 cs:=by
 unfold numP aF9
 rw[← List.countP_eq_length_filter,← List.countP_eq_length_filter]
 refine List.countP_mono_left fun c _ h => ?_
 unfold numQ at h
 unfold eP eoQ
 simp only[Bool.and_eq_true,decide_eq_true_eq] at h ⊢
 exact⟨h.1.1.2,h.1.1.1,h.2⟩
theorem vB {c:CfgV} {cs:List aA} (h:(aT c cs).2=0):(iB c cs).length=aF9 cs+1:=by
 obtain⟨h1,h2,_⟩:=aK2 (c:=c) (yY (qI h)) h
 have:=h1.len
 rw[h2] at this
 unfold iB ordC
 omega
theorem aJn {cs:List aA} (hok:∀ x∈cs,x.Ok):∀ (o:List Nat) (st:MS) (K:Int),MSok st K→(∀ i∈o,i<cs.length)→∀ m∈jZ cs st o,m.text.size≤65536
 | [],st,K,h,_,m,hm=>by
  have:m=st:=by simpa [jZ] using hm
  rw[this];exact h.size
 | i::r,st,K,h,hl,m,hm=>by
  have e:jZ cs st (i::r)=st::(if (accO cs st i).1 then jZ cs (accO cs st i).2 r else[]):=rfl
  rw[e] at hm
  rcases List.mem_cons.1 hm with rfl | hm
  ·exact h.size
  ·split at hm
   ·exact aJn hok r _ (K+1) (aH4 h (hok _ (List.mem_of_getElem? (gM (hl i (by simp)))))) (fun j hj=>hl j (by simp[hj])) m hm
   ·cases hm
theorem aJo:∀ (l:List MS) (out:List ByteArray) (t:ByteArray),t∈l.foldl lJ out→t∈out∨∃ m∈l,t=m.text
 | [],_,_,h => .inl h
 | m::l,out,t,h=>by
  rcases aJo l _ t h with h1 | ⟨m2,h2,h3⟩
  ·unfold lJ at h1
   split at h1
   ·rcases List.mem_append.1 h1 with h1 | h1
    ·exact .inl h1
    ·exact .inr ⟨m,by simp,List.mem_singleton.1 h1⟩
   ·exact .inl h1
  ·exact .inr ⟨m2,by simp[h2],h3⟩
theorem aGo {c:CfgV} {cs:List aA} (h:(aT c cs).2=0) (hok:∀ x∈cs,x.Ok):∀ t∈iB c cs,t.size≤65536:=by
 intro t ht
 obtain⟨hc,_,_⟩:=nI h
 unfold iB at ht
 rw[wD] at ht
 rcases aJo _ _ _ ht with h1 | ⟨m,h1,rfl⟩
 ·cases h1
 ·exact aJn hok _ _ 0 (aDn hc) (fun i hi=>((xE (yY (qI h))).1 hi).1) m h1
theorem tV {ap:ByteArray→List gN→Option (ByteArray × Int)} {y:aA} {pos most:Int} {ts:List ByteArray} (h:lK ap y pos most ts=some false) :
  pos<y.ito∧y.ito≤most∧(y.ik=2∨(y.ik≠2∧y.ifrom=pos∧0≤pos∧∃ t u r,ts[pos.toNat]? = some t∧ts[y.ito.toNat]? = some u∧ap t y.ps=some r∧r.2=0∧r.1=u)):=by
 unfold lK at h
 split at h
 ·cases h
 rename_i h1
 refine⟨by omega,by omega,?_⟩
 split at h
 ·rename_i h2;exact .inl h2
 rename_i h2
 split at h
 ·cases h
 rename_i h3
 split at h
 ·cases h
 rename_i h4
 refine .inr ⟨h2,Decidable.not_not.1 h3,by omega,?_⟩
 cases ht:ts[pos.toNat]? with
 | none=>rw[ht] at h;cases h
 | some t =>
  cases hu:ts[y.ito.toNat]? with
  | none=>rw[ht,hu] at h;cases h
  | some u =>
   rw[ht,hu] at h
   cases hr:ap t y.ps with
   | none=>simp only[hr] at h;cases h
   | some r =>
    simp only[hr,Option.map_some,Option.some.injEq,Bool.or_eq_false_iff,decide_eq_false_iff_not,Decidable.not_not] at h
    exact⟨t,u,r,rfl,rfl,hr,h.1,h.2⟩
def FdOk (ap:ByteArray→List gN→Option (ByteArray × Int)) (cs:List aA) (z:Option Nat) (ts:List ByteArray):Int→List aA→Prop
 | _,[]=>True
 | pos,y::r=>∃ p,fdS ap cs z ts pos y = .on p∧FdOk ap cs z ts p r
theorem aOn {ap:ByteArray→List gN→Option (ByteArray × Int)} {cs:List aA} {z:Option Nat} {ts:List ByteArray}:∀ (L:List Nat) (pos:Int),fdE ap cs z ts pos L=some none→FdOk ap cs z ts pos (L.map (getC cs))
 | [],_,_=>trivial
 | i::L,pos,h=>by
  unfold fdE at h
  split at h
  ·rename_i p hp;exact⟨p,hp,aOn L p h⟩
  ·cases h
  ·cases h
theorem aGp {ap:ByteArray→List gN→Option (ByteArray × Int)} {cs:List aA} {z:Option Nat} {ts:List ByteArray} (hs:∀ y∈cs,y.okind=14→y.err=0→0≤y.rev) (hw:∀ pos,0≤pos→∀ y∈cs,y.okind=15→y.err=0→lK ap y pos (numP y.took cs) ts≠none) :
  ∀ (L:List Nat) (pos:Int),0≤pos→(∀ i∈L,i<cs.length)→fdE ap cs z ts pos L≠none
 | [],_,_,_=>by unfold fdE;exact fun h=>by cases h
 | i::L,pos,hp,hl=>by
  have hm:=List.mem_of_getElem? (gM (hl i (by simp)))
  have hl':∀ j∈L,j<cs.length:=fun j hj=>hl j (by simp[hj])
  unfold fdE
  split
  ·rename_i p h
   refine aGp hs hw L p ?_ hl'
   unfold fdS at h
   split at h
   ·rename_i h14
    injection h with h
    split at h
    ·rename_i he;have:=hs _ hm h14 he;omega
    ·omega
   ·split at h
    ·split at h
     ·cases h
     ·split at h
      ·split at h
       ·cases h
       ·cases h
       ·rename_i hw2
        injection h with h
        have:=(tV hw2).1
        omega
      ·injection h with h;omega
    ·injection h with h;omega
  ·exact fun h=>by cases h
  ·rename_i h
   exfalso
   unfold fdS at h
   split at h
   ·cases h
   ·split at h
    ·rename_i h15
     split at h
     ·cases h
     ·split at h
      ·rename_i he
       split at h
       ·rename_i hw2;exact hw pos hp _ hm h15 he hw2
       ·cases h
       ·cases h
      ·cases h
    ·cases h
theorem aOo (t:Int):∀ (L:List aA) (cs:List aA) (k:Nat),(∀ j c,cs[j]? = some c→L[k+j]? = some c)→(jJ t cs k).map (getC L)=(thF t cs).filter eP
 | _,[],_,_=>rfl
 | L,c::cs,k,h=>by
  have ih:=aOo t L cs (k+1) fun j d hd=>by
   have:=h (j+1) d (by simpa using hd)
   rwa [show k+1+j=k+(j+1) by omega]
  have hc:getC L k=c:=vZ (h 0 c rfl)
  have e1:thF t (c::cs)=if c.thread=t then c::thF t cs else thF t cs:=by
   unfold thF
   rw[List.filter_cons]
   by_cases hq:c.thread=t<;>simp[hq]
  have e2:jJ t (c::cs) k=if c.thread=t∧0≤c.took then k::jJ t cs (k+1) else jJ t cs (k+1):=rfl
  rw[e1,e2]
  by_cases hq:c.thread=t
  ·rw[if_pos hq]
   by_cases ht:0≤c.took
   ·rw[if_pos ⟨hq,ht⟩,List.map_cons,ih,hc,List.filter_cons_of_pos (by unfold eP;simpa using ht)]
   ·rw[if_neg (fun h=>ht h.2),ih,List.filter_cons_of_neg (by unfold eP;simpa using ht)]
  ·rw[if_neg hq,if_neg (fun h=>hq h.1),ih]
theorem aOp (t:Int):∀ (cs:List aA) (k i:Nat),i∈jJ t cs k→i<k+cs.length
 | [],_,_,h=>by cases h
 | c::cs,k,i,h=>by
  have e2:jJ t (c::cs) k=if c.thread=t∧0≤c.took then k::jJ t cs (k+1) else jJ t cs (k+1):=rfl
  rw[e2] at h
  rw[List.length_cons]
  split at h
  ·rcases List.mem_cons.1 h with rfl | h
   ·omega
   ·have:=aOp t cs (k+1) i h;omega
  ·have:=aOp t cs (k+1) i h;omega
theorem aRe {ap:ByteArray→List gN→Option (ByteArray × Int)} {c:CfgV} {t:Int} {cs:List aA} (h:(pQ ap c t cs).2=0) (hw:∀ pos,0≤pos→∀ y∈cs,y.okind=15→y.err=0→lK ap y pos (numP y.took cs) (iB c cs)≠none) :
  (aT c cs).2=0∧FdOk ap cs (iA cs (effC cs)) (iB c cs) 0 ((thF t cs).filter eP):=by
 unfold pQ at h
 split at h
 ·rename_i h1;exact absurd h h1
 rename_i h1
 have hp:=Decidable.not_not.1 h1
 refine⟨hp,?_⟩
 split at h
 ·cases h
 have hne:=aGp (z:=iA cs (effC cs)) (fun y hy=>aD7 hp hy) hw (jJ t cs 0) 0 (Int.le_refl _) (fun i hi=>by
  have:=aOp t cs 0 i hi;omega)
 rw[← aOo t cs cs 0 (fun j c hc=>by rwa [Nat.zero_add])]
 refine aOn _ _ ?_
 cases hE:fdE ap cs (iA cs (effC cs)) (iB c cs) 0 (jJ t cs 0) with
 | none=>exact absurd hE hne
 | some r =>
  cases r with
  | none=>rfl
  | some i=>rw[hE] at h;cases h
theorem aJp {ap:ByteArray→List gN→Option (ByteArray × Int)} {cs:List aA} {z:Option Nat} {ts:List ByteArray} {pos p:Int} {y:aA} (h:fdS ap cs z ts pos y = .on p) :
  (y.okind=15∧y.err=0∧p=y.ito∧lK ap y pos (numP y.took cs) ts=some false)∨(y.okind=14∧y.err=0∧p=y.rev)∨(¬ (y.okind=15∧y.err=0)∧p=pos):=by
 unfold fdS at h
 split at h
 ·rename_i h14
  injection h with h
  split at h
  ·rename_i he;exact .inr (.inl ⟨h14,he,h.symm⟩)
  ·exact .inr (.inr ⟨fun e=>by omega,h.symm⟩)
 ·split at h
  ·rename_i h15
   split at h
   ·cases h
   ·split at h
    ·rename_i he
     split at h
     ·cases h
     ·cases h
     ·rename_i hw
      injection h with h
      exact .inl ⟨h15,he,h.symm,hw⟩
    ·rename_i he
     injection h with h
     exact .inr (.inr ⟨fun e=>he e.2,h.symm⟩)
  ·rename_i h15
   injection h with h
   exact .inr (.inr ⟨fun e=>h15 e.1,h.symm⟩)
end Go.Proofs.YtdeiocppghhfdaaGreat.Lin
namespace Go.Proofs.YtdeiocppghhfdaaGreat
def inS:List PcV→Int
 | []=>0
 | p::ps=>pcIn p+inS ps
def outS:List PcV→Int
 | []=>0
 | p::ps=>fE p+outS ps
theorem cO (p:PcV) (d:List PcV):inS (p::d)=pcIn p+inS d:=rfl
theorem cZ (p:PcV) (d:List PcV):outS (p::d)=fE p+outS d:=rfl
theorem nJ (a b:List PcV):inS (a++b)=inS a+inS b:=by
 induction a with
 | nil=>simp[inS]
 | cons p a ih=>simp only[List.cons_append,cO,ih];omega
theorem kS (a b:List PcV):outS (a++b)=outS a+outS b:=by
 induction a with
 | nil=>simp[outS]
 | cons p a ih=>simp only[List.cons_append,cZ,ih];omega
theorem kF:∀ {d:List PcV},(∀ p∈d,pcP p)→0≤inS d
 | [],_=>Int.le_refl _
 | p::d,h=>by
  have:=kQ (h p (by simp));have:=kF (d:=d) (fun q hq=>h q (by simp[hq]))
  rw[cO];omega
theorem mO:∀ {d:List PcV},(∀ p∈d,pcP p)→0≤outS d
 | [],_=>Int.le_refl _
 | p::d,h=>by
  have:=uA (h p (by simp));have:=mO (d:=d) (fun q hq=>h q (by simp[hq]))
  rw[cZ];omega
theorem aAv:∀ (ps:List PcV) (i o:Int),i≤1048576→o≤1048576→((lenF ps i o).2.2=0↔(∀ p∈ps,pcP p)∧i+inS ps≤1048576∧o+outS ps≤1048576)∧((lenF ps i o).2.2=0→lenF ps i o=(i+inS ps,o+outS ps,0))
 | [],i,o,hi,ho=>by simp[lenF,inS,outS,hi,ho]
 | p::ps,i,o,hi,ho=>by
  unfold lenF
  by_cases hp:pcP p
  ·rw[if_pos (vN.2 hp)]
   have h1:=kQ hp
   have h2:=uA hp
   by_cases hl:1048576-i<pcIn p∨1048576-o<fE p
   ·rw[if_pos hl]
    refine⟨⟨fun h=>by simp at h,fun ⟨ha,hb,hc⟩ => ?_⟩,fun h=>by simp at h⟩
    have h3:=kF (d:=ps) (fun q hq=>ha q (by simp[hq]))
    have h4:=mO (d:=ps) (fun q hq=>ha q (by simp[hq]))
    rw[cO] at hb;rw[cZ] at hc
    omega
   ·rw[if_neg hl]
    obtain⟨i1,i2⟩:=aAv ps (i+pcIn p) (o+fE p) (by omega) (by omega)
    refine⟨i1.trans ⟨fun ⟨ha,hb,hc⟩=>⟨fun q hq => ?_,by rw[cO];omega,by rw[cZ];omega⟩,fun ⟨ha,hb,hc⟩=>⟨fun q hq=>ha q (by simp[hq]),by rw[cO] at hb;omega,by rw[cZ] at hc;omega⟩⟩,fun h => ?_⟩
    ·rcases List.mem_cons.1 hq with rfl | hq
     ·exact hp
     ·exact ha q hq
    ·rw[i2 h,cO,cZ,Int.add_assoc,Int.add_assoc]
  ·rw[if_neg (fun h=>hp (vN.1 h))]
   exact⟨⟨fun h=>by simp at h,fun ⟨ha,_,_⟩=>absurd (ha p (by simp)) hp⟩,fun h=>by simp at h⟩
def DV (d:List PcV):Prop:=(∀ p∈d,pcP p)∧inS d≤1048576∧outS d≤1048576
theorem nX (d:List PcV):(lenS d).2.2=0↔d.length≤4096∧DV d:=by
 unfold lenS DV
 by_cases h:4096<d.length
 ·rw[if_pos h];simp;omega
 ·rw[if_neg h,(aAv d 0 0 (by omega) (by omega)).1,Int.zero_add,Int.zero_add]
  exact⟨fun h1=>⟨by omega,h1⟩,fun h1=>h1.2⟩
theorem wQ {d:List PcV} (h:(lenS d).2.2=0):lenS d=(inS d,outS d,0):=by
 have hl:=((nX d).1 h).1
 unfold lenS at h ⊢
 rw[if_neg (by omega)] at h ⊢
 rw[(aAv d 0 0 (by omega) (by omega)).2 h,Int.zero_add,Int.zero_add]
theorem aOq {d:List PcV} (h1:d.length≤4096) (h2:DV d):lenS d=(inS d,outS d,0):=wQ ((nX d).2 ⟨h1,h2⟩)
theorem aIi:∀ (d:List PcV) (st:PaS),(∀ p∈d,pcP p)→inS d≤st.rest.length→((d.foldl aZ st).rest.length:Int)=st.rest.length-inS d∧((d.foldl aZ st).out.length:Int)=st.out.length+outS d∧((d.foldl aZ st).gone.length:Int)≤st.gone.length+inS d∧((d.foldl aZ st).ins.length:Int)≤st.ins.length+outS d
 | [],st,_,_=>by simp[inS,outS]
 | p::d,st,h,hn=>by
  have hp:=h p (by simp)
  have hd:∀ q∈d,pcP q:=fun q hq=>h q (by simp[hq])
  have h1:=kF hd
  have h2:=kQ hp
  rw[cO] at hn
  have ht:p.text.data.toList.length=p.text.size:=Array.length_toList
  have hs:((aZ st p).rest.length:Int)=st.rest.length-pcIn p∧((aZ st p).out.length:Int)=st.out.length+fE p∧((aZ st p).gone.length:Int)≤st.gone.length+pcIn p∧((aZ st p).ins.length:Int)≤st.ins.length+fE p:=by
   rcases hp with⟨hk | hk,hp1,hp2⟩ | ⟨hk,hp1,hp2⟩
   ·have e1:pcIn p=p.n:=by unfold pcIn;rw[if_pos (.inl hk)]
    have e2:fE p=p.n:=by unfold fE;rw[if_pos hk]
    unfold aZ
    rw[if_pos hk]
    simp only[List.length_append,List.length_take,List.length_drop]
    omega
   ·have e1:pcIn p=p.n:=by unfold pcIn;rw[if_pos (.inr hk)]
    have e2:fE p=0:=by unfold fE;rw[if_neg (by omega),if_pos hk]
    unfold aZ
    rw[if_neg (by omega),if_neg (by omega)]
    simp only[List.length_append,List.length_take,List.length_drop]
    omega
   ·have e1:pcIn p=0:=by unfold pcIn;rw[if_neg (by omega)]
    have e2:fE p=p.text.size:=by unfold fE;rw[if_neg (by omega),if_neg (by omega)]
    unfold aZ
    rw[if_neg (by omega),if_pos hk]
    simp only[List.length_append]
    omega
  obtain⟨i1,i2,i3,i4⟩:=aIi d (aZ st p) hd (by omega)
  rw[List.foldl_cons]
  rw[cO,cZ]
  omega
structure PaOK (s:List UInt8) (d:List PcV):Prop where
 pc:∀ p∈d,pcP p
 fit:inS d=s.length
 small:s.length≤1048576
 out:outS d≤1048576
theorem aR0 {s:List UInt8} {d:List PcV} (h:PaOK s d) {k:Nat} (hk:k≤d.length):(paF s (d.take k)).rest.length≤1048576∧(paF s (d.take k)).out.length≤1048576∧(paF s (d.take k)).gone.length≤1048576∧(paF s (d.take k)).ins.length≤1048576∧∀ p,d[k]? = some p→pcIn p≤(paF s (d.take k)).rest.length:=by
 have hsp:=List.take_append_drop k d
 have p1:∀ p∈d.take k,pcP p:=fun p hp=>h.pc p (List.mem_of_mem_take hp)
 have p2:∀ p∈d.drop k,pcP p:=fun p hp=>h.pc p (List.mem_of_mem_drop hp)
 have e1:inS d=inS (d.take k)+inS (d.drop k):=by rw[← nJ,hsp]
 have e2:outS d=outS (d.take k)+outS (d.drop k):=by rw[← kS,hsp]
 have q1:=kF p1;have q2:=kF p2;have q3:=mO p1;have q4:=mO p2
 have hf:=h.fit;have hs:=h.small;have ho:=h.out
 obtain⟨i1,i2,i3,i4⟩:=aIi (d.take k) ⟨[],[],[],s⟩ p1 (by show inS _≤(s.length:Int);omega)
 simp only[List.length_nil] at i1 i2 i3 i4
 unfold paF
 refine⟨by omega,by omega,by omega,by omega,fun p hp => ?_⟩
 obtain⟨hlt,hp⟩:=List.getElem?_eq_some_iff.1 hp
 rw[List.drop_eq_getElem_cons hlt,hp] at e1 p2
 have:=kF (fun q hq=>p2 q (List.mem_cons_of_mem _ hq))
 rw[cO] at e1
 omega
def nK (s:ByteArray) (d:List PcV):ByteArray × Int :=
 if (lenS d).2.2≠0 then (⟨#[]⟩,(lenS d).2.2) else if (lenS d).1≠s.size then (⟨#[]⟩,21) else (⟨(paF s.data.toList d).out.toArray⟩,0)
theorem aLd {s:ByteArray} {d:List PcV} (h:(lenS d).2.2=0) (h2:(lenS d).1=s.size):PaOK s.data.toList d:=by
 obtain⟨h3,h4,h5,h6⟩:=(nX d).1 h
 rw[wQ h] at h2
 have:s.data.toList.length=s.size:=Array.length_toList
 exact⟨h4,by rw[this];exact h2,by have h2:inS d=s.size:=h2;omega,h6⟩
end Go.Proofs.YtdeiocppghhfdaaGreat
namespace Go.Proofs.YtdeiocppghhfdaaGreat
def aI (p:PcV) (n:Nat):PcV:=if p.kind=2 then { p with text:=p.text.extract 0 n } else { p with n:=n }
def aG (p:PcV) (n:Nat):PcV:=if p.kind=2 then { p with text:=p.text.extract n p.text.size } else { p with n:=p.n-n }
def gT (p:PcV):Int:=p.n+p.text.size
def takeA (p:PcV) (n:Nat):PcV:=if (n:Int)<gT p then aI p n else p
def iU (p:PcV) (ps:List PcV) (n:Nat):List PcV:=if (n:Int)<gT p then aG p n::ps else ps
def apO:List PcV→List UInt8→List UInt8
 | [],_=>[]
 | p::d,s=>if p.kind=1 then s.take p.n.toNat++apO d (s.drop p.n.toNat) else if p.kind=2 then p.text.data.toList++apO d s else apO d (s.drop p.n.toNat)
theorem lM {p:PcV} (h:p.kind=1) (d:List PcV) (s:List UInt8):apO (p::d) s=s.take p.n.toNat++apO d (s.drop p.n.toNat):=by rw[apO,if_pos h]
theorem nL {p:PcV} (h:p.kind=2) (d:List PcV) (s:List UInt8):apO (p::d) s=p.text.data.toList++apO d s:=by rw[apO,if_neg (by omega),if_pos h]
theorem pV {p:PcV} (h:p.kind=3) (d:List PcV) (s:List UInt8):apO (p::d) s=apO d (s.drop p.n.toNat):=by rw[apO,if_neg (by omega),if_neg (by omega)]
theorem aOr:∀ (d:List PcV) (st:PaS),(d.foldl aZ st).out=st.out++apO d st.rest
 | [],st=>by simp[apO]
 | p::d,st=>by
  rw[List.foldl_cons,aOr d,apO]
  unfold aZ
  (repeat' split)<;>simp
theorem aD8 (s:List UInt8) (d:List PcV):(paF s d).out=apO d s:=by unfold paF;rw[aOr];rfl
theorem oH (t:ByteArray):t.data.toList.length=t.size:=Array.length_toList
theorem aTt (t:ByteArray) (n:Nat):(t.extract 0 n).data.toList=t.data.toList.take n:=by simp[ByteArray.data_extract]
theorem aTu (t:ByteArray) (n:Nat):(t.extract n t.size).data.toList=t.data.toList.drop n:=by
 simp[ByteArray.data_extract]
 exact List.take_of_length_le (by simp)
theorem oM {p:PcV} {n:Nat} (hp:pcP p) (h1:1≤n) (h2:(n:Int)≤gT p) {x:List PcV} (hx:∀ q∈x,pcP q) :
  pcP (takeA p n)∧(takeA p n).kind=p.kind∧gT (takeA p n)=n∧(∀ q∈iU p x n,pcP q)∧(∀ s,apO (p::x) s=apO (takeA p n::iU p x n) s)∧inS (p::x)=pcIn (takeA p n)+inS (iU p x n)∧outS (p::x)=fE (takeA p n)+outS (iU p x n)∧(iU p x n).length≤x.length+1∧((n:Int)=gT p→iU p x n=x):=by
 by_cases hn:(n:Int)<gT p
 ·have eA:takeA p n=aI p n:=if_pos hn
  have eZ:iU p x n=aG p n::x:=if_pos hn
  rw[eA,eZ]
  obtain⟨k,m,t⟩:=p
  unfold gT at *
  dsimp only at hn h2
  rcases hp with⟨hk,hm,ht⟩ | ⟨hk,hm,ht⟩
  ·dsimp only at hk hm ht
   have hk2:¬ k=2:=by omega
   have sA:aI ⟨k,m,t⟩ n=⟨k,n,t⟩:=if_neg hk2
   have sZ:aG ⟨k,m,t⟩ n=⟨k,m-n,t⟩:=if_neg hk2
   rw[sA,sZ]
   refine⟨.inl ⟨hk,by dsimp only;omega,ht⟩,rfl,by dsimp only;omega,?_,fun s => ?_,?_,?_,by simp,fun h=>by dsimp only at h;omega⟩
   ·intro q hq
    rcases List.mem_cons.1 hq with rfl | hq
    ·exact .inl ⟨hk,by dsimp only;omega,ht⟩
    ·exact hx q hq
   ·have e1:m.toNat=n+(m-n).toNat:=by omega
    rcases hk with hk | hk
    ·rw[lM hk,lM hk,lM hk]
     dsimp only
     rw[e1,List.take_add,List.drop_drop,List.append_assoc,Int.toNat_natCast]
    ·rw[pV hk,pV hk,pV hk]
     dsimp only
     rw[e1,List.drop_drop,Int.toNat_natCast]
   ·rw[cO,cO];unfold pcIn;dsimp only;rw[if_pos hk,if_pos hk,if_pos hk];omega
   ·rw[cZ,cZ];unfold fE;dsimp only
    rcases hk with hk | hk<;>subst hk<;>simp<;>(try omega)
  ·dsimp only at hk hm ht
   have sA:aI ⟨k,m,t⟩ n=⟨k,m,t.extract 0 n⟩:=if_pos hk
   have sZ:aG ⟨k,m,t⟩ n=⟨k,m,t.extract n t.size⟩:=if_pos hk
   have z1:(t.extract 0 n).size=n:=by rw[ByteArray.size_extract];omega
   have z2:(t.extract n t.size).size=t.size-n:=by rw[ByteArray.size_extract];omega
   rw[sA,sZ]
   refine⟨.inr ⟨hk,hm,by dsimp only;omega⟩,rfl,by dsimp only;omega,?_,fun s => ?_,?_,?_,by simp,fun h=>by dsimp only at h;omega⟩
   ·intro q hq
    rcases List.mem_cons.1 hq with rfl | hq
    ·exact .inr ⟨hk,hm,by dsimp only;omega⟩
    ·exact hx q hq
   ·rw[nL hk,nL hk,nL hk]
    dsimp only
    rw[aTt,aTu,← List.append_assoc,List.take_append_drop]
   ·rw[cO,cO];unfold pcIn;dsimp only;subst hk;simp
   ·rw[cZ,cZ];unfold fE;dsimp only;subst hk;simp;omega
 ·have eA:takeA p n=p:=if_neg hn
  have eZ:iU p x n=x:=if_neg hn
  rw[eA,eZ]
  exact⟨hp,rfl,by omega,hx,fun s=>rfl,cO _ _,cZ _ _,Nat.le_succ _,fun _=>rfl⟩
def kZ:List PcV→List PcV→Option (List PcV × List PcV × List PcV)
 | [],[]=>none
 | [],q::y=>if q.kind=2 then some ([q],[],y) else none
 | p::x,[]=>if p.kind=3 then some ([p],x,[]) else none
 | p::x,q::y =>
  if p.kind=3 then some ([p],x,q::y) else if q.kind=2 then some ([q],p::x,y)
  else some (if q.kind=1 then[takeA p (min (gT p) (gT q)).toNat] else if p.kind=1 then[takeA q (min (gT p) (gT q)).toNat] else[],iU p x (min (gT p) (gT q)).toNat,iU q y (min (gT p) (gT q)).toNat)
def iI:Nat→List PcV→List PcV→List PcV
 | 0,_,_=>[]
 | n+1,x,y=>match kZ x y with
  | none=>[]
  | some (o,x',y')=>o++iI n x' y'
def pW (x y:List PcV):List PcV:=iI (x.length+y.length) x y
structure aD9 (c x y:List PcV) (s:List UInt8):Prop where
 pc:∀ p∈c,pcP p
 ins:inS c=inS x
 outs:outS c=outS y
 ap:apO c s=apO y (apO x s)
theorem kW {p:PcV} (h:pcP p):1≤gT p:=by unfold gT;rcases h with⟨_,h1,h2⟩ | ⟨_,h1,h2⟩<;>omega
theorem rF {p:PcV} (h:pcP p):p.kind=1∨p.kind=2∨p.kind=3:=by rcases h with⟨h | h,_⟩ | ⟨h,_⟩<;>simp[h]
theorem oI {p:PcV} (h:pcP p) (hk:p.kind≠2):pcIn p=gT p∧p.n=gT p:=by
 rcases h with⟨h0,h1,h2⟩ | ⟨h,_⟩
 ·unfold pcIn gT;rw[if_pos h0];omega
 ·exact absurd h hk
theorem pX {p:PcV} (h:pcP p) (hk:p.kind≠3):fE p=gT p:=by
 rcases h with⟨h0,h1,h2⟩ | ⟨h0,h1,h2⟩
 ·unfold fE gT;rw[if_pos (by omega)];omega
 ·unfold fE gT;rw[if_neg (by omega),if_neg (by omega)];omega
theorem tX {p:PcV} (hk:p.kind=2):pcIn p=0:=by unfold pcIn;rw[if_neg (by omega)]
theorem wR {p:PcV} (hk:p.kind=3):fE p=0:=by unfold fE;rw[if_neg (by omega),if_pos hk]
theorem aLe {pa qa:PcV} {X Y c:List PcV} {s:List UInt8} {n:Nat} (a1:pcP pa) (b1:pcP qa) (hk:pa.kind≠3) (hk2:qa.kind≠2) (a3:gT pa=n) (b3:gT qa=n) (hX:∀ p∈X,pcP p) (hs:inS (pa::X)=s.length) (i:aD9 c X Y (if pa.kind=1 then s.drop n else s)) :
  aD9 ((if qa.kind=1 then[pa] else if pa.kind=1 then[qa] else[])++c) (pa::X) (qa::Y) s:=by
 have h1:=kF hX
 obtain⟨q1,q2⟩:=oI b1 hk2
 have p2:=pX a1 hk
 rw[cO] at hs
 rw[a3] at p2
 rw[b3] at q1 q2
 have qn:qa.n.toNat=n:=by omega
 rcases rF a1 with k | k | k
 ·obtain⟨p3,p4⟩:=oI a1 (by omega)
  rw[a3] at p3 p4
  have pn:pa.n.toNat=n:=by omega
  have ht:(s.take n).length=n:=by rw[List.length_take];omega
  rw[if_pos k] at i
  rcases rF b1 with m | m | m
  ·have q3:=pX b1 (by omega)
   rw[if_pos m]
   refine⟨fun r hr => ?_,?_,?_,?_⟩
   ·rcases List.mem_cons.1 (by simpa using hr) with rfl | hr
    ·exact a1
    ·exact i.pc r hr
   ·rw[List.singleton_append,cO,cO,i.ins]
   ·rw[List.singleton_append,cZ,cZ,i.outs,p2,q3,b3]
   ·rw[List.singleton_append,lM k,lM m,lM k,pn,qn,List.take_left' ht,List.drop_left' ht,i.ap]
  ·exact absurd m hk2
  ·have q3:=wR m
   rw[if_neg (by omega),if_pos k]
   refine⟨fun r hr => ?_,?_,?_,?_⟩
   ·rcases List.mem_cons.1 (by simpa using hr) with rfl | hr
    ·exact b1
    ·exact i.pc r hr
   ·rw[List.singleton_append,cO,cO,i.ins,p3,q1]
   ·rw[List.singleton_append,cZ,cZ,i.outs]
   ·rw[List.singleton_append,pV m,pV m,lM k,pn,qn,List.drop_left' ht,i.ap]
 ·have p3:=tX k
  rw[if_neg (by omega)] at i
  have ht:pa.text.data.toList.length=n:=by
   rw[oH]
   have:pa.n=0:=by rcases a1 with⟨h,_⟩ | ⟨_,h,_⟩<;>omega
   unfold gT at a3;omega
  rcases rF b1 with m | m | m
  ·have q3:=pX b1 (by omega)
   rw[if_pos m]
   refine⟨fun r hr => ?_,?_,?_,?_⟩
   ·rcases List.mem_cons.1 (by simpa using hr) with rfl | hr
    ·exact a1
    ·exact i.pc r hr
   ·rw[List.singleton_append,cO,cO,i.ins]
   ·rw[List.singleton_append,cZ,cZ,i.outs,p2,q3,b3]
   ·rw[List.singleton_append,nL k,lM m,nL k,qn,List.take_left' ht,List.drop_left' ht,i.ap]
  ·exact absurd m hk2
  ·have q3:=wR m
   rw[if_neg (by omega),if_neg (by omega)]
   refine⟨fun r hr=>i.pc r (by simpa using hr),?_,?_,?_⟩
   ·rw[List.nil_append,cO,i.ins,p3];omega
   ·rw[List.nil_append,cZ,i.outs,q3];omega
   ·rw[List.nil_append,pV m,nL k,qn,List.drop_left' ht,i.ap]
 ·exact absurd k hk
theorem wS:∀ (f:Nat) (x y:List PcV) (s:List UInt8),x.length+y.length≤f→(∀ p∈x,pcP p)→(∀ p∈y,pcP p)→inS x=s.length→inS y=outS x→aD9 (iI f x y) x y s
 | 0,x,y,s,hf,_,_,_,_=>by
  obtain rfl:x=[]:=List.eq_nil_of_length_eq_zero (by omega)
  obtain rfl:y=[]:=List.eq_nil_of_length_eq_zero (by omega)
  exact⟨by simp[iI],rfl,rfl,rfl⟩
 | f+1,x,y,s,hf,hx,hy,hs,hxy=>by
  match x,y with
  | [],[]=>exact⟨by simp[iI,kZ],by simp[iI,kZ],by simp[iI,kZ],by simp[iI,kZ,apO]⟩
  | [],q::y =>
   have hq:=hy q (by simp)
   have hy':∀ p∈y,pcP p:=fun p hp=>hy p (by simp[hp])
   have h1:=kF hy'
   have h2:=kQ hq
   rw[cO] at hxy
   have h0:outS []=0:=rfl
   by_cases hk:q.kind=2
   ·have i:=wS f [] y s (by simp at hf ⊢;omega) hx hy' hs (by omega)
    have e:iI (f+1) [] (q::y)=q::iI f [] y:=by simp[iI,kZ,hk]
    rw[e]
    exact⟨fun p hp=>by rcases List.mem_cons.1 hp with rfl | hp;exact hq;exact i.pc p hp,by rw[cO,i.ins,tX hk];omega,by rw[cZ,cZ,i.outs],by rw[nL hk,nL hk,i.ap]⟩
   ·have:=oI hq hk;have:=kW hq;omega
  | p::x,y =>
   have hp:=hx p (by simp)
   have hx':∀ q∈x,pcP q:=fun q hq=>hx q (by simp[hq])
   have hxo:=mO hx'
   have hxi:=kF hx'
   rw[cO] at hs
   rw[cZ] at hxy
   by_cases hk:p.kind=3
   ·have hpi:=oI hp (by omega)
    have hpo:=wR hk
    have hlp:=kW hp
    have i:=wS f x y (s.drop p.n.toNat) (by simp at hf;omega) hx' hy (by rw[List.length_drop];omega) (by omega)
    have e:iI (f+1) (p::x) y=p::iI f x y:=by cases y<;>simp[iI,kZ,hk]
    rw[e]
    exact⟨fun q hq=>by rcases List.mem_cons.1 hq with rfl | hq;exact hp;exact i.pc q hq,by rw[cO,cO,i.ins],by rw[cZ,i.outs];omega,by rw[pV hk,pV hk,i.ap]⟩
   match y with
   | [] =>
    have:=pX hp hk;have:=kW hp
    have h0:inS []=0:=rfl
    omega
   | q::y =>
    have hq:=hy q (by simp)
    have hy':∀ p∈y,pcP p:=fun p hp=>hy p (by simp[hp])
    by_cases hk2:q.kind=2
    ·have i:=wS f (p::x) y s (by simp at hf ⊢;omega) hx hy' (by rw[cO];exact hs) (by rw[cO,tX hk2] at hxy;rw[cZ];omega)
     have e:iI (f+1) (p::x) (q::y)=q::iI f (p::x) y:=by simp[iI,kZ,hk,hk2]
     rw[e]
     exact⟨fun r hr=>by rcases List.mem_cons.1 hr with rfl | hr;exact hq;exact i.pc r hr,by rw[cO,i.ins,tX hk2];omega,by rw[cZ,cZ,i.outs],by rw[nL hk2,nL hk2,i.ap]⟩
    ·have l1:=kW hp
     have l2:=kW hq
     obtain⟨n,hn⟩:∃ n,(min (gT p) (gT q)).toNat=n:=⟨_,rfl⟩
     have n1:1≤n:=by omega
     obtain⟨a1,a2,a3,a4,a5,a6,a7,a8,a9⟩:=oM (n:=n) hp n1 (by omega) hx'
     obtain⟨b1,b2,b3,b4,b5,b6,b7,b8,b9⟩:=oM (n:=n) hq n1 (by omega) hy'
     have e:iI (f+1) (p::x) (q::y)=(if q.kind=1 then[takeA p n] else if p.kind=1 then[takeA q n] else[])++iI f (iU p x n) (iU q y n):=by
      simp only[iI,kZ];rw[if_neg hk,if_neg hk2,hn]
     have hlen:(iU p x n).length+(iU q y n).length≤f:=by
      simp only[List.length_cons] at hf
      rcases (by omega:(n:Int)=gT p∨(n:Int)=gT q) with h | h
      ·rw[a9 h];omega
      ·rw[b9 h];omega
     have eap:apO (q::y) (apO (p::x) s)=apO (takeA q n::iU q y n) (apO (takeA p n::iU p x n) s):=by rw[a5,b5]
     have hs2:inS (takeA p n::iU p x n)=s.length:=by rw[cO,← a6,cO];exact hs
     have i:=wS f (iU p x n) (iU q y n) (if (takeA p n).kind=1 then s.drop n else s) hlen a4 b4 (by
      rw[cO] at hs2
      have h3:=kF a4
      by_cases h:(takeA p n).kind=1
      ·rw[if_pos h,List.length_drop]
       have:=(oI a1 (by omega)).1;omega
      ·rw[if_neg h]
       have:=tX (p:=takeA p n) (by rcases rF a1 with h1 | h1 | h1<;>omega);omega) (by
      have h4:=(oI b1 (by rw[b2];exact hk2)).1
      have h5:=pX a1 (by rw[a2];exact hk)
      rw[← cZ,a7,b6] at hxy;omega)
     have j:=aLe a1 b1 (by rw[a2];exact hk) (by rw[b2];exact hk2) a3 b3 a4 hs2 i
     rw[a2,b2] at j
     rw[e]
     exact⟨j.pc,by rw[j.ins,a6,cO],by rw[j.outs,b7,cZ],by rw[j.ap,eap]⟩
end Go.Proofs.YtdeiocppghhfdaaGreat
