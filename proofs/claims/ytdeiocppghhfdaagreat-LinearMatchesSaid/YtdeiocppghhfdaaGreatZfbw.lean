/- Texts, one behind another. -/
import Derived.Test.YtdeiocppghhfdaaGreatZfbu
set_option linter.unusedVariables false
set_option linter.unusedSimpArgs false
set_option maxRecDepth 100000
set_option maxHeartbeats 40000000
namespace Go.Proofs.YtdeiocppghhfdaaGreat.Lin
open Hs
def tsum (cs:List aA) (st:MS) (u j:Nat):Nat:=(if bW cs u then 1 else 0)+((List.range j).map (tryC cs.length (nx cs) (rdyB cs) (bW cs) st u)).sum
def fstj (cs:List aA) (st:MS) (u j:Nat):Option (List Nat):=if bW cs u then some [] else (List.range j).findSome? (tryS cs.length (nx cs) (rdyB cs) (bW cs) st u)
def fsts (many:Nat) (ord fst:List Nat) (x:Option (List Nat)):List Nat:=if many=0 then (match x with | some a=>ord++a | none=>[]) else fst
theorem aJi (cs:List aA) (st:MS) (u:Nat):tsum cs st u 0=if bW cs u then 1 else 0:=by unfold tsum;simp
theorem oI (cs:List aA) (st:MS) (u j:Nat):tsum cs st u (j+1)=tsum cs st u j+tryC cs.length (nx cs) (rdyB cs) (bW cs) st u j:=by
 unfold tsum;rw[List.range_succ,List.map_append,List.sum_append];simp;omega
theorem aNc (cs:List aA) (st:MS) (u:Nat):tsum cs st u cs.length=CC cs st u:=(C_eq st u).symm
theorem aJj (cs:List aA) (st:MS) (u:Nat) {i j:Nat} (h:i≤j):tsum cs st u i≤tsum cs st u j:=by
 induction j with
 |zero=>rw[Nat.le_zero.1 h];exact Nat.le_refl _
 |succ j ih =>
  rcases Nat.lt_or_ge i (j+1) with h' | h'
  ·rw[oI];exact Nat.le_trans (ih (by omega)) (Nat.le_add_right _ _)
  ·rw[show i=j+1 by omega];exact Nat.le_refl _
theorem aJk (cs:List aA) (st:MS) (u:Nat):fstj cs st u 0=if bW cs u then some [] else none:=by unfold fstj;simp
theorem oJ (cs:List aA) (st:MS) (u j:Nat):fstj cs st u (j+1)=(fstj cs st u j).or (tryS cs.length (nx cs) (rdyB cs) (bW cs) st u j):=by
 unfold fstj
 split
 ·rfl
 ·rw[List.range_succ,List.findSome?_append];simp
theorem aNd (cs:List aA) (st:MS) (u:Nat):fstj cs st u cs.length=SS cs st u:=(S_eq st u).symm
theorem aNe (n u:Nat):fr n u≤n:=by unfold fr;exact Nat.le_trans (List.length_filter_le _ _) (by simp)
theorem aRs {cs:List aA} {st:MS} {u:Nat}:CC cs st u=0↔SS cs st u=none:=by
 constructor
 ·intro h
  cases hS:SS cs st u with
  |none=>rfl
  |some a =>
   have h1:1≤CC cs st u:=aGf a (aPa cs.length (aNe _ _) hS)
   omega
 ·intro h
  rcases Nat.eq_zero_or_pos (CC cs st u) with h0 | h0
  ·exact h0
  ·obtain⟨a,ha⟩:=aPc (n:=cs.length) (next:=nx cs) (rdy:=rdyB cs) (fl:=bW cs) cs.length (aNe _ _) h0
   obtain⟨b,hb,_⟩:=aGe a ha
   have hb':SS cs st u=some b:=hb
   rw[h] at hb';cases hb'
theorem aGw {cs:List aA} {st:MS} {u i:Nat}:tryC cs.length (nx cs) (rdyB cs) (bW cs) st u i=0↔tryS cs.length (nx cs) (rdyB cs) (bW cs) st u i=none:=by
 unfold tryC tryS
 split
 ·cases hn:nx cs st i with
  |none=>simp
  |some t =>
   have h:=aRs (cs:=cs) (st:=t) (u:=u ||| 2 ^ i)
   show C cs.length (nx cs) (rdyB cs) (bW cs) t (u ||| 2 ^ i)=0↔_
   rw[Option.bind_some,Option.map_eq_none_iff]
   exact h
 ·simp
theorem aAu (cs:List aA) (st:MS) (u:Nat):∀ j,tsum cs st u j=0↔fstj cs st u j=none
 |0=>by rw[aJi,aJk];split<;>simp
 |j+1=>by
  have h:=aAu cs st u j
  have h2:=aGw (cs:=cs) (st:=st) (u:=u) (i:=j)
  rw[oI,oJ,Option.or_eq_none_iff,← h,← h2]
  omega
theorem aRx {cs:List aA} {st t:MS} {u j many most:Nat} {ord fst:List Nat} (h0:many=0→fst=[]) (hm:1≤most) (hc:cand (rdyB cs) u j=true) (hn:nx cs st j=some t) (hlt:min most (many+tsum cs st u j)<most) :
  min most (min most (many+tsum cs st u j)+CC cs t (u ||| 2 ^ j))=min most (many+tsum cs st u (j+1)) ∧
  fsts (min most (many+tsum cs st u j)) (ord++[j]) (fsts many ord fst (fstj cs st u j)) (SS cs t (u ||| 2 ^ j))=fsts many ord fst (fstj cs st u (j+1)):=by
 have hC:tryC cs.length (nx cs) (rdyB cs) (bW cs) st u j=CC cs t (u ||| 2 ^ j):=by unfold tryC;rw[if_pos hc,hn];try rfl
 have hS:tryS cs.length (nx cs) (rdyB cs) (bW cs) st u j=(SS cs t (u ||| 2 ^ j)).map (j :: ·):=by unfold tryS;rw[if_pos hc,hn];try rfl
 refine⟨by rw[oI,hC];omega,?_⟩
 have hi:=aAu cs st u j
 rw[oJ,hS]
 unfold fsts
 by_cases hz:many=0
 ·simp only[if_pos hz]
  by_cases hq:tsum cs st u j=0
  ·rw[hi.1 hq,if_pos (by omega),Option.none_or]
   cases SS cs t (u ||| 2 ^ j)<;>simp
  ·have:fstj cs st u j≠none:=fun h=>hq (hi.2 h)
   obtain⟨a,ha⟩:=Option.ne_none_iff_exists'.1 this
   rw[ha,if_neg (by omega),Option.some_or]
 ·simp only[if_neg hz]
  rw[if_neg (by omega)]
theorem aRy {cs:List aA} {st:MS} {u j:Nat} (h:cand (rdyB cs) u j=false∨nx cs st j=none):tsum cs st u (j+1)=tsum cs st u j∧fstj cs st u (j+1)=fstj cs st u j:=by
 have h1:tryS cs.length (nx cs) (rdyB cs) (bW cs) st u j=none:=by
  unfold tryS
  split
  ·rename_i hc
   rcases h with h | h
   ·rw[h] at hc;cases hc
   ·rw[h];rfl
  ·rfl
 have h2:=aGw.2 h1
 rw[oI,h2,oJ,h1]
 exact⟨rfl,by cases fstj cs st u j<;>rfl⟩
theorem aRz {cs:List aA} {st:MS} {u j many most:Nat} {ord fst:List Nat} (hj:j≤cs.length) (hm:1≤most) (hge:most≤many+tsum cs st u j) :
  min most (many+tsum cs st u j)=min most (many+CC cs st u)∧fsts many ord fst (fstj cs st u j)=fsts many ord fst (SS cs st u):=by
 have h1:=aJj cs st u hj
 rw[aNc] at h1
 refine⟨by omega,?_⟩
 unfold fsts
 by_cases hz:many=0
 ·rw[if_pos hz,if_pos hz]
  have hp:∀ i,j≤i→fstj cs st u i=fstj cs st u j:=fun i hi=>by
   induction i with
   |zero=>rw[Nat.le_zero.1 hi]
   |succ i ih =>
    rcases Nat.lt_or_ge j (i+1) with h' | h'
    ·rw[oJ,ih (by omega)]
     have:fstj cs st u j≠none:=fun h=>by have:=(aAu cs st u j).2 h;omega
     obtain⟨a,ha⟩:=Option.ne_none_iff_exists'.1 this
     rw[ha];rfl
    ·rw[show j=i+1 by omega]
  rw[← aNd,hp _ hj]
 ·rw[if_neg hz,if_neg hz]
open Go.RowKit Go.Lib Go.Shelf
open KitI (iv)
structure KS (B s g:Nat) (W W':World):Prop where
 os:W'.os=W.os
 tape:W'.tape=W.tape
 output:W'.output=W.output
 size:W.heap.size≤W'.heap.size
 block:∀ k,k<W.heap.size→k≠s→k≠g→(k<B∨∀ cs z,W.heap[k]? ≠ some (.cells cs 3 z))→W'.heap[k]? = W.heap[k]?
section
variable {B s g:Nat} {W W':World}
theorem KS.refl (B s g:Nat) (W:World):KS B s g W W:=⟨rfl,rfl,rfl,Nat.le_refl _,fun _ _ _ _ _=>rfl⟩
theorem KS.trans {W'':World} (h:KS B s g W W') (k:KS B s g W' W''):KS B s g W W'' :=
 ⟨k.os.trans h.os,k.tape.trans h.tape,k.output.trans h.output,Nat.le_trans h.size k.size,fun i hi h1 h2 h3=>by
  have e:=h.block i hi h1 h2 h3
  exact (k.block i (Nat.lt_of_lt_of_le hi h.size) h1 h2 (h3.imp (fun h=>h) (fun h4 cs z=>by rw[e];exact h4 cs z))).trans e⟩
theorem KS.below (hb:Below W.heap.size W W'):KS B s g W W':=⟨hb.os,hb.tape,hb.output,hb.size,fun k hk _ _ _=>hb.block k hk⟩
theorem KS.keep {F:Nat→Prop} (hk:aF F W W') (hF:∀ k,F k→k=s∨k=g∨(B≤k∧∃ cs z,W.heap[k]? = some (.cells cs 3 z))):KS B s g W W' :=
 ⟨hk.os,hk.tape,hk.output,hk.size,fun k hl h1 h2 h3=>hk.block k hl (fun hf=>by
  rcases hF k hf with h | h | ⟨h,cs,z,hc⟩
  ·exact h1 h
  ·exact h2 h
  ·rcases h3 with h3 | h3
   ·omega
   ·exact h3 cs z hc)⟩
theorem KS.bel {w:World} (hB:Below w.heap.size w W) (hk:KS B s g W W') (h1:w.heap.size≤s) (h2:w.heap.size≤g) (h3:w.heap.size≤B):Below w.heap.size w W' :=
 ⟨hk.os.trans hB.os,hk.tape.trans hB.tape,hk.output.trans hB.output,Nat.le_trans hB.size hk.size,fun k hl=>(hk.block k (by have:=hB.size;omega) (by omega) (by omega) (.inl (by omega))).trans (hB.block k hl)⟩
theorem wQ {b0 n0 n:Nat} {e:TypeId} {v:Value} {xs:List Value} (h:W.ownsRow b0 e n0 v n xs) (hk:KS B s g W W') (he:e≠3) (h1:v.ownBlock≠some s) (h2:v.ownBlock≠some g):W'.ownsRow b0 e n0 v n xs:=by
 refine⟨h.1,?_⟩
 rcases h.2 with hn | ⟨q,cap,cur,rfl,hB,hg,rest⟩
 ·exact .inl hn
 ·refine .inr ⟨q,cap,cur,rfl,hB,(hk.block q (gAz hg).1 (fun e=>h1 (by rw[e];rfl)) (fun e=>h2 (by rw[e];rfl)) (.inr fun cs z hc => ?_)).trans hg,rest⟩
  rw[hg] at hc
  injection hc with hc
  injection hc with _ hc _
  exact he hc
theorem oK {b0 n0 n k:Nat} {e T:TypeId} {v:Value} {xs:List Value} {cs:Array Value} (h:W.ownsRow b0 e n0 v n xs) (hc:W.heap[k]? = some (.cells cs T (0,0))) (he:e≠T):v.ownBlock≠some k:=by
 intro hv
 rcases h.2 with⟨hn,_⟩ | ⟨q,cap,cur,rfl,_,hg,_⟩
 ·rw[hn] at hv;cases hv
 ·have hq:q=k:=by injection hv
  subst hq
  rw[hg] at hc
  injection hc with hc
  injection hc with _ hc _
  exact he hc
theorem aSi {b:Nat} {M:RM} {cs cg:Array Value} (h:RdAt W b M) (hk:KS B s g W W') (hs:W.heap[s]? = some (.cells cs 115 (0,0))) (hg:W.heap[g]? = some (.cells cg 4 (0,0))) (hne:∀ k,M.fp b k→k≠s∧k≠g):RdAt W' b M :=
 ⟨(hk.block b (gAz h.blk).1 (hne b (.inl rfl)).1 (hne b (.inl rfl)).2 (.inr fun c z hc=>by rw[h.blk] at hc;injection hc with hc;injection hc with _ hc _;exact absurd hc (by decide))).trans h.blk,
  wQ h.marks hk (by decide) (oK h.marks hs (by decide)) (oK h.marks hg (by decide)),
  wQ h.subs hk (by decide) (fun e=>(hne s (.inr (.inl e))).1 rfl) (fun e=>(hne g (.inr (.inl e))).2 rfl),
  wQ h.snaps hk (by decide) (oK h.snaps hs (by decide)) (oK h.snaps hg (by decide)),
  fun S hS=>wQ (h.slots S hS) hk (by decide) (fun e=>(hne s (.inr (.inr ⟨S,hS,e⟩))).1 rfl) (fun e=>(hne g (.inr (.inr ⟨S,hS,e⟩))).2 rfl),
  fun S hS x hx=>wQ (h.smarks S hS x hx) hk (by decide) (oK (h.smarks S hS x hx) hs (by decide)) (oK (h.smarks S hS x hx) hg (by decide)),h.some_,h.nodup⟩
end
structure SrM (B s g:Nat) (p:Option Addr) (cap:Nat) (cs:List aA) (most:Nat) (u:Nat) (ov fv:Value) (ord fst:List Nat) (many:Nat) (W:World):Prop where
 sr:SrAt W s g p cap cs.length (mG cs.length u) ov fv many most
 oo:W.ownsRow B 3 1 ov ord.length (ord.map fun (x:Nat)=>iv x)
 ff:most=1→W.ownsRow B 3 1 fv fst.length (fst.map fun (x:Nat)=>iv x)
 zero:many=0→fst=[]∧fv = .slice none 0 0
 le:many≤most
theorem SrM.on {B s g:Nat} {p:Option Addr} {cap:Nat} {cs:List aA} {most u:Nat} {ov fv:Value} {ord fst:List Nat} {many:Nat} {W W':World} (h:SrM B s g p cap cs most u ov fv ord fst many W) (hb:Below W.heap.size W W'):SrM B s g p cap cs most u ov fv ord fst many W' :=
 ⟨h.sr.on hb,aI h.oo hb,fun h1=>aI (h.ff h1) hb,h.zero,h.le⟩
end Go.Proofs.YtdeiocppghhfdaaGreat.Lin
