/- Texts, one behind another. -/
import Derived.Test.YtdeiocppghhfdaaGreatZdbp
set_option linter.unusedVariables false
set_option linter.unusedSimpArgs false
set_option maxRecDepth 100000
set_option maxHeartbeats 8000000
namespace Go.Proofs.YtdeiocppghhfdaaGreat
def qJ (out:List PcV) (p:PcV):List PcV :=
 match out.getLast? with
 | some q=>if q.kind=1 then out.dropLast++[{ q with n:=q.n+p.n }] else out++[p]
 | none=>out++[p]
def nfF:List PcV→List PcV→List UInt8→Int→List PcV
 | [],out,text,gone=>iF out text gone
 | p::ps,out,text,gone =>
  if p.kind=2 then nfF ps out (text++p.text.data.toList) gone
  else if p.kind=3 then nfF ps out text (gone+p.n)
  else nfF ps (qJ (iF out text gone) p) [] 0
def nfS (ps:List PcV):List PcV:=nfF ps [] [] 0
theorem vC {p:PcV} (h:pcP p) (hk:p.kind≠2):pcIn p=p.n:=by have:=oI h hk;omega
theorem lN:∀ {a:List PcV} (_:∀ p∈a,pcP p) (c:List PcV) (s:List UInt8),apO (a++c) s=apO a s++apO c (s.drop (inS a).toNat)
 | [],_,c,s=>by simp[apO,inS]
 | p::a,h,c,s=>by
  have hp:=h p (by simp)
  have ha:∀ q∈a,pcP q:=fun q hq=>h q (by simp[hq])
  have h1:=kF ha
  have h2:=kQ hp
  rw[List.cons_append,cO]
  rcases rF hp with k | k | k
  ·have h3:=vC hp (by omega)
   rw[lM k,lM k,lN ha,List.drop_drop,List.append_assoc,h3,show (p.n+inS a).toNat=p.n.toNat+(inS a).toNat by omega]
  ·rw[nL k,nL k,lN ha,List.append_assoc,tX k,Int.zero_add]
  ·have h3:=vC hp (by omega)
   rw[pV k,pV k,lN ha,List.drop_drop,h3,show (p.n+inS a).toNat=p.n.toNat+(inS a).toNat by omega]
theorem aLf (out:List PcV) (text:List UInt8) (gone:Int):iF out text gone=out++iF [] text gone:=by
 unfold iF oW oV
 (repeat' split)<;>simp
theorem aLg (text:List UInt8) (gone:Int) (hg:0≤gone):(∀ p∈iF [] text gone,pcP p)∧inS (iF [] text gone)=gone∧outS (iF [] text gone)=text.length∧∀ s,apO (iF [] text gone) s=text:=by
 have e0:(⟨#[]⟩:ByteArray).size=0:=rfl
 have e1:(⟨text.toArray⟩:ByteArray).size=text.length:=by simp[ByteArray.size]
 unfold iF oW oV
 have g1:0<gone→pcP ⟨3,gone,⟨#[]⟩⟩:=fun h => .inl ⟨.inr rfl,by dsimp only;omega,e0⟩
 have g2:text≠[]→pcP ⟨2,0,⟨text.toArray⟩⟩:=fun h => .inr ⟨rfl,rfl,by dsimp only;rw[e1];exact fun h2=>h (List.eq_nil_of_length_eq_zero h2)⟩
 by_cases ht:text=[]<;>by_cases h:0<gone
 ·rw[if_pos ht,if_pos h];subst ht
  exact⟨fun p hp=>by rw[List.mem_singleton.1 hp];exact g1 h,by simp[inS,pcIn],by simp[outS,fE],by simp[apO]⟩
 ·rw[if_pos ht,if_neg h];subst ht
  exact⟨by simp,by simp[inS];omega,by simp[outS],by simp[apO]⟩
 ·rw[if_neg ht,if_pos h]
  refine⟨fun p hp => ?_,by simp[inS,pcIn],by simp[outS,fE,e1],by simp[apO]⟩
  rcases List.mem_append.1 hp with hp | hp
  ·have hp:p=⟨2,0,⟨text.toArray⟩⟩:=by simpa using hp
   rw[hp];exact g2 ht
  ·rw[List.mem_singleton.1 hp];exact g1 h
 ·rw[if_neg ht,if_neg h]
  exact⟨fun p hp=>by have hp:p=⟨2,0,⟨text.toArray⟩⟩:=(by simpa using hp);rw[hp];exact g2 ht,by simp[inS,pcIn];omega,by simp[outS,fE,e1],by simp[apO]⟩
theorem aAw {out:List PcV} (ho:∀ p∈out,pcP p) (text:List UInt8) (gone:Int) (hg:0≤gone):(∀ p∈iF out text gone,pcP p)∧inS (iF out text gone)=inS out+gone∧outS (iF out text gone)=outS out+text.length∧∀ s,apO (iF out text gone) s=apO out s++text:=by
 obtain⟨h1,h2,h3,h4⟩:=aLg text gone hg
 rw[aLf]
 refine⟨fun p hp=>(List.mem_append.1 hp).elim (ho p) (h1 p),by rw[nJ,h2],by rw[kS,h3],fun s=>by rw[lN ho,h4]⟩
theorem aIj {F:List PcV} (hF:∀ p∈F,pcP p) {p:PcV} (hp:pcP p) (hk:p.kind=1):(∀ q∈qJ F p,pcP q)∧inS (qJ F p)=inS F+p.n∧outS (qJ F p)=outS F+p.n∧∀ s,apO (qJ F p) s=apO F s++(s.drop (inS F).toNat).take p.n.toNat:=by
 have p1:=vC hp (by omega)
 have p2:fE p=p.n:=by unfold fE;rw[if_pos hk]
 have hpn:1≤p.n:=by rcases hp with⟨_,h,_⟩ | ⟨h,_⟩<;>omega
 have hS:(∀ q∈F++[p],pcP q)∧inS (F++[p])=inS F+p.n∧outS (F++[p])=outS F+p.n∧∀ s,apO (F++[p]) s=apO F s++(s.drop (inS F).toNat).take p.n.toNat:=by
  refine⟨fun q hq => ?_,by rw[nJ,cO,p1];simp[inS],by rw[kS,cZ,p2];simp[outS],fun s=>by rw[lN hF,lM hk];simp[apO]⟩
  rcases List.mem_append.1 hq with hq | hq
  ·exact hF q hq
  ·rw[List.mem_singleton.1 hq];exact hp
 unfold qJ
 cases hl:F.getLast? with
 | none=>exact hS
 | some q =>
  dsimp only
  by_cases hq1:q.kind=1
  ·rw[if_pos hq1]
   have hne:F≠[]:=by intro h;rw[h] at hl;simp at hl
   have hlast:F.getLast hne=q:=by rw[List.getLast?_eq_some_getLast hne] at hl;injection hl
   have hF2:F.dropLast++[q]=F:=by rw[← hlast];exact List.dropLast_concat_getLast hne
   generalize F.dropLast=L at hF2
   subst hF2
   have hL:∀ r∈L,pcP r:=fun r hr=>hF r (by simp[hr])
   have hq:=hF q (by simp)
   have q1:=vC hq (by omega)
   have q2:fE q=q.n:=by unfold fE;rw[if_pos hq1]
   have hqn:1≤q.n∧q.text.size=0:=by rcases hq with⟨_,h,h2⟩ | ⟨h,_⟩<;>omega
   have hL1:=kF hL
   have e1:inS (L++[q])=inS L+q.n:=by rw[nJ,cO,q1];simp[inS]
   have e2:outS (L++[q])=outS L+q.n:=by rw[kS,cZ,q2];simp[outS]
   have hk1:({ q with n:=q.n+p.n }:PcV).kind=1:=hq1
   have hq':pcP { q with n:=q.n+p.n } := .inl ⟨.inl hq1,by dsimp only;omega,hqn.2⟩
   refine⟨fun r hr => ?_,?_,?_,fun s => ?_⟩
   ·rcases List.mem_append.1 hr with hr | hr
    ·exact hL r hr
    ·rw[List.mem_singleton.1 hr];exact hq'
   ·rw[e1,nJ,cO,vC hq' (by omega)];simp[inS];omega
   ·rw[e2,kS,cZ];unfold fE;rw[if_pos hk1];simp[outS];omega
   ·rw[e1,lN hL,lN hL,lM hk1,lM hq1]
    simp only[apO,List.append_nil,List.append_assoc]
    rw[show (q.n+p.n).toNat=q.n.toNat+p.n.toNat by omega,List.take_add,List.drop_drop,show (inS L+q.n).toNat=(inS L).toNat+q.n.toNat by omega]
  ·rw[if_neg hq1];exact hS
theorem yZ:∀ (ps out:List PcV) (text:List UInt8) (gone:Int),(∀ p∈ps,pcP p)→(∀ p∈out,pcP p)→0≤gone →
  (∀ p∈nfF ps out text gone,pcP p)∧inS (nfF ps out text gone)=inS out+gone+inS ps∧outS (nfF ps out text gone)=outS out+text.length+outS ps∧∀ s,apO (nfF ps out text gone) s=apO out s++(text++apO ps (s.drop ((inS out).toNat+gone.toNat)))
 | [],out,text,gone,_,ho,hg=>by
  obtain⟨h1,h2,h3,h4⟩:=aAw ho text gone hg
  unfold nfF
  exact⟨h1,by rw[h2];simp[inS],by rw[h3];simp[outS],fun s=>by rw[h4];simp[apO]⟩
 | p::ps,out,text,gone,hps,ho,hg=>by
  have hp:=hps p (by simp)
  have hps':∀ q∈ps,pcP q:=fun q hq=>hps q (by simp[hq])
  have hi:=kF ho
  unfold nfF
  rw[cO,cZ]
  rcases rF hp with k | k | k
  ·rw[if_neg (by omega),if_neg (by omega)]
   obtain⟨h1,h2,h3,h4⟩:=aAw ho text gone hg
   obtain⟨a1,a2,a3,a4⟩:=aIj h1 hp k
   obtain⟨i1,i2,i3,i4⟩:=yZ ps (qJ (iF out text gone) p) [] 0 hps' a1 (by omega)
   have p1:=vC hp (by omega)
   have p2:fE p=p.n:=by unfold fE;rw[if_pos k]
   have hpn:=kQ hp
   refine⟨i1,by rw[i2,a2,h2];omega,by rw[i3,a3,h3];simp only[List.length_nil];omega,fun s => ?_⟩
   rw[i4,a4,h4,a2,h2,lM k,List.drop_drop,show (inS out+gone).toNat=(inS out).toNat+gone.toNat by omega,show (inS out+gone+p.n).toNat+(0:Int).toNat=(inS out).toNat+gone.toNat+p.n.toNat by omega]
   simp only[List.append_assoc,List.nil_append]
  ·rw[if_pos k]
   obtain⟨i1,i2,i3,i4⟩:=yZ ps out (text++p.text.data.toList) gone hps' ho hg
   have p2:fE p=p.text.size:=by unfold fE;rw[if_neg (by omega),if_neg (by omega)]
   refine⟨i1,by rw[i2,tX k];omega,by rw[i3,List.length_append,oH];omega,fun s=>by rw[i4,nL k,List.append_assoc]⟩
  ·rw[if_neg (by omega),if_pos k]
   have p1:=vC hp (by omega)
   have hpn:=kQ hp
   obtain⟨i1,i2,i3,i4⟩:=yZ ps out text (gone+p.n) hps' ho (by omega)
   refine⟨i1,by rw[i2];omega,by rw[i3,wR k];omega,fun s=>by rw[i4,pV k,List.drop_drop,show (gone+p.n).toNat=gone.toNat+p.n.toNat by omega,Nat.add_assoc]⟩
theorem aLh {x y:List PcV} {s:List UInt8} (hx:∀ p∈x,pcP p) (hy:∀ p∈y,pcP p) (hs:inS x=s.length) (hxy:inS y=outS x):aD9 (nfS (pW x y)) x y s:=by
 have h:=wS (x.length+y.length) x y s (Nat.le_refl _) hx hy hs hxy
 obtain⟨i1,i2,i3,i4⟩:=yZ (pW x y) [] [] 0 h.pc (by simp) (by omega)
 have e:=i4 s
 simp only[apO,inS,Int.toNat_zero,Nat.add_zero,List.drop_zero,List.nil_append] at e
 refine⟨i1,?_,?_,?_⟩
 ·have:inS (nfS (pW x y))=inS []+0+inS (pW x y):=i2
  rw[this,← h.ins];simp[inS];rfl
 ·have:outS (nfS (pW x y))=outS []+([]:List UInt8).length+outS (pW x y):=i3
  rw[this,← h.outs];simp[outS];rfl
 ·rw[← h.ap];exact e
end Go.Proofs.YtdeiocppghhfdaaGreat
namespace Go.Proofs.YtdeiocppghhfdaaGreat
def Bdp (p:PcV):Prop:=pcP p∧p.n≤1048576∧p.text.size≤1048576
theorem wT {p:PcV} {n:Nat} (h:Bdp p) (h1:1≤n) (h2:(n:Int)≤gT p):Bdp (takeA p n)∧(takeA p n).kind=p.kind:=by
 obtain⟨hp,hn,ht⟩:=h
 obtain⟨a1,a2,a3,_⟩:=oM hp h1 h2 (x:=[]) (by simp)
 refine⟨⟨a1,?_⟩,a2⟩
 have h3:gT p≤1048576:=by unfold gT;rcases hp with⟨_,_,h⟩ | ⟨_,h,_⟩<;>omega
 unfold gT at a3 h2 h3
 rcases a1 with⟨_,h4,h5⟩ | ⟨_,h4,h5⟩<;>omega
theorem wU {p:PcV} {x:List PcV} {n:Nat} (h:Bdp p) (hx:∀ q∈x,Bdp q) (h1:1≤n) (h2:(n:Int)≤gT p):∀ q∈iU p x n,Bdp q:=by
 obtain⟨hp,hn,ht⟩:=h
 obtain⟨_,_,_,a4,_⟩:=oM hp h1 h2 (x:=x) (fun q hq=>(hx q hq).1)
 intro q hq
 refine⟨a4 q hq,?_⟩
 unfold iU at hq
 split at hq
 ·rcases List.mem_cons.1 hq with rfl | hq
  ·unfold aG
   split
   ·refine⟨hn,?_⟩
    dsimp only
    rw[ByteArray.size_extract];omega
   ·exact⟨by dsimp only;omega,ht⟩
  ·exact (hx q hq).2
 ·exact (hx q hq).2
theorem aR1 {d:List PcV} (h:DV d):∀ p∈d,Bdp p:=by
 obtain⟨h1,h2,h3⟩:=h
 intro p hp
 obtain⟨A,B,rfl⟩:=List.append_of_mem hp
 have a1:=kF (d:=A) fun q hq=>h1 q (by simp[hq])
 have a2:=mO (d:=A) fun q hq=>h1 q (by simp[hq])
 have b1:=kF (d:=B) fun q hq=>h1 q (by simp[hq])
 have b2:=mO (d:=B) fun q hq=>h1 q (by simp[hq])
 rw[nJ,cO] at h2
 rw[kS,cZ] at h3
 have hpc:=h1 p hp
 refine⟨hpc,?_⟩
 by_cases hk:p.kind=2
 ·have c1:=pX hpc (by omega)
  unfold gT at c1
  rcases hpc with⟨h,_⟩ | ⟨_,h4,_⟩<;>omega
 ·obtain⟨c1,c2⟩:=oI hpc hk
  unfold gT at c1 c2
  omega
theorem aRf {x y o x' y':List PcV} (h:kZ x y=some (o,x',y')) (hx:∀ p∈x,Bdp p) (hy:∀ p∈y,Bdp p):(∀ p∈o,Bdp p)∧(∀ p∈x',Bdp p)∧(∀ p∈y',Bdp p)∧o.length≤1:=by
 have one:∀ p:PcV,Bdp p→∀ q∈[p],Bdp q:=fun p hp q hq=>by rw[List.mem_singleton.1 hq];exact hp
 match x,y with
 | [],[]=>cases h
 | [],q::y =>
  simp only[kZ] at h
  split at h
  ·injection h with h;injection h with h1 h;injection h with h2 h3
   subst h1;subst h2;subst h3
   exact⟨one q (hy q (by simp)),hx,fun p hp=>hy p (by simp[hp]),by simp⟩
  ·cases h
 | p::x,[] =>
  simp only[kZ] at h
  split at h
  ·injection h with h;injection h with h1 h;injection h with h2 h3
   subst h1;subst h2;subst h3
   exact⟨one p (hx p (by simp)),fun q hq=>hx q (by simp[hq]),hy,by simp⟩
  ·cases h
 | p::x,q::y =>
  have hp:=hx p (by simp)
  have hq:=hy q (by simp)
  have hx':∀ r∈x,Bdp r:=fun r hr=>hx r (by simp[hr])
  have hy':∀ r∈y,Bdp r:=fun r hr=>hy r (by simp[hr])
  simp only[kZ] at h
  split at h
  ·injection h with h;injection h with h1 h;injection h with h2 h3
   subst h1;subst h2;subst h3
   exact⟨one p hp,hx',hy,by simp⟩
  split at h
  ·injection h with h;injection h with h1 h;injection h with h2 h3
   subst h1;subst h2;subst h3
   exact⟨one q hq,hx,hy',by simp⟩
  ·have l1:=kW hp.1
   have l2:=kW hq.1
   generalize hn:(min (gT p) (gT q)).toNat=n at h
   have n1:1≤n:=by omega
   injection h with h;injection h with h1 h;injection h with h2 h3
   subst h1;subst h2;subst h3
   refine⟨?_,wU hp hx' n1 (by omega),wU hq hy' n1 (by omega),by (repeat' split)<;>simp⟩
   split
   ·exact one _ (wT hp n1 (by omega)).1
   ·split
    ·exact one _ (wT hq n1 (by omega)).1
    ·intro r hr;cases hr
theorem aJq:∀ (f:Nat) (x y:List PcV),(∀ p∈x,Bdp p)→(∀ p∈y,Bdp p)→(∀ p∈iI f x y,Bdp p)∧(iI f x y).length≤f
 | 0,_,_,_,_=>⟨fun p hp=>(by cases hp),Nat.le_refl _⟩
 | f+1,x,y,hx,hy=>by
  unfold iI
  cases h:kZ x y with
  | none=>exact⟨fun p hp=>(by cases hp),Nat.zero_le _⟩
  | some r =>
   obtain⟨o,x',y'⟩:=r
   obtain⟨h1,h2,h3,h4⟩:=aRf h hx hy
   obtain⟨i1,i2⟩:=aJq f x' y' h2 h3
   dsimp only
   refine⟨fun p hp=>(List.mem_append.1 hp).elim (h1 p) (i1 p),by rw[List.length_append];omega⟩
structure iR (d:List PcV) (s t:ByteArray):Prop where
 len:d.length≤4096
 dv:DV d
 ins:inS d=s.size
 ap:apO d s.data.toList=t.data.toList
theorem iR.ok {d:List PcV} {s t:ByteArray} (h:iR d s t):lenS d=(inS d,outS d,0):=aOq h.len h.dv
theorem iR.outs {d:List PcV} {s t:ByteArray} (h:iR d s t):outS d=t.size:=by
 have e:=(aIi d ⟨[],[],[],s.data.toList⟩ h.dv.1 (by show inS d≤(s.data.toList.length:Int);rw[oH,h.ins];omega)).2.1
 have e2:=aD8 s.data.toList d
 unfold paF at e2
 rw[e2,h.ap,oH] at e
 simp at e
 omega
theorem iR.apply {d:List PcV} {s t:ByteArray} (h:iR d s t):nK s d=(t,0):=by
 unfold nK
 rw[h.ok]
 dsimp only
 rw[if_neg (by simp),if_neg (by rw[h.ins];simp),aD8,h.ap]
theorem iR.of_apply {d:List PcV} {s t:ByteArray} (h1:(nK s d).2=0) (h2:(nK s d).1=t):iR d s t:=by
 unfold nK at h1 h2
 split at h1
 ·rename_i h;exact absurd h1 h
 rename_i h3
 rw[if_neg h3] at h2
 have h3:=Decidable.not_not.1 h3
 split at h1
 ·cases h1
 rename_i h4
 rw[if_neg h4] at h2
 have h4:=Decidable.not_not.1 h4
 obtain⟨h5,h6⟩:=(nX d).1 h3
 rw[wQ h3] at h4
 refine⟨h5,h6,h4,?_⟩
 rw[← h2,aD8]
theorem iR.nil {t:ByteArray} (h:t.size=0):iR [] t t:=by
 refine⟨by simp,⟨fun p hp=>(by cases hp),by simp[inS],by simp[outS]⟩,by rw[h];rfl,?_⟩
 have:t.data.toList=[]:=List.eq_nil_of_length_eq_zero (by rw[oH];exact h)
 rw[this];rfl
theorem iR.keep {t:ByteArray} (h:t.size≠0) (h2:t.size≤65536):iR [⟨1,t.size,⟨#[]⟩⟩] t t:=by
 have e0:(⟨#[]⟩:ByteArray).size=0:=rfl
 have hp:pcP ⟨1,t.size,⟨#[]⟩⟩ := .inl ⟨.inl rfl,by dsimp only;omega,e0⟩
 refine⟨by simp,⟨fun p hp2=>by rw[List.mem_singleton.1 hp2];exact hp,by simp[inS,pcIn];omega,by simp[outS,fE];omega⟩,by simp[inS,pcIn],?_⟩
 rw[lM rfl]
 show t.data.toList.take (t.size:Int).toNat++[]=_
 rw[List.append_nil,Int.toNat_natCast,← oH,List.take_length]
def cmpR (a b:List PcV):List PcV × Int:=if (lenS (nfS (pW a b))).2.2=0 then (nfS (pW a b),0) else ([],5)
theorem aTx (a b:List PcV):(cmpR a b).2=0∨(cmpR a b).2=5:=by unfold cmpR;split<;>simp
theorem iR.comp {a b:List PcV} {s t u:ByteArray} (h1:iR a s t) (h2:iR b t u) (h:(cmpR a b).2=0):iR (cmpR a b).1 s u:=by
 unfold cmpR at h ⊢
 split at h
 ·rename_i h3
  rw[if_pos h3]
  obtain⟨h5,h6⟩:=(nX _).1 h3
  have hc:=aLh (s:=s.data.toList) h1.dv.1 h2.dv.1 (by rw[oH];exact h1.ins) (by rw[h2.ins,h1.outs])
  exact⟨h5,h6,by rw[hc.ins];exact h1.ins,by rw[hc.ap,h1.ap,h2.ap]⟩
 ·cases h
end Go.Proofs.YtdeiocppghhfdaaGreat
namespace Go.Proofs.YtdeiocppghhfdaaGreat
open Go.RowKit Go.Lib Go.Shelf
section
variable {P:Program}
theorem aGq (w:World) (base:Nat) (t u ty e:TypeId) (i:TypeInfo) (ht:P.underlying t=some (.slice e)) (hu:P.underlying u=some .string) (hi:P.info? e=some i) (hz:i.zero=some (.int .u8 0))
  (hsize:i.size=1) (hby:i.bytes=1) (v:Value) (n:Nat) (xs:List Value) (hown:w.ownsRow base e 1 v n xs) (s:ByteArray) (h63:n+s.size≤maxLen) (hbytes:n+s.size≤140737488355328) (hbase:base≤w.heap.size) :
  ∃ v' w',(Builtin.append_ #[t,u] ty #[v,.string s]).run P w = .ok v' w'∧w'.ownsRow base e 1 v' (n+s.size) (xs++strCells s)∧w.grownBy w' v.ownBlock∧(v' = .slice none 0 0↔v = .slice none 0 0∧s.size=0)∧(v'.ownBlock=v.ownBlock∨v'.ownBlock=some w.heap.size):=by
 obtain⟨v',w',h1,h2,h3,h4⟩:=Lib.run_append_own_string (P:=P) w base t u ty e i ht hu hi hz hsize hby v n xs hown s h63 hbytes hbase
 refine⟨v',w',h1,h2,h3,h4,?_⟩
 have hxl:xs.length=n:=by simpa using hown.1
 rcases hown.2 with⟨rfl,rfl⟩ | ⟨g,cap,cur,rfl,hbg,hg,hnc,hcm,hcs,htake⟩
 ·by_cases hm:s.size=0
  ·exact .inl (by rw[h4.2 ⟨rfl,hm⟩])
  ·have hr:=run_append_nil_string (P:=P) w t u ty e i (.int .u8 0) ht hu hi hz s (by omega) (by unfold maxLen at h63;omega) (by rw[hby];omega)
   rw[h1] at hr
   injection hr with hr _
   exact .inr (by rw[hr];rfl)
 ·by_cases hroom:n+s.size≤cap
  ·have hr:=Lib.run_append_room_string (P:=P) w t u ty e i ht hu hi hsize g n cap cur hg s hroom (by rw[show cur.size=cap by simpa using hcs];exact hroom)
   rw[h1] at hr
   injection hr with hr _
   exact .inl (by rw[hr];rfl)
  ·have holds:∀ j u,xs[j]? = some u→w.cell? ((⟨g,0,none⟩:Addr).add j)=some u:=hown.cells (g:=g) rfl
   have hr:=Lib.run_append_grow_string (P:=P) w t u ty e i (.int .u8 0) ht hu hi hz ⟨g,0,none⟩ n cap xs (by rw[hsize];simpa using hxl) holds s (by omega) (by unfold maxLen at h63;omega) (by rw[hby];exact growslice_fits (by omega) (by omega))
   rw[h1] at hr
   injection hr with hr _
   exact .inr (by rw[hr];rfl)
theorem aAx (w:World) {ops:Array Oper} {rest:List Oper} {o:Oper} {a:Act} {Q:Exit→Act→World→Prop} (hgd:o.guard=none) (sl x:Operand) (t u:TypeId)
  (ho:o.op = .call { callee := .builtin .append,args := #[sl,x],argTypes := #[t,u] })
  (base:Nat) (e:TypeId) (i:TypeInfo) (ht:P.underlying t=some (.slice e)) (hu:P.underlying u=some .string) (hi:P.info? e=some i) (hz:i.zero=some (.int .u8 0))
  (hsize:i.size=1) (hby:i.bytes=1)
  (v:Value) (n:Nat) (xs:List Value) (hs:a.eval sl=v) (hown:w.ownsRow base e 1 v n xs) (s:ByteArray) (hx:a.eval x = .string s)
  (h63:n+s.size≤maxLen) (hbytes:n+s.size≤140737488355328) (hbase:base≤w.heap.size)
  (h:∀ v' w',w'.ownsRow base e 1 v' (n+s.size) (xs++strCells s)→w.grownBy w' v.ownBlock→(v' = .slice none 0 0↔v = .slice none 0 0∧s.size=0)→(v'.ownBlock=v.ownBlock∨v'.ownBlock=some w.heap.size)→wpList P ops Q rest (a.put o.dst v') w'):wpList P ops Q (o::rest) a w:=by
 refine wpList_plain hgd fun K hK => ?_
 obtain⟨v',w',hr,h2,h3,h4,h5⟩:=aGq (P:=P) w base t u o.type e i ht hu hi hz hsize hby v n xs hown s h63 hbytes hbase
 unfold Oper.wp execOp
 simp only[ho,resolve,invoke,builtin,Sem.run_bind,Sem.run_pure,Result.andThen_ok,List.map_toArray,List.map_cons,List.map_nil,hs,hx,hr]
 exact hK _ _ (h v' w' h2 h3 h4 h5)
end
structure Bo (w:World) (b:Nat) (v:Value) (lo:Nat) (bs:List Value):Prop where
 blk:w.heap[b]? = some (.cells #[.pointer none,v] 205 (0,0))∨w.heap[b]? = some (.cells #[.pointer (some ⟨b,0,none⟩),v] 205 (0,0))
 own:w.ownsRow lo 5 1 v bs.length bs
 nil_:bs=[]→v = .slice none 0 0
theorem Bo.ne {w:World} {b lo:Nat} {v:Value} {bs:List Value} (h:Bo w b v lo bs):v.ownBlock≠some b:=by
 rcases h.blk with h1 | h1
 ·exact fun e=>own_ne h.own h1 (by decide) e.symm
 ·exact fun e=>own_ne h.own h1 (by decide) e.symm
theorem Bo.lt {w:World} {b lo:Nat} {v:Value} {bs:List Value} (h:Bo w b v lo bs):b<w.heap.size:=by
 rcases h.blk with h1 | h1<;>exact (Array.getElem?_eq_some_iff.1 h1).1
theorem oN {w w':World} {lo n s:Nat} {e:TypeId} {v:Value} {xs:List Value} (h:w.ownsRow lo e s v n xs) (hk:∀ k,k<w.heap.size→v.ownBlock=some k→w'.heap[k]? = w.heap[k]?):w'.ownsRow lo e s v n xs:=by
 refine⟨h.1,?_⟩
 rcases h.2 with hn | ⟨g,cap,cur,rfl,hb,hg,rest⟩
 ·exact .inl hn
 ·exact .inr ⟨g,cap,cur,rfl,hb,(hk g (Array.getElem?_eq_some_iff.1 hg).1 rfl).trans hg,rest⟩
theorem Bo.keep {F:Nat→Prop} {w w':World} {b lo:Nat} {v:Value} {bs:List Value} (h:Bo w b v lo bs) (hk:aC F w w') (hb:¬ F b) (hv:∀ k,v.ownBlock=some k→¬ F k):Bo w' b v lo bs:=by
 have e:=hk.block b h.lt hb
 exact⟨by rw[e];exact h.blk,oN h.own (fun k hk1 hk2=>hk.block k hk1 (hv k hk2)),h.nil_⟩
def Near (w:World) (v v':Value):Prop:=∀ k,v'.ownBlock=some k→v.ownBlock=some k∨w.heap.size≤k
theorem Near.refl (w:World) (v:Value):Near w v v:=fun _ h => .inl h
theorem Near.trans {w w1:World} {v v1 v2:Value} (h:Near w v v1) (h2:Near w1 v1 v2) (hs:w.heap.size≤w1.heap.size):Near w v v2:=fun k hk=>(h2 k hk).elim (fun h1=>h k h1) (fun h1 => .inr (Nat.le_trans hs h1))
theorem Near.mono {w w1:World} {v v':Value} (h:Near w1 v v') (hs:w.heap.size≤w1.heap.size):Near w v v':=fun k hk=>(h k hk).imp id (Nat.le_trans hs)
def Apt (v v2:Value):Prop:=∀ g,v2.ownBlock=some g→v.ownBlock≠some g
theorem Apt.symm {v v2:Value} (h:Apt v v2):Apt v2 v:=fun g hg hg2=>h g hg2 hg
theorem Apt.near {w:World} {v v' v2:Value} (h:Apt v v2) (hn:Near w v v') (hlt:∀ k,v2.ownBlock=some k→k<w.heap.size):Apt v' v2:=by
 intro g hg hg2
 rcases hn g hg2 with h1 | h1
 ·exact h g hg h1
 ·have:=hlt g hg;omega
theorem Bo.olt {w:World} {b lo:Nat} {v:Value} {bs:List Value} (h:Bo w b v lo bs):∀ k,v.ownBlock=some k→lo≤k∧k<w.heap.size:=fun k hk=>h.own.lt k hk
theorem Bo.oty {w:World} {b lo k:Nat} {v:Value} {bs:List Value} {cs:Array Value} {T:TypeId} (h:Bo w b v lo bs) (hk:w.heap[k]? = some (.cells cs T (0,0))) (hT:T≠5):v.ownBlock≠some k:=fun e=>own_ne h.own hk hT e.symm
theorem Bo.obl {w:World} {b b2 lo lo2:Nat} {v v2:Value} {bs bs2:List Value} (h:Bo w b v lo bs) (h2:Bo w b2 v2 lo2 bs2):v.ownBlock≠some b2:=by
 rcases h2.blk with h3 | h3
 ·exact h.oty h3 (by decide)
 ·exact h.oty h3 (by decide)
theorem Bo.omap {w:World} {b lo k c:Nat} {v:Value} {bs:List Value} {es:Array MapEntry} (h:Bo w b v lo bs) (hk:w.heap[k]? = some (.map es c)):v.ownBlock≠some k:=by
 rcases h.own.2 with⟨rfl,_⟩ | ⟨g,cap,cur,rfl,_,hg,_⟩
 ·simp[Value.ownBlock]
 ·intro e
  simp only[Value.ownBlock,Option.some.injEq] at e
  subst e
  rw[hk] at hg;cases hg
theorem Bo.below {w w':World} {b lo:Nat} {v:Value} {bs:List Value} (h:Bo w b v lo bs) (hb:Below w.heap.size w w'):Bo w' b v lo bs:=h.keep (F:=fun _=>False) (aC.of_below hb) (fun h=>h) (fun _ _ h=>h)
theorem aTv (b lo:Nat) (v:Value) (bs:List Value) (w:World) (h:Bo w b v lo bs) :
  Calls Tryz.prog 217 #[.pointer (some ⟨b,0,none⟩)] w fun e w'=>e = .returned (.tuple #[])∧w'.heap[b]? = some (.cells #[.pointer (some ⟨b,0,none⟩),v] 205 (0,0))∧w'.ownsRow lo 5 1 v bs.length bs∧aC (fun k=>k=b) w w':=by
 have hne:=h.ne
 rcases h.blk with hb | hb
 ·refine (xA b w (by simp[World.cell?,hb]) (by simp[World.shape?,hb]) (by simp[World.frozen?,hb])).mono ?_
  rintro e w' ⟨rfl,rfl⟩
  refine⟨rfl,by simp[World.setCell,Array.getElem?_modify,hb],oN h.own (fun k hk1 hk2 => ?_),aC.set (F:=fun k=>k=b) (a:=⟨b,0,none⟩) rfl _⟩
  exact aO _ _ _ _ (fun e=>hne (by rw[hk2];exact congrArg some e))
 ·refine (zS b w (by simp[World.cell?,hb])).mono ?_
  rintro e w' ⟨rfl,rfl⟩
  exact⟨rfl,hb,h.own,aC.refl _ _⟩
theorem aJr (b lo:Nat) (v:Value) (bs:List Value) (s:ByteArray) (w:World) (h:Bo w b v lo bs) (hlen:bs.length+s.size≤10000000) (hlo:lo≤w.heap.size) :
  Calls Tryz.prog 171 #[.pointer (some ⟨b,0,none⟩),.string s] w fun e w'=>e = .returned (.tuple #[.int .i64 s.size,.nilIface])∧(∃ v',Bo w' b v' lo (bs++Lib.strCells s)∧Near w v v')∧aC (fun k=>k=b∨v.ownBlock=some k) w w':=by
 obtain⟨i0,hi,hz0,hz1,hz2⟩:=info_parts aHh
 have hne:=h.ne
 have hnil:=h.nil_
 go_enter Tryz.func171,Tryz.ntmps171
 go_wp2_with (go_at_call 217;refine (aTv b lo v bs _ h).mono ?_)
 rintro e w1 ⟨rfl,hbk,hown,hk1⟩
 have c0:w1.cell? ⟨b,0,none⟩=some (.pointer (some ⟨b,0,none⟩)):=by rw[Lib.cell_of_heap hbk];rfl
 have c1:w1.cell? ⟨b,1,none⟩=some v:=by rw[Lib.cell_of_heap hbk];rfl
 go_wp2_with (at_builtin;refine aAx _ rfl _ _ 162 9 rfl lo 5 i0 Tryz.underlying162 Tryz.underlying9 hi hz0 hz1 hz2 _ _ _ rfl hown s rfl ?c3 ?c4 ?c5 ?_)
 case c3=>unfold maxLen;omega
 case c4=>omega
 case c5=>have:=hk1.size;omega
 intro v' w2 hown' hgrow hnn hnear
 have hlt:b<w1.heap.size:=(Array.getElem?_eq_some_iff.1 hbk).1
 have hb2:w2.heap[b]? = some (.cells #[.pointer (some ⟨b,0,none⟩),v] 205 (0,0)):=by
  rw[hgrow.block b hlt (fun e=>hne e.symm)]
  exact hbk
 have d0:w2.cell? ⟨b,0,none⟩=some (.pointer (some ⟨b,0,none⟩)):=by rw[Lib.cell_of_heap hb2];rfl
 have d1:w2.cell? ⟨b,1,none⟩=some v:=by rw[Lib.cell_of_heap hb2];rfl
 have f1:w2.frozen? ⟨b,1,none⟩=false:=Lib.frozen_of_heap hb2 1
 obtain⟨ao,n',cap,rfl⟩:∃ ao n' cap,v' = .slice ao n' cap:=by
  rcases hown'.2 with⟨hv,_⟩ | ⟨g,cap,cur,hv,_⟩
  ·exact⟨_,_,_,hv⟩
  ·exact⟨_,_,_,hv⟩
 have HN:=Lib.hid hnn;have HNE:=Lib.hid hnear
 have HL:=Lib.hid hnil
 clear hnn hnil hnear
 go_wp2
 go_ret2
 have hne':=own_ne hown' hb2 (by decide)
 refine⟨rfl,⟨.slice ao n' cap,⟨.inr ?_,?_,?_⟩,?_⟩,?_⟩
 ·simp[World.setCell,Array.getElem?_modify,hb2]
 ·have hl:(bs++Lib.strCells s).length=bs.length+s.size:=by rw[List.length_append,Lib.strCells_length]
  rw[hl]
  refine oN hown' (fun k hk1 hk2=>aO _ _ _ _ (fun e=>hne' (by rw[hk2];exact (congrArg some e).symm)))
 ·intro he
  obtain⟨h1,h2⟩:=List.append_eq_nil_iff.1 he
  exact HN.out.2 ⟨HL.out h1,by have:=congrArg List.length h2;rw[Lib.strCells_length] at this;simpa using this⟩
 ·intro k hk
  rcases HNE.out with h1 | h1
  ·rw[h1] at hk;exact .inl hk
  ·rw[h1] at hk;injection hk with hk;have:=hk1.size;exact .inr (by omega)
 ·have k1:aC (fun k=>k=b∨v.ownBlock=some k) w w1:=hk1.mono (fun k hk => .inl hk)
  have k2:aC (fun k=>k=b∨v.ownBlock=some k) w1 w2:=⟨hgrow.os,hgrow.tape,hgrow.output,hgrow.size,fun k hk hn=>hgrow.block k hk (fun e=>hn (.inr e.symm))⟩
  exact (k1.trans k2).trans (aC.set (F:=fun k=>k=b∨v.ownBlock=some k) (a:=⟨b,1,none⟩) (.inl rfl) _)
theorem Bo.rb {w:World} {b lo:Nat} {v:Value} {l:List UInt8} (h:Bo w b v lo (Lib.byteCells l)):Rb w lo b l :=
 Bv.rb ⟨h.blk,World.ownsRowF_of h.own,h.nil_⟩
end Go.Proofs.YtdeiocppghhfdaaGreat
namespace Go.Proofs.YtdeiocppghhfdaaGreat
open Go.RowKit Go.Lib Go.Shelf
theorem aOs (B:Nat) (r:ByteArray) (n:Int) (w:World) (h:Txt w B r) (h0:0≤n) (hn:n≤r.size) (hs:r.size≤2000000) :
  Calls Tryz.prog 169 #[.int .i64 n,.pointer (some ⟨B,0,none⟩)] w fun e w'=>e = .returned (.string (r.extract 0 n.toNat))∧w'=w.setCell ⟨B,0,none⟩ (.string (r.extract n.toNat r.size)):=by
 obtain⟨hc,hf⟩:=box1 h
 go_enter Tryz.func169,Tryz.ntmps169
 go_wp2
 go_returns
 exact⟨rfl,rfl⟩
theorem aOt (B lo:Nat) (p:PcV) (r:ByteArray) (bs:List Value) (v:Value) (w:World) (ht:Txt w B r) (hk:Tak w B) (ho:Bo w (B+1) v lo bs) (hlo:lo≤w.heap.size) (h0:0≤p.n) (hn:p.n≤r.size) (hs:r.size≤2000000) (hl:bs.length≤2000000) :
  Calls Tryz.prog 170 #[.agg #[.int .u8 p.kind,.int .i64 p.n,.string p.text],.pointer (some ⟨B+1,0,none⟩),.pointer (some ⟨B+4,0,none⟩)] w fun e w'=>e = .returned (.tuple #[])∧Txt w' B (r.extract p.n.toNat r.size)∧(∃ v',Bo w' (B+1) v' lo (bs++Lib.strCells (r.extract 0 p.n.toNat))∧Near w v v')∧aC (fun k=>k=B∨k=B+1∨v.ownBlock=some k) w w':=by
 obtain⟨pk,pn,pt⟩:=p
 have hb0:=(Below.refl w.heap.size w).alloc (Nat.le_refl _) (.cells #[.int .u8 pk,.int .i64 pn,.string pt] 94)
 have hlt:=ho.lt
 have hB:B<w.heap.size:=by omega
 have hB4:=(Array.getElem?_eq_some_iff.1 hk).1
 have hk0:aC (fun k=>k=B∨k=B+1∨v.ownBlock=some k) w (w.alloc (.cells #[.int .u8 pk,.int .i64 pn,.string pt] 94)):=aC.of_below hb0
 have ht0:Txt (w.alloc (.cells #[.int .u8 pk,.int .i64 pn,.string pt] 94)) B r:=(heap_alloc_old _ _ hB).trans ht
 have hnB:v.ownBlock≠some B:=ho.oty ht (by decide)
 have hvlt:∀ k,v.ownBlock=some k→k<w.heap.size:=fun k hk=>(ho.own.lt k hk).2
 have ho0:Bo (w.alloc (.cells #[.int .u8 pk,.int .i64 pn,.string pt] 94)) (B+1) v lo bs:=ho.keep (F:=fun _=>False) (aC.of_below hb0) (fun h=>h) (fun _ _ h=>h)
 have hkc:=(box1 hk).1
 have hke:(r.extract 0 pn.toNat).size≤2000000:=by rw[ByteArray.size_extract];omega
 dsimp only at h0 hn ⊢
 go_enter Tryz.func170,Tryz.ntmps170
 go_wp2_with (first | (go_at_call 169;refine (aOs B r pn _ ht0 h0 hn (by omega)).mono ?_;rintro e w1 ⟨rfl,hw1⟩;have k1:aC (fun k=>k=B) (w.alloc (.cells #[.int .u8 pk,.int .i64 pn,.string pt] 94)) w1:=(by rw[hw1];exact aC.set (F:=fun k=>k=B) (a:=⟨B,0,none⟩) rfl _);have ht1:Txt w1 B (r.extract pn.toNat r.size):=(by rw[hw1];exact lC ht0);have ho1:=ho0.keep k1 (by omega) (fun k hk e=>hnB (by rw[hk];exact congrArg some e));clear hw1) | (go_at_call 171;refine (aJr (B+1) lo v bs (r.extract 0 pn.toNat) _ ho1 (by omega) (by have:=k1.size;simp at this;omega)).mono ?_;rintro e w2 ⟨rfl,⟨v',ho2,hn2⟩,k2⟩))
 go_end0
 refine⟨rfl,(k2.block B (by have:=k1.size;simp at this;omega) (by rintro (h | h);omega;exact hnB h)).trans ht1,⟨v',ho2,hn2.mono (by have:=k1.size;simp at this;omega)⟩,?_⟩
 exact (hk0.trans (k1.mono (fun k hk => .inl hk))).trans (k2.mono (fun k hk => .inr hk))
theorem aOu (B lo:Nat) (p:PcV) (r:ByteArray) (bs:List Value) (v:Value) (w:World) (ht:Txt w B r) (hk:Tak w B) (ho:Bo w (B+2) v lo bs) (hlo:lo≤w.heap.size) (h0:0≤p.n) (hn:p.n≤r.size) (hs:r.size≤2000000) (hl:bs.length≤2000000) :
  Calls Tryz.prog 172 #[.agg #[.int .u8 p.kind,.int .i64 p.n,.string p.text],.pointer (some ⟨B+2,0,none⟩),.pointer (some ⟨B+4,0,none⟩)] w fun e w'=>e = .returned (.tuple #[])∧Txt w' B (r.extract p.n.toNat r.size)∧(∃ v',Bo w' (B+2) v' lo (bs++Lib.strCells (r.extract 0 p.n.toNat))∧Near w v v')∧aC (fun k=>k=B∨k=B+2∨v.ownBlock=some k) w w':=by
 obtain⟨pk,pn,pt⟩:=p
 have hb0:=(Below.refl w.heap.size w).alloc (Nat.le_refl _) (.cells #[.int .u8 pk,.int .i64 pn,.string pt] 94)
 have hlt:=ho.lt
 have hB:B<w.heap.size:=by omega
 have hB4:=(Array.getElem?_eq_some_iff.1 hk).1
 have hk0:aC (fun k=>k=B∨k=B+2∨v.ownBlock=some k) w (w.alloc (.cells #[.int .u8 pk,.int .i64 pn,.string pt] 94)):=aC.of_below hb0
 have ht0:Txt (w.alloc (.cells #[.int .u8 pk,.int .i64 pn,.string pt] 94)) B r:=(heap_alloc_old _ _ hB).trans ht
 have hnB:v.ownBlock≠some B:=ho.oty ht (by decide)
 have hvlt:∀ k,v.ownBlock=some k→k<w.heap.size:=fun k hk=>(ho.own.lt k hk).2
 have ho0:Bo (w.alloc (.cells #[.int .u8 pk,.int .i64 pn,.string pt] 94)) (B+2) v lo bs:=ho.keep (F:=fun _=>False) (aC.of_below hb0) (fun h=>h) (fun _ _ h=>h)
 have hkc:=(box1 hk).1
 have hke:(r.extract 0 pn.toNat).size≤2000000:=by rw[ByteArray.size_extract];omega
 dsimp only at h0 hn ⊢
 go_enter Tryz.func172,Tryz.ntmps172
 go_wp2_with (first | (go_at_call 169;refine (aOs B r pn _ ht0 h0 hn (by omega)).mono ?_;rintro e w1 ⟨rfl,hw1⟩;have k1:aC (fun k=>k=B) (w.alloc (.cells #[.int .u8 pk,.int .i64 pn,.string pt] 94)) w1:=(by rw[hw1];exact aC.set (F:=fun k=>k=B) (a:=⟨B,0,none⟩) rfl _);have ht1:Txt w1 B (r.extract pn.toNat r.size):=(by rw[hw1];exact lC ht0);have ho1:=ho0.keep k1 (by omega) (fun k hk e=>hnB (by rw[hk];exact congrArg some e));clear hw1) | (go_at_call 171;refine (aJr (B+2) lo v bs (r.extract 0 pn.toNat) _ ho1 (by omega) (by have:=k1.size;simp at this;omega)).mono ?_;rintro e w2 ⟨rfl,⟨v',ho2,hn2⟩,k2⟩))
 go_end0
 refine⟨rfl,(k2.block B (by have:=k1.size;simp at this;omega) (by rintro (h | h);omega;exact hnB h)).trans ht1,⟨v',ho2,hn2.mono (by have:=k1.size;simp at this;omega)⟩,?_⟩
 exact (hk0.trans (k1.mono (fun k hk => .inl hk))).trans (k2.mono (fun k hk => .inr hk))
theorem aOv (B lo:Nat) (p:PcV) (bo bi:List Value) (vo vi:Value) (w:World) (ho:Bo w (B+1) vo lo bo) (hi:Bo w (B+3) vi lo bi) (hap:Apt vo vi) (hlo:lo≤w.heap.size) (hs:p.text.size≤2000000) (hl:bo.length≤2000000) (hl2:bi.length≤2000000) :
  Calls Tryz.prog 173 #[.agg #[.int .u8 p.kind,.int .i64 p.n,.string p.text],.pointer (some ⟨B+1,0,none⟩),.pointer (some ⟨B+3,0,none⟩)] w fun e w'=>e = .returned (.tuple #[])∧(∃ vo' vi',Bo w' (B+1) vo' lo (bo++Lib.strCells p.text)∧Bo w' (B+3) vi' lo (bi++Lib.strCells p.text)∧Near w vo vo'∧Near w vi vi'∧Apt vo' vi')∧aC (fun k=>k=B+1∨k=B+3∨vo.ownBlock=some k∨vi.ownBlock=some k) w w':=by
 obtain⟨pk,pn,pt⟩:=p
 have hb0:=(Below.refl w.heap.size w).alloc (Nat.le_refl _) (.cells #[.int .u8 pk,.int .i64 pn,.string pt] 94)
 have hz:=heap_alloc_new w (.cells #[.int .u8 pk,.int .i64 pn,.string pt] 94)
 have hlt:=hi.lt
 have hk0:aC (fun k=>k=B+1∨k=B+3∨vo.ownBlock=some k∨vi.ownBlock=some k) w (w.alloc (.cells #[.int .u8 pk,.int .i64 pn,.string pt] 94)):=aC.of_below hb0
 have ho0:=ho.below hb0
 have hi0:=hi.below hb0
 have hvo:∀ k,vo.ownBlock=some k→k<w.heap.size:=fun k hk=>(ho.own.lt k hk).2
 have hvi:∀ k,vi.ownBlock=some k→k<w.heap.size:=fun k hk=>(hi.own.lt k hk).2
 have hno3:vo.ownBlock≠some (B+3):=ho.obl hi
 have hni1:vi.ownBlock≠some (B+1):=hi.obl ho
 have hs0:(w.alloc (.cells #[.int .u8 pk,.int .i64 pn,.string pt] 94)).heap.size=w.heap.size+1:=by simp
 dsimp only at hs ⊢
 go_enter Tryz.func173,Tryz.ntmps173
 go_wp2_with (first | (go_at_call 171;have h3:=hi1;refine (aJr (B+3) lo vi bi pt _ hi1 (by omega) (by have:=k1.size;simp at this;omega)).mono ?_;rintro e w2 ⟨rfl,⟨vi',hi2,hn2⟩,k2⟩) | (go_at_call 171;refine (aJr (B+1) lo vo bo pt _ ho0 (by omega) (by simp;omega)).mono ?_;rintro e w1 ⟨rfl,⟨vo',ho1,hn1⟩,k1⟩;have hi1:=hi0.keep k1 (by rintro (h | h);omega;exact hno3 h) (fun k hk h=>h.elim (fun h=>hni1 (by rw[hk,h])) (fun h=>hap k hk h));have hz1:=(k1.block w.heap.size (by simp) (by rintro (h | h);omega;exact absurd (hvo _ h) (by omega))).trans hz;obtain⟨z0,z1,z2⟩:=iC hz1))
 go_end0
 have hap1:Apt vo' vi:=hap.near (w:=w) (hn1.mono (by omega)) hvi
 have hs1:=k1.size
 have hap2:Apt vo' vi':=(hap1.symm.near (w:=w1) hn2 (fun k hk=>(ho1.own.lt k hk).2)).symm
 refine⟨rfl,⟨vo',vi',ho1.keep k2 (by rintro (h | h);omega;exact hi1.obl ho1 h) (fun k hk=>by rintro (h | h);exact ho1.obl hi1 (by rw[hk,h]);exact hap1 k h hk),hi2,hn1.mono (by omega),hn2.mono (by omega),hap2⟩,?_⟩
 exact (hk0.trans (k1.mono (fun k hk=>hk.elim .inl (fun h => .inr (.inr (.inl h)))))).trans (k2.mono (fun k hk=>hk.elim (fun h => .inr (.inl h)) (fun h => .inr (.inr (.inr h)))))
end Go.Proofs.YtdeiocppghhfdaaGreat
