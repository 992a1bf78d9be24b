/- Texts, one behind another. -/
import Derived.Test.YtdeiocppghhfdaaGreatZfbh
import Derived.Test.YtdeiocppghhfdaaGreatZfbe
set_option linter.unusedVariables false
set_option linter.unusedSimpArgs false
set_option maxRecDepth 100000
set_option maxHeartbeats 40000000
namespace Go.Proofs.YtdeiocppghhfdaaGreat
open Go.RowKit Go.Lib Go.Shelf
structure RunV where
 i:Int
 o:Int
 n:Int
structure RnS where
 l:List RunV
 i:Int
 o:Int
def lV (s:RnS) (p:PcV):RnS:=⟨if p.kind=1 then s.l++[⟨s.i,s.o,p.n⟩] else s.l,s.i+p.n,s.o+p.text.size+if p.kind=1 then p.n else 0⟩
def rnS (d:List PcV):RnS:=d.foldl lV ⟨[],0,0⟩
theorem aCf {d:List PcV} {k:Nat} {p:PcV} (h:d[k]? = some p):rnS (d.take (k+1))=lV (rnS (d.take k)) p:=by
 unfold rnS;rw[List.take_add_one,h,Option.toList_some,List.foldl_append];rfl
def aMd (r:RunV):Prop:=(0≤r.i∧r.i≤1000000)∧(0≤r.o∧r.o≤1000000)∧0≤r.n∧r.n≤1000000
theorem aE3 {d:List PcV} (h:DOK d):∀ k,k≤d.length→(0≤(rnS (d.take k)).i∧(rnS (d.take k)).i≤k*100000)∧(0≤(rnS (d.take k)).o∧(rnS (d.take k)).o≤k*200000)∧(rnS (d.take k)).l.length≤k∧∀ r∈(rnS (d.take k)).l,aMd r
 |0,_=>by simp[rnS]
 |k+1,hk=>by
  have hx:=gEz (show k<d.length by omega)
  generalize d[k]=p at hx
  obtain⟨h1,h2,h3⟩:=h.2 p (mGz hx)
  obtain⟨h4,h5⟩:=gB h1
  obtain⟨i1,i2,i3,i4⟩:=aE3 h k (by omega)
  have h6:=h.1
  rw[aCf hx]
  unfold lV
  refine⟨by dsimp only;omega,by dsimp only;split<;>omega,?_,?_⟩
  ·dsimp only;split
   ·rw[List.length_append,List.length_singleton];omega
   ·omega
  ·dsimp only;split
   ·intro r hr
    rcases List.mem_append.1 hr with hr | hr
    ·exact i4 r hr
    ·rw[List.mem_singleton] at hr;subst hr
     exact⟨by dsimp only;omega,by dsimp only;omega,by dsimp only;omega⟩
   ·exact i4
def rnL (r:RunV):List Value:=[.int .i64 r.i,.int .i64 r.o,.int .i64 r.n]
def rnsL (l:List RunV):List Value:=l.flatMap rnL
theorem aAg (r:RunV):(rnL r).length=3:=rfl
abbrev mF (W:World) (B:Nat) (v:Value) (l:List RunV):Prop:=W.ownsRow B 309 3 v l.length (rnsL l)
theorem mF.snoc {W:World} {B:Nat} {v:Value} {l:List RunV} {r:RunV} (h:W.ownsRow B 309 3 v (l.length+1) (rnsL l++rnL r)):mF W B v (l++[r]):=by
 show W.ownsRow B 309 3 v (l++[r]).length (rnsL (l++[r]))
 rw[List.length_append];unfold rnsL at *;rw[List.flatMap_append];simpa using h
theorem aRe:(Tryz.prog.info? 309).map (fun i=>(i.zero,i.size,i.bytes))=some (some (.agg #[.int .i64 0,.int .i64 0,.int .i64 0]),3,24):=by kernel_rfl
theorem aMe (r:RunV):∀ u∈rnL r,u.oneCell'=true:=by
 intro u hu
 unfold rnL at hu
 simp only[List.mem_cons,List.not_mem_nil,or_false] at hu
 rcases hu with rfl | rfl | rfl<;>rfl
theorem yS (s:Nat) (hs:s<3):∀ (l:List RunV) (k:Nat) (r:RunV),l[k]? = some r→(rnsL l)[k*3+s]? = (rnL r)[s]?
 |[],k,_,h=>by simp at h
 |y::l,0,r,h=>by
  simp at h;subst h
  show (rnL y++rnsL l)[0*3+s]? = _
  rw[List.getElem?_append_left (by rw[aAg];omega)];simp
 |y::l,k+1,r,h=>by
  show (rnL y++rnsL l)[(k+1)*3+s]? = _
  rw[List.getElem?_append_right (by rw[aAg];omega),aAg,show (k+1)*3+s-3=k*3+s by omega]
  exact yS s hs l k r (by simpa using h)
theorem aCg {W:World} {B g c k:Nat} {l:List RunV} {r:RunV} (h:mF W B (.slice (some ⟨g,0,none⟩) l.length c) l) (hk:l[k]? = some r) :
  W.cell? ⟨g,k*3,none⟩=some (.int .i64 r.i)∧W.cell? ⟨g,k*3+1,none⟩=some (.int .i64 r.o)∧W.cell? ⟨g,k*3+2,none⟩=some (.int .i64 r.n):=by
 have hl:=(gLz hk).1
 have e:∀ j,j<3→W.cell? ⟨g,k*3+j,none⟩=(rnL r)[j]? := fun j hj=>by
  rw[h.cellAt (k*3+j) (by omega)]
  exact yS j hj l k r hk
 exact⟨e 0 (by omega),e 1 (by omega),e 2 (by omega)⟩
def RnI (w:World) (ad:Option Addr) (d:List PcV) (c:Nat) (a:Act) (wr:World):Prop :=
 ∃ (k:Nat) (v:Value) (u:Nat→Value),a={ tmps := #[.slice ad d.length c,u 1,u 2,v,.int .i64 (rnS (d.take k)).i,.int .i64 (rnS (d.take k)).o,.int .i64 k,u 7,u 8,u 9,u 10,u 11,u 12,u 13,u 14,u 15,u 16,u 17,u 18,u 19,u 20,u 21,u 22,u 23,u 24,u 25,u 26,u 27,u 28,u 29,u 30,u 31,u 32,u 33,u 34,u 35,u 36,u 37,u 38,u 39,u 40,u 41,u 42,u 43,u 44,u 45,u 46,u 47,u 48,u 49,u 50,u 51,u 52],defers:=[] }∧k≤d.length∧mF wr w.heap.size v (rnS (d.take k)).l∧Below w.heap.size w wr
theorem RnI.intro {w:World} {ad:Option Addr} {d:List PcV} {c:Nat} {a:Act} {wr:World} (k:Nat) (v:Value) {uu:Nat→Value} (_:uu=fun i=>a.tmps.getD i undef) (h:a={ tmps := #[.slice ad d.length c,uu 1,uu 2,v,.int .i64 (rnS (d.take k)).i,.int .i64 (rnS (d.take k)).o,.int .i64 k,uu 7,uu 8,uu 9,uu 10,uu 11,uu 12,uu 13,uu 14,uu 15,uu 16,uu 17,uu 18,uu 19,uu 20,uu 21,uu 22,uu 23,uu 24,uu 25,uu 26,uu 27,uu 28,uu 29,uu 30,uu 31,uu 32,uu 33,uu 34,uu 35,uu 36,uu 37,uu 38,uu 39,uu 40,uu 41,uu 42,uu 43,uu 44,uu 45,uu 46,uu 47,uu 48,uu 49,uu 50,uu 51,uu 52],defers:=[] }) (hk:k≤d.length) (h1:mF wr w.heap.size v (rnS (d.take k)).l) (hB:Below w.heap.size w wr):RnI w ad d c a wr:=⟨k,v,uu,h,hk,h1,hB⟩
theorem aE4 (ad:Option Addr) (c:Nat) (d:List PcV) (w:World) (hr:PRow w ad d) (hd:DOK d) (hc:d.length≤c):Calls Tryz.prog 288 #[.slice ad d.length c] w fun e w'=>∃ v,e = .returned v∧mF w' w.heap.size v (rnS d).l∧Below w.heap.size w w':=by
 obtain⟨i0,hi,hz0,hz1,hz2⟩:=info_parts aRe
 have h4:=hd.1
 go_enter Tryz.func288,Tryz.ntmps288
 go_wp2
 refine wp_loop (RnI w ad d c) (fun a _=>d.length-(intOf (a.tmps.getD 6 undef)).toNat) ?_ ?_
 ·exact RnI.intro 0 (.slice none 0 0) rfl rfl (by omega) (World.ownsRow_nil _ _ _ _) (Below.refl _ _)
 ·rintro a wr ⟨k,v,u,rfl,hk,hv,hB⟩
  obtain⟨⟨x0,x1⟩,⟨y0,y1⟩,hll,_⟩:=aE3 hd k hk
  by_cases hlt:k<d.length
  ·have hg:=gEz hlt
   generalize d[k]=p at hg
   obtain⟨hp1,hp2,hp3⟩:=hd.2 p (mGz hg)
   obtain⟨hn0,hkd⟩:=gB hp1
   have hst:=aCf hg
   have HR5:∀ W,Below w.heap.size w W→PRow W ad d:=fun W hW=>hr.on hW
   rcases hr.on hB with⟨_,h2⟩ | ⟨b,off,rfl,hb,hcell⟩
   ·rw[h2] at hlt;simp at hlt
   obtain⟨c0,c1,c2⟩:=jQ hcell hg
   generalize hX:rnS (d.take k)=X at *
   have hts:(p.text.size:Int)≤100000:=by omega
   have HG:=Lib.hid hg
   have HST:=Lib.hid hst
   have hBz:=hB.size
   clear hX hst hg hcell hr hp1
   by_cases e:p.kind=1
   ·have e1:(p.kind == 1)=true:=by simpa using e
    have hs:lV X p=⟨X.l++[⟨X.i,X.o,p.n⟩],X.i+p.n,X.o+p.text.size+p.n⟩:=by unfold lV;rw[if_pos e,if_pos e]
    have HS:=Lib.hid hs
    have e2:X.o+p.n+(p.text.size:Int)=X.o+p.text.size+p.n:=by omega
    have HE:=Lib.hid e2
    clear e e2 hs
    go_wp2_with (at_builtin;refine wpList_append_own _ rfl _ _ 302 rfl w.heap.size 309 i0 _ 3 24 Tryz.underlying302 hi hz0 hz1 hz2 rfl (by decide) _ _ _ rfl (hv.alloc _) ⟨_,0,none⟩ 1 1 (rnL ⟨X.i,X.o,p.n⟩) rfl rfl (aW _ _ _) (aMe _) (by unfold maxLen;omega) (by omega) (by simp;omega) ?_;intro v1 w1 hw1 hg1 _;have hB1:=(hB.alloc hB.size (.cells (rnL ⟨X.i,X.o,p.n⟩).toArray 309)).grown hg1 (by simp;omega) (fun k hk=>(hv.lt k hk).1);have hv1:=mF.snoc hw1;obtain⟨q0,q1,q2⟩:=jQ (vZ (HR5 _ hB1)) HG.out)
    exact⟨RnI.intro (k+1) v1 rfl (by rw[HST.out,HS.out];dsimp only;rw[← HE.out];rfl) (by omega) (by rw[HST.out,HS.out];exact hv1) hB1,by simp[intOf];omega⟩
   ·have e1:(p.kind == 1)=false:=by simpa using e
    have hs:lV X p=⟨X.l,X.i+p.n,X.o+p.text.size⟩:=by unfold lV;rw[if_neg e,if_neg e,Int.add_zero]
    have HS:=Lib.hid hs
    clear e hs
    go_wp2
    exact⟨RnI.intro (k+1) v rfl (by rw[HST.out,HS.out];rfl) (by omega) (by rw[HST.out,HS.out];exact hv) hB,by simp[intOf];omega⟩
  ·obtain rfl:k=d.length:=by omega
   rw[List.take_length] at hv
   obtain⟨av,cv,rfl⟩:=aC hv
   go_wp2
   go_returns
   exact⟨_,rfl,hv,hB⟩
def lefR (p:Int) (l:List RunV):Int:=l.foldl (fun to r=>if r.i<p then r.o+min (p-r.i) r.n else to) 0
theorem aIy {p:Int} {l:List RunV} {k:Nat} {r:RunV} (h:l[k]? = some r):lefR p (l.take (k+1))=if r.i<p then r.o+min (p-r.i) r.n else lefR p (l.take k):=by
 unfold lefR;rw[List.take_add_one,h,Option.toList_some,List.foldl_append];rfl
def rigR (p e:Int):List RunV→Int
 |[]=>e
 |r::l=>if p<r.i+r.n then r.o+max (p-r.i) 0 else rigR p e l
def LfI (w:World) (g c:Nat) (l:List RunV) (p:Int) (a:Act) (wr:World):Prop :=
 ∃ (k:Nat) (u:Nat→Value),a={ tmps := #[.slice (some ⟨g,0,none⟩) l.length c,.int .i64 p,u 2,u 3,u 4,.int .i64 (lefR p (l.take k)),.int .i64 k,u 7,u 8,u 9,u 10,u 11,u 12,u 13,u 14,u 15,u 16,u 17,u 18,u 19,u 20,u 21,u 22,u 23,u 24,u 25,u 26,u 27,u 28,u 29,u 30,u 31,u 32,u 33,u 34,u 35,u 36,u 37,u 38,u 39],defers:=[] }∧k≤l.length∧Below w.heap.size w wr
theorem LfI.intro {w:World} {g c:Nat} {l:List RunV} {p:Int} {a:Act} {wr:World} (k:Nat) {uu:Nat→Value} (_:uu=fun i=>a.tmps.getD i undef) (h:a={ tmps := #[.slice (some ⟨g,0,none⟩) l.length c,.int .i64 p,uu 2,uu 3,uu 4,.int .i64 (lefR p (l.take k)),.int .i64 k,uu 7,uu 8,uu 9,uu 10,uu 11,uu 12,uu 13,uu 14,uu 15,uu 16,uu 17,uu 18,uu 19,uu 20,uu 21,uu 22,uu 23,uu 24,uu 25,uu 26,uu 27,uu 28,uu 29,uu 30,uu 31,uu 32,uu 33,uu 34,uu 35,uu 36,uu 37,uu 38,uu 39],defers:=[] }) (hk:k≤l.length) (hB:Below w.heap.size w wr):LfI w g c l p a wr:=⟨k,uu,h,hk,hB⟩
theorem aCh {W:World} {B:Nat} {v:Value} {l:List RunV} (h:mF W B v l):(v = .slice none 0 0∧l=[])∨∃ g c,v = .slice (some ⟨g,0,none⟩) l.length c:=by
 rcases h.2 with⟨h1,h2⟩ | ⟨g,cap,cur,rfl,_⟩
 ·exact .inl ⟨h1,List.eq_nil_of_length_eq_zero h2⟩
 ·exact .inr ⟨g,cap,rfl⟩
theorem aE5 (B:Nat) (v:Value) (l:List RunV) (p:Int) (w:World) (hv:mF w B v l) (hl:l.length≤1000) (ho:∀ r∈l,aMd r) (hp:0≤p∧p≤1000000):Calls Tryz.prog 287 #[v,.int .i64 p] w fun e w'=>e = .returned (.int .i64 (lefR p l))∧Below w.heap.size w w':=by
 obtain⟨hp0,hp1⟩:=hp
 rcases aCh hv with⟨rfl,rfl⟩ | ⟨g,c,rfl⟩
 ·go_enter Tryz.func287,Tryz.ntmps287
  go_wp2
  refine wp_loop_rounds 1 ?_
  rw[rounds_succ]
  go_wp2
  go_returns
  exact⟨rfl,Below.refl _ _⟩
 ·go_enter Tryz.func287,Tryz.ntmps287
  go_wp2
  refine wp_loop (LfI w g c l p) (fun a _=>l.length-(intOf (a.tmps.getD 6 undef)).toNat) ?_ ?_
  ·exact LfI.intro 0 rfl rfl (by omega) (Below.refl _ _)
  ·rintro a wr ⟨k,u,rfl,hk,hB⟩
   by_cases hlt:k<l.length
   ·have hx:=gEz hlt
    generalize l[k]=r at hx
    obtain⟨⟨a0,a1⟩,⟨b0,b1⟩,n0,n1⟩:=ho r (mGz hx)
    have hst:=aIy (p:=p) hx
    have hvr:=aI hv hB
    have hvd:=aI hvr (Below.refl _ _).drew
    obtain⟨c0,c1,c2⟩:=aCg hvr hx
    have K1:=aCg hvd hx
    have HST:=Lib.hid hst
    clear hst
    by_cases e:r.i<p
    ·have d1:decide (r.i<p)=true:=by simpa using e
     have w1:IntKind.i64.wrap (p-r.i)=p-r.i:=IntWalk.i64_in _ (by omega)
     obtain⟨m,hm⟩:∃ m,min (p-r.i) r.n=m:=⟨_,rfl⟩
     have m0:0≤m∧m≤1000000:=by omega
     have w3:IntKind.i64.wrap (r.o+m)=r.o+m:=IntWalk.i64_in _ (by omega)
     have hB2:=hB.drew
     have HS:lefR p (l.take (k+1))=r.o+m:=by rw[HST.out,if_pos e,hm]
     have HS2:=Lib.hid HS
     clear HS e
     go_wp2
     refine aP (S:=fun W=>W.cell? ⟨g,k*3,none⟩=some (.int .i64 r.i)∧W.cell? ⟨g,k*3+1,none⟩=some (.int .i64 r.o)∧W.cell? ⟨g,k*3+2,none⟩=some (.int .i64 r.n)) ?_ (fun hHeld => ?_)
     ·exact K1
     iterate 20 ((first | refine aJ ?_ | refine np_q ?_ | refine aL 0 ?_);(try simp only[nSO]))
     refine np_z ?_
     go_wp2
     exact⟨LfI.intro (k+1) rfl (by rw[HS2.out];rfl) (by omega) hB2,by simp[intOf];omega⟩
    ·have d1:decide (r.i<p)=false:=by simpa using e
     have HS:lefR p (l.take (k+1))=lefR p (l.take k):=by rw[HST.out,if_neg e]
     have HS2:=Lib.hid HS
     clear HS e
     go_wp2
     exact⟨LfI.intro (k+1) rfl (by rw[HS2.out];rfl) (by omega) hB,by simp[intOf];omega⟩
   ·obtain rfl:k=l.length:=by omega
    rw[List.take_length]
    go_wp2
    go_returns
    exact⟨rfl,hB⟩
def RgI (w:World) (g c:Nat) (l:List RunV) (p e:Int) (a:Act) (wr:World):Prop :=
 ∃ (k:Nat) (u:Nat→Value),a={ tmps := #[.slice (some ⟨g,0,none⟩) l.length c,.int .i64 p,.int .i64 e,u 3,u 4,u 5,u 6,.int .i64 k,u 8,u 9,u 10,u 11,u 12,u 13,u 14,u 15,u 16,u 17,u 18,u 19,u 20,u 21,u 22,u 23,u 24,u 25,u 26,u 27,u 28,u 29,u 30,u 31,u 32,u 33,u 34,u 35,u 36,u 37,u 38,u 39,u 40,u 41],defers:=[] }∧k≤l.length∧rigR p e l=rigR p e (l.drop k)∧Below w.heap.size w wr
theorem RgI.intro {w:World} {g c:Nat} {l:List RunV} {p e:Int} {a:Act} {wr:World} (k:Nat) {uu:Nat→Value} (_:uu=fun i=>a.tmps.getD i undef) (h:a={ tmps := #[.slice (some ⟨g,0,none⟩) l.length c,.int .i64 p,.int .i64 e,uu 3,uu 4,uu 5,uu 6,.int .i64 k,uu 8,uu 9,uu 10,uu 11,uu 12,uu 13,uu 14,uu 15,uu 16,uu 17,uu 18,uu 19,uu 20,uu 21,uu 22,uu 23,uu 24,uu 25,uu 26,uu 27,uu 28,uu 29,uu 30,uu 31,uu 32,uu 33,uu 34,uu 35,uu 36,uu 37,uu 38,uu 39,uu 40,uu 41],defers:=[] }) (hk:k≤l.length) (hr:rigR p e l=rigR p e (l.drop k)) (hB:Below w.heap.size w wr):RgI w g c l p e a wr:=⟨k,uu,h,hk,hr,hB⟩
theorem aCi (B:Nat) (v:Value) (l:List RunV) (p e:Int) (w:World) (hv:mF w B v l) (hl:l.length≤1000) (ho:∀ r∈l,aMd r) (hp:0≤p∧p≤1000000):Calls Tryz.prog 289 #[v,.int .i64 p,.int .i64 e] w fun x w'=>x = .returned (.int .i64 (rigR p e l))∧Below w.heap.size w w':=by
 obtain⟨hp0,hp1⟩:=hp
 rcases aCh hv with⟨rfl,rfl⟩ | ⟨g,c,rfl⟩
 ·go_enter Tryz.func289,Tryz.ntmps289
  go_wp2
  refine wp_loop_rounds 1 ?_
  rw[rounds_succ]
  go_wp2
  go_returns
  exact⟨rfl,Below.refl _ _⟩
 ·go_enter Tryz.func289,Tryz.ntmps289
  go_wp2
  refine wp_loop (RgI w g c l p e) (fun a _=>l.length-(intOf (a.tmps.getD 7 undef)).toNat) ?_ ?_
  ·exact RgI.intro 0 rfl rfl (by omega) rfl (Below.refl _ _)
  ·rintro a wr ⟨k,u,rfl,hk,hr,hB⟩
   by_cases hlt:k<l.length
   ·have hx:=gEz hlt
    have hdr:=List.drop_eq_getElem_cons hlt
    generalize l[k]=r at hx hdr
    obtain⟨⟨a0,a1⟩,⟨b0,b1⟩,n0,n1⟩:=ho r (mGz hx)
    have hvr:=aI hv hB
    have hvd:=aI hvr (Below.refl _ _).drew
    have hve:=aI hvd (Below.refl _ _).drew
    have K1:=aCg hvd hx
    have K2:=aCg hve hx
    have K0:=aCg hvr hx
    have hr2:rigR p e (r::l.drop (k+1))=if p<r.i+r.n then r.o+max (p-r.i) 0 else rigR p e (l.drop (k+1)):=rfl
    rw[hdr,hr2] at hr
    clear hr2
    have w1:IntKind.i64.wrap (r.i+r.n)=r.i+r.n:=IntWalk.i64_in _ (by omega)
    have w2:IntKind.i64.wrap (p-r.i)=p-r.i:=IntWalk.i64_in _ (by omega)
    by_cases q:p<r.i+r.n
    ·have d1:decide (p<r.i+r.n)=true:=by simpa using q
     rw[if_pos q] at hr
     obtain⟨m,hm⟩:∃ m,max (p-r.i) 0=m:=⟨_,rfl⟩
     have m0:0≤m∧m≤1000000:=by omega
     have w3:IntKind.i64.wrap (r.o+m)=r.o+m:=IntWalk.i64_in _ (by omega)
     have hB2:=hB.drew.drew
     have HS:rigR p e l=r.o+m:=by rw[hr,hm]
     have HS2:=Lib.hid HS
     clear HS q hr hdr
     go_wp2
     refine aP (S:=fun W=>W.cell? ⟨g,k*3,none⟩=some (.int .i64 r.i)∧W.cell? ⟨g,k*3+1,none⟩=some (.int .i64 r.o)∧W.cell? ⟨g,k*3+2,none⟩=some (.int .i64 r.n)) ?_ (fun hHeld => ?_)
     ·exact K1
     iterate 13 ((first | refine aJ ?_ | refine np_q ?_ | refine aL 0 ?_);(try simp only[nSO]))
     refine np_z ?_
     go_wp2
     refine aP (S:=fun W=>W.cell? ⟨g,k*3,none⟩=some (.int .i64 r.i)∧W.cell? ⟨g,k*3+1,none⟩=some (.int .i64 r.o)∧W.cell? ⟨g,k*3+2,none⟩=some (.int .i64 r.n)) ?_ (fun hHeld => ?_)
     ·exact K2
     iterate 15 ((first | refine aJ ?_ | refine np_q ?_ | refine aL 0 ?_);(try simp only[nSO]))
     refine np_z ?_
     go_wp2
     go_returns
     exact⟨by rw[HS2.out];rfl,hB2⟩
    ·have d1:decide (p<r.i+r.n)=false:=by simpa using q
     rw[if_neg q] at hr
     have hB2:=hB.drew
     clear q hdr
     go_wp2
     refine aP (S:=fun W=>W.cell? ⟨g,k*3,none⟩=some (.int .i64 r.i)∧W.cell? ⟨g,k*3+1,none⟩=some (.int .i64 r.o)∧W.cell? ⟨g,k*3+2,none⟩=some (.int .i64 r.n)) ?_ (fun hHeld => ?_)
     ·exact K1
     iterate 13 ((first | refine aJ ?_ | refine np_q ?_ | refine aL 0 ?_);(try simp only[nSO]))
     refine np_z ?_
     go_wp2
     exact⟨RgI.intro (k+1) rfl rfl (by omega) hr hB2,by simp[intOf];omega⟩
   ·obtain rfl:k=l.length:=by omega
    rw[List.drop_length] at hr
    have hr2:rigR p e l=e:=hr
    have HR:=Lib.hid hr2
    clear hr hr2
    go_wp2
    go_returns
    exact⟨by rw[HR.out];rfl,hB⟩
theorem aMf {n a k p:Int} {t:ByteArray} (h:iP n a k t) (hp:0≤p∧p≤n):lefR p (rnS (repD n a k t)).l=gP p (repD n a k t) 0 0 0:=by
 obtain⟨h1,h2,h3,h4,h5,h6⟩:=h
 have e0:(⟨#[]⟩:ByteArray).size=0:=rfl
 rw[aBp n a k t p h1 h2 h3 hp.1 hp.2]
 unfold repD rnS lefR
 (repeat' split)<;>simp[lV,e0]<;>(repeat' split)<;>omega
theorem aIz {n a k p:Int} {t:ByteArray} (h:iP n a k t) (hp:0≤p∧p≤n):rigR p (sumO (repD n a k t)) (rnS (repD n a k t)).l=eD p (repD n a k t) 0 0 (lenS (repD n a k t)).2.1:=by
 obtain⟨_,_,hso⟩:=rC h
 obtain⟨_,_,_,hlen⟩:=zL h
 obtain⟨h1,h2,h3,h4,h5,h6⟩:=h
 have e0:(⟨#[]⟩:ByteArray).size=0:=rfl
 rw[hlen,hso,xZ n a k t p _ h1 h2 h3 hp.1 hp.2 rfl]
 unfold repD rnS
 (repeat' split)<;>simp[lV,e0,rigR]<;>(repeat' split)<;>omega
theorem aE6 (n a k p g:Int) (t:ByteArray) (ad:Option Addr) (c:Nat) (w:World) (h:iP n a k t) (hr:PRow w ad (repD n a k t)) (hc:(repD n a k t).length≤c) (hp:0≤p∧p≤n) (hg:g=0∨g=1) :
  Calls Tryz.prog 271 #[.slice ad (repD n a k t).length c,.int .i64 p,.int .u8 g] w fun e w'=>e = .returned (.int .i64 (posS (repD n a k t) p g))∧Below w.heap.size w w':=by
 obtain⟨hd,_,hso⟩:=rC h
 have hn:n≤100000:=h.2.2.2.1
 have hl:=aMf h hp
 have hr2:=aIz h hp
 have ru:=fun W (hW:Below w.heap.size w W)=>aE4 ad c (repD n a k t) W (hr.on hW) hd hc
 have si:=sV ad c (repD n a k t) w hr hd hc
 have ok:=aE3 hd (repD n a k t).length (Nat.le_refl _)
 rw[List.take_length] at ok
 obtain⟨_,_,ok1,ok2⟩:=ok
 have h4:=hd.1
 have le:=fun B v W (hv:mF W B v (rnS (repD n a k t)).l)=>aE5 B v (rnS (repD n a k t)).l p W hv (by omega) ok2 (by omega)
 have ri:=fun B v W (hv:mF W B v (rnS (repD n a k t)).l)=>aCi B v (rnS (repD n a k t)).l p (sumO (repD n a k t)) W hv (by omega) ok2 (by omega)
 have hpos:posS (repD n a k t) p 0=lefR p (rnS (repD n a k t)).l∧posS (repD n a k t) p 1=rigR p (sumO (repD n a k t)) (rnS (repD n a k t)).l:=by rw[hl,hr2];exact⟨rfl,rfl⟩
 have HP:=Lib.hid hpos;have RU:=Lib.hid ru;have SI:=Lib.hid si;have LE:=Lib.hid le;have RI2:=Lib.hid ri
 clear hpos ru si le ri hl hr2 hso ok2 ok1 h4 hd
 generalize sumO (repD n a k t)=so at *
 generalize (rnS (repD n a k t)).l=rl at *
 generalize repD n a k t=D at *
 rcases hg with rfl | rfl
 ·go_enter Tryz.func271,Tryz.ntmps271
  go_wp2_with (first | (go_at_call 288;refine (RU.out _ (Below.refl _ _)).mono ?_;rintro e w1 ⟨v1,rfl,hv1,hb1⟩) | (go_at_call 287;refine (LE.out _ _ _ hv1).mono ?_;rintro e w2 ⟨rfl,hb2⟩))
  go_returns
  exact⟨by rw[HP.out.1];rfl,hb1.trans (hb2.mono hb1.size)⟩
 ·go_enter Tryz.func271,Tryz.ntmps271
  go_wp2_with (first | (go_at_call 286;refine SI.out.mono ?_;rintro e w0 ⟨rfl,rfl⟩) | (go_at_call 288;refine (RU.out _ (Below.refl _ _)).mono ?_;rintro e w1 ⟨v1,rfl,hv1,hb1⟩) | (go_at_call 289;refine (RI2.out _ _ _ hv1).mono ?_;rintro e w2 ⟨rfl,hb2⟩))
  go_returns
  exact⟨by rw[HP.out.2];rfl,hb1.trans (hb2.mono hb1.size)⟩
def McI (w:World) (n:Int) (ad:Option Addr) (l:List MkV) (c:Nat) (a:Act) (wr:World):Prop :=
 ∃ (k:Nat) (u:Nat→Value),a={ tmps := #[.int .i64 n,.slice ad l.length c,u 2,u 3,u 4,.int .i64 k,u 6,u 7,u 8,u 9,u 10,u 11,u 12,u 13,u 14,u 15,u 16,u 17,u 18,u 19,u 20,u 21,u 22,u 23,u 24,u 25,u 26,u 27,u 28,u 29,u 30,u 31,u 32,u 33,u 34,u 35,u 36,u 37,u 38,u 39,u 40,u 41,u 42,u 43,u 44,u 45,u 46,u 47,u 48,u 49,u 50,u 51,u 52,u 53],defers:=[] }∧k≤l.length∧Below w.heap.size w wr
theorem McI.intro {w:World} {n:Int} {ad:Option Addr} {l:List MkV} {c:Nat} {a:Act} {wr:World} (k:Nat) {uu:Nat→Value} (_:uu=fun i=>a.tmps.getD i undef) (h:a={ tmps := #[.int .i64 n,.slice ad l.length c,uu 2,uu 3,uu 4,.int .i64 k,uu 6,uu 7,uu 8,uu 9,uu 10,uu 11,uu 12,uu 13,uu 14,uu 15,uu 16,uu 17,uu 18,uu 19,uu 20,uu 21,uu 22,uu 23,uu 24,uu 25,uu 26,uu 27,uu 28,uu 29,uu 30,uu 31,uu 32,uu 33,uu 34,uu 35,uu 36,uu 37,uu 38,uu 39,uu 40,uu 41,uu 42,uu 43,uu 44,uu 45,uu 46,uu 47,uu 48,uu 49,uu 50,uu 51,uu 52,uu 53],defers:=[] }) (hk:k≤l.length) (hB:Below w.heap.size w wr):McI w n ad l c a wr:=⟨k,uu,h,hk,hB⟩
theorem rD (n:Int) (ad:Option Addr) (c:Nat) (l:List MkV) (w:World) (hr:MRow w ad l) (hok:MkOK n l) (hn:0≤n) (hc:l.length≤c):Calls Tryz.prog 270 #[.int .i64 n,.slice ad l.length c] w fun e w'=>e = .returned (.int .i64 0)∧Below w.heap.size w w':=by
 obtain⟨h64,hpw,hin⟩:=hok
 have hpg:∀ i j (m x:MkV),i<j→l[i]? = some m→l[j]? = some x→m.id<x.id:=fun i j m x hij hi hj=>by
  obtain⟨hil,rfl⟩:=gLz hi
  obtain⟨hjl,rfl⟩:=gLz hj
  exact List.pairwise_iff_getElem.1 hpw i j hil hjl hij
 have HPG:=Lib.hid hpg
 clear hpg hpw
 go_enter Tryz.func270,Tryz.ntmps270
 go_wp2
 refine wp_loop (McI w n ad l c) (fun a _=>l.length-(intOf (a.tmps.getD 5 undef)).toNat) ?_ ?_
 ·exact McI.intro 0 rfl rfl (by omega) (Below.refl _ _)
 ·rintro a wr ⟨k,u,rfl,hk,hB⟩
  by_cases hlt:k<l.length
  ·have hg:=gEz hlt
   generalize l[k]=m at hg
   obtain⟨g1,g2,g3,g4,g5⟩:=hin m (mGz hg)
   obtain⟨b,off,rfl,hb⟩:=nZ hr (fun h=>by rw[h] at hlt;simp at hlt)
   have HM:=Lib.hid (fun W (hW:Below w.heap.size w W)=>vS (hr.on hW))
   obtain⟨c0,c1,c2⟩:=yO (HM.out _ hB) hg
   have hB1:=hB.alloc hB.size (.cells #[.int .u32 m.id,.int .i64 m.at_,.int .u8 m.grav] 74)
   have hz:=heap_alloc_new wr (.cells #[.int .u32 m.id,.int .i64 m.at_,.int .u8 m.grav] 74)
   have hB2:=hB1.drew
   have d1:(m.id == 0)=false:=by simp;omega
   have d2:decide (1<m.grav)=false:=by simp;omega
   have d3:decide (m.at_<0)=false:=by simp;omega
   have d4:decide (n<m.at_)=false:=by simp;omega
   have hz2:(wr.alloc (.cells #[.int .u32 m.id,.int .i64 m.at_,.int .u8 m.grav] 74)).drew.heap[wr.heap.size]? = some (.cells #[.int .u32 m.id,.int .i64 m.at_,.int .u8 m.grav] 74 (0,0)):=hz
   obtain⟨z0,z1,z2⟩:=cZ hz2
   cases k with
   |zero =>
    have d5:decide ((0:Int)<0)=false:=rfl
    have c0':wr.cell? ⟨b,off,none⟩=some (.int .u32 m.id):=by simpa using c0
    have c1':wr.cell? ⟨b,off+1,none⟩=some (.int .i64 m.at_):=by simpa using c1
    have c2':wr.cell? ⟨b,off+2,none⟩=some (.int .u8 m.grav):=by simpa using c2
    clear c0 c1 c2
    clear hg hr hin hz hz2
    go_wp2
    refine aP (S:=fun W=>W.cell? ⟨wr.heap.size,0,none⟩=some (.int .u32 m.id)∧W.cell? ⟨wr.heap.size,1,none⟩=some (.int .i64 m.at_)∧W.cell? ⟨wr.heap.size,2,none⟩=some (.int .u8 m.grav)) ?_ (fun hHeld => ?_)
    ·exact⟨z0,z1,z2⟩
    iterate 23 ((first | refine aJ ?_ | refine np_q ?_ | refine aL 0 ?_);(try simp only[nSO]))
    refine np_z ?_
    go_wp2
    exact⟨McI.intro 1 rfl rfl (by omega) hB2,by simp[intOf];omega⟩
   |succ j =>
    have hg0:=gEz (show j<l.length by omega)
    generalize l[j]=m0 at hg0
    have hid:=HPG.out j (j+1) m0 m (by omega) hg0 hg
    have K2:=yO (HM.out _ hB2) hg0
    have d5:decide (0<j+1)=true:=by simp
    have d6:decide ((0:Int)<(j:Int)+1)=true:=decide_eq_true (by omega)
    have w1:IntKind.i64.wrap (j:Int)=j:=IntWalk.i64_in _ (by omega)
    have w0:(0:Int)≤j:=Int.natCast_nonneg _
    have w2:(j:Int)<l.length:=by omega
    have w3:j<l.length:=by omega
    have d7:decide (m.id≤m0.id)=false:=by simp;omega
    clear hg hg0 hr hin hz hz2 hid
    go_wp2
    refine aP (S:=fun W=>(W.cell? ⟨wr.heap.size,0,none⟩=some (.int .u32 m.id)∧W.cell? ⟨wr.heap.size,1,none⟩=some (.int .i64 m.at_)∧W.cell? ⟨wr.heap.size,2,none⟩=some (.int .u8 m.grav))∧W.cell? ⟨b,off+j*3,none⟩=some (.int .u32 m0.id)) ?_ (fun hHeld => ?_)
    ·exact⟨⟨z0,z1,z2⟩,K2.1⟩
    iterate 23 ((first | refine aJ ?_ | refine np_q ?_ | refine aL 0 ?_);(try simp only[nSO]))
    refine np_z ?_
    go_wp2
    exact⟨McI.intro (j+1+1) rfl rfl (by omega) hB2,by simp[intOf];omega⟩
  ·go_wp2
   go_returns
   exact⟨rfl,hB⟩
theorem kY (ad:Option Addr) (c:Nat) (l:List MkV) (w:World) (hr:MRow w ad l) (hok:MkOK bigN l) (hc:l.length≤c):Calls Tryz.prog 274 #[.slice ad l.length c] w fun e w'=>e = .returned (.bool true)∧Below w.heap.size w w':=by
 have h1:=rD bigN ad c l w hr hok (by unfold bigN;omega) hc
 unfold bigN at h1
 have H1:=Lib.hid h1
 clear h1
 go_enter Tryz.func274,Tryz.ntmps274
 go_wp2_with (go_at_call 270;refine H1.out.mono ?_;rintro e w1 ⟨rfl,hB1⟩)
 go_returns
 exact⟨rfl,hB1⟩
abbrev MOw (W:World) (B:Nat) (v:Value) (l:List MkV):Prop:=W.ownsRow B 74 3 v l.length (mksL l)
theorem MOw.snoc {W:World} {B:Nat} {v:Value} {l:List MkV} {m:MkV} (h:W.ownsRow B 74 3 v (l.length+1) (mksL l++mkL m)):MOw W B v (l++[m]):=by
 show W.ownsRow B 74 3 v (l++[m]).length (mksL (l++[m]))
 rw[List.length_append];unfold mksL at *;rw[List.flatMap_append];simpa using h
theorem aE7 {id:Int} {l:List MkV} {k:Nat} {m:MkV} (h:l[k]? = some m):bP id (l.take (k+1))=if m.id=id then bP id (l.take k) else bP id (l.take k)++[m]:=by
 unfold bP
 rw[List.take_add_one,h,Option.toList_some,List.filter_append,List.filter_cons]
 by_cases e:m.id=id
 ·rw[if_pos e,if_neg (by simpa using e)];simp
 ·rw[if_neg e,if_pos (by simpa using e)];rfl
def RwI (w:World) (ad:Option Addr) (l:List MkV) (c:Nat) (id:Int) (a:Act) (wr:World):Prop :=
 ∃ (k:Nat) (v:Value) (u:Nat→Value),a={ tmps := #[.slice ad l.length c,.int .u32 id,u 2,u 3,u 4,v,.int .i64 k,u 7,u 8,u 9,u 10,u 11,u 12,u 13,u 14,u 15,u 16,u 17,u 18,u 19,u 20,u 21,u 22,u 23,u 24,u 25,u 26,u 27],defers:=[] }∧k≤l.length∧MOw wr w.heap.size v (bP id (l.take k))∧(bP id (l.take k)).length≤k∧Below w.heap.size w wr
theorem RwI.intro {w:World} {ad:Option Addr} {l:List MkV} {c:Nat} {id:Int} {a:Act} {wr:World} (k:Nat) (v:Value) {uu:Nat→Value} (_:uu=fun i=>a.tmps.getD i undef) (h:a={ tmps := #[.slice ad l.length c,.int .u32 id,uu 2,uu 3,uu 4,v,.int .i64 k,uu 7,uu 8,uu 9,uu 10,uu 11,uu 12,uu 13,uu 14,uu 15,uu 16,uu 17,uu 18,uu 19,uu 20,uu 21,uu 22,uu 23,uu 24,uu 25,uu 26,uu 27],defers:=[] }) (hk:k≤l.length) (hv:MOw wr w.heap.size v (bP id (l.take k))) (hl:(bP id (l.take k)).length≤k) (hB:Below w.heap.size w wr):RwI w ad l c id a wr:=⟨k,v,uu,h,hk,hv,hl,hB⟩
theorem kF (ad:Option Addr) (c:Nat) (l:List MkV) (id:Int) (w:World) (hr:MRow w ad l) (hl:l.length≤64) (hc:l.length≤c):Calls Tryz.prog 275 #[.slice ad l.length c,.int .u32 id] w fun e w'=>∃ v,e = .returned v∧MOw w' w.heap.size v (bP id l)∧Below w.heap.size w w':=by
 obtain⟨i0,hi,hz0,hz1,hz2⟩:=info_parts mO
 go_enter Tryz.func275,Tryz.ntmps275
 go_wp2
 refine wp_loop (RwI w ad l c id) (fun a _=>l.length-(intOf (a.tmps.getD 6 undef)).toNat) ?_ ?_
 ·exact RwI.intro 0 (.slice none 0 0) rfl rfl (by omega) (World.ownsRow_nil _ _ _ _) (by simp[bP]) (Below.refl _ _)
 ·rintro a wr ⟨k,v,u,rfl,hk,hv,hlk,hB⟩
  by_cases hlt:k<l.length
  ·have hg:=gEz hlt
   generalize l[k]=m at hg
   obtain⟨b,off,rfl,hb⟩:=nZ hr (fun h=>by rw[h] at hlt;simp at hlt)
   obtain⟨c0,c1,c2⟩:=yO (vS (hr.on hB)) hg
   have hst:=aE7 (id:=id) hg
   have HST:=Lib.hid hst
   have hBz:=hB.size
   generalize hX:bP id (l.take k)=X at *
   clear hst hg hX hr
   by_cases e:m.id=id
   ·have d1:(m.id != id)=false:=by simpa using e
    have HE:=Lib.hid e
    clear e
    go_wp2
    exact⟨RwI.intro (k+1) v rfl rfl (by omega) (by rw[HST.out,if_pos HE.out];exact hv) (by rw[HST.out,if_pos HE.out];omega) hB,by simp[intOf];omega⟩
   ·have d1:(m.id != id)=true:=by simpa using e
    have HE:=Lib.hid e
    clear e
    go_wp2_with (at_builtin;refine wpList_append_own _ rfl _ _ 65 rfl w.heap.size 74 i0 _ 3 24 Tryz.underlying65 hi hz0 hz1 hz2 rfl (by decide) _ _ _ rfl (hv.alloc _) ⟨_,0,none⟩ 1 1 (mkL m) rfl rfl (aW _ _ _) (jW _) (by unfold maxLen;omega) (by omega) (by simp;omega) ?_;intro v1 w1 hw1 hg1 _;have hB1:=(hB.alloc hB.size (.cells (mkL m).toArray 74)).grown hg1 (by simp;omega) (fun k hk=>(hv.lt k hk).1);have hv1:=MOw.snoc hw1)
    exact⟨RwI.intro (k+1) v1 rfl rfl (by omega) (by rw[HST.out,if_neg HE.out];exact hv1) (by rw[HST.out,if_neg HE.out,List.length_append,List.length_singleton];omega) hB1,by simp[intOf];omega⟩
  ·obtain rfl:k=l.length:=by omega
   rw[List.take_length] at hv
   obtain⟨av,cv,rfl⟩:=aC hv
   go_wp2
   go_returns
   exact⟨_,rfl,hv,hB⟩
theorem xD (n at_ k:Int) (t:ByteArray) (w:World) (h:iP n at_ k t) :
  Calls Tryz.prog 229 #[.int .i64 n,.int .i64 at_,.int .i64 k,.string t] w fun e w'=>∃ v,e = .returned (.tuple #[v,.int .i64 0])∧POwn w' w.heap.size v (repD n at_ k t)∧Below w.heap.size w w':=by
 obtain⟨i0,hi,hz0,hz1,hz2⟩:=info_parts sH
 obtain⟨hd,_,_⟩:=rC h
 have ha:=aPu h
 have fo:=fun (W:World) (ad:Option Addr) (c:Nat) (hr:PRow W ad (repD n at_ k t)) (hc:(repD n at_ k t).length≤c)=>aE0 ad c (repD n at_ k t) W hr hd ha hc
 obtain⟨h1,h2,h3,h4,h5,h6⟩:=h
 have w1:IntKind.i64.wrap (n-at_)=n-at_:=IntWalk.i64_in _ (by omega)
 have w2:IntKind.i64.wrap (n-k)=n-k:=IntWalk.i64_in _ (by omega)
 have w3:IntKind.i64.wrap (1048576-(n-k))=1048576-(n-k):=IntWalk.i64_in _ (by omega)
 have w4:IntKind.i64.wrap (n-at_-k)=n-at_-k:=IntWalk.i64_in _ (by omega)
 have w5:IntKind.i64.wrap (at_+k)=at_+k:=IntWalk.i64_in _ (by omega)
 have b1:decide (at_<0)=false:=by simp;omega
 have b2:decide (n<at_)=false:=by simp;omega
 have b3:decide (k<0)=false:=by simp;omega
 have b4:decide (n-at_<k)=false:=by simp;omega
 have b5:decide (1048576<n)=false:=by simp;omega
 have b6:decide (1048576-(n-k)<(t.size:Int))=false:=by simp;omega
 obtain⟨D,hD⟩:∃ D,D=repD n at_ k t:=⟨_,rfl⟩
 rw[← hD] at fo ⊢
 unfold repD at hD
 by_cases hm:k=0
 all_goals by_cases ha0:0<at_
 all_goals by_cases hr0:at_+k<n
 all_goals
  first
  |have ht:t.size≠0:=by omega
   have hm2:decide (0<k)=false:=by simp;omega
   have e1:t.toList.isEmpty=false:=by rw[te3];omega
   rw[if_pos ht,if_neg (show ¬ 0<k by omega)] at hD
  |have ht:t.size=0:=by omega
   have hm2:decide (0<k)=true:=by simp;omega
   have e1:t.toList.isEmpty=true:=by rw[te2];omega
   have e2:t.toList=[]:=List.isEmpty_iff.1 e1
   rw[if_neg (show ¬ t.size≠0 by omega),if_pos (show 0<k by omega)] at hD
  first
  |have d1:decide (0<at_)=true:=by simpa using ha0
   rw[if_pos ha0] at hD
  |have d1:decide (0<at_)=false:=by simpa using ha0
   rw[if_neg ha0] at hD
  first
  |have d2:decide (at_+k<n)=true:=by simpa using hr0
   rw[if_pos (show 0<n-at_-k by omega)] at hD
  |have d2:decide (at_+k<n)=false:=by simpa using hr0
   rw[if_neg (show ¬ 0<n-at_-k by omega)] at hD
  subst hD
  have FO:=Lib.hid fo
  have hv:POwn w w.heap.size (.slice none 0 0) []:=World.ownsRow_nil _ _ _ _
  have hB:=Below.refl w.heap.size w
  clear fo hd ha h1 h2 h3 h4 h5 h6 ha0 hr0 hm ht
  go_enter Tryz.func229,Tryz.ntmps229
  go_wp2_with (first | (go_at_call 268;obtain⟨af,cf,hvf⟩:=aC hv;subst hvf;refine (FO.out _ af cf (kL rfl hv).1 (kL rfl hv).2).mono ?_;rintro e wf ⟨vf,rfl,hof,hBf⟩;obtain⟨aof,cof,rfl⟩:=aC hof;have hBF:=hB.trans (hBf.mono hB.size)) | (at_builtin;refine wpList_append_own _ rfl _ _ 47 rfl w.heap.size 94 i0 _ 3 32 Tryz.underlying47 hi hz0 hz1 hz2 rfl (by decide) _ _ _ rfl (hv.alloc _) ⟨_,0,none⟩ 1 1 (pcL ⟨1,at_,⟨#[]⟩⟩) rfl rfl (aW _ _ _) (dJ _) (by unfold maxLen;first | omega | (simp only[List.length_append,List.length_cons,List.length_nil];done) | (simp only[List.length_append,List.length_cons,List.length_nil];omega)) (by first | omega | (simp only[List.length_append,List.length_cons,List.length_nil];done) | (simp only[List.length_append,List.length_cons,List.length_nil];omega)) (by have:=hB.size;simp;try omega) ?_;intro v1 w1 hw hg _;have hBn:=(hB.alloc hB.size (.cells (pcL ⟨1,at_,⟨#[]⟩⟩).toArray 94)).grown hg (by have:=hB.size;simp;try omega) (fun k hk=>(hv.lt k hk).1);clear hv hB;have hB:=hBn;clear hBn;first | have hv:=POwn.snoc (d:=[]) hw | have hv:=POwn.snoc hw) | (at_builtin;refine wpList_append_own _ rfl _ _ 47 rfl w.heap.size 94 i0 _ 3 32 Tryz.underlying47 hi hz0 hz1 hz2 rfl (by decide) _ _ _ rfl (hv.alloc _) ⟨_,0,none⟩ 1 1 (pcL ⟨2,0,t⟩) rfl rfl (aW _ _ _) (dJ _) (by unfold maxLen;first | omega | (simp only[List.length_append,List.length_cons,List.length_nil];done) | (simp only[List.length_append,List.length_cons,List.length_nil];omega)) (by first | omega | (simp only[List.length_append,List.length_cons,List.length_nil];done) | (simp only[List.length_append,List.length_cons,List.length_nil];omega)) (by have:=hB.size;simp;try omega) ?_;intro v1 w1 hw hg _;have hBn:=(hB.alloc hB.size (.cells (pcL ⟨2,0,t⟩).toArray 94)).grown hg (by have:=hB.size;simp;try omega) (fun k hk=>(hv.lt k hk).1);clear hv hB;have hB:=hBn;clear hBn;first | have hv:=POwn.snoc (d:=[]) hw | have hv:=POwn.snoc hw) | (at_builtin;refine wpList_append_own _ rfl _ _ 47 rfl w.heap.size 94 i0 _ 3 32 Tryz.underlying47 hi hz0 hz1 hz2 rfl (by decide) _ _ _ rfl (hv.alloc _) ⟨_,0,none⟩ 1 1 (pcL ⟨3,k,⟨#[]⟩⟩) rfl rfl (aW _ _ _) (dJ _) (by unfold maxLen;first | omega | (simp only[List.length_append,List.length_cons,List.length_nil];done) | (simp only[List.length_append,List.length_cons,List.length_nil];omega)) (by first | omega | (simp only[List.length_append,List.length_cons,List.length_nil];done) | (simp only[List.length_append,List.length_cons,List.length_nil];omega)) (by have:=hB.size;simp;try omega) ?_;intro v1 w1 hw hg _;have hBn:=(hB.alloc hB.size (.cells (pcL ⟨3,k,⟨#[]⟩⟩).toArray 94)).grown hg (by have:=hB.size;simp;try omega) (fun k hk=>(hv.lt k hk).1);clear hv hB;have hB:=hBn;clear hBn;first | have hv:=POwn.snoc (d:=[]) hw | have hv:=POwn.snoc hw) | (at_builtin;refine wpList_append_own _ rfl _ _ 47 rfl w.heap.size 94 i0 _ 3 32 Tryz.underlying47 hi hz0 hz1 hz2 rfl (by decide) _ _ _ rfl (hv.alloc _) ⟨_,0,none⟩ 1 1 (pcL ⟨1,n-at_-k,⟨#[]⟩⟩) rfl rfl (aW _ _ _) (dJ _) (by unfold maxLen;first | omega | (simp only[List.length_append,List.length_cons,List.length_nil];done) | (simp only[List.length_append,List.length_cons,List.length_nil];omega)) (by first | omega | (simp only[List.length_append,List.length_cons,List.length_nil];done) | (simp only[List.length_append,List.length_cons,List.length_nil];omega)) (by have:=hB.size;simp;try omega) ?_;intro v1 w1 hw hg _;have hBn:=(hB.alloc hB.size (.cells (pcL ⟨1,n-at_-k,⟨#[]⟩⟩).toArray 94)).grown hg (by have:=hB.size;simp;try omega) (fun k hk=>(hv.lt k hk).1);clear hv hB;have hB:=hBn;clear hBn;first | have hv:=POwn.snoc (d:=[]) hw | have hv:=POwn.snoc hw))
  go_returns
  exact⟨_,rfl,aV hB.size hof,hBF⟩
end Go.Proofs.YtdeiocppghhfdaaGreat
