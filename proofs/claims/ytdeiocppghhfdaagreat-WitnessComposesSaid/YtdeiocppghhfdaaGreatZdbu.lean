/- Texts, one behind another. -/
import Derived.Test.YtdeiocppghhfdaaGreatZdbt
import Derived.Laws.AppendOwnNone
set_option linter.unusedVariables false
set_option linter.unusedSimpArgs false
set_option maxRecDepth 100000
set_option maxHeartbeats 8000000
namespace Go.Proofs.YtdeiocppghhfdaaGreat
open Go.RowKit Go.Lib Go.Shelf
theorem aGv:∀ ps:List PcV,(pcsL ps).length=ps.length*3
 | []=>rfl
 | p::ps=>by
  have h:=aGv ps
  unfold pcsL at h ⊢
  rw[List.flatMap_cons,List.length_append,h,List.length_cons,rP];omega
theorem aLl {w:World} {B:Nat} {ao:Option Addr} {n cp:Nat} {d:List PcV} (hn:n=d.length) (h:w.ownsRow B 94 3 (.slice ao n cp) n (pcsL d)):n≤cp∧∀ g0,∃ g,aCm w B g ao d∧(d=[]→g=g0)∧(d≠[]→B≤g∧g<w.heap.size):=by
 rcases h.2 with⟨h1,h2⟩ | ⟨g,cap,cur,h1,hB,hg,h2,h3,h4,h5⟩
 ·injection h1 with h1 h6 h7
  refine⟨by omega,fun g0=>⟨g0,.inl (List.eq_nil_of_length_eq_zero (by omega)),fun _=>rfl,fun hd=>absurd (List.eq_nil_of_length_eq_zero (by omega)) hd⟩⟩
 ·injection h1 with h1 h6 h7
  subst h1;subst h7
  refine⟨h2,fun g0 => ?_⟩
  by_cases hd:d=[]
  ·exact⟨g0,.inl hd,fun _=>rfl,fun h=>absurd hd h⟩
  refine⟨g,.inr ⟨0,cur,rfl,hB,hg,fun k p hk i u hu => ?_⟩,fun h=>absurd h hd,fun _=>⟨hB,(Array.getElem?_eq_some_iff.1 hg).1⟩⟩
  have hi:i<3:=by have:=(List.getElem?_eq_some_iff.1 hu).1;rwa [rP] at this
  have h6:=qQ d k i hi
  rw[hk] at h6
  have h7:(pcsL d)[k*3+i]? = some u:=h6.trans hu
  have hlt:=(List.getElem?_eq_some_iff.1 h7).1
  rw[← h5,List.getElem?_take] at h7
  rw[← h5,List.length_take] at hlt
  rw[if_pos (by omega)] at h7
  rw[Nat.zero_add]
  simpa using h7
theorem aIm (w:World):(w.alloc (.cells #[] 94)).ownsRow w.heap.size 94 3 (.slice (some ⟨w.heap.size,0,none⟩) 0 0) 0 [] :=
 ⟨rfl,.inr ⟨w.heap.size,0,#[],rfl,Nat.le_refl _,heap_alloc_new w _,Nat.le_refl _,Nat.zero_le _,rfl,rfl⟩⟩
theorem aSy (d:List PcV) {w:World} {b off:Nat} (h:∀ (k:Nat) (p:PcV),d[k]? = some p→∀ (i:Nat) (u:Value),(pcL p)[i]? = some u→w.cell? ⟨b,off+(k*3+i),none⟩=some u):∀ (j:Nat) (u:Value),(pcsL d)[j]? = some u→w.cell? ((⟨b,off,none⟩:Addr).add j)=some u:=by
 intro j u hj
 have e:j=j / 3*3+j % 3:=by omega
 have h1:=qQ d (j / 3) (j % 3) (Nat.mod_lt _ (by omega))
 rw[← e,hj] at h1
 cases hd:d[j / 3]? with
 | none=>rw[hd] at h1;simp at h1
 | some p =>
  rw[hd] at h1
  have:=h (j / 3) p hd (j % 3) u h1.symm
  rw[← e] at this
  rw[Addr.add_lit];exact this
theorem aLm (d:List PcV):∀ u∈pcsL d,u.oneCell'=true:=by
 intro u hu
 unfold pcsL at hu
 obtain⟨p,_,hp⟩:=List.mem_flatMap.1 hu
 exact iT p u hp
theorem aGw (a:Option Addr) (c:Nat) (d:List PcV) (w:World) (hr:PRow w a d) (hc:d.length≤1000000) (hn:a=none→c=0) :
  Calls Tryz.prog 163 #[.slice a d.length c] w fun e w'=>∃ b g,e = .returned (.pointer (some ⟨b,0,none⟩))∧Rdr w' w.heap.size b g d∧Below w.heap.size w w'∧w.heap.size≤b∧(w.heap.size≤g∧g<b):=by
 obtain⟨i0,hi,hz0,hz1,hz2⟩:=info_parts qP
 have hE:=aIm w
 rcases hr with⟨rfl,rfl⟩ | ⟨b,off,rfl,hb,hcell⟩
 ·obtain rfl:=hn rfl
  clear hn
  go_enter Tryz.func163,Tryz.ntmps163
  go_wp2_with (at_builtin;refine wpList_append_own_none rfl _ _ 47 rfl w.heap.size 94 i0 3 Tryz.underlying47 hi _ 0 [] rfl hE rfl ?_)
  go_returns
  have h0:=heap_alloc_new (w.alloc (.cells #[] 94)) (.cells (rdV (some ⟨w.heap.size,0,none⟩) 0 0) 248)
  rw[World.size_alloc] at h0
  exact⟨w.heap.size+1,w.heap.size,rfl,⟨_,_,h0,Nat.le_refl _,.inl rfl⟩,((Below.refl _ _).alloc (Nat.le_refl _) _).alloc (by simp) _,by omega,Nat.le_refl _,by omega⟩
 ·have hcells:=aSy d hcell
  clear hn hcell
  go_enter Tryz.func163,Tryz.ntmps163
  go_wp2_with (at_builtin;refine wpList_append_own _ rfl _ _ 47 rfl w.heap.size 94 i0 _ 3 32 Tryz.underlying47 hi hz0 hz1 hz2 rfl (by decide) _ _ _ rfl hE ⟨b,off,none⟩ d.length c (pcsL d) rfl (aGv d) ?c1 (aLm d) ?c2 ?c3 ?c4 ?_)
  case c1=>intro j u hj;exact ((Below.refl w.heap.size w).alloc (Nat.le_refl _) _).cell (p:=(⟨b,off,none⟩:Addr).add j) (by rw[Addr.add_lit];exact hb) |>.trans (hcells j u hj)
  case c2=>unfold maxLen;omega
  case c3=>omega
  case c4=>simp
  intro v' w1 hown hgrow _
  obtain⟨ao,cp,rfl⟩:=aF hown
  go_wp2
  go_returns
  try simp only[Nat.zero_add,List.nil_append] at hown
  obtain⟨hcp,hrd⟩:=aLl rfl hown
  obtain⟨g,hg1,hg2,hg3⟩:=hrd w.heap.size
  have hB1:Below w.heap.size w w1:=((Below.refl w.heap.size w).alloc (Nat.le_refl _) (.cells #[] 94)).grown hgrow (by simp) (fun k hk=>by
   have hk:some w.heap.size=some k:=hk
   injection hk with hk;omega)
  have hs1:w.heap.size+1≤w1.heap.size:=by have:=hgrow.size;rwa [World.size_alloc] at this
  refine⟨w1.heap.size,g,rfl,⟨ao,cp,heap_alloc_new w1 _,hcp,?_⟩,hB1.alloc hB1.size _,by omega,?_⟩
  ·rcases hg1 with h | ⟨off,cur,h4,h5,h6,h7⟩
   ·exact .inl h
   ·exact .inr ⟨off,cur,h4,h5,(heap_alloc_old _ _ (Array.getElem?_eq_some_iff.1 h6).1).trans h6,h7⟩
  ·by_cases hd:d=[]
   ·rw[hg2 hd];omega
   ·exact hg3 hd
end Go.Proofs.YtdeiocppghhfdaaGreat
namespace Go.Proofs.YtdeiocppghhfdaaGreat
open Go.RowKit Go.Lib Go.Shelf
structure CmT (w wr:World) (xs ys o:List PcV) (v:Value) (bx gx bz gz:Nat):Prop where
 px:∀ p∈xs,Bdp p
 pz:∀ p∈ys,Bdp p
 rx:Rdr wr w.heap.size bx gx xs
 rz:Rdr wr w.heap.size bz gz ys
 own:wr.ownsRow w.heap.size 94 3 v o.length (pcsL o)
 nb:bx≠bz
 ng:gx≠gz
 xb:gx≠bz
 zb:gz≠bx
 vx:v.ownBlock≠some gx
 vz:v.ownBlock≠some gz
 lx:w.heap.size≤bx∧w.heap.size≤gx∧gx<wr.heap.size
 lz:w.heap.size≤bz∧w.heap.size≤gz∧gz<wr.heap.size
 bl:Below w.heap.size w wr
theorem Rdr.vne {W:World} {lo b g B n s:Nat} {ps:List PcV} {v:Value} {xs:List Value} (h:Rdr W lo b g ps) (ho:W.ownsRow B 94 s v n xs):v.ownBlock≠some b:=by
 obtain⟨a,c,h3,_⟩:=h
 exact fun e=>own_ne ho h3 (by decide) e.symm
theorem CmT.below {w wr W:World} {xs ys o:List PcV} {v:Value} {bx gx bz gz:Nat} (h:CmT w wr xs ys o v bx gx bz gz) (hb:Below wr.heap.size wr W):CmT w W xs ys o v bx gx bz gz :=
 ⟨h.px,h.pz,h.rx.below hb,h.rz.below hb,oN h.own (fun k hk _=>hb.block k hk),h.nb,h.ng,h.xb,h.zb,h.vx,h.vz,⟨h.lx.1,h.lx.2.1,Nat.lt_of_lt_of_le h.lx.2.2 hb.size⟩,⟨h.lz.1,h.lz.2.1,Nat.lt_of_lt_of_le h.lz.2.2 hb.size⟩,h.bl.trans (hb.mono h.bl.size)⟩
theorem CmT.atX {w wr W:World} {xs ys xs' o:List PcV} {v:Value} {bx gx bz gz:Nat} (h:CmT w wr xs ys o v bx gx bz gz) (hp:∀ p∈xs',Bdp p) (hr:Rdr W w.heap.size bx gx xs') (hk:aC (fun k=>k=bx∨k=gx) wr W):CmT w W xs' ys o v bx gx bz gz :=
 ⟨hp,h.pz,hr,h.rz.keep hk (by rintro (e | e);exact h.nb e.symm;exact h.xb e.symm) (fun _=>by rintro (e | e);exact h.zb e;exact h.ng e.symm),oN h.own (fun k hk1 hk2=>hk.block k hk1 (by rintro (rfl | rfl);exact h.rx.vne h.own hk2;exact h.vx hk2)),h.nb,h.ng,h.xb,h.zb,h.vx,h.vz,⟨h.lx.1,h.lx.2.1,Nat.lt_of_lt_of_le h.lx.2.2 hk.size⟩,⟨h.lz.1,h.lz.2.1,Nat.lt_of_lt_of_le h.lz.2.2 hk.size⟩,jO h.bl hk (by rintro k (rfl | rfl);exact h.lx.1;exact h.lx.2.1) h.bl.size⟩
theorem CmT.atZ {w wr W:World} {xs ys ys' o:List PcV} {v:Value} {bx gx bz gz:Nat} (h:CmT w wr xs ys o v bx gx bz gz) (hp:∀ p∈ys',Bdp p) (hr:Rdr W w.heap.size bz gz ys') (hk:aC (fun k=>k=bz∨k=gz) wr W):CmT w W xs ys' o v bx gx bz gz :=
 ⟨h.px,hp,h.rx.keep hk (by rintro (e | e);exact h.nb e;exact h.zb e.symm) (fun _=>by rintro (e | e);exact h.xb e;exact h.ng e),hr,oN h.own (fun k hk1 hk2=>hk.block k hk1 (by rintro (rfl | rfl);exact h.rz.vne h.own hk2;exact h.vz hk2)),h.nb,h.ng,h.xb,h.zb,h.vx,h.vz,⟨h.lx.1,h.lx.2.1,Nat.lt_of_lt_of_le h.lx.2.2 hk.size⟩,⟨h.lz.1,h.lz.2.1,Nat.lt_of_lt_of_le h.lz.2.2 hk.size⟩,jO h.bl hk (by rintro k (rfl | rfl);exact h.lz.1;exact h.lz.2.1) h.bl.size⟩
theorem CmT.push {w wr W:World} {xs ys o:List PcV} {v v':Value} {bx gx bz gz:Nat} {p:PcV} (h:CmT w wr xs ys o v bx gx bz gz) (ho:W.ownsRow w.heap.size 94 3 v' (o.length+1) (pcsL o++pcL p)) (hg:wr.grownBy W v.ownBlock) (hv:v'.ownBlock=v.ownBlock∨v'.ownBlock=some wr.heap.size):CmT w W xs ys (o++[p]) v' bx gx bz gz:=by
 have hk:aC (fun k=>v.ownBlock=some k) wr W:=⟨hg.os,hg.tape,hg.output,hg.size,fun k hk hn=>hg.block k hk (fun e=>hn e.symm)⟩
 have nx:v'.ownBlock≠some gx:=by
  rcases hv with e | e
  ·rw[e];exact h.vx
  ·rw[e];intro e2;injection e2 with e2;have:=h.lx.2.2;omega
 have nz:v'.ownBlock≠some gz:=by
  rcases hv with e | e
  ·rw[e];exact h.vz
  ·rw[e];intro e2;injection e2 with e2;have:=h.lz.2.2;omega
 exact⟨h.px,h.pz,h.rx.keep hk (h.rx.vne h.own) (fun _=>h.vx),h.rz.keep hk (h.rz.vne h.own) (fun _=>h.vz),by rw[List.length_append,jL];exact ho,h.nb,h.ng,h.xb,h.zb,nx,nz,⟨h.lx.1,h.lx.2.1,Nat.lt_of_lt_of_le h.lx.2.2 hk.size⟩,⟨h.lz.1,h.lz.2.1,Nat.lt_of_lt_of_le h.lz.2.2 hk.size⟩,jO h.bl hk (fun k hk2=>(h.own.lt k hk2).1) h.bl.size⟩
theorem aCo (lo b g:Nat) (p:PcV) (ps:List PcV) (n:Nat) (w:World) (h:Rdr w lo b g (p::ps)) (hp:Bdp p) (hn:n≤2000000) :
  Calls Tryz.prog 168 #[.pointer (some ⟨b,0,none⟩),.int .i64 n] w fun e w'=>e = .returned (.agg #[.int .u8 (takeA p n).kind,.int .i64 (takeA p n).n,.string (takeA p n).text])∧Rdr w' lo b g (iU p ps n)∧aC (fun k=>k=b∨k=g) w w':=by
 obtain⟨hpc,h1,h2⟩:=hp
 have h0:0≤p.n:=by rcases hpc with⟨_,h,_⟩ | ⟨_,h,_⟩<;>omega
 unfold takeA iU
 by_cases hc:(n:Int)<gT p
 ·rw[if_pos hc,if_pos hc]
  exact aIl lo b g p ps n w h h0 (by omega) (by omega) hn (fun hk=>by unfold gT at hc;rcases hpc with⟨h,_⟩ | ⟨_,h,_⟩<;>omega) hc
 ·rw[if_neg hc,if_neg hc]
  exact aGu lo b g p ps n w h h0 (by omega) (by omega) hn hc
end Go.Proofs.YtdeiocppghhfdaaGreat
namespace Go.Proofs.YtdeiocppghhfdaaGreat
open Go.RowKit Go.Lib Go.Shelf
def rlen (W:World) (b:Nat):Nat:=match W.cell? ⟨b,0,none⟩ with | some (.slice _ n _)=>n | _=>0
theorem Rdr.rlen {W:World} {lo b g:Nat} {ps:List PcV} (h:Rdr W lo b g ps):rlen W b=ps.length:=by
 obtain⟨a,c,h1,_⟩:=h
 unfold Go.Proofs.YtdeiocppghhfdaaGreat.rlen
 rw[(wV h1).1]
theorem Rdr.lo {W:World} {lo lo' b g:Nat} {ps:List PcV} (h:Rdr W lo b g ps) (hl:lo'≤lo):Rdr W lo' b g ps:=by
 obtain⟨a,c,h1,h2,h3⟩:=h
 refine⟨a,c,h1,h2,?_⟩
 rcases h3 with h3 | ⟨off,cur,h4,h5,h6⟩
 ·exact .inl h3
 ·exact .inr ⟨off,cur,h4,by omega,h6⟩
theorem lF {lo b g:Nat} {p:PcV} {ps:List PcV} {w:World} (h:Rdr w lo b g (p::ps)) :
  Calls Tryz.prog 164 #[.pointer (some ⟨b,0,none⟩)] w fun e w'=>e = .returned (.bool false)∧w'=w:=aCn lo b g (p::ps) w h
theorem qK {lo b g:Nat} {w:World} (h:Rdr w lo b g []) :
  Calls Tryz.prog 164 #[.pointer (some ⟨b,0,none⟩)] w fun e w'=>e = .returned (.bool true)∧w'=w:=aCn lo b g [] w h
def CoI (w:World) (p0 p1:Value) (F:List PcV) (N:Nat) (bx gx bz gz:Nat) (a:Act) (wr:World):Prop :=
 ∃ (xs ys o:List PcV) (v:Value) (f:Nat) (u:Nat→Value),a={ tmps := #[p0,p1,u 2,u 3,.slice none 0 0,v,.pointer (some ⟨bx,0,none⟩),.pointer (some ⟨bz,0,none⟩),u 8,u 9,u 10,u 11,u 12,u 13,u 14,u 15,u 16,u 17,u 18,u 19,u 20,u 21,u 22,u 23,u 24,u 25,u 26,u 27,u 28,u 29,u 30,u 31,u 32,u 33,u 34,u 35,u 36,u 37,u 38,u 39,u 40,u 41,u 42,u 43,u 44,u 45,u 46,u 47,u 48,u 49,u 50,u 51,u 52,u 53,u 54,u 55,u 56,u 57,u 58,u 59,u 60,u 61,u 62,u 63,u 64,u 65,u 66,u 67,u 68,u 69,u 70,u 71,u 72,u 73,u 74,u 75,u 76,u 77,u 78,u 79,u 80,u 81],defers:=[] }∧CmT w wr xs ys o v bx gx bz gz∧o++iI f xs ys=F∧xs.length+ys.length≤f∧o.length+f≤N
theorem CoI.intro {w:World} {p0 p1:Value} {F:List PcV} {N bx gx bz gz:Nat} {a:Act} {wr:World} (xs ys o:List PcV) (v:Value) (f:Nat) (h:a={ tmps := #[p0,p1,a.tmps.getD 2 undef,a.tmps.getD 3 undef,.slice none 0 0,v,.pointer (some ⟨bx,0,none⟩),.pointer (some ⟨bz,0,none⟩),a.tmps.getD 8 undef,a.tmps.getD 9 undef,a.tmps.getD 10 undef,a.tmps.getD 11 undef,a.tmps.getD 12 undef,a.tmps.getD 13 undef,a.tmps.getD 14 undef,a.tmps.getD 15 undef,a.tmps.getD 16 undef,a.tmps.getD 17 undef,a.tmps.getD 18 undef,a.tmps.getD 19 undef,a.tmps.getD 20 undef,a.tmps.getD 21 undef,a.tmps.getD 22 undef,a.tmps.getD 23 undef,a.tmps.getD 24 undef,a.tmps.getD 25 undef,a.tmps.getD 26 undef,a.tmps.getD 27 undef,a.tmps.getD 28 undef,a.tmps.getD 29 undef,a.tmps.getD 30 undef,a.tmps.getD 31 undef,a.tmps.getD 32 undef,a.tmps.getD 33 undef,a.tmps.getD 34 undef,a.tmps.getD 35 undef,a.tmps.getD 36 undef,a.tmps.getD 37 undef,a.tmps.getD 38 undef,a.tmps.getD 39 undef,a.tmps.getD 40 undef,a.tmps.getD 41 undef,a.tmps.getD 42 undef,a.tmps.getD 43 undef,a.tmps.getD 44 undef,a.tmps.getD 45 undef,a.tmps.getD 46 undef,a.tmps.getD 47 undef,a.tmps.getD 48 undef,a.tmps.getD 49 undef,a.tmps.getD 50 undef,a.tmps.getD 51 undef,a.tmps.getD 52 undef,a.tmps.getD 53 undef,a.tmps.getD 54 undef,a.tmps.getD 55 undef,a.tmps.getD 56 undef,a.tmps.getD 57 undef,a.tmps.getD 58 undef,a.tmps.getD 59 undef,a.tmps.getD 60 undef,a.tmps.getD 61 undef,a.tmps.getD 62 undef,a.tmps.getD 63 undef,a.tmps.getD 64 undef,a.tmps.getD 65 undef,a.tmps.getD 66 undef,a.tmps.getD 67 undef,a.tmps.getD 68 undef,a.tmps.getD 69 undef,a.tmps.getD 70 undef,a.tmps.getD 71 undef,a.tmps.getD 72 undef,a.tmps.getD 73 undef,a.tmps.getD 74 undef,a.tmps.getD 75 undef,a.tmps.getD 76 undef,a.tmps.getD 77 undef,a.tmps.getD 78 undef,a.tmps.getD 79 undef,a.tmps.getD 80 undef,a.tmps.getD 81 undef],defers:=[] })
  (hT:CmT w wr xs ys o v bx gx bz gz) (hF:o++iI f xs ys=F) (hf:xs.length+ys.length≤f) (hN:o.length+f≤N):CoI w p0 p1 F N bx gx bz gz a wr:=⟨xs,ys,o,v,f,fun i=>a.tmps.getD i undef,h,hT,hF,hf,hN⟩
theorem CmT.rl {w wr:World} {xs ys o:List PcV} {v:Value} {bx gx bz gz:Nat} (h:CmT w wr xs ys o v bx gx bz gz):rlen wr bx+rlen wr bz=xs.length+ys.length:=by rw[h.rx.rlen,h.rz.rlen]
theorem CmT.al {w wr:World} {xs ys o:List PcV} {v:Value} {bx gx bz gz:Nat} (h:CmT w wr xs ys o v bx gx bz gz) (ob:Obj):CmT w (wr.alloc ob) xs ys o v bx gx bz gz:=h.below (mP (Below.refl _ _) ob)
theorem aEc (k n:Int) (t:ByteArray) (W:World):(Instr.field 94 (.agg #[.int .u8 k,.int .i64 n,.string t]) 0).run Tryz.prog W = .ok (.int .u8 k) W:=by kernel_rfl
theorem aOy {f:Nat} {p:PcV} {x ys:List PcV} (hk:p.kind=3):iI (f+1) (p::x) ys=p::iI f x ys:=by cases ys<;>simp[iI,kZ,hk]
theorem aRk {f:Nat} {q:PcV} {y:List PcV} (hk:q.kind=2):iI (f+1) [] (q::y)=q::iI f [] y:=by simp[iI,kZ,hk]
theorem aSz {f:Nat} {p q:PcV} {x y:List PcV} (hp:p.kind≠3) (hk:q.kind=2):iI (f+1) (p::x) (q::y)=q::iI f (p::x) y:=by simp[iI,kZ,hp,hk]
theorem aS0 {f n:Nat} {p q:PcV} {x y:List PcV} (hp:p.kind≠3) (hk:q.kind≠2) (hn:(min (gT p) (gT q)).toNat=n):iI (f+1) (p::x) (q::y)=(if q.kind=1 then[takeA p n] else if p.kind=1 then[takeA q n] else[])++iI f (iU p x n) (iU q y n):=by
 simp only[iI,kZ];rw[if_neg hp,if_neg hk,hn]
theorem aRl {f:Nat} {p:PcV} {x:List PcV} (hp:p.kind≠3):iI f (p::x) []=[]:=by cases f<;>simp[iI,kZ,hp]
theorem aRm {f:Nat} {q:PcV} {y:List PcV} (hk:q.kind≠2):iI f [] (q::y)=[]:=by cases f<;>simp[iI,kZ,hk]
theorem aRn {f:Nat}:iI f [] []=[]:=by cases f<;>simp[iI,kZ]
theorem aEd (a0 a1:Option Addr) (c0 c1:Nat) (d0 d1:List PcV) (w:World) (h0:PRow w a0 d0) (h1:PRow w a1 d1) (hb0:∀ p∈d0,Bdp p) (hb1:∀ p∈d1,Bdp p) (hl0:d0.length≤4096) (hl1:d1.length≤4096) (hn0:a0=none→c0=0) (hn1:a1=none→c1=0) :
  Calls Tryz.prog 113 #[.slice a0 d0.length c0,.slice a1 d1.length c1] w fun e w'=>∃ v,e = .returned v∧w'.ownsRow w.heap.size 94 3 v (pW d0 d1).length (pcsL (pW d0 d1))∧Below w.heap.size w w':=by
 obtain⟨i0,hi,hz0,hz1,hz2⟩:=info_parts qP
 have H1:=Lib.hid h1
 go_enter Tryz.func113,Tryz.ntmps113
 go_wp2
 go_step3
 go_wp2_with fail
 refine (aGw a0 c0 d0 _ h0 (by omega) hn0).mono ?_
 rintro e w1 ⟨bx,gx,rfl,hR1,hB1,hbb1,hg1,hgb1⟩
 go_wp2_with fail
 refine (aGw a1 c1 d1 _ (H1.out.on hB1) (by omega) hn1).mono ?_
 rintro e w2 ⟨bz,gz,rfl,hR2,hB2,hb2,hg2,hgb2⟩
 go_wp2
 go_step3
 go_wp2
 have hb1l:=hR1.lt
 have hb2l:=hR2.lt
 have hs1:=hB1.size
 have hs2:=hB2.size
 have hT:CmT w w2 d0 d1 [] (.slice none 0 0) bx gx bz gz:=⟨hb0,hb1,hR1.below hB2,hR2.lo hs1,World.ownsRow_nil _ _ _ _,by omega,by omega,by omega,by omega,by simp[Value.ownBlock],by simp[Value.ownBlock],⟨by omega,by omega,by omega⟩,⟨by omega,by omega,by omega⟩,hB1.trans (hB2.mono hs1)⟩
 clear hR1 hR2 hB2 h0 H1 h1
 refine wp_loop (CoI w (.slice a0 d0.length c0) (.slice a1 d1.length c1) (pW d0 d1) 8192 bx gx bz gz) (fun _ W=>rlen W bx+rlen W bz) ?_ ?_
 ·exact CoI.intro d0 d1 [] (.slice none 0 0) (d0.length+d1.length) rfl hT rfl (Nat.le_refl _) (by simp;omega)
 clear hT
 rintro a wr ⟨xs,ys,o,v,f,u,rfl,hT,hF,hf,hN⟩
 have hrl:=Lib.hid hT.rl
 have HF:=Lib.hid hF
 clear hF
 have hpx:=Lib.hid hT.px
 have hpz:=Lib.hid hT.pz
 match xs,ys with
 | [],[] =>
  have e:=HF.out
  rw[aRn,List.append_nil] at e
  have He:=Lib.hid e
  clear e HF
  go_wp2_with fail
  refine (qK hT.rx).mono ?_
  rintro e wd ⟨rfl,rfl⟩
  go_wp2_with fail
  refine (qK hT.rz).mono ?_
  rintro e wd ⟨rfl,rfl⟩
  go_wp2_with fail
  refine (qK hT.rx).mono ?_
  rintro e wd ⟨rfl,rfl⟩
  go_wp2
  rw[Exit.noGoto_ret]
  go_returns
  refine⟨_,rfl,?_,hT.bl⟩
  rw[← He.out];exact hT.own
 | [],q::y =>
  have hfq:=aEc q.kind q.n q.text
  by_cases hk:q.kind=2
  ·have e1:(q.kind == 2)=true:=by simpa using hk
   obtain⟨f,rfl⟩:∃ g,f=g+1:=⟨f-1,by simp at hf;omega⟩
   have e:=HF.out
   rw[aRk hk] at e
   have He:=Lib.hid e
   clear e hk HF
   go_wp2_with fail
   refine (qK hT.rx).mono ?_
   rintro e wd ⟨rfl,rfl⟩
   go_wp2_with fail
   refine (lF hT.rz).mono ?_
   rintro e wd ⟨rfl,rfl⟩
   go_wp2_with fail
   refine (jG _ _ _ _ _ _ hT.rz).mono ?_
   rintro e wh ⟨rfl,hBh⟩
   have hT:=hT.below hBh
   clear hBh
   go_wp2_with fail
   refine (pY _ _ _ _ _ _ hT.rz).mono ?_
   rintro e w3 ⟨rfl,hR3,hK3⟩
   have hT:=hT.atZ (fun p hp=>hpz.out p (List.mem_cons_of_mem _ hp)) hR3 (hK3.mono fun k hk => .inl hk)
   clear hR3 hK3
   go_wp2_with (at_builtin;refine wpList_append_own_at _ rfl _ _ 47 rfl w.heap.size 94 i0 _ 3 32 Tryz.underlying47 hi hz0 hz1 hz2 rfl (by decide) _ _ _ rfl (hT.own.alloc _) ⟨_,0,none⟩ 1 1 (pcL q) rfl rfl (fC _ _ _) (iT _) (by unfold maxLen;omega) (by omega) (by have:=hT.bl.size;(try simp only[World.size_alloc] at this ⊢);omega) ?_;intro v' w9 hown9 hgrow9 _ hat9;obtain⟨ao9,cp9,rfl⟩:=aF hown9;have hT9:=CmT.push (p:=q) (hT.al _) hown9 hgrow9 hat9)
   refine⟨CoI.intro [] y (o++[q]) _ f rfl hT9 (by rw[List.append_assoc];exact He.out) (by simp at hf ⊢;omega) (by simp;omega),?_⟩
   rw[hT9.rl,hrl.out];simp
  ·have e1:(q.kind == 2)=false:=by simpa using hk
   have e:=HF.out
   rw[aRm hk,List.append_nil] at e
   have He:=Lib.hid e
   clear e HF hk
   go_wp2_with fail
   refine (qK hT.rx).mono ?_
   rintro e wd ⟨rfl,rfl⟩
   go_wp2_with fail
   refine (lF hT.rz).mono ?_
   rintro e wd ⟨rfl,rfl⟩
   go_wp2_with fail
   refine (jG _ _ _ _ _ _ hT.rz).mono ?_
   rintro e wh ⟨rfl,hBh⟩
   have hT:=hT.below hBh
   clear hBh
   go_wp2_with fail
   refine (qK hT.rx).mono ?_
   rintro e wd ⟨rfl,rfl⟩
   go_wp2
   rw[Exit.noGoto_ret]
   go_returns
   refine⟨_,rfl,?_,hT.bl⟩
   rw[← He.out];exact hT.own
 | p::x,[] =>
  have hfp:=aEc p.kind p.n p.text
  by_cases hk:p.kind=3
  ·have e1:(p.kind == 3)=true:=by simpa using hk
   obtain⟨f,rfl⟩:∃ g,f=g+1:=⟨f-1,by simp at hf;omega⟩
   have e:=HF.out
   rw[aOy hk] at e
   have He:=Lib.hid e
   clear e hk HF
   go_wp2_with fail
   refine (lF hT.rx).mono ?_
   rintro e wd ⟨rfl,rfl⟩
   go_wp2_with fail
   refine (jG _ _ _ _ _ _ hT.rx).mono ?_
   rintro e wh ⟨rfl,hBh⟩
   have hT:=hT.below hBh
   clear hBh
   go_wp2_with fail
   refine (pY _ _ _ _ _ _ hT.rx).mono ?_
   rintro e w3 ⟨rfl,hR3,hK3⟩
   have hT:=hT.atX (fun p hp=>hpx.out p (List.mem_cons_of_mem _ hp)) hR3 (hK3.mono fun k hk => .inl hk)
   clear hR3 hK3
   go_wp2_with (at_builtin;refine wpList_append_own_at _ rfl _ _ 47 rfl w.heap.size 94 i0 _ 3 32 Tryz.underlying47 hi hz0 hz1 hz2 rfl (by decide) _ _ _ rfl (hT.own.alloc _) ⟨_,0,none⟩ 1 1 (pcL p) rfl rfl (fC _ _ _) (iT _) (by unfold maxLen;omega) (by omega) (by have:=hT.bl.size;(try simp only[World.size_alloc] at this ⊢);omega) ?_;intro v' w9 hown9 hgrow9 _ hat9;obtain⟨ao9,cp9,rfl⟩:=aF hown9;have hT9:=CmT.push (p:=p) (hT.al _) hown9 hgrow9 hat9)
   refine⟨CoI.intro x [] (o++[p]) _ f rfl hT9 (by rw[List.append_assoc];exact He.out) (by simp at hf ⊢;omega) (by simp;omega),?_⟩
   rw[hT9.rl,hrl.out];simp
  ·have e1:(p.kind == 3)=false:=by simpa using hk
   have e:=HF.out
   rw[aRl hk,List.append_nil] at e
   have He:=Lib.hid e
   clear e HF hk
   go_wp2_with fail
   refine (lF hT.rx).mono ?_
   rintro e wd ⟨rfl,rfl⟩
   go_wp2_with fail
   refine (jG _ _ _ _ _ _ hT.rx).mono ?_
   rintro e wh ⟨rfl,hBh⟩
   have hT:=hT.below hBh
   clear hBh
   go_wp2_with fail
   refine (qK hT.rz).mono ?_
   rintro e wd ⟨rfl,rfl⟩
   go_wp2_with fail
   refine (lF hT.rx).mono ?_
   rintro e wd ⟨rfl,rfl⟩
   go_wp2_with fail
   refine (qK hT.rz).mono ?_
   rintro e wd ⟨rfl,rfl⟩
   go_wp2
   rw[Exit.noGoto_ret]
   go_returns
   refine⟨_,rfl,?_,hT.bl⟩
   rw[← He.out];exact hT.own
 | p::x,q::y =>
  have hfp:=aEc p.kind p.n p.text
  have hfq:=aEc q.kind q.n q.text
  obtain⟨f,rfl⟩:∃ g,f=g+1:=⟨f-1,by simp at hf;omega⟩
  by_cases hk:p.kind=3
  ·have e1:(p.kind == 3)=true:=by simpa using hk
   have e:=HF.out
   rw[aOy hk] at e
   have He:=Lib.hid e
   clear e hk HF
   go_wp2_with fail
   refine (lF hT.rx).mono ?_
   rintro e wd ⟨rfl,rfl⟩
   go_wp2_with fail
   refine (jG _ _ _ _ _ _ hT.rx).mono ?_
   rintro e wh ⟨rfl,hBh⟩
   have hT:=hT.below hBh
   clear hBh
   go_wp2_with fail
   refine (pY _ _ _ _ _ _ hT.rx).mono ?_
   rintro e w3 ⟨rfl,hR3,hK3⟩
   have hT:=hT.atX (fun p hp=>hpx.out p (List.mem_cons_of_mem _ hp)) hR3 (hK3.mono fun k hk => .inl hk)
   clear hR3 hK3
   go_wp2_with (at_builtin;refine wpList_append_own_at _ rfl _ _ 47 rfl w.heap.size 94 i0 _ 3 32 Tryz.underlying47 hi hz0 hz1 hz2 rfl (by decide) _ _ _ rfl (hT.own.alloc _) ⟨_,0,none⟩ 1 1 (pcL p) rfl rfl (fC _ _ _) (iT _) (by unfold maxLen;omega) (by omega) (by have:=hT.bl.size;(try simp only[World.size_alloc] at this ⊢);omega) ?_;intro v' w9 hown9 hgrow9 _ hat9;obtain⟨ao9,cp9,rfl⟩:=aF hown9;have hT9:=CmT.push (p:=p) (hT.al _) hown9 hgrow9 hat9)
   refine⟨CoI.intro x (q::y) (o++[p]) _ f rfl hT9 (by rw[List.append_assoc];exact He.out) (by simp at hf ⊢;omega) (by simp;omega),?_⟩
   rw[hT9.rl,hrl.out];simp
  have e1:(p.kind == 3)=false:=by simpa using hk
  by_cases hk2:q.kind=2
  ·have e2:(q.kind == 2)=true:=by simpa using hk2
   have e:=HF.out
   rw[aSz hk hk2] at e
   have He:=Lib.hid e
   clear e hk hk2 HF
   go_wp2_with fail
   refine (lF hT.rx).mono ?_
   rintro e wd ⟨rfl,rfl⟩
   go_wp2_with fail
   refine (jG _ _ _ _ _ _ hT.rx).mono ?_
   rintro e wh ⟨rfl,hBh⟩
   have hT:=hT.below hBh
   clear hBh
   go_wp2_with fail
   refine (lF hT.rz).mono ?_
   rintro e wd ⟨rfl,rfl⟩
   go_wp2_with fail
   refine (jG _ _ _ _ _ _ hT.rz).mono ?_
   rintro e wh ⟨rfl,hBh⟩
   have hT:=hT.below hBh
   clear hBh
   go_wp2_with fail
   refine (pY _ _ _ _ _ _ hT.rz).mono ?_
   rintro e w3 ⟨rfl,hR3,hK3⟩
   have hT:=hT.atZ (fun p hp=>hpz.out p (List.mem_cons_of_mem _ hp)) hR3 (hK3.mono fun k hk => .inl hk)
   clear hR3 hK3
   go_wp2_with (at_builtin;refine wpList_append_own_at _ rfl _ _ 47 rfl w.heap.size 94 i0 _ 3 32 Tryz.underlying47 hi hz0 hz1 hz2 rfl (by decide) _ _ _ rfl (hT.own.alloc _) ⟨_,0,none⟩ 1 1 (pcL q) rfl rfl (fC _ _ _) (iT _) (by unfold maxLen;omega) (by omega) (by have:=hT.bl.size;(try simp only[World.size_alloc] at this ⊢);omega) ?_;intro v' w9 hown9 hgrow9 _ hat9;obtain⟨ao9,cp9,rfl⟩:=aF hown9;have hT9:=CmT.push (p:=q) (hT.al _) hown9 hgrow9 hat9)
   refine⟨CoI.intro (p::x) y (o++[q]) _ f rfl hT9 (by rw[List.append_assoc];exact He.out) (by simp at hf ⊢;omega) (by simp;omega),?_⟩
   rw[hT9.rl,hrl.out];simp
  have e2:(q.kind == 2)=false:=by simpa using hk2
  have hp:=hpx.out p (by simp)
  have hq:=hpz.out q (by simp)
  have l1:=kW hp.1
  have l2:=kW hq.1
  obtain⟨n,hn⟩:∃ n,(min (gT p) (gT q)).toNat=n:=⟨_,rfl⟩
  have n1:1≤n:=by omega
  have hnp:(n:Int)≤gT p:=by omega
  have hnq:(n:Int)≤gT q:=by omega
  have hni:min (p.n+p.text.size) (q.n+q.text.size)=(n:Int):=by unfold gT at hn l1 l2;omega
  have e:=HF.out
  rw[aS0 hk hk2 hn] at e
  have He:=Lib.hid e
  have kA:=(wT hp n1 hnp).2
  have kB:=(wT hq n1 hnq).2
  have zA:=Lib.hid (wU hp (fun r hr=>hpx.out r (List.mem_cons_of_mem _ hr)) n1 hnp)
  have zB:=Lib.hid (wU hq (fun r hr=>hpz.out r (List.mem_cons_of_mem _ hr)) n1 hnq)
  have sA:=(oM hp.1 n1 hnp (x:=x) fun r hr=>(hpx.out r (List.mem_cons_of_mem _ hr)).1).2.2.2.2.2.2.2
  have sB:=(oM hq.1 n1 hnq (x:=y) fun r hr=>(hpz.out r (List.mem_cons_of_mem _ hr)).1).2.2.2.2.2.2.2
  have hlen:(iU p x n).length+(iU q y n).length≤f∧(iU p x n).length+(iU q y n).length<(p::x).length+(q::y).length:=by
   simp only[List.length_cons] at hf ⊢
   rcases (by omega:(n:Int)=gT p∨(n:Int)=gT q) with h | h
   ·rw[sA.2 h];omega
   ·rw[sB.2 h];omega
  have c0:0≤p.n:=by rcases hp.1 with⟨_,h,_⟩ | ⟨_,h,_⟩<;>omega
  have c1:0≤q.n:=by rcases hq.1 with⟨_,h,_⟩ | ⟨_,h,_⟩<;>omega
  have b0:=hp.2.1
  have b1:=hp.2.2
  have b2:=hq.2.1
  have b3:=hq.2.2
  have b4:n≤2000000:=by unfold gT at hnp;rcases hp.1 with⟨_,_,h⟩ | ⟨_,h,_⟩<;>omega
  have Hlen:=Lib.hid hlen
  have KA:=Lib.hid kA
  have KB:=Lib.hid kB
  clear kA kB
  have Hp:=Lib.hid hp
  have Hq:=Lib.hid hq
  have HnI:=hni
  clear e hk2 HF hlen sA sB hp hq l1 l2 hnp hnq hn hk
  go_wp2_with fail
  refine (lF hT.rx).mono ?_
  rintro e wd ⟨rfl,rfl⟩
  go_wp2_with fail
  refine (jG _ _ _ _ _ _ hT.rx).mono ?_
  rintro e wh ⟨rfl,hBh⟩
  have hT:=hT.below hBh
  clear hBh
  go_wp2_with fail
  refine (lF hT.rz).mono ?_
  rintro e wd ⟨rfl,rfl⟩
  go_wp2_with fail
  refine (jG _ _ _ _ _ _ hT.rz).mono ?_
  rintro e wh ⟨rfl,hBh⟩
  have hT:=hT.below hBh
  clear hBh
  go_wp2_with fail
  refine (lF hT.rx).mono ?_
  rintro e wd ⟨rfl,rfl⟩
  go_wp2_with fail
  refine (lF hT.rz).mono ?_
  rintro e wd ⟨rfl,rfl⟩
  go_wp2_with fail
  refine (jG _ _ _ _ _ _ hT.rx).mono ?_
  rintro e wh ⟨rfl,hBh⟩
  have hT:=hT.below hBh
  clear hBh
  go_wp2_with fail
  refine (wW p _ (by omega) (by omega)).mono ?_
  rintro e wl ⟨rfl,hBl⟩
  have hT:=hT.below hBl
  clear hBl
  go_wp2_with fail
  refine (jG _ _ _ _ _ _ hT.rz).mono ?_
  rintro e wh ⟨rfl,hBh⟩
  have hT:=hT.below hBh
  clear hBh
  go_wp2_with fail
  refine (wW q _ (by omega) (by omega)).mono ?_
  rintro e wl ⟨rfl,hBl⟩
  have hT:=hT.below hBl
  clear hBl
  go_wp2_with fail
  refine (aCo _ _ _ _ _ n _ hT.rx Hp.out b4).mono ?_
  rintro e w7 ⟨rfl,hR7,hK7⟩
  have hT:=hT.atX zA.out hR7 hK7
  clear hR7 hK7
  go_wp2_with fail
  refine (aCo _ _ _ _ _ n _ hT.rz Hq.out b4).mono ?_
  rintro e w8 ⟨rfl,hR8,hK8⟩
  have hT:=hT.atZ zB.out hR8 hK8
  clear hR8 hK8
  have hT:=(hT.al (.cells #[.int .u8 (takeA p n).kind,.int .i64 (takeA p n).n,.string (takeA p n).text] 94)).al (.cells #[.int .u8 (takeA q n).kind,.int .i64 (takeA q n).n,.string (takeA q n).text] 94)
  have e:=He.out
  by_cases h1:q.kind=1
  ·have e3:((takeA q n).kind == 1)=true:=by rw[KB.out,h1];rfl
   rw[if_pos h1] at e
   have hnN:=fC ((w8.alloc (.cells #[.int .u8 (takeA p n).kind,.int .i64 (takeA p n).n,.string (takeA p n).text] 94)).alloc (.cells #[.int .u8 (takeA q n).kind,.int .i64 (takeA q n).n,.string (takeA q n).text] 94)) (pcL (takeA p n)) 94
   rw[World.size_alloc,World.size_alloc] at hnN
   go_wp2_with (at_builtin;refine wpList_append_own_at _ rfl _ _ 47 rfl w.heap.size 94 i0 _ 3 32 Tryz.underlying47 hi hz0 hz1 hz2 rfl (by decide) _ _ _ rfl (hT.own.alloc _) ⟨_,0,none⟩ 1 1 (pcL (takeA p n)) rfl rfl (fun j u hj=>hnN j u hj) (iT _) (by unfold maxLen;omega) (by omega) (by have:=hT.bl.size;(try simp only[World.size_alloc] at this ⊢);omega) ?_;intro v' w9 hown9 hgrow9 _ hat9;obtain⟨ao9,cp9,rfl⟩:=aF hown9;have hT9:=CmT.push (p:=(takeA p n)) (hT.al _) hown9 hgrow9 hat9)
   refine⟨CoI.intro (iU p x n) (iU q y n) (o++[takeA p n]) _ f rfl hT9 (by rw[List.append_assoc];exact e) Hlen.out.1 (by simp;omega),?_⟩
   rw[hT9.rl,hrl.out];exact Hlen.out.2
  have e3:((takeA q n).kind == 1)=false:=by rw[KB.out];simpa using h1
  rw[if_neg h1] at e
  by_cases h2:p.kind=1
  ·have e4:((takeA p n).kind == 1)=true:=by rw[KA.out,h2];rfl
   rw[if_pos h2] at e
   have hnN:=fC ((w8.alloc (.cells #[.int .u8 (takeA p n).kind,.int .i64 (takeA p n).n,.string (takeA p n).text] 94)).alloc (.cells #[.int .u8 (takeA q n).kind,.int .i64 (takeA q n).n,.string (takeA q n).text] 94)) (pcL (takeA q n)) 94
   rw[World.size_alloc,World.size_alloc] at hnN
   go_wp2_with (at_builtin;refine wpList_append_own_at _ rfl _ _ 47 rfl w.heap.size 94 i0 _ 3 32 Tryz.underlying47 hi hz0 hz1 hz2 rfl (by decide) _ _ _ rfl (hT.own.alloc _) ⟨_,0,none⟩ 1 1 (pcL (takeA q n)) rfl rfl (fun j u hj=>hnN j u hj) (iT _) (by unfold maxLen;omega) (by omega) (by have:=hT.bl.size;(try simp only[World.size_alloc] at this ⊢);omega) ?_;intro v' w9 hown9 hgrow9 _ hat9;obtain⟨ao9,cp9,rfl⟩:=aF hown9;have hT9:=CmT.push (p:=(takeA q n)) (hT.al _) hown9 hgrow9 hat9)
   refine⟨CoI.intro (iU p x n) (iU q y n) (o++[takeA q n]) _ f rfl hT9 (by rw[List.append_assoc];exact e) Hlen.out.1 (by simp;omega),?_⟩
   rw[hT9.rl,hrl.out];exact Hlen.out.2
  have e4:((takeA p n).kind == 1)=false:=by rw[KA.out];simpa using h2
  rw[if_neg h2,List.nil_append] at e
  go_wp2
  refine⟨CoI.intro (iU p x n) (iU q y n) o _ f rfl hT (by exact e) Hlen.out.1 (by omega),?_⟩
  rw[hT.rl,hrl.out];exact Hlen.out.2
end Go.Proofs.YtdeiocppghhfdaaGreat
namespace Go.Proofs.YtdeiocppghhfdaaGreat
open Go.RowKit Go.Lib Go.Shelf
theorem xN {P:Program} (w:World) {o:Oper} {a:Act} {K:Act→World→Prop} {Q:Exit→Act→World→Prop} (s x:Operand) (t:TypeId)
  (ho:o.op = .call { callee := .builtin .append,args := #[s,x],argTypes := #[t,t] })
  (base:Nat) (e:TypeId) (i:TypeInfo) (z:Value) (size bytes:Nat) (ht:P.underlying t=some (.slice e)) (hi:P.info? e=some i) (hz:i.zero=some z)
  (hsize:i.size=size) (hby:i.bytes=bytes) (hzs:z.cells.size=size) (hsz:0<size)
  (v:Value) (n:Nat) (xs:List Value) (hs:a.eval s=v) (hown:w.ownsRow base e size v n xs)
  (ad:Addr) (m c:Nat) (news:List Value) (hx:a.eval x = .slice (some ad) m c) (hl:news.length=m*size) (hnews:∀ j u,news[j]? = some u→w.cell? (ad.add j)=some u) (h1:∀ u∈news,u.oneCell'=true)
  (h63:n+m≤maxLen) (hbytes:(n+m)*bytes≤140737488355328) (hbase:base≤w.heap.size)
  (h:∀ v' w',w'.ownsRow base e size v' (n+m) (xs++news)→w.grownBy w' v.ownBlock→(v' = .slice none 0 0↔v = .slice none 0 0∧m=0)→(v'.ownBlock=v.ownBlock∨v'.ownBlock=some w.heap.size)→K (a.put o.dst v') w'):o.wp P a w K Q:=by
 obtain⟨v',w',hr,h2,h3,h4,h5⟩:=run_append_own_at (P:=P) w base t o.type e i z size bytes ht hi hz hsize hby hzs hsz v n xs hown ad m c news hl hnews h1 h63 hbytes hbase
 unfold Oper.wp execOp
 simp only[ho,resolve,invoke,builtin,Sem.run_bind,Sem.run_pure,Result.andThen_ok,List.map_toArray,List.map_cons,List.map_nil,hs,hx,hr]
 exact h v' w' h2 h3 h4 h5
theorem aGx (B bt bo bg:Nat) (out:List PcV) (tx:List UInt8) (gone:Int) (w:World) (h:FSt w B bt bo bg out tx gone) (hx:tx≠[]) (hgg:0<gone) (hl:out.length≤100000) (h1:B≤bo) (h2:B≤bg) (hB:B≤w.heap.size) :
  Calls Tryz.prog 258 #[.pointer (some ⟨bt,0,none⟩),.pointer (some ⟨bo,0,none⟩),.pointer (some ⟨bg,0,none⟩)] w fun e w'=>e = .returned (.tuple #[])∧FSt w' B bt bo bg (oW (oV out tx) gone) [] 0∧Below B w w'∧aEv bo w w':=by
 obtain⟨i0,hi,hz0,hz1,hz2⟩:=info_parts qP
 obtain⟨hb,⟨v,hv,hown⟩,hgb⟩:=h
 obtain⟨hc,hcf⟩:=box1 hv
 obtain⟨hcg,hcgf⟩:=box1 hgb
 have hlt:=(Array.getElem?_eq_some_iff.1 hv).1
 have hlg:=(Array.getElem?_eq_some_iff.1 hgb).1
 have hne:some bo≠v.ownBlock:=own_ne hown hv (by decide)
 have hne2:some bg≠v.ownBlock:=own_ne hown hgb (by decide)
 have hlen:decide ((0:Int)<((Lib.byteCells tx).length:Int))=true:=by
  rw[Lib.byteCells_length]
  have:tx.length≠0:=fun h=>hx (List.eq_nil_of_length_eq_zero h)
  simp;omega
 have hx:=Lib.hid hx
 have hd:decide (0<gone)=true:=by simpa using hgg
 go_enter Tryz.func258,Tryz.ntmps258
 have hlen0:0<(Lib.byteCells tx).length:=by simpa using hlen
 go_wp2_with (first | (go_at_call 259;refine (Tryz.Builder_Len_f B bt _ _ hb).mono ?_;rintro e w' ⟨rfl,rfl⟩))
 all_goals try omega
 have hbD:BuF B bt (Lib.byteCells tx) w'.drew:=hb
 have hBD:B≤w'.drew.heap.size:=hB
 have hvD:w'.drew.heap[bo]? = _:=hv
 have hgD:w'.drew.heap[bg]? = _:=hgb
 have hoD:w'.drew.ownsRow _ _ _ _ _ _:=hown
 go_region_law (first | (rw[if_pos (by rfl)];refine xN _ _ _ 47 rfl B 94 i0 _ 3 32 Tryz.underlying47 hi hz0 hz1 hz2 rfl (by decide) _ _ _ rfl (hown1.alloc _) ⟨_,0,none⟩ 1 1 (pcL ⟨2,0,⟨tx.toArray⟩⟩) rfl rfl (fC _ _ _) (iT _) (by unfold maxLen;omega) (by omega) (by have:=hB1.size;simp;omega) ?_;intro v' w3 hown' hgrow _ hnear;obtain⟨ao,cap',rfl⟩:=aF hown';have hb3:=(hgrow.block bo (by have:=(Array.getElem?_eq_some_iff.1 hv1).1;simp;omega) hne).trans ((heap_alloc_old _ _ (Array.getElem?_eq_some_iff.1 hv1).1).trans hv1);obtain⟨hc3,hf3⟩:=box1 hb3;have hg3:=(hgrow.block bg (by have:=(Array.getElem?_eq_some_iff.1 hg1).1;simp;omega) hne2).trans ((heap_alloc_old _ _ (Array.getElem?_eq_some_iff.1 hg1).1).trans hg1);have hbg:bg≠bo:=(fun e=>by subst e;rw[hg3] at hb3;injection hb3 with hb3;injection hb3 with _ h _;exact absurd h (by decide));have hg4:=(Below.heap_setCell w3 ⟨bo,0,none⟩ (.slice ao (out.length+1) cap') bg hbg).trans hg3;obtain⟨hcg4,hfg4⟩:=box1 hg4) | (rw[if_pos (by rfl)];go_simp;go_at_call 174;refine (Tryz.Builder_String_any_k B bt tx _ hbD hBD).mono ?_;rintro e w1 ⟨rfl,hb1,hB1,hk1⟩;obtain⟨cbs,hbb⟩:=BuF.blk hbD;have hv1:=jH hk1 hbb hvD (by decide) (by decide);have hg1:=jH hk1 hbb hgD (by decide) (by decide);have hown1:=vO hk1 hbb hoD (by decide) (by decide);obtain⟨hc1,hcf1⟩:=box1 hv1;obtain⟨hcg1,hcgf1⟩:=box1 hg1;have hlt1:=(Array.getElem?_eq_some_iff.1 hv1).1;have hca:=fun o=>Lib.cell?_alloc_some o hc1))
 all_goals
  have hs:=((fG.alloc w1 _).trans (fG.grown hgrow (hown1.alloc _) (by decide) (by decide))).trans (fG.set hb3 (by decide) (by decide) (.slice ao (out.length+1) cap'))
  have hb4:=BuF.same hb1 hs
  obtain⟨cbs4,hbb4⟩:=BuF.blk hb4
  have hrv:=rR hb3 hown' (by decide)
  have hB4:=((((Below.refl B w').drew.trans hB1).alloc (by have:=hB1.size;simp at *;omega) (.cells (pcL ⟨2,0,⟨tx.toArray⟩⟩).toArray 94)).grown hgrow (by have:=hB1.size;simp at *;omega) (fun k hk=>(hown1.lt k hk).1)).setCell (p:=⟨bo,0,none⟩) h1 (.slice ao (out.length+1) cap')
  have hw4:(w3.setCell ⟨bo,0,none⟩ (.slice ao (out.length+1) cap')).heap.size=w3.heap.size:=by simp[World.setCell]
  go_wp2_with (first | (go_at_call 260;refine (aEt B bt _ _ hb4).mono ?_;rintro e w5 ⟨rfl,hb5,hB5,hk5⟩;have hg5:=jH hk5 hbb4 hg4 (by decide) (by decide);obtain⟨hcg5,hcgf5⟩:=box1 hg5;have hv5:=jH hk5 hbb4 hrv.1 (by decide) (by decide);obtain⟨hcv5,hfv5⟩:=box1 hv5;have hown5:=vO hk5 hbb4 hrv.2 (by decide) (by decide);have hlt5:=(Array.getElem?_eq_some_iff.1 hv5).1;have hlg5:=(Array.getElem?_eq_some_iff.1 hg5).1;have hne5:=own_ne hown5 hv5 (by decide);have hne6:=own_ne hown5 hg5 (by decide)) | (at_builtin;refine wpList_append_own _ rfl _ _ 47 rfl B 94 i0 _ 3 32 Tryz.underlying47 hi hz0 hz1 hz2 rfl (by decide) _ _ _ rfl (hown5.alloc _) ⟨_,0,none⟩ 1 1 (pcL ⟨3,gone,⟨#[]⟩⟩) rfl rfl (fC _ _ _) (iT _) (by unfold maxLen;omega) (by omega) (by have:=(hB4.trans hB5).size;simp;omega) ?_;intro v6 w6 hown6 hgrow6 _;obtain⟨ao6,cap6,rfl⟩:=aF hown6;have hb6:=(hgrow6.block bo (by simp;omega) hne5).trans ((heap_alloc_old _ _ hlt5).trans hv5);obtain⟨hc6,hf6⟩:=box1 hb6;have hg6:=(hgrow6.block bg (by simp;omega) hne6).trans ((heap_alloc_old _ _ hlg5).trans hg5);have hg7:=(Below.heap_setCell w6 ⟨bo,0,none⟩ (.slice ao6 (out.length+1+1) cap6) bg hbg).trans hg6;obtain⟨hcg7,hfg7⟩:=box1 hg7))
  go_end0
  have hs6:=((fG.alloc w5 _).trans (fG.grown hgrow6 (hown5.alloc _) (by decide) (by decide))).trans ((fG.set hb6 (by decide) (by decide) (.slice ao6 (out.length+1+1) cap6)).trans (fG.set hg7 (by decide) (by decide) (.int .i64 0)))
  have hrv6:=rR hb6 hown6 (by decide)
  have hB45:=hB4.trans hB5
  have hB7:=(((hB45.alloc (by have:=hB45.size;omega) (.cells (pcL ⟨3,gone,⟨#[]⟩⟩).toArray 94)).grown hgrow6 (by have:=hB45.size;simp;omega) (fun k hk=>(hown5.lt k hk).1)).setCell (p:=⟨bo,0,none⟩) h1 (.slice ao6 (out.length+1+1) cap6)).setCell (p:=⟨bg,0,none⟩) h2 (.int .i64 0)
  refine⟨rfl,⟨BuF.same hb5 hs6,?_,lC hg7⟩,hB7,fun k cs v0 hk hv0 hn => ?_⟩
  rotate_left
  ·rw[hv] at hv0;injection hv0 with hv0;injection hv0 with hv0 _ _
   have hv0:v=v0:=by injection hv0 with h0;injection h0
   subst hv0
   have e0:=jH hk1 hbb (show w'.drew.heap[k]? = _ from hk) (by decide) (by decide)
   have hkl:=(Array.getElem?_eq_some_iff.1 e0).1
   have e1:=(hgrow.block k (by simp;omega) hn).trans ((heap_alloc_old _ _ hkl).trans e0)
   have e2:=(kH hb3 e1 (by decide) (.slice ao (out.length+1) cap')).trans e1
   have e5:=jH hk5 hbb4 e2 (by decide) (by decide)
   have hkl5:=(Array.getElem?_eq_some_iff.1 e5).1
   have hn5:some k≠(Value.slice ao (out.length+1) cap').ownBlock:=by
    rcases hnear with h3 | h3
    ·rw[h3];exact hn
    ·rw[h3];intro h4;injection h4 with h4
     have h5:=(Array.getElem?_eq_some_iff.1 hk).1
     have h6:w'.heap.size≤w1.heap.size:=hB1.size
     rw[World.size_alloc] at h4
     omega
   have e6:=(hgrow6.block k (by simp;omega) hn5).trans ((heap_alloc_old _ _ hkl5).trans e5)
   have e7:=(kH hb6 e6 (by decide) (.slice ao6 (out.length+1+1) cap6)).trans e6
   exact ((kH hg7 e7 (by decide) (.int .i64 0)).trans e7).trans hk.symm
  unfold oW oV
  rw[if_neg hx.out,if_pos hgg]
  refine⟨.slice ao6 (out.length+1+1) cap6,(Below.heap_setCell _ ⟨bg,0,none⟩ _ bo (Ne.symm hbg)).trans hrv6.1,?_⟩
  rw[List.length_append,List.length_append,jL,jL]
  exact hrv6.2.kept (row:=some bg) ⟨rfl,rfl,rfl,by simp[World.setCell],fun k _ hk=>Below.heap_setCell _ _ _ _ (fun e=>hk (by simp[e]))⟩ (Or.inr (fun e=>own_ne hrv6.2 hg7 (by decide) e.symm))
theorem aCp (B bt bo bg:Nat) (out:List PcV) (tx:List UInt8) (gone:Int) (w:World) (h:FSt w B bt bo bg out tx gone) (hg:0≤gone) (hl:out.length≤90000) (h1:B≤bo) (h2:B≤bg) (hB:B≤w.heap.size) :
  Calls Tryz.prog 258 #[.pointer (some ⟨bt,0,none⟩),.pointer (some ⟨bo,0,none⟩),.pointer (some ⟨bg,0,none⟩)] w fun e w'=>e = .returned (.tuple #[])∧FSt w' B bt bo bg (iF out tx gone) [] 0∧Below B w w'∧aEv bo w w':=by
 by_cases h0:tx=[]
 ·exact uB B bt bo bg out tx gone w h (.inl h0) hg (by omega) h1 h2 hB
 ·by_cases h3:0<gone
  ·exact aGx B bt bo bg out tx gone w h h0 h3 (by omega) h1 h2 hB
  ·exact uB B bt bo bg out tx gone w h (.inr (by omega)) hg (by omega) h1 h2 hB
end Go.Proofs.YtdeiocppghhfdaaGreat
