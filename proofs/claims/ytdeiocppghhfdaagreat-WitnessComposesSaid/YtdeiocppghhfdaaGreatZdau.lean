/- Texts, one behind another. -/
import Derived.Test.YtdeiocppghhfdaaGreatZdae
set_option linter.unusedVariables false
set_option linter.unusedSimpArgs false
set_option maxRecDepth 100000
set_option maxHeartbeats 8000000
namespace Go.Proofs.YtdeiocppghhfdaaGreat.Hs
open Go.RowKit Go.Lib Go.Shelf
open KitI (own_below)
attribute [local go_sem, local simp] dB dG dE dH dI dJ dK dL dM dF aR aW bB bC aS aV aY bD bE bF bG bH bI bJ bK aU aQ fH fI fJ fK fM fO fP fQ fT fU dN dO dP dQ dR dS dU dV dW dX dY dZ eB bL bM bN bO bP bQ bR bS bT bU bV bW bX bY bZ cB aX fV fZ gB gD gF gG gH gI gJ gK eD eG eH aH aJ
attribute [local go_sem ↓] aK aN
attribute [local go_sem] fF cK aP eO fD
def DRaw (w:World) (c:aA):Prop:=(c.ps=[]∧(c.da=none→c.dc=0))∨∃ b off,c.da=some ⟨b,off,none⟩∧c.ps.length≤c.dc∧c.ps.length<9223372036854775808∧b<w.heap.size∧∀ j u,(fB c.ps)[j]? = some u→w.cell? ⟨b,off+j,none⟩=some u
theorem aFp (ps:List gN) (n j:Nat) (u:Value) (h:(fB (ps.take n))[j]? = some u):(fB ps)[j]? = some u:=by
 have e:fB ps=fB (ps.take n)++fB (ps.drop n):=by
  unfold fB
  rw[← List.flatMap_append,List.take_append_drop]
 rw[e,List.getElem?_append_left (List.getElem?_eq_some_iff.1 h).1]
 exact h
theorem DRaw.cut {w:World} {c:aA} (h:DRaw w c):(lY c).ps=[]∨DAt w (lY c):=by
 rcases h with⟨h1,h2⟩ | ⟨b,off,h1,_,_,h2,h3⟩
 ·exact .inl (by unfold lY;rw[h1];rfl)
 ·exact .inr ⟨Nat.le_trans (aHb c) (by omega),.inr ⟨b,off,h1,h2,fun j u hj=>h3 j u (aFp c.ps 100 j u hj)⟩⟩
theorem DRaw.on {w w':World} {c:aA} (h:DRaw w c) (hb:Below w.heap.size w w'):DRaw w' c:=by
 rcases h with h | ⟨b,off,h1,h4,h5,h2,h3⟩
 ·exact .inl h
 ·exact .inr ⟨b,off,h1,h4,h5,Nat.lt_of_lt_of_le h2 hb.size,fun j u hj=>by rw[hb.cell (p:=⟨b,off+j,none⟩) h2];exact h3 j u hj⟩
theorem DRaw.of {w:World} {c:aA} (h:DAt w c) (hc:c.ps.length≤c.dc):DRaw w c:=by
 rcases h with⟨h0,⟨h1,h2,h3⟩ | ⟨b,off,h1,h2,h3⟩⟩
 ·exact .inl ⟨h2,fun _=>h3⟩
 ·exact .inr ⟨b,off,h1,hc,by omega,h2,h3⟩
theorem aFq (c:aA) (n:Nat) (h:n=(c.ps.take 100).length):(aB c).set 26 (.slice c.da n c.dc)=aB (lY c):=by subst h;rfl
def aSb (w:World) (cs:List aA) (o i:Value) (wr:World):Prop :=
 ∃ k:Nat,i = .int .i64 k∧k≤24∧k≤cs.length∧ORow w w.heap.size wr o (fewL (cs.take k))∧Below w.heap.size w wr
attribute [local go_sem, local simp] nC
theorem aNt (b off cap:Nat) (cs:List aA) (w:World) (hb:b<w.heap.size) (hC:CAt w b off cs) (hs:cs.length<9223372036854775808) (hd:∀ c∈cs,DRaw w c) :
  Calls Tryz.prog 35 #[.slice (some ⟨b,off,none⟩) cs.length cap] w fun e w'=>∃ v,e = .returned v∧ORow w w.heap.size w' v (fewL cs)∧Below w.heap.size w w':=by
 obtain⟨i0,hi,hz0,hz1,hz2⟩:=info_parts aRt
 go_enter Tryz.func35,Tryz.ntmps35
 go_wp2
 go_loopw [3,4] (fun o i wr=>aSb w cs o i wr) (fun o i wr=>cs.length-(intOf i).toNat)
 case atStart=>exact⟨0,rfl,by omega,by omega,ORow.nil _ _ _,Below.refl _ _⟩
 case round =>
  obtain⟨k,rfl,hk,hk2,hR,hB⟩:=hrel
  by_cases hlt:k<cs.length
  ·by_cases h24:k<24
   ·obtain⟨c,hc⟩:∃ c,cs[k]? = some c:=⟨_,List.getElem?_eq_getElem hlt⟩
    have hld:=(hC.below hB hb).load hc
    have hst:=aMg hc h24
    have hle:=rJ (cs.take k)
    have hdc:=(hd c (List.mem_of_getElem? hc)).on hB
    generalize fewL (cs.take k)=L at *
    have Hst:=Lib.hid hst
    clear hst hc
    have hBa:Below wr.heap.size wr (wr.alloc (.cells (aB c).toArray 56)):=(Below.refl _ _).alloc (Nat.le_refl _) _
    have hBa2:Below wr.heap.size wr (wr.alloc (.cells (aB (lY c)).toArray 56)):=(Below.refl _ _).alloc (Nat.le_refl _) _
    have cp:=aC1 (lY c) (wr.alloc (.cells (aB (lY c)).toArray 56)) ((hdc.on hBa2).cut)
    have hB5:=hB.trans (hBa2.mono hB.size)
    have hR2:=hR.on hBa2
    have hld2:=fF wr (lY c)
    clear hR
    rcases hdc with⟨h2,h3⟩ | ⟨b',off',h1,h4,h5,h2,h3⟩
    ·have hset:=aFq c (min (0:Int) 100).toNat (by rw[h2];rfl)
     have q26:=aQ c
     have g26:=aX c
     rw[h2,List.length_nil] at q26 g26
     cases hda:c.da with
     | none =>
      rw[hda] at q26 g26 hset
      rw[h3 hda] at q26 g26 hset
      clear h2 h3 hda
      go_wp2_with fail
      refine cp.mono ?_
      clear cp hset q26 g26 hld2
      rintro e w2 ⟨c',rfl,hpu,hDc,hB2⟩
      have hsz:w.heap.size≤w2.heap.size:=Nat.le_trans hB5.size hB2.size
      have hBw:=hB5.trans (hB2.mono hB5.size)
      have hDw:=hDc.mono hB5.size
      have hR3:=hR2.on hB2
      clear hR2 hB2 hB5 hDc hBa hBa2 hld
      obtain⟨cs',hm,hown2,hD2⟩:=hR3
      have hlen:cs'.length≤24:=by rw[← List.length_map (f:=aA.pure),hm];exact hle
      have Hlen:=Lib.hid hlen
      have hl1:=aH c'
      have ho1:=tY c'
      have hn1:=fC w2 (aB c') 56
      clear hlen
      go_wp2_with (at_builtin;(try simp only[nC]);refine wpList_append_own _ rfl _ _ 25 rfl w.heap.size 56 i0 _ 27 240 Tryz.underlying25 hi hz0 hz1 hz2 rfl (by decide) _ _ _ rfl (hown2.alloc _) ⟨_,0,none⟩ 1 1 (aB c') rfl (by rw[hl1]) hn1 ho1 (by have:=Hlen.out;unfold maxLen;omega) (by have:=Hlen.out;omega) (by simp;omega) ?_;intro v' w3 hown' hgrow _)
      have hB3:=(hBw.alloc hsz _).grown hgrow (by simp;omega) fun k hk=>(hown2.lt k hk).1
      go_roundw
      case rel=>exact⟨k+1,by go_num,by omega,by omega,⟨cs'++[c'],by rw[List.map_append,hm,Hst.out,List.map_singleton,hpu],by rw[qB,List.length_append];exact hown',fun c hc=>by
        rcases List.mem_append.1 hc with hc | hc
        ·exact ((hD2 c hc).on ((Below.refl _ _).alloc (Nat.le_refl _) _)).grown (hown2.alloc _) hgrow
        ·rw[List.mem_singleton.1 hc];exact (hDw.on ((Below.refl _ _).alloc (Nat.le_refl _) _)).grown (hown2.alloc _) hgrow⟩,hB3⟩
      case measure=>simp[intOf];omega
     | some ad =>
      rw[hda] at q26 g26 hset
      clear h2 h3 hda
      go_wp2_with fail
      refine cp.mono ?_
      clear cp hset q26 g26 hld2
      rintro e w2 ⟨c',rfl,hpu,hDc,hB2⟩
      have hsz:w.heap.size≤w2.heap.size:=Nat.le_trans hB5.size hB2.size
      have hBw:=hB5.trans (hB2.mono hB5.size)
      have hDw:=hDc.mono hB5.size
      have hR3:=hR2.on hB2
      clear hR2 hB2 hB5 hDc hBa hBa2 hld
      obtain⟨cs',hm,hown2,hD2⟩:=hR3
      have hlen:cs'.length≤24:=by rw[← List.length_map (f:=aA.pure),hm];exact hle
      have Hlen:=Lib.hid hlen
      have hl1:=aH c'
      have ho1:=tY c'
      have hn1:=fC w2 (aB c') 56
      clear hlen
      go_wp2_with (at_builtin;(try simp only[nC]);refine wpList_append_own _ rfl _ _ 25 rfl w.heap.size 56 i0 _ 27 240 Tryz.underlying25 hi hz0 hz1 hz2 rfl (by decide) _ _ _ rfl (hown2.alloc _) ⟨_,0,none⟩ 1 1 (aB c') rfl (by rw[hl1]) hn1 ho1 (by have:=Hlen.out;unfold maxLen;omega) (by have:=Hlen.out;omega) (by simp;omega) ?_;intro v' w3 hown' hgrow _)
      have hB3:=(hBw.alloc hsz _).grown hgrow (by simp;omega) fun k hk=>(hown2.lt k hk).1
      go_roundw
      case rel=>exact⟨k+1,by go_num,by omega,by omega,⟨cs'++[c'],by rw[List.map_append,hm,Hst.out,List.map_singleton,hpu],by rw[qB,List.length_append];exact hown',fun c hc=>by
        rcases List.mem_append.1 hc with hc | hc
        ·exact ((hD2 c hc).on ((Below.refl _ _).alloc (Nat.le_refl _) _)).grown (hown2.alloc _) hgrow
        ·rw[List.mem_singleton.1 hc];exact (hDw.on ((Below.refl _ _).alloc (Nat.le_refl _) _)).grown (hown2.alloc _) hgrow⟩,hB3⟩
      case measure=>simp[intOf];omega
    ·clear h3
     have hset:=aFq c (min (c.ps.length:Int) 100).toNat (by rw[List.length_take];omega)
     have q26:=aQ c
     have g26:=aX c
     rw[h1] at q26 g26 hset
     have hm1:min (c.ps.length:Int) 100≤(c.dc:Int):=by omega
     have hm0:0≤min (c.ps.length:Int) 100:=by omega
     clear h1 h2
     go_wp2_with fail
     refine cp.mono ?_
     clear cp hset q26 g26 hld2
     rintro e w2 ⟨c',rfl,hpu,hDc,hB2⟩
     have hsz:w.heap.size≤w2.heap.size:=Nat.le_trans hB5.size hB2.size
     have hBw:=hB5.trans (hB2.mono hB5.size)
     have hDw:=hDc.mono hB5.size
     have hR3:=hR2.on hB2
     clear hR2 hB2 hB5 hDc hBa hBa2 hld
     obtain⟨cs',hm,hown2,hD2⟩:=hR3
     have hlen:cs'.length≤24:=by rw[← List.length_map (f:=aA.pure),hm];exact hle
     have Hlen:=Lib.hid hlen
     have hl1:=aH c'
     have ho1:=tY c'
     have hn1:=fC w2 (aB c') 56
     clear hlen
     go_wp2_with (at_builtin;(try simp only[nC]);refine wpList_append_own _ rfl _ _ 25 rfl w.heap.size 56 i0 _ 27 240 Tryz.underlying25 hi hz0 hz1 hz2 rfl (by decide) _ _ _ rfl (hown2.alloc _) ⟨_,0,none⟩ 1 1 (aB c') rfl (by rw[hl1]) hn1 ho1 (by have:=Hlen.out;unfold maxLen;omega) (by have:=Hlen.out;omega) (by simp;omega) ?_;intro v' w3 hown' hgrow _)
     have hB3:=(hBw.alloc hsz _).grown hgrow (by simp;omega) fun k hk=>(hown2.lt k hk).1
     go_roundw
     case rel=>exact⟨k+1,by go_num,by omega,by omega,⟨cs'++[c'],by rw[List.map_append,hm,Hst.out,List.map_singleton,hpu],by rw[qB,List.length_append];exact hown',fun c hc=>by
       rcases List.mem_append.1 hc with hc | hc
       ·exact ((hD2 c hc).on ((Below.refl _ _).alloc (Nat.le_refl _) _)).grown (hown2.alloc _) hgrow
       ·rw[List.mem_singleton.1 hc];exact (hDw.on ((Below.refl _ _).alloc (Nat.le_refl _) _)).grown (hown2.alloc _) hgrow⟩,hB3⟩
     case measure=>simp[intOf];omega
   ·have hkk:k=24:=by omega
    subst hkk
    go_wp2
    go_returns
    have e:fewL cs=fewL (cs.take 24):=by unfold fewL;rw[List.take_take,Nat.min_self]
    exact⟨_,rfl,by rw[e];exact hR,hB⟩
  ·have hkk:k=cs.length:=by omega
   subst hkk
   rw[List.take_length] at hR
   go_wp2
   go_returns
   exact⟨_,rfl,hR,hB⟩
theorem aQe (p:Option Addr) (cap:Nat) (w:World):Calls Tryz.prog 35 #[.slice p 0 cap] w fun e w'=>∃ v,e = .returned v∧ORow w w.heap.size w' v (fewL [])∧Below w.heap.size w w':=by
 go_enter Tryz.func35,Tryz.ntmps35
 go_wp2
 refine wp_loop_rounds 1 ?_
 rw[rounds_succ]
 go_wp2
 go_returns
 exact⟨_,rfl,ORow.nil _ _ _,Below.refl _ _⟩
def mJ (w:World) (p:Option Addr) (cs:List aA):Prop:=cs=[]∨∃ b off,p=some ⟨b,off,none⟩∧b<w.heap.size∧CAt w b off cs∧cs.length<9223372036854775808∧∀ c∈cs,c.Ok∧DRaw w c
theorem mJ.on {w w':World} {p:Option Addr} {cs:List aA} (h:mJ w p cs) (hb:Below w.heap.size w w'):mJ w' p cs:=by
 rcases h with h | ⟨b,off,h1,h2,h3,h4,h5⟩
 ·exact .inl h
 ·exact .inr ⟨b,off,h1,Nat.lt_of_lt_of_le h2 hb.size,h3.on hb,h4,fun c hc=>⟨(h5 c hc).1,(h5 c hc).2.on hb⟩⟩
theorem uI (p:Option Addr) (cap:Nat) (cs:List aA) (w:World) (hA:mJ w p cs):Calls Tryz.prog 35 #[.slice p cs.length cap] w fun e w'=>∃ v,e = .returned v∧ORow w w.heap.size w' v (fewL cs)∧Below w.heap.size w w':=by
 rcases hA with rfl | ⟨b,off,rfl,h2,h3,h4,h5⟩
 ·exact aQe p cap w
 ·exact aNt b off cap cs w h2 h3 h4 fun c hc=>(h5 c hc).2
end Go.Proofs.YtdeiocppghhfdaaGreat.Hs
namespace Go.Proofs.YtdeiocppghhfdaaGreat.Hs
open Go.RowKit Go.Lib Go.Shelf
open KitI (own_below)
attribute [local go_sem, local simp] dB dG dE dH dI dJ dK dL dM dF aR aW bB bC aS aV aY bD bE bF bG bH bI bJ bK aU aQ fH fI fJ fK fM fO fP fQ fT fU dN dO dP dQ dR dS dU dV dW dX dY dZ eB bL bM bN bO bP bQ bR bS bT bU bV bW bX bY bZ cB aX fV fZ gB gD gF gG gH gI gJ gK eD eG eH aH aJ
attribute [local go_sem ↓] aK aN
attribute [local go_sem] fF cK aP eO fD
theorem pure_ok {c d:aA} (h:c.pure=d.pure) (hd:d.Ok):c.Ok:=by
 have e1:c.invoked=d.invoked:=(congrArg aA.invoked h:c.pure.invoked=d.pure.invoked)
 have e2:c.answered=d.answered:=(congrArg aA.answered h:c.pure.answered=d.pure.answered)
 have e3:c.steps=d.steps:=(congrArg aA.steps h:c.pure.steps=d.pure.steps)
 have e4:c.took=d.took:=(congrArg aA.took h:c.pure.took=d.pure.took)
 have e5:c.rank=d.rank:=(congrArg aA.rank h:c.pure.rank=d.pure.rank)
 have e6:c.okind=d.okind:=(congrArg aA.okind h:c.pure.okind=d.pure.okind)
 have e7:c.oid=d.oid:=(congrArg aA.oid h:c.pure.oid=d.pure.oid)
 have e8:c.ograv=d.ograv:=(congrArg aA.ograv h:c.pure.ograv=d.pure.ograv)
 have e9:c.oslot=d.oslot:=(congrArg aA.oslot h:c.pure.oslot=d.pure.oslot)
 have f0:c.oat=d.oat:=(congrArg aA.oat h:c.pure.oat=d.pure.oat)
 have f1:c.on=d.on:=(congrArg aA.on h:c.pure.on=d.pure.on)
 obtain⟨a1,a2,a3,a4,a5,a6,a7,a8,a9,a10,b1,b2,b3,b4,b5,b6⟩:=hd
 exact⟨by omega,by omega,by omega,by omega,by omega,by omega,by omega,by omega,by omega,by omega,by omega,by omega,by omega,by omega,by omega,by omega⟩
structure HRow (W:World) (p:Option Addr) (cap:Nat) (cs:List aA):Prop where
 row:CRow W p cap cs
 dat:∀ c∈cs,DAt W c
 ok:∀ c∈cs,c.Ok
 len:cs.length≤24
theorem HRow.on {W W':World} {p:Option Addr} {cap:Nat} {cs:List aA} (h:HRow W p cap cs) (hb:Below W.heap.size W W'):HRow W' p cap cs:=⟨h.row.on hb,fun c hc=>(h.dat c hc).on hb,h.ok,h.len⟩
theorem aFr {W:World} {base:Nat} {v:Value} {cs:List aA} (h:W.ownsRow base 56 27 v cs.length (jF cs)):∃ p cap,v = .slice p cs.length cap∧CRow W p cap cs:=by
 rcases h.2 with⟨h1,h2⟩ | ⟨g,cap,cur,rfl,h2,h3,h4,h5,h6,h7⟩
 ·have:cs=[]:=List.length_eq_zero_iff.1 h2
  subst this
  exact⟨none,0,h1,.inl ⟨rfl,rfl,rfl⟩⟩
 ·refine⟨_,_,rfl,.inr ⟨g,0,rfl,h4,(Array.getElem?_eq_some_iff.1 h3).1,fun j u hj => ?_⟩⟩
  have hlt:=(List.getElem?_eq_some_iff.1 hj).1
  rw[vF] at hlt
  rw[Nat.zero_add,h.cellAt j hlt]
  exact hj
theorem aI3 {w W:World} {base:Nat} {v:Value} {L:List aA} (h:ORow w base W v L) (hok:∀ c∈L,c.Ok) (hl:L.length≤24):∃ p cap hs,v = .slice p hs.length cap∧hs.map aA.pure=L∧HRow W p cap hs:=by
 obtain⟨cs,h1,h2,h3⟩:=h
 obtain⟨p,cap,hv,hC⟩:=aFr h2
 refine⟨p,cap,cs,hv,h1,hC,fun c hc=>(h3 c hc).at,fun c hc => ?_,by rw[← h1] at hl;simpa using hl⟩
 have hm:c.pure∈L:=by rw[← h1];exact List.mem_map_of_mem hc
 exact pure_ok (d:=c.pure) rfl (hok _ hm)
theorem aI4 {cs:List aA} {x:aA} (h:x∈fewL cs):∃ c∈cs,x=(lY c).pure:=by
 unfold fewL at h
 obtain⟨c,hc,rfl⟩:=List.mem_map.1 h
 exact⟨c,List.mem_of_mem_take hc,rfl⟩
theorem aNu {d:aA} (h:d.Ok):(lY d).pure.Ok:=⟨h.i0,h.i1,h.a0,h.a1,h.s0,h.s1,h.t0,h.t1,h.r0,h.r1,h.kd,h.id,h.gr,h.sl,h.at_,h.nn⟩
theorem aTm (p:Option Addr) (cap:Nat) (cs:List aA) (w:World) (hA:mJ w p cs) :
  Calls Tryz.prog 35 #[.slice p cs.length cap] w fun e w'=>∃ p' cap' hs,e = .returned (.slice p' hs.length cap')∧hs.map aA.pure=fewL cs∧HRow w' p' cap' hs∧Below w.heap.size w w':=by
 refine (uI p cap cs w hA).mono ?_
 rintro e w' ⟨v,rfl,hO,hB⟩
 obtain⟨p',cap',hs,rfl,hm,hH⟩:=aI3 hO (fun c hc=>by
  obtain⟨d,hd,rfl⟩:=aI4 hc
  rcases hA with rfl | ⟨_,_,_,_,_,_,h⟩
  ·cases hd
  ·exact aNu (h d hd).1) (rJ cs)
 exact⟨p',cap',hs,rfl,hm,hH,hB⟩
end Go.Proofs.YtdeiocppghhfdaaGreat.Hs
namespace Go.Proofs.YtdeiocppghhfdaaGreat.Hs
open Go.RowKit Go.Lib Go.Shelf
theorem aDl {q:aA→Bool} {cs:List aA} {k:Nat}:(places q cs k).Nodup:=by
 refine List.Pairwise.imp ?_ (qM (q:=q) (cs:=cs) (k:=k))
 intro a b h;omega
theorem aQf {cs:List aA} {L:List Nat} (h:lX cs L) {i:Nat}:i∈L↔∃ c,cs[i]? = some c∧eP c=true:=by
 rw[h.1.mem_iff]
 constructor
 ·exact nA
 ·rintro⟨c,hc,hq⟩
  have:=zG (k:=0) hc hq
  rwa [Nat.zero_add] at this
theorem yQ {cs:List aA} {L:List Nat} (h:lX cs L):L.length≤cs.length:=by
 rw[h.1.length_eq];exact oO
theorem tK {cs:List aA} (h0:(dD cs).2=0) {i:Nat} {c:aA} (hc:cs[i]? = some c):jT c=true:=uR (oP h0 i c hc)
theorem nZ {c:aA} (h:jT c=true) (ha:0≤c.answered):0≤c.took∧c.took≤c.answered∧c.invoked≤c.answered:=by
 unfold jT at h;simp at h;omega
theorem aFs {c:aA} (h:jT c=true) (ha:0≤c.took):c.invoked≤c.took:=by
 unfold jT at h;simp at h;omega
theorem aAh {cs:List aA} {i:Nat} {c:aA} (h:cs[i]? = some c):tk cs i=c.took∧rk cs i=c.rank:=by
 unfold tk rk;rw[h];exact⟨rfl,rfl⟩
theorem aQg {cs:List aA} (h0:(dD cs).2=0) {i j:Nat} {a b:aA} (ha:cs[i]? = some a) (hb:cs[j]? = some b) (hq:eP b=true) (h:befB a b=true):eP a=true∧tk cs i<tk cs j:=by
 unfold befB at h
 simp only[Bool.and_eq_true,decide_eq_true_eq] at h
 have f1:=nZ (tK h0 ha) h.1
 have f2:=aFs (tK h0 hb) (by simpa [eP] using hq)
 rw[(aAh ha).1,(aAh hb).1]
 exact⟨by simp[eP];omega,by omega⟩
theorem aI5 {R:Nat→Nat→Prop} {L:List Nat} (h:L.Pairwise R) {i j:Nat} (hi:i∈L) (hj:j∈L) (hlt:L.idxOf i<L.idxOf j):R i j:=by
 have a1:=List.idxOf_lt_length_iff.2 hi
 have a2:=List.idxOf_lt_length_iff.2 hj
 have:=List.pairwise_iff_getElem.1 h (L.idxOf i) (L.idxOf j) a1 a2 hlt
 rwa [List.getElem_idxOf a1,List.getElem_idxOf a2] at this
end Go.Proofs.YtdeiocppghhfdaaGreat.Hs
