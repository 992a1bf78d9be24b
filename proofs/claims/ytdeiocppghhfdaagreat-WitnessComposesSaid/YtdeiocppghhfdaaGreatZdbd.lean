/- Texts, one behind another. -/
import Derived.Test.YtdeiocppghhfdaaGreatZdbc
set_option linter.unusedVariables false
set_option linter.unusedSimpArgs false
set_option maxRecDepth 100000
set_option maxHeartbeats 8000000
namespace Go.Proofs.YtdeiocppghhfdaaGreat.Lin
open Go.RowKit Go.Lib Go.Shelf
open Hs
open KitI (iv IRow own_below lS)
attribute [local go_sem, local simp] Hs.dB Hs.dG Hs.dE Hs.dH Hs.dI Hs.dJ Hs.dK Hs.dL Hs.dM Hs.dF Hs.aR Hs.aW Hs.bB Hs.bC Hs.aS Hs.aV Hs.aY Hs.bD Hs.bE Hs.bF Hs.bG Hs.bH Hs.bI Hs.bJ Hs.bK Hs.aU Hs.aQ Hs.fH Hs.fI Hs.fJ Hs.fK Hs.fM Hs.fO Hs.fP Hs.fQ Hs.fT Hs.fU Hs.dN Hs.dO Hs.dP Hs.dQ Hs.dR Hs.dS Hs.dU Hs.dV Hs.dW Hs.dX Hs.dY Hs.dZ Hs.eB Hs.bL Hs.bM Hs.bN Hs.bO Hs.bP Hs.bQ Hs.bR Hs.bS Hs.bT Hs.bU Hs.bV Hs.bW Hs.bX Hs.bY Hs.bZ Hs.cB Hs.aX Hs.fV Hs.fZ Hs.gB Hs.gD Hs.gF Hs.gG Hs.gH Hs.gI Hs.gJ Hs.gK Hs.eD Hs.eG Hs.eH Hs.aH Hs.aJ
attribute [local go_sem ↓] Hs.aK Hs.aN
attribute [local go_sem] Hs.fF Hs.cK Hs.aP Hs.eO Hs.fD
theorem pJ {P:Program} {w:World} {ops:Array Oper} {rest:List Oper} {o:Oper} {a:Act} {Q:Exit→Act→World→Prop} (hgd:o.guard=none) (s x:Operand) (t:TypeId)
  (ho:o.op = .call { callee := .builtin .append,args := #[s,x],argTypes := #[t,t] })
  (base:Nat) (e:TypeId) (i:TypeInfo) (z:Value) (size bytes:Nat) (ht:P.underlying t=some (.slice e)) (hi:P.info? e=some i) (hz:i.zero=some z)
  (hsize:i.size=size) (hby:i.bytes=bytes) (hzs:z.cells.size=size) (hsz:0<size)
  (v:Value) (n:Nat) (xs:List Value) (hs:a.eval s=v) (hown:w.ownsRow base e size v n xs)
  (vx:Value) (m base2:Nat) (news:List Value) (hx:a.eval x=vx) (hox:w.ownsRow base2 e size vx m news) (h1:∀ u∈news,u.oneCell'=true)
  (h63:n+m≤maxLen) (hbytes:(n+m)*bytes≤140737488355328) (hbase:base≤w.heap.size)
  (h:∀ v' w',w'.ownsRow base e size v' (n+m) (xs++news)→w.grownBy w' v.ownBlock→(v'.ownBlock=v.ownBlock∨v'.ownBlock=some w.heap.size)→wpList P ops Q rest (a.put o.dst v') w') :
  wpList P ops Q (o::rest) a w:=by
 rcases hox.2 with⟨hv,hm⟩ | ⟨g,cap,cur,hv,_⟩
 ·subst hv
  subst hm
  have hn:news=[]:=List.eq_nil_of_length_eq_zero (by simpa using hox.1)
  subst hn
  have hrun:=run_append_owned_none (P:=P) (w:=w) base t o.type e i size ht hi v n xs hown
  refine wpList_plain hgd fun K hK => ?_
  unfold Oper.wp execOp
  simp only[ho,resolve,invoke,builtin,Sem.run_bind,Sem.run_pure,Result.andThen_ok,List.map_toArray,List.map_cons,List.map_nil,hs,hx,hrun]
  exact hK _ _ (h v w (by rw[List.append_nil];exact hown) ⟨rfl,rfl,rfl,Nat.le_refl _,fun _ _ _=>rfl⟩ (.inl rfl))
 ·subst hv
  exact wpList_append_own_at (w:=w) hgd s x t ho base e i z size bytes ht hi hz hsize hby hzs hsz v n xs hs hown ⟨g,0,none⟩ m cap news hx hox.1 (hox.cells (g:=g) rfl) h1 h63 hbytes hbase (fun v' w' h2 h3 _ h5=>h v' w' h2 h3 h5)
structure O3 (base:Nat) (W:World) (vb vm va:Value) (p:Pts):Prop where
 b:W.ownsRow base tInt 1 vb p.b.length (p.b.map nv)
 m:W.ownsRow base tInt 1 vm p.m.length (p.m.map nv)
 a:W.ownsRow base tInt 1 va p.a.length (p.a.map nv)
 bm:vb.ownBlock=none∨vb.ownBlock≠vm.ownBlock
 ba:vb.ownBlock=none∨vb.ownBlock≠va.ownBlock
 ma:vm.ownBlock=none∨vm.ownBlock≠va.ownBlock
theorem jW {x y:Option Nat} (h:x=none∨x≠y):y=none∨y≠x:=by
 rcases h with h | h
 ·subst h
  cases y with
  | none=>exact .inl rfl
  | some k=>exact .inr (by simp)
 ·exact .inr fun e=>h e.symm
theorem pK {W:World} {base n:Nat} {x:Value} {xs:List Value} {y y':Option Nat} (hx:W.ownsRow base tInt 1 x n xs) (h:x.ownBlock=none∨x.ownBlock≠y) (hat:y'=y∨y'=some W.heap.size):x.ownBlock=none∨x.ownBlock≠y':=by
 rcases hat with rfl | rfl
 ·exact h
 ·cases hb:x.ownBlock with
  | none=>exact .inl rfl
  | some k=>exact .inr fun e=>by have:=(hx.lt k hb).2;injection e with e;omega
section
variable {base:Nat} {W W':World} {vb vm va v':Value} {p:Pts} {i:Nat}
theorem O3.nil (base:Nat) (W:World):O3 base W (.slice none 0 0) (.slice none 0 0) (.slice none 0 0) ⟨[],[],[]⟩ :=
 ⟨World.ownsRow_nil _ _ _ _,World.ownsRow_nil _ _ _ _,World.ownsRow_nil _ _ _ _,.inl rfl,.inl rfl,.inl rfl⟩
theorem O3.on (h:O3 base W vb vm va p) (hb:Below W.heap.size W W'):O3 base W' vb vm va p:=⟨own_below h.b hb,own_below h.m hb,own_below h.a hb,h.bm,h.ba,h.ma⟩
theorem aDv {l:List Nat}:l.map nv++[nv i]=(l++[i]).map nv:=by rw[List.map_append];rfl
theorem O3.addB (h:O3 base W vb vm va p) (ho:W'.ownsRow base tInt 1 v' (p.b.length+1) (p.b.map nv++[nv i])) (hg:W.grownBy W' vb.ownBlock) (hat:v'.ownBlock=vb.ownBlock∨v'.ownBlock=some W.heap.size):O3 base W' v' vm va { p with b:=p.b++[i] } :=
 ⟨by rw[aDv] at ho;simpa using ho,h.m.kept hg (jW h.bm),h.a.kept hg (jW h.ba),jW (pK h.m (jW h.bm) hat),jW (pK h.a (jW h.ba) hat),h.ma⟩
theorem O3.addM (h:O3 base W vb vm va p) (ho:W'.ownsRow base tInt 1 v' (p.m.length+1) (p.m.map nv++[nv i])) (hg:W.grownBy W' vm.ownBlock) (hat:v'.ownBlock=vm.ownBlock∨v'.ownBlock=some W.heap.size):O3 base W' vb v' va { p with m:=p.m++[i] } :=
 ⟨h.b.kept hg h.bm,by rw[aDv] at ho;simpa using ho,h.a.kept hg (jW h.ma),pK h.b h.bm hat,h.ba,jW (pK h.a (jW h.ma) hat)⟩
theorem O3.addA (h:O3 base W vb vm va p) (ho:W'.ownsRow base tInt 1 v' (p.a.length+1) (p.a.map nv++[nv i])) (hg:W.grownBy W' va.ownBlock) (hat:v'.ownBlock=va.ownBlock∨v'.ownBlock=some W.heap.size):O3 base W' vb vm v' { p with a:=p.a++[i] } :=
 ⟨h.b.kept hg h.ba,h.m.kept hg h.ma,by rw[aDv] at ho;simpa using ho,h.bm,pK h.b h.ba hat,pK h.m h.ma hat⟩
end
def aQk (w:World) (cs:List aA) (e:Ending) (w':World):Prop :=
 ((dD cs).2=22∧e = .returned (.tuple #[.slice none 0 0,.int .i64 22])∧Below w.heap.size w w') ∨
 ((dD cs).2=0∧∃ v E,lX cs E∧e = .returned (.tuple #[v,.int .i64 0])∧w'.ownsRow w.heap.size tInt 1 v (ordW cs E).length ((ordW cs E).map nv)∧Below w.heap.size w w')
def ORl (cs:List aA) (E:List Nat) (z base:Nat) (w:World) (vb vm va i:Value) (wr:World):Prop :=
 ∃ (k:Nat) (p:Pts),i = .int .i64 k∧k≤E.length∧Below w.heap.size w wr∧O3 base wr vb vm va p∧ptsW cs z (E.take k)=p
structure KK (nb bq o:Nat) (c d:aA) (W0:World):Prop where
 new:W0.heap[nb]? = some (.cells (aB c).toArray 56 (0,0))
 d10:W0.cell? ⟨bq,o+10,none⟩=some (.int .i64 d.took)
 d11:W0.cell? ⟨bq,o+11,none⟩=some (.int .i64 d.rank)
theorem KK.k14 {nb bq o:Nat} {c d:aA} {W0 W:World} (h:KK nb bq o c d W0) (hb:Below W0.heap.size W0 W):W.cell? ⟨nb,10,none⟩=some (.int .i64 c.took)∧W.cell? ⟨nb,9,none⟩=some (.int .i64 c.invoked)∧W.cell? ⟨nb,14,none⟩=some (.int .i64 c.err)∧W.cell? ⟨bq,o+10,none⟩=some (.int .i64 d.took):=by
 have hn:=gU h.new hb (Array.getElem?_eq_some_iff.1 h.new).1
 exact⟨by rw[aM hn];rfl,by rw[aM hn];rfl,by rw[aM hn];rfl,(hb.cell (iD h.d10)).trans h.d10⟩
theorem KK.k16 {nb bq o:Nat} {c d:aA} {W0 W:World} (h:KK nb bq o c d W0) (hb:Below W0.heap.size W0 W):W.cell? ⟨nb,10,none⟩=some (.int .i64 c.took)∧W.cell? ⟨nb,11,none⟩=some (.int .i64 c.rank)∧W.cell? ⟨bq,o+10,none⟩=some (.int .i64 d.took)∧W.cell? ⟨bq,o+11,none⟩=some (.int .i64 d.rank):=by
 have hn:=gU h.new hb (Array.getElem?_eq_some_iff.1 h.new).1
 exact⟨by rw[aM hn];rfl,by rw[aM hn];rfl,(hb.cell (iD h.d10)).trans h.d10,(hb.cell (iD h.d11)).trans h.d11⟩
theorem aDw {cs:List aA} {z:Nat}:∀ (E:List Nat) (p:Pts),(E.foldl (stepW cs z) p).b.length+(E.foldl (stepW cs z) p).m.length+(E.foldl (stepW cs z) p).a.length≤p.b.length+p.m.length+p.a.length+E.length
 | [],p=>by simp
 | i::E,p=>by
  have h:=aDw (cs:=cs) (z:=z) E (stepW cs z p i)
  have h2:(stepW cs z p i).b.length+(stepW cs z p i).m.length+(stepW cs z p i).a.length≤p.b.length+p.m.length+p.a.length+1:=by
   unfold stepW
   split
   ·omega
   ·split
    ·simp;omega
    ·split<;>simp<;>omega
  rw[List.foldl_cons,List.length_cons]
  omega
theorem aCa (p:Option Addr) (cap:Nat) (cs:List aA) (w:World) (hC:CRow w p cap cs) (hs:cs.length≤1000) (hok:∀ c∈cs,c.Ok) :
  Calls Tryz.prog 36 #[.slice p cs.length cap] w (aQk w cs):=by
 obtain⟨i0,hi,hz0,hz1,hz2⟩:=info_parts lS
 have hef:=xS p cap cs w hC (by omega) hok
 go_enter Tryz.func36,Tryz.ntmps36
 go_wp2_with fail
 refine hef.mono ?_
 clear hef
 rintro e w1 (⟨h22,rfl,hb1⟩ | ⟨h0,v,E,hE,rfl,hO,hb1⟩)
 ·go_wp2_with fail
  go_returns
  exact .inl ⟨h22,rfl,hb1⟩
 ·obtain⟨ae,qe,rfl⟩:=aF hO
  have hO1:IRd w1 ae (E.map fun (x:Nat)=>(x:Int)):=IRd.of (tO hO rfl)
  have hEl:E.length≤cs.length:=yQ hE
  have hcl:=xY ae p qe cap E cs w1 hO1 (hC.on hb1) (fun i hi=>((sF hE).1 hi).1) (by omega) (by omega)
  cases hc:iA cs E with
  | none =>
   rw[hc] at hcl
   have hord:=aAm hc
   have Hc:=Lib.hid hc
   clear hc
   go_wp2_with fail
   refine hcl.mono ?_
   rintro e w2 ⟨rfl,hb2⟩
   go_wp2_with fail
   go_returns
   refine .inr ⟨h0,_,E,hE,rfl,?_,hb1.trans (hb2.mono hb1.size)⟩
   rw[hord]
   exact gP (by omega) (own_below hO hb2)
  | some z =>
   have ecl:clI (some z)=(z:Int):=rfl
   rw[hc,ecl] at hcl
   have hzE:z∈E:=List.mem_of_find?_eq_some hc
   obtain⟨hzl,_⟩:=(sF hE).1 hzE
   have hord:ordW cs E=(ptsW cs z E).b++(ptsW cs z E).m++[z]++(ptsW cs z E).a:=by unfold ordW;rw[hc]
   have Hc:=Lib.hid hc
   have Hord:=Lib.hid hord
   clear hc hord
   go_wp2_with fail
   refine hcl.mono ?_
   clear hcl
   rintro e w2 ⟨rfl,hb2⟩
   have hbw:Below w.heap.size w w2:=hb1.trans (hb2.mono hb1.size)
   obtain⟨base,hbase⟩:∃ base,w2.heap.size=base:=⟨_,rfl⟩
   have hO2:=hO1.on hb2
   have hC2:=hC.on hbw
   clear hO1 hO hb1 hb2
   go_wp2_with fail
   go_loopw [7,8,9,11,12,29] (fun vb vm va x11 x12 i wr=>ORl cs E z base w2 vb vm va i wr) (fun vb vm va x11 x12 i wr=>E.length-(intOf i).toNat)
   case atStart=>exact⟨0,⟨[],[],[]⟩,rfl,by omega,Below.refl _ _,O3.nil _ _,rfl⟩
   case round =>
    obtain⟨k,pt,rfl,hk,hB,hO3,hpt⟩:=hrel
    obtain⟨av,qv,rfl⟩:=aF hO3.a
    by_cases hlt:k<E.length
    ·obtain⟨i,hiE⟩:∃ i,E[k]? = some i:=⟨_,List.getElem?_eq_getElem hlt⟩
     obtain⟨bo,oo,rfl,hcc⟩:=yT hO2 (by rw[List.length_map];omega)
     have hck:=hcc wr hB k _ (yU hiE)
     have hic:i<cs.length:=((sF hE).1 (List.mem_of_getElem? hiE)).1
     obtain⟨bq,off,rfl,hcap,hbq,hA⟩:=qF hC2 (by omega)
     have hAr:=hA.below hB hbq
     have hld:=hAr.load (gM hic)
     have hst:=aNw (cs:=cs) (z:=z) hiE
     rw[hpt] at hst
     have hpl:pt.b.length+pt.m.length+pt.a.length≤1000:=by
      have:=aDw (cs:=cs) (z:=z) (E.take k) ⟨[],[],[]⟩
      have e:(E.take k).foldl (stepW cs z) ⟨[],[],[]⟩=pt:=hpt
      rw[e,List.length_take] at this
      simp only[List.length_nil] at this
      omega
     have z10:=hAr.cell (gM hzl) 10 (by omega)
     have z11:=hAr.cell (gM hzl) 11 (by omega)
     rw[aR] at z10
     rw[aW] at z11
     have hcL:getC cs i=getC cs i:=rfl
     have hst2:stepW cs z pt i=if i=z then pt else if mvQ cs z i then { pt with m:=pt.m++[i] } else if (!pt.a.isEmpty || afQ cs z i) then { pt with a:=pt.a++[i] } else { pt with b:=pt.b++[i] }:=rfl
     have hmv:mvQ cs z i=(decide ((getC cs z).took<(getC cs i).took) && decide ((getC cs i).invoked<(getC cs z).took) && decide ((getC cs i).err≠13)):=rfl
     have haf:afQ cs z i=(decide ((getC cs z).took<(getC cs i).took) || (decide ((getC cs i).took=(getC cs z).took) && decide ((getC cs z).rank<(getC cs i).rank))):=rfl
     rw[hst2] at hst
     have h0b:Below wr.heap.size wr (wr.alloc (.cells (aB (getC cs i)).toArray 56)):=(Below.refl _ _).alloc (Nat.le_refl _) _
     have hKK:KK wr.heap.size bq (off+z*27) (getC cs i) (getC cs z) (wr.alloc (.cells (aB (getC cs i)).toArray 56)):=⟨iM _ _ _,(h0b.cell (iD z10)).trans z10,(h0b.cell (iD z11)).trans z11⟩
     have hB0:=hB.trans (h0b.mono hB.size)
     have hO0:=hO3.on h0b
     generalize getC cs i=c at *
     generalize getC cs z=d at *
     have Hst:=Lib.hid hst
     have Hmv:=Lib.hid hmv
     have Haf:=Lib.hid haf
     have Hpl:=Lib.hid hpl
     clear hst hst2 hmv haf hpl hcL hcc hO2 hC2 hA hAr hpt hO3 z10 z11
     by_cases hiz:i=z
     ·subst hiz
      go_wp2_with fail
      go_roundw
      case rel=>exact⟨k+1,pt,by go_num,by omega,hB0,hO0,by rw[Hst.out,if_pos rfl]⟩
      case measure=>simp[intOf];omega
     ·have n1:((i:Int) == (z:Int))=false:=by rw[beq_eq_false_iff_ne];omega
      have n2:(i == z)=false:=by simpa using hiz
      have n3:(i=z)=False:=by simpa using hiz
      have Hiz:=Lib.hid hiz
      clear hiz
      go_wp2_with fail
      have HK:=Lib.hid hKK
      clear hKK hld hck
      generalize wr.alloc (.cells (aB c).toArray 56)=W0 at *
      generalize wr.heap.size=nb at *
      have hbs:w2.heap.size≤W0.heap.size:=hB0.size
      by_cases h1:d.took<c.took
      ·have e1:decide (d.took<c.took)=true:=by simpa using h1
       by_cases h2:c.invoked<d.took
       ·have e2:decide (c.invoked<d.took)=true:=by simpa using h2
        by_cases h3:c.err=13
        ·have e3:(c.err != 13)=false:=by simpa using h3
         have em:mvQ cs z i=false:=by rw[Hmv.out,e1,e2];simpa using h3
         clear h1 h2 h3
         by_cases h4:0<pt.a.length
         ·have e4:decide (0<pt.a.length)=true:=by simpa using h4
          have hta:(!pt.a.isEmpty || afQ cs z i)=true:=by
           have:pt.a.isEmpty=false:=by cases ha:pt.a with | nil=>rw[ha] at h4;simp at h4 | cons x l=>rfl
           rw[this];rfl
          have hs2:ptsW cs z (E.take (k+1))={ pt with a:=pt.a++[i] }:=by rw[Hst.out,if_neg Hiz.out,if_neg (by rw[em];simp),if_pos hta]
          have Hs2:=Lib.hid hs2
          clear hs2 em hta
          clear h4
          refine wp_region_noPanic ?_
          refine wp_region_held_drew (S:=fun W=>W.cell? ⟨nb,10,none⟩=some (.int .i64 c.took)∧W.cell? ⟨nb,9,none⟩=some (.int .i64 c.invoked)∧W.cell? ⟨nb,14,none⟩=some (.int .i64 c.err)∧W.cell? ⟨bq,off+z*27+10,none⟩=some (.int .i64 d.took)) (by kernel_rfl) ?_ (fun hHeld => ?_)
          ·first | exact HK.out.k14 (Below.refl _ _).drew | exact HK.out.k14 (Below.refl _ _)
          iterate 25 (first | (refine aL ?_;(try simp only[nSO])) | ((first | refine np_n ?_ ?_ ?_ | refine np_t 0 ?_ ?_ ?_);rotate_left 1;(· (intro w hSw;(try dsimp only at hSw);go_simp;all_goals with_reducible rfl));(try simp only[nSO])))
          refine wpAnyH_done (by kernel_rfl) ?_ _
          refine NoPanic.normal ?_
          go_wp2_with fail
          refine wp_region_noPanic ?_
          refine wp_region_held_drew (S:=fun W=>W.cell? ⟨nb,10,none⟩=some (.int .i64 c.took)∧W.cell? ⟨nb,11,none⟩=some (.int .i64 c.rank)∧W.cell? ⟨bq,off+z*27+10,none⟩=some (.int .i64 d.took)∧W.cell? ⟨bq,off+z*27+11,none⟩=some (.int .i64 d.rank)) (by kernel_rfl) ?_ (fun hHeld => ?_)
          ·first | exact HK.out.k16 (Below.refl _ _).drew | exact HK.out.k16 (Below.refl _ _).drew.drew
          iterate 34 (first | (refine aL ?_;(try simp only[nSO])) | ((first | refine np_n ?_ ?_ ?_ | refine np_t 0 ?_ ?_ ?_);rotate_left 1;(· (intro w hSw;(try dsimp only at hSw);go_simp;all_goals with_reducible rfl));(try simp only[nSO])))
          refine wpAnyH_done (by kernel_rfl) ?_ _
          refine NoPanic.normal ?_
          have hbd:=(Below.refl W0.heap.size W0).drew.drew
          have hO2:=hO0.on hbd
          have hB2:=hB0.drew.drew
          clear hHeld
          generalize W0.drew.drew=W1 at *
          have hl2:=Hpl.out
          go_wp2_with (at_builtin;(refine wpList_append_own_at _ rfl _ _ 28 rfl base tInt i0 (.int .i64 0) 1 8 Tryz.underlying28 hi hz0 hz1 hz2 rfl (by decide) _ _ _ rfl (hO2.a.alloc _) ⟨_,0,none⟩ 1 1 [nv i] rfl rfl (cell_one_new _ _ _) (by simp[Value.oneCell',nv]) (by unfold maxLen;omega) (by omega) (by have:=hB2.size;simp;omega) ?_;intro v5 w5 hO5 hg5 _ hat5))
          have hO6:=(hO2.on (gV _ _)).addA hO5 hg5 hat5
          have hB6:=(hB2.alloc hB2.size (.cells #[.int .i64 (i:Int)] tInt)).grown hg5 (by have:=hB2.size;simp;omega) (fun k hk=>by have:=(hO2.a.lt k hk).1;omega)
          go_roundw
          case rel=>exact⟨k+1,_,by go_num,by omega,hB6,hO6,Hs2.out⟩
          case measure=>simp[intOf];omega
         ·have e4:decide (0<pt.a.length)=false:=by simpa using h4
          have hta:(!pt.a.isEmpty || afQ cs z i)=true:=by
           rw[Haf.out,e1];simp
          have hs2:ptsW cs z (E.take (k+1))={ pt with a:=pt.a++[i] }:=by rw[Hst.out,if_neg Hiz.out,if_neg (by rw[em];simp),if_pos hta]
          have Hs2:=Lib.hid hs2
          clear hs2 em hta
          clear h4
          refine wp_region_noPanic ?_
          refine wp_region_held_drew (S:=fun W=>W.cell? ⟨nb,10,none⟩=some (.int .i64 c.took)∧W.cell? ⟨nb,9,none⟩=some (.int .i64 c.invoked)∧W.cell? ⟨nb,14,none⟩=some (.int .i64 c.err)∧W.cell? ⟨bq,off+z*27+10,none⟩=some (.int .i64 d.took)) (by kernel_rfl) ?_ (fun hHeld => ?_)
          ·first | exact HK.out.k14 (Below.refl _ _).drew | exact HK.out.k14 (Below.refl _ _)
          iterate 25 (first | (refine aL ?_;(try simp only[nSO])) | ((first | refine np_n ?_ ?_ ?_ | refine np_t 0 ?_ ?_ ?_);rotate_left 1;(· (intro w hSw;(try dsimp only at hSw);go_simp;all_goals with_reducible rfl));(try simp only[nSO])))
          refine wpAnyH_done (by kernel_rfl) ?_ _
          refine NoPanic.normal ?_
          go_wp2_with fail
          refine wp_region_noPanic ?_
          refine wp_region_held_drew (S:=fun W=>W.cell? ⟨nb,10,none⟩=some (.int .i64 c.took)∧W.cell? ⟨nb,11,none⟩=some (.int .i64 c.rank)∧W.cell? ⟨bq,off+z*27+10,none⟩=some (.int .i64 d.took)∧W.cell? ⟨bq,off+z*27+11,none⟩=some (.int .i64 d.rank)) (by kernel_rfl) ?_ (fun hHeld => ?_)
          ·first | exact HK.out.k16 (Below.refl _ _).drew | exact HK.out.k16 (Below.refl _ _).drew.drew
          iterate 34 (first | (refine aL ?_;(try simp only[nSO])) | ((first | refine np_n ?_ ?_ ?_ | refine np_t 0 ?_ ?_ ?_);rotate_left 1;(· (intro w hSw;(try dsimp only at hSw);go_simp;all_goals with_reducible rfl));(try simp only[nSO])))
          refine wpAnyH_done (by kernel_rfl) ?_ _
          refine NoPanic.normal ?_
          have hbd:=(Below.refl W0.heap.size W0).drew.drew
          have hO2:=hO0.on hbd
          have hB2:=hB0.drew.drew
          clear hHeld
          generalize W0.drew.drew=W1 at *
          have hl2:=Hpl.out
          go_wp2_with (at_builtin;(refine wpList_append_own_at _ rfl _ _ 28 rfl base tInt i0 (.int .i64 0) 1 8 Tryz.underlying28 hi hz0 hz1 hz2 rfl (by decide) _ _ _ rfl (hO2.a.alloc _) ⟨_,0,none⟩ 1 1 [nv i] rfl rfl (cell_one_new _ _ _) (by simp[Value.oneCell',nv]) (by unfold maxLen;omega) (by omega) (by have:=hB2.size;simp;omega) ?_;intro v5 w5 hO5 hg5 _ hat5))
          have hO6:=(hO2.on (gV _ _)).addA hO5 hg5 hat5
          have hB6:=(hB2.alloc hB2.size (.cells #[.int .i64 (i:Int)] tInt)).grown hg5 (by have:=hB2.size;simp;omega) (fun k hk=>by have:=(hO2.a.lt k hk).1;omega)
          go_roundw
          case rel=>exact⟨k+1,_,by go_num,by omega,hB6,hO6,Hs2.out⟩
          case measure=>simp[intOf];omega
        ·have e3:(c.err != 13)=true:=by simpa using h3
         have em:mvQ cs z i=true:=by rw[Hmv.out,e1,e2];simpa using h3
         have hs2:ptsW cs z (E.take (k+1))={ pt with m:=pt.m++[i] }:=by rw[Hst.out,if_neg Hiz.out,em];rfl
         have Hs2:=Lib.hid hs2
         clear h1 h2 h3 em hs2
         refine wp_region_noPanic ?_
         refine wp_region_held_drew (S:=fun W=>W.cell? ⟨nb,10,none⟩=some (.int .i64 c.took)∧W.cell? ⟨nb,9,none⟩=some (.int .i64 c.invoked)∧W.cell? ⟨nb,14,none⟩=some (.int .i64 c.err)∧W.cell? ⟨bq,off+z*27+10,none⟩=some (.int .i64 d.took)) (by kernel_rfl) ?_ (fun hHeld => ?_)
         ·first | exact HK.out.k14 (Below.refl _ _).drew | exact HK.out.k14 (Below.refl _ _)
         iterate 25 (first | (refine aL ?_;(try simp only[nSO])) | ((first | refine np_n ?_ ?_ ?_ | refine np_t 0 ?_ ?_ ?_);rotate_left 1;(· (intro w hSw;(try dsimp only at hSw);go_simp;all_goals with_reducible rfl));(try simp only[nSO])))
         refine wpAnyH_done (by kernel_rfl) ?_ _
         refine NoPanic.normal ?_
         have hbd:=(Below.refl W0.heap.size W0).drew
         have hO2:=hO0.on hbd
         have hB2:=hB0.drew
         generalize W0.drew=W1 at *
         have hl2:=Hpl.out
         go_wp2_with (at_builtin;(refine wpList_append_own_at _ rfl _ _ 28 rfl base tInt i0 (.int .i64 0) 1 8 Tryz.underlying28 hi hz0 hz1 hz2 rfl (by decide) _ _ _ rfl (hO2.m.alloc _) ⟨_,0,none⟩ 1 1 [nv i] rfl rfl (cell_one_new _ _ _) (by simp[Value.oneCell',nv]) (by unfold maxLen;omega) (by omega) (by have:=hB2.size;simp;omega) ?_;intro v5 w5 hO5 hg5 _ hat5))
         have hO6:=(hO2.on (gV _ _)).addM hO5 hg5 hat5
         have hB6:=(hB2.alloc hB2.size (.cells #[.int .i64 (i:Int)] tInt)).grown hg5 (by have:=hB2.size;simp;omega) (fun k hk=>by have:=(hO2.m.lt k hk).1;omega)
         go_roundw
         case rel=>exact⟨k+1,_,by go_num,by omega,hB6,hO6,Hs2.out⟩
         case measure=>simp[intOf];omega
       ·have e2:decide (c.invoked<d.took)=false:=by simpa using h2
        have em:mvQ cs z i=false:=by rw[Hmv.out,e1,e2];rfl
        clear h1 h2
        by_cases h4:0<pt.a.length
        ·have e4:decide (0<pt.a.length)=true:=by simpa using h4
         have hta:(!pt.a.isEmpty || afQ cs z i)=true:=by
          have:pt.a.isEmpty=false:=by cases ha:pt.a with | nil=>rw[ha] at h4;simp at h4 | cons x l=>rfl
          rw[this];rfl
         have hs2:ptsW cs z (E.take (k+1))={ pt with a:=pt.a++[i] }:=by rw[Hst.out,if_neg Hiz.out,if_neg (by rw[em];simp),if_pos hta]
         have Hs2:=Lib.hid hs2
         clear hs2 em hta
         clear h4
         refine wp_region_noPanic ?_
         refine wp_region_held_drew (S:=fun W=>W.cell? ⟨nb,10,none⟩=some (.int .i64 c.took)∧W.cell? ⟨nb,9,none⟩=some (.int .i64 c.invoked)∧W.cell? ⟨nb,14,none⟩=some (.int .i64 c.err)∧W.cell? ⟨bq,off+z*27+10,none⟩=some (.int .i64 d.took)) (by kernel_rfl) ?_ (fun hHeld => ?_)
         ·first | exact HK.out.k14 (Below.refl _ _).drew | exact HK.out.k14 (Below.refl _ _)
         iterate 25 (first | (refine aL ?_;(try simp only[nSO])) | ((first | refine np_n ?_ ?_ ?_ | refine np_t 0 ?_ ?_ ?_);rotate_left 1;(· (intro w hSw;(try dsimp only at hSw);go_simp;all_goals with_reducible rfl));(try simp only[nSO])))
         refine wpAnyH_done (by kernel_rfl) ?_ _
         refine NoPanic.normal ?_
         go_wp2_with fail
         refine wp_region_noPanic ?_
         refine wp_region_held_drew (S:=fun W=>W.cell? ⟨nb,10,none⟩=some (.int .i64 c.took)∧W.cell? ⟨nb,11,none⟩=some (.int .i64 c.rank)∧W.cell? ⟨bq,off+z*27+10,none⟩=some (.int .i64 d.took)∧W.cell? ⟨bq,off+z*27+11,none⟩=some (.int .i64 d.rank)) (by kernel_rfl) ?_ (fun hHeld => ?_)
         ·first | exact HK.out.k16 (Below.refl _ _).drew | exact HK.out.k16 (Below.refl _ _).drew.drew
         iterate 34 (first | (refine aL ?_;(try simp only[nSO])) | ((first | refine np_n ?_ ?_ ?_ | refine np_t 0 ?_ ?_ ?_);rotate_left 1;(· (intro w hSw;(try dsimp only at hSw);go_simp;all_goals with_reducible rfl));(try simp only[nSO])))
         refine wpAnyH_done (by kernel_rfl) ?_ _
         refine NoPanic.normal ?_
         have hbd:=(Below.refl W0.heap.size W0).drew.drew
         have hO2:=hO0.on hbd
         have hB2:=hB0.drew.drew
         clear hHeld
         generalize W0.drew.drew=W1 at *
         have hl2:=Hpl.out
         go_wp2_with (at_builtin;(refine wpList_append_own_at _ rfl _ _ 28 rfl base tInt i0 (.int .i64 0) 1 8 Tryz.underlying28 hi hz0 hz1 hz2 rfl (by decide) _ _ _ rfl (hO2.a.alloc _) ⟨_,0,none⟩ 1 1 [nv i] rfl rfl (cell_one_new _ _ _) (by simp[Value.oneCell',nv]) (by unfold maxLen;omega) (by omega) (by have:=hB2.size;simp;omega) ?_;intro v5 w5 hO5 hg5 _ hat5))
         have hO6:=(hO2.on (gV _ _)).addA hO5 hg5 hat5
         have hB6:=(hB2.alloc hB2.size (.cells #[.int .i64 (i:Int)] tInt)).grown hg5 (by have:=hB2.size;simp;omega) (fun k hk=>by have:=(hO2.a.lt k hk).1;omega)
         go_roundw
         case rel=>exact⟨k+1,_,by go_num,by omega,hB6,hO6,Hs2.out⟩
         case measure=>simp[intOf];omega
        ·have e4:decide (0<pt.a.length)=false:=by simpa using h4
         have hta:(!pt.a.isEmpty || afQ cs z i)=true:=by
          rw[Haf.out,e1];simp
         have hs2:ptsW cs z (E.take (k+1))={ pt with a:=pt.a++[i] }:=by rw[Hst.out,if_neg Hiz.out,if_neg (by rw[em];simp),if_pos hta]
         have Hs2:=Lib.hid hs2
         clear hs2 em hta
         clear h4
         refine wp_region_noPanic ?_
         refine wp_region_held_drew (S:=fun W=>W.cell? ⟨nb,10,none⟩=some (.int .i64 c.took)∧W.cell? ⟨nb,9,none⟩=some (.int .i64 c.invoked)∧W.cell? ⟨nb,14,none⟩=some (.int .i64 c.err)∧W.cell? ⟨bq,off+z*27+10,none⟩=some (.int .i64 d.took)) (by kernel_rfl) ?_ (fun hHeld => ?_)
         ·first | exact HK.out.k14 (Below.refl _ _).drew | exact HK.out.k14 (Below.refl _ _)
         iterate 25 (first | (refine aL ?_;(try simp only[nSO])) | ((first | refine np_n ?_ ?_ ?_ | refine np_t 0 ?_ ?_ ?_);rotate_left 1;(· (intro w hSw;(try dsimp only at hSw);go_simp;all_goals with_reducible rfl));(try simp only[nSO])))
         refine wpAnyH_done (by kernel_rfl) ?_ _
         refine NoPanic.normal ?_
         go_wp2_with fail
         refine wp_region_noPanic ?_
         refine wp_region_held_drew (S:=fun W=>W.cell? ⟨nb,10,none⟩=some (.int .i64 c.took)∧W.cell? ⟨nb,11,none⟩=some (.int .i64 c.rank)∧W.cell? ⟨bq,off+z*27+10,none⟩=some (.int .i64 d.took)∧W.cell? ⟨bq,off+z*27+11,none⟩=some (.int .i64 d.rank)) (by kernel_rfl) ?_ (fun hHeld => ?_)
         ·first | exact HK.out.k16 (Below.refl _ _).drew | exact HK.out.k16 (Below.refl _ _).drew.drew
         iterate 34 (first | (refine aL ?_;(try simp only[nSO])) | ((first | refine np_n ?_ ?_ ?_ | refine np_t 0 ?_ ?_ ?_);rotate_left 1;(· (intro w hSw;(try dsimp only at hSw);go_simp;all_goals with_reducible rfl));(try simp only[nSO])))
         refine wpAnyH_done (by kernel_rfl) ?_ _
         refine NoPanic.normal ?_
         have hbd:=(Below.refl W0.heap.size W0).drew.drew
         have hO2:=hO0.on hbd
         have hB2:=hB0.drew.drew
         clear hHeld
         generalize W0.drew.drew=W1 at *
         have hl2:=Hpl.out
         go_wp2_with (at_builtin;(refine wpList_append_own_at _ rfl _ _ 28 rfl base tInt i0 (.int .i64 0) 1 8 Tryz.underlying28 hi hz0 hz1 hz2 rfl (by decide) _ _ _ rfl (hO2.a.alloc _) ⟨_,0,none⟩ 1 1 [nv i] rfl rfl (cell_one_new _ _ _) (by simp[Value.oneCell',nv]) (by unfold maxLen;omega) (by omega) (by have:=hB2.size;simp;omega) ?_;intro v5 w5 hO5 hg5 _ hat5))
         have hO6:=(hO2.on (gV _ _)).addA hO5 hg5 hat5
         have hB6:=(hB2.alloc hB2.size (.cells #[.int .i64 (i:Int)] tInt)).grown hg5 (by have:=hB2.size;simp;omega) (fun k hk=>by have:=(hO2.a.lt k hk).1;omega)
         go_roundw
         case rel=>exact⟨k+1,_,by go_num,by omega,hB6,hO6,Hs2.out⟩
         case measure=>simp[intOf];omega
      ·have e1:decide (d.took<c.took)=false:=by simpa using h1
       have em:mvQ cs z i=false:=by rw[Hmv.out,e1];rfl
       by_cases h4:0<pt.a.length
       ·have e4:decide (0<pt.a.length)=true:=by simpa using h4
        have hta:(!pt.a.isEmpty || afQ cs z i)=true:=by
         have:pt.a.isEmpty=false:=by cases ha:pt.a with | nil=>rw[ha] at h4;simp at h4 | cons x l=>rfl
         rw[this];rfl
        have hs2:ptsW cs z (E.take (k+1))={ pt with a:=pt.a++[i] }:=by rw[Hst.out,if_neg Hiz.out,if_neg (by rw[em];simp),if_pos hta]
        have Hs2:=Lib.hid hs2
        clear hs2 em hta
        clear h4 h1
        refine wp_region_noPanic ?_
        refine wp_region_held_drew (S:=fun W=>W.cell? ⟨nb,10,none⟩=some (.int .i64 c.took)∧W.cell? ⟨nb,9,none⟩=some (.int .i64 c.invoked)∧W.cell? ⟨nb,14,none⟩=some (.int .i64 c.err)∧W.cell? ⟨bq,off+z*27+10,none⟩=some (.int .i64 d.took)) (by kernel_rfl) ?_ (fun hHeld => ?_)
        ·first | exact HK.out.k14 (Below.refl _ _).drew | exact HK.out.k14 (Below.refl _ _)
        iterate 25 (first | (refine aL ?_;(try simp only[nSO])) | ((first | refine np_n ?_ ?_ ?_ | refine np_t 0 ?_ ?_ ?_);rotate_left 1;(· (intro w hSw;(try dsimp only at hSw);go_simp;all_goals with_reducible rfl));(try simp only[nSO])))
        refine wpAnyH_done (by kernel_rfl) ?_ _
        refine NoPanic.normal ?_
        go_wp2_with fail
        refine wp_region_noPanic ?_
        refine wp_region_held_drew (S:=fun W=>W.cell? ⟨nb,10,none⟩=some (.int .i64 c.took)∧W.cell? ⟨nb,11,none⟩=some (.int .i64 c.rank)∧W.cell? ⟨bq,off+z*27+10,none⟩=some (.int .i64 d.took)∧W.cell? ⟨bq,off+z*27+11,none⟩=some (.int .i64 d.rank)) (by kernel_rfl) ?_ (fun hHeld => ?_)
        ·first | exact HK.out.k16 (Below.refl _ _).drew | exact HK.out.k16 (Below.refl _ _).drew.drew
        iterate 34 (first | (refine aL ?_;(try simp only[nSO])) | ((first | refine np_n ?_ ?_ ?_ | refine np_t 0 ?_ ?_ ?_);rotate_left 1;(· (intro w hSw;(try dsimp only at hSw);go_simp;all_goals with_reducible rfl));(try simp only[nSO])))
        refine wpAnyH_done (by kernel_rfl) ?_ _
        refine NoPanic.normal ?_
        have hbd:=(Below.refl W0.heap.size W0).drew.drew
        have hO2:=hO0.on hbd
        have hB2:=hB0.drew.drew
        clear hHeld
        generalize W0.drew.drew=W1 at *
        have hl2:=Hpl.out
        go_wp2_with (at_builtin;(refine wpList_append_own_at _ rfl _ _ 28 rfl base tInt i0 (.int .i64 0) 1 8 Tryz.underlying28 hi hz0 hz1 hz2 rfl (by decide) _ _ _ rfl (hO2.a.alloc _) ⟨_,0,none⟩ 1 1 [nv i] rfl rfl (cell_one_new _ _ _) (by simp[Value.oneCell',nv]) (by unfold maxLen;omega) (by omega) (by have:=hB2.size;simp;omega) ?_;intro v5 w5 hO5 hg5 _ hat5))
        have hO6:=(hO2.on (gV _ _)).addA hO5 hg5 hat5
        have hB6:=(hB2.alloc hB2.size (.cells #[.int .i64 (i:Int)] tInt)).grown hg5 (by have:=hB2.size;simp;omega) (fun k hk=>by have:=(hO2.a.lt k hk).1;omega)
        go_roundw
        case rel=>exact⟨k+1,_,by go_num,by omega,hB6,hO6,Hs2.out⟩
        case measure=>simp[intOf];omega
       ·have e4:decide (0<pt.a.length)=false:=by simpa using h4
        have e7:pt.a.isEmpty=true:=by cases ha:pt.a with | nil=>rfl | cons x l=>rw[ha] at h4;simp at h4
        by_cases h5:c.took=d.took
        ·have e5:(c.took == d.took)=true:=by simpa using h5
         by_cases h6:d.rank<c.rank
         ·have e6:decide (d.rank<c.rank)=true:=by simpa using h6
          have hta:(!pt.a.isEmpty || afQ cs z i)=true:=by rw[Haf.out,e1,e6,e7];simpa using h5
          have hs2:ptsW cs z (E.take (k+1))={ pt with a:=pt.a++[i] }:=by rw[Hst.out,if_neg Hiz.out,if_neg (by rw[em];simp),if_pos hta]
          have Hs2:=Lib.hid hs2
          clear hs2 em hta
          clear h4 h1 h5 h6 e7
          refine wp_region_noPanic ?_
          refine wp_region_held_drew (S:=fun W=>W.cell? ⟨nb,10,none⟩=some (.int .i64 c.took)∧W.cell? ⟨nb,9,none⟩=some (.int .i64 c.invoked)∧W.cell? ⟨nb,14,none⟩=some (.int .i64 c.err)∧W.cell? ⟨bq,off+z*27+10,none⟩=some (.int .i64 d.took)) (by kernel_rfl) ?_ (fun hHeld => ?_)
          ·first | exact HK.out.k14 (Below.refl _ _).drew | exact HK.out.k14 (Below.refl _ _)
          iterate 25 (first | (refine aL ?_;(try simp only[nSO])) | ((first | refine np_n ?_ ?_ ?_ | refine np_t 0 ?_ ?_ ?_);rotate_left 1;(· (intro w hSw;(try dsimp only at hSw);go_simp;all_goals with_reducible rfl));(try simp only[nSO])))
          refine wpAnyH_done (by kernel_rfl) ?_ _
          refine NoPanic.normal ?_
          go_wp2_with fail
          refine wp_region_noPanic ?_
          refine wp_region_held_drew (S:=fun W=>W.cell? ⟨nb,10,none⟩=some (.int .i64 c.took)∧W.cell? ⟨nb,11,none⟩=some (.int .i64 c.rank)∧W.cell? ⟨bq,off+z*27+10,none⟩=some (.int .i64 d.took)∧W.cell? ⟨bq,off+z*27+11,none⟩=some (.int .i64 d.rank)) (by kernel_rfl) ?_ (fun hHeld => ?_)
          ·first | exact HK.out.k16 (Below.refl _ _).drew | exact HK.out.k16 (Below.refl _ _).drew.drew
          iterate 34 (first | (refine aL ?_;(try simp only[nSO])) | ((first | refine np_n ?_ ?_ ?_ | refine np_t 0 ?_ ?_ ?_);rotate_left 1;(· (intro w hSw;(try dsimp only at hSw);go_simp;all_goals with_reducible rfl));(try simp only[nSO])))
          refine wpAnyH_done (by kernel_rfl) ?_ _
          refine NoPanic.normal ?_
          have hbd:=(Below.refl W0.heap.size W0).drew.drew
          have hO2:=hO0.on hbd
          have hB2:=hB0.drew.drew
          clear hHeld
          generalize W0.drew.drew=W1 at *
          have hl2:=Hpl.out
          go_wp2_with (at_builtin;(refine wpList_append_own_at _ rfl _ _ 28 rfl base tInt i0 (.int .i64 0) 1 8 Tryz.underlying28 hi hz0 hz1 hz2 rfl (by decide) _ _ _ rfl (hO2.a.alloc _) ⟨_,0,none⟩ 1 1 [nv i] rfl rfl (cell_one_new _ _ _) (by simp[Value.oneCell',nv]) (by unfold maxLen;omega) (by omega) (by have:=hB2.size;simp;omega) ?_;intro v5 w5 hO5 hg5 _ hat5))
          have hO6:=(hO2.on (gV _ _)).addA hO5 hg5 hat5
          have hB6:=(hB2.alloc hB2.size (.cells #[.int .i64 (i:Int)] tInt)).grown hg5 (by have:=hB2.size;simp;omega) (fun k hk=>by have:=(hO2.a.lt k hk).1;omega)
          go_roundw
          case rel=>exact⟨k+1,_,by go_num,by omega,hB6,hO6,Hs2.out⟩
          case measure=>simp[intOf];omega
         ·have e6:decide (d.rank<c.rank)=false:=by simpa using h6
          have htb:(!pt.a.isEmpty || afQ cs z i)=false:=by rw[Haf.out,e1,e6,e7];simp
          have hs2:ptsW cs z (E.take (k+1))={ pt with b:=pt.b++[i] }:=by rw[Hst.out,if_neg Hiz.out,if_neg (by rw[em];simp),if_neg (by rw[htb];simp)]
          have Hs2:=Lib.hid hs2
          clear hs2 em htb
          clear h4 h1 h5 h6 e7
          refine wp_region_noPanic ?_
          refine wp_region_held_drew (S:=fun W=>W.cell? ⟨nb,10,none⟩=some (.int .i64 c.took)∧W.cell? ⟨nb,9,none⟩=some (.int .i64 c.invoked)∧W.cell? ⟨nb,14,none⟩=some (.int .i64 c.err)∧W.cell? ⟨bq,off+z*27+10,none⟩=some (.int .i64 d.took)) (by kernel_rfl) ?_ (fun hHeld => ?_)
          ·first | exact HK.out.k14 (Below.refl _ _).drew | exact HK.out.k14 (Below.refl _ _)
          iterate 25 (first | (refine aL ?_;(try simp only[nSO])) | ((first | refine np_n ?_ ?_ ?_ | refine np_t 0 ?_ ?_ ?_);rotate_left 1;(· (intro w hSw;(try dsimp only at hSw);go_simp;all_goals with_reducible rfl));(try simp only[nSO])))
          refine wpAnyH_done (by kernel_rfl) ?_ _
          refine NoPanic.normal ?_
          go_wp2_with fail
          refine wp_region_noPanic ?_
          refine wp_region_held_drew (S:=fun W=>W.cell? ⟨nb,10,none⟩=some (.int .i64 c.took)∧W.cell? ⟨nb,11,none⟩=some (.int .i64 c.rank)∧W.cell? ⟨bq,off+z*27+10,none⟩=some (.int .i64 d.took)∧W.cell? ⟨bq,off+z*27+11,none⟩=some (.int .i64 d.rank)) (by kernel_rfl) ?_ (fun hHeld => ?_)
          ·first | exact HK.out.k16 (Below.refl _ _).drew | exact HK.out.k16 (Below.refl _ _).drew.drew
          iterate 34 (first | (refine aL ?_;(try simp only[nSO])) | ((first | refine np_n ?_ ?_ ?_ | refine np_t 0 ?_ ?_ ?_);rotate_left 1;(· (intro w hSw;(try dsimp only at hSw);go_simp;all_goals with_reducible rfl));(try simp only[nSO])))
          refine wpAnyH_done (by kernel_rfl) ?_ _
          refine NoPanic.normal ?_
          have hbd:=(Below.refl W0.heap.size W0).drew.drew
          have hO2:=hO0.on hbd
          have hB2:=hB0.drew.drew
          clear hHeld
          generalize W0.drew.drew=W1 at *
          have hl2:=Hpl.out
          go_wp2_with (at_builtin;(refine wpList_append_own_at _ rfl _ _ 28 rfl base tInt i0 (.int .i64 0) 1 8 Tryz.underlying28 hi hz0 hz1 hz2 rfl (by decide) _ _ _ rfl (hO2.b.alloc _) ⟨_,0,none⟩ 1 1 [nv i] rfl rfl (cell_one_new _ _ _) (by simp[Value.oneCell',nv]) (by unfold maxLen;omega) (by omega) (by have:=hB2.size;simp;omega) ?_;intro v5 w5 hO5 hg5 _ hat5))
          have hO6:=(hO2.on (gV _ _)).addB hO5 hg5 hat5
          have hB6:=(hB2.alloc hB2.size (.cells #[.int .i64 (i:Int)] tInt)).grown hg5 (by have:=hB2.size;simp;omega) (fun k hk=>by have:=(hO2.b.lt k hk).1;omega)
          go_roundw
          case rel=>exact⟨k+1,_,by go_num,by omega,hB6,hO6,Hs2.out⟩
          case measure=>simp[intOf];omega
        ·have e5:(c.took == d.took)=false:=by simpa using h5
         have htb:(!pt.a.isEmpty || afQ cs z i)=false:=by rw[Haf.out,e1,e7];simpa using fun h=>absurd h h5
         have hs2:ptsW cs z (E.take (k+1))={ pt with b:=pt.b++[i] }:=by rw[Hst.out,if_neg Hiz.out,if_neg (by rw[em];simp),if_neg (by rw[htb];simp)]
         have Hs2:=Lib.hid hs2
         clear hs2 em htb
         clear h4 h1 h5 e7
         refine wp_region_noPanic ?_
         refine wp_region_held_drew (S:=fun W=>W.cell? ⟨nb,10,none⟩=some (.int .i64 c.took)∧W.cell? ⟨nb,9,none⟩=some (.int .i64 c.invoked)∧W.cell? ⟨nb,14,none⟩=some (.int .i64 c.err)∧W.cell? ⟨bq,off+z*27+10,none⟩=some (.int .i64 d.took)) (by kernel_rfl) ?_ (fun hHeld => ?_)
         ·first | exact HK.out.k14 (Below.refl _ _).drew | exact HK.out.k14 (Below.refl _ _)
         iterate 25 (first | (refine aL ?_;(try simp only[nSO])) | ((first | refine np_n ?_ ?_ ?_ | refine np_t 0 ?_ ?_ ?_);rotate_left 1;(· (intro w hSw;(try dsimp only at hSw);go_simp;all_goals with_reducible rfl));(try simp only[nSO])))
         refine wpAnyH_done (by kernel_rfl) ?_ _
         refine NoPanic.normal ?_
         go_wp2_with fail
         refine wp_region_noPanic ?_
         refine wp_region_held_drew (S:=fun W=>W.cell? ⟨nb,10,none⟩=some (.int .i64 c.took)∧W.cell? ⟨nb,11,none⟩=some (.int .i64 c.rank)∧W.cell? ⟨bq,off+z*27+10,none⟩=some (.int .i64 d.took)∧W.cell? ⟨bq,off+z*27+11,none⟩=some (.int .i64 d.rank)) (by kernel_rfl) ?_ (fun hHeld => ?_)
         ·first | exact HK.out.k16 (Below.refl _ _).drew | exact HK.out.k16 (Below.refl _ _).drew.drew
         iterate 34 (first | (refine aL ?_;(try simp only[nSO])) | ((first | refine np_n ?_ ?_ ?_ | refine np_t 0 ?_ ?_ ?_);rotate_left 1;(· (intro w hSw;(try dsimp only at hSw);go_simp;all_goals with_reducible rfl));(try simp only[nSO])))
         refine wpAnyH_done (by kernel_rfl) ?_ _
         refine NoPanic.normal ?_
         have hbd:=(Below.refl W0.heap.size W0).drew.drew
         have hO2:=hO0.on hbd
         have hB2:=hB0.drew.drew
         clear hHeld
         generalize W0.drew.drew=W1 at *
         have hl2:=Hpl.out
         go_wp2_with (at_builtin;(refine wpList_append_own_at _ rfl _ _ 28 rfl base tInt i0 (.int .i64 0) 1 8 Tryz.underlying28 hi hz0 hz1 hz2 rfl (by decide) _ _ _ rfl (hO2.b.alloc _) ⟨_,0,none⟩ 1 1 [nv i] rfl rfl (cell_one_new _ _ _) (by simp[Value.oneCell',nv]) (by unfold maxLen;omega) (by omega) (by have:=hB2.size;simp;omega) ?_;intro v5 w5 hO5 hg5 _ hat5))
         have hO6:=(hO2.on (gV _ _)).addB hO5 hg5 hat5
         have hB6:=(hB2.alloc hB2.size (.cells #[.int .i64 (i:Int)] tInt)).grown hg5 (by have:=hB2.size;simp;omega) (fun k hk=>by have:=(hO2.b.lt k hk).1;omega)
         go_roundw
         case rel=>exact⟨k+1,_,by go_num,by omega,hB6,hO6,Hs2.out⟩
         case measure=>simp[intOf];omega
    ·have hke:k=E.length:=by omega
     subst hke
     rw[List.take_length] at hpt
     have ho:=Hord.out
     rw[hpt] at ho
     have hpl:pt.b.length+pt.m.length+pt.a.length≤1000:=by
      have:=aDw (cs:=cs) (z:=z) E ⟨[],[],[]⟩
      have e:E.foldl (stepW cs z) ⟨[],[],[]⟩=pt:=hpt
      rw[e] at this
      simp only[List.length_nil] at this
      omega
     have Ho:=Lib.hid ho
     clear ho hpt hO2 hC2
     have hbw0:=hbw
     go_wp2_with (first
      | (at_builtin;(refine pJ rfl _ _ 28 rfl base tInt i0 (.int .i64 0) 1 8 Tryz.underlying28 hi hz0 hz1 hz2 rfl (by decide) _ pt.b.length (pt.b.map nv) rfl hO3.b _ pt.m.length base (pt.m.map nv) rfl hO3.m (by intro u hu;obtain⟨x,_,rfl⟩:=List.mem_map.1 hu;rfl) (by unfold maxLen;omega) (by omega) (by have:=hB.size;omega) ?_);intro v1 W1 hr1 hg1 hat1;have ha1:=hO3.a.kept hg1 (jW hO3.ba);have hba:=pK hO3.a (jW hO3.ba) hat1;have hBx:=hB.grown hg1 (by have:=hB.size;omega) (fun k hk=>by have:=(hO3.b.lt k hk).1;omega);clear hO3 hB)
      | (at_builtin;(refine pJ rfl _ _ 28 rfl base tInt i0 (.int .i64 0) 1 8 Tryz.underlying28 hi hz0 hz1 hz2 rfl (by decide) _ _ _ rfl hr2 _ pt.a.length base (pt.a.map nv) rfl ha2 (by intro u hu;obtain⟨x,_,rfl⟩:=List.mem_map.1 hu;rfl) (by unfold maxLen;omega) (by omega) (by have:=hBy.size;omega) ?_);intro v3 W3 hr3 hg3 hat3;have hBz:=hBy.grown hg3 (by have:=hBy.size;omega) (fun k hk=>by have:=(hr2.lt k hk).1;omega))
      | (at_builtin;(refine wpList_append_own_at _ rfl _ _ 28 rfl base tInt i0 (.int .i64 0) 1 8 Tryz.underlying28 hi hz0 hz1 hz2 rfl (by decide) _ _ _ rfl (hr1.alloc _) ⟨_,0,none⟩ 1 1 [nv z] rfl rfl (cell_one_new _ _ _) (by simp[Value.oneCell',nv]) (by unfold maxLen;omega) (by omega) (by have:=hBx.size;simp;omega) ?_);intro v2 W2 hr2 hg2 _ hat2;have ha2:=(ha1.alloc _).kept hg2 hba;have hBy:=(hBx.alloc hBx.size (.cells #[.int .i64 (z:Int)] tInt)).grown hg2 (by have:=hBx.size;simp;omega) (fun k hk=>by have:=(hr1.lt k hk).1;omega);clear hr1 ha1 hBx))
     go_returns
     refine .inr ⟨h0,v3,E,hE,rfl,?_,hbw.trans (hBz.mono hbw.size)⟩
     rw[Ho.out]
     have h9:=gP (B:=w.heap.size) (by have:=hbw.size;omega) hr3
     rw[show (pt.b++pt.m++[z]++pt.a).map nv=pt.b.map nv++pt.m.map nv++[nv z]++pt.a.map nv by simp only[List.map_append,List.map_cons,List.map_nil],show (pt.b++pt.m++[z]++pt.a).length=pt.b.length+pt.m.length+1+pt.a.length by simp only[List.length_append,List.length_singleton]]
     exact h9
end Go.Proofs.YtdeiocppghhfdaaGreat.Lin
