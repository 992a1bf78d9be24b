/- Texts, one behind another. -/
import Derived.Test.YtdeiocppghhfdaaGreatZdbl
import Derived.OrdersHeld
set_option linter.unusedVariables false
set_option linter.unusedSimpArgs false
set_option maxRecDepth 100000
set_option maxHeartbeats 8000000
namespace Go.Proofs.YtdeiocppghhfdaaGreat.Lin
open Go.RowKit Go.Lib Go.Shelf
open Hs
open KitI (iv IRow own_below)
attribute [local go_sem, local simp] Hs.dB Hs.dG Hs.dE Hs.dH Hs.dI Hs.dJ Hs.dK Hs.dL Hs.dM Hs.dF Hs.aR Hs.aW Hs.bB Hs.bC Hs.aS Hs.aV Hs.aY Hs.bD Hs.bE Hs.bF Hs.bG Hs.bH Hs.bI Hs.bJ Hs.bK Hs.aU Hs.aQ Hs.fH Hs.fI Hs.fJ Hs.fK Hs.fM Hs.fO Hs.fP Hs.fQ Hs.fT Hs.fU Hs.dN Hs.dO Hs.dP Hs.dQ Hs.dR Hs.dS Hs.dU Hs.dV Hs.dW Hs.dX Hs.dY Hs.dZ Hs.eB Hs.bL Hs.bM Hs.bN Hs.bO Hs.bP Hs.bQ Hs.bR Hs.bS Hs.bT Hs.bU Hs.bV Hs.bW Hs.bX Hs.bY Hs.bZ Hs.cB Hs.aX Hs.fV Hs.fZ Hs.gB Hs.gD Hs.gF Hs.gG Hs.gH Hs.gI Hs.gJ Hs.gK Hs.eD Hs.eG Hs.eH Hs.aH Hs.aJ
attribute [local go_sem ↓] Hs.aK Hs.aN
attribute [local go_sem] Hs.fF Hs.cK Hs.aP Hs.eO Hs.fD
theorem yF:∀ (cs:List aA) (i k:Nat) (c c':aA) (tl:List Value) (x:Value),k<27→cs[i]? = some c→(aB c).set k x=aB c'→(jF cs++tl).set (i*27+k) x=jF (cs.set i c')++tl
 | [],i,k,c,c',tl,x,_,h,_=>by simp at h
 | d::cs,0,k,c,c',tl,x,hk,h,he=>by
  simp at h
  subst h
  rw[kV,List.set_cons_zero,kV,Nat.zero_mul,Nat.zero_add,List.append_assoc,List.append_assoc,List.set_append,if_pos (by rw[aH];exact hk),he]
 | d::cs,i+1,k,c,c',tl,x,hk,h,he=>by
  rw[kV,List.set_cons_succ,kV,List.append_assoc,List.append_assoc,List.set_append,if_neg (by rw[aH];omega),aH,show (i+1)*27+k-27=i*27+k by omega,yF cs i k c c' tl x hk (by simpa using h) he]
structure KV (w1 W:World) (g cap:Nat) (cs:List aA):Prop where
 blk:∃ tl:List Value,W.heap[g]? = some (.cells (jF cs++tl).toArray 56 (0,0))
 bl:Below w1.heap.size w1 W
 ge:w1.heap.size≤g
 cap:cs.length≤cap
section
variable {w1 W W':World} {g cap:Nat} {cs:List aA}
theorem KV.crow (h:KV w1 W g cap cs):CRow W (some ⟨g,0,none⟩) cap cs:=by
 obtain⟨tl,ht⟩:=h.blk
 refine .inr ⟨g,0,rfl,h.cap,(Array.getElem?_eq_some_iff.1 ht).1,fun j u hj => ?_⟩
 rw[Nat.zero_add,aM ht,List.getElem?_append_left (List.getElem?_eq_some_iff.1 hj).1]
 exact hj
theorem KV.cellN (h:KV w1 W g cap cs) {i k:Nat} {c:aA} {u:Value} (hc:cs[i]? = some c) (hk:k<27) (hu:(aB c)[k]? = some u):W.cell? ⟨g,i*27+k,none⟩=some u∧W.frozen? ⟨g,i*27+k,none⟩=false:=by
 obtain⟨tl,ht⟩:=h.blk
 refine⟨?_,qA ht _⟩
 have hg:=vG cs i k c hc hk
 rw[hu] at hg
 rw[aM ht,List.getElem?_append_left (List.getElem?_eq_some_iff.1 hg).1,hg]
theorem KV.setN (h:KV w1 W g cap cs) {i k:Nat} {c c':aA} {x:Value} (hc:cs[i]? = some c) (hk:k<27) (he:(aB c).set k x=aB c'):KV w1 (W.setCell ⟨g,i*27+k,none⟩ x) g cap (cs.set i c'):=by
 obtain⟨tl,ht⟩:=h.blk
 refine⟨⟨tl,?_⟩,h.bl.setCell (p:=⟨g,i*27+k,none⟩) h.ge _,h.ge,by rw[List.length_set];exact h.cap⟩
 rw[← yF cs i k c c' tl x hk hc he]
 exact jM ht _ _
end
theorem rD {w1 W:World} {v:Value} {cs:List aA} (h:W.ownsRow w1.heap.size 56 27 v cs.length (jF cs)) (hb:Below w1.heap.size w1 W):(v = .slice none 0 0∧cs=[])∨∃ g cap,v = .slice (some ⟨g,0,none⟩) cs.length cap∧KV w1 W g cap cs:=by
 rcases h.2 with⟨h1,h2⟩ | ⟨g,cap',cur,h1,h2,h3,h4,h5,h6,h7⟩
 ·exact .inl ⟨h1,List.length_eq_zero_iff.1 h2⟩
 ·refine .inr ⟨g,cap',h1,⟨cur.toList.drop (cs.length*27),?_⟩,hb,h2,h4⟩
  rw[h3]
  congr 2
  rw[← h7,List.take_append_drop]
theorem rE {w w1 W:World} {c:aA} {g cap:Nat} {cs:List aA} (h:DOwn w W c) (hK:KV w1 W g cap cs) {x:Value} (o:Nat):DAt (W.setCell ⟨g,o,none⟩ x) c:=by
 obtain⟨tl,ht⟩:=hK.blk
 have h2:DOwn w (W.setCell ⟨g,o,none⟩ x) c:=by
  rcases h with⟨h0,h | ⟨b,cur,h1,h2,h3,h4⟩⟩
  ·exact⟨h0,.inl h⟩
  ·refine⟨h0,.inr ⟨b,cur,h1,h2,(Below.heap_setCell _ _ _ _ (fun e => ?_)).trans h3,h4⟩⟩
   have e:b=g:=e
   subst e
   rw[ht] at h3
   cases h3
 exact h2.at
def uM (w:World) (cs:List aA) (i:Nat) (F:aA→aA) (e:Ending) (w':World):Prop :=
 ∃ g cap' hs,e = .returned (.slice (some ⟨g,0,none⟩) hs.length cap')∧hs.map aA.pure=(fewL cs).modify i F∧HRow w' (some ⟨g,0,none⟩) cap' hs∧Below w.heap.size w w'
theorem wN {w W:World} {g cap' i:Nat} {cs hs:List aA} {q q':aA} {F:aA→aA} (hm:hs.map aA.pure=fewL cs) (hq:hs[i]? = some q) (hK:KV w W g cap' (hs.set i q')) (hD:∀ c∈hs,DAt W c) (hle:(fewL cs).length≤24) (hok:∀ c∈fewL cs,c.Ok)
  (hF:q.pure.Ok→q'.Ok∧(DAt W q→DAt W q')) (he:q'.pure=F q.pure):uM w cs i F (.returned (.slice (some ⟨g,0,none⟩) hs.length cap')) W:=by
 have hlt:=(List.getElem?_eq_some_iff.1 hq).1
 have hqm:=List.mem_of_getElem? hq
 have hoks:∀ c∈hs,c.pure.Ok:=fun c hc=>hok _ (by rw[← hm];exact List.mem_map_of_mem hc)
 refine⟨g,cap',hs.set i q',by rw[List.length_set],?_,⟨hK.crow,fun c hc => ?_,fun c hc => ?_,by rw[List.length_set,← List.length_map (f:=aA.pure),hm];exact hle⟩,hK.bl⟩
 ·rw[← hm]
  apply List.ext_getElem?
  intro j
  rw[List.getElem?_map,List.getElem?_modify,List.getElem?_map]
  by_cases e:i=j
  ·subst e
   rw[List.getElem?_set_self hlt,hq]
   simp[he]
  ·rw[List.getElem?_set_ne e]
   cases hs[j]? <;> simp[e]
 ·rcases List.mem_or_eq_of_mem_set hc with h | h
  ·exact hD c h
  ·rw[h];exact (hF (hoks q hqm)).2 (hD q hqm)
 ·rcases List.mem_or_eq_of_mem_set hc with h | h
  ·exact pure_ok (d:=c.pure) rfl (hoks c h)
  ·rw[h];exact (hF (hoks q hqm)).1
theorem aQz (p:Option Addr) (cap:Nat) (cs:List aA) (w:World) (hA:mJ w p cs) (hle:(fewL cs).length≤24) (hok:∀ c∈fewL cs,c.Ok) (hl:1<(fewL cs).length):Calls Tryz.prog 93 #[.slice p cs.length cap,.int .i64 1,.int .i64 5,.int .i64 1] w (uM w cs 1 fun q=>{ q with rev:=1 }):=by
 go_enter Tryz.func93,Tryz.ntmps93
 go_wp2_with fail
 refine (uI p cap cs _ hA).mono ?_
 rintro e w1 ⟨v,rfl,hO,hb1⟩
 obtain⟨hs,hm,hown,hD⟩:=hO
 have hlen:hs.length=(fewL cs).length:=by rw[← hm,List.length_map]
 obtain⟨q,hq⟩:∃ q,hs[1]? = some q:=⟨_,List.getElem?_eq_getElem (by omega)⟩
 rcases rD hown hb1 with⟨rfl,h0⟩ | ⟨g,cap',rfl,hK⟩
 ·rw[h0] at hq;cases hq
 have hcell:=hK.cellN (k:=15) hq (by omega) (u := .int .i64 q.rev) rfl
 obtain⟨c1,c2⟩:=hcell
 have hset:=hK.setN (k:=15) hq (by omega) (x := .int .i64 1) (c':={ q with rev:=1 }) rfl
 have hD2:=fun c hc=>rE (hD c hc) hK (x := .int .i64 1) (1*27+15)
 have hi:(1:Int)<(hs.length:Int):=by omega
 have Hset:=Lib.hid hset
 have HD2:=Lib.hid hD2
 clear hown hD hb1 hK hset hD2 hlen
 go_wp2_with fail
 go_returns
 exact wN hm hq Hset.out HD2.out hle hok (fun h=>⟨⟨h.i0,h.i1,h.a0,h.a1,h.s0,h.s1,h.t0,h.t1,h.r0,h.r1,h.kd,h.id,h.gr,h.sl,h.at_,h.nn⟩,fun hd=>hd⟩) rfl
theorem aQ0 (p:Option Addr) (cap:Nat) (cs:List aA) (w:World) (hA:mJ w p cs) (hle:(fewL cs).length≤24) (hok:∀ c∈fewL cs,c.Ok) (hl:2<(fewL cs).length):Calls Tryz.prog 93 #[.slice p cs.length cap,.int .i64 2,.int .i64 7,.int .i64 2] w (uM w cs 2 fun q=>{ q with rtext:=⟨#[97,120]⟩ }):=by
 go_enter Tryz.func93,Tryz.ntmps93
 go_wp2_with fail
 refine (uI p cap cs _ hA).mono ?_
 rintro e w1 ⟨v,rfl,hO,hb1⟩
 obtain⟨hs,hm,hown,hD⟩:=hO
 have hlen:hs.length=(fewL cs).length:=by rw[← hm,List.length_map]
 obtain⟨q,hq⟩:∃ q,hs[2]? = some q:=⟨_,List.getElem?_eq_getElem (by omega)⟩
 rcases rD hown hb1 with⟨rfl,h0⟩ | ⟨g,cap',rfl,hK⟩
 ·rw[h0] at hq;cases hq
 have hcell:=hK.cellN (k:=19) hq (by omega) (u := .string q.rtext) rfl
 obtain⟨c1,c2⟩:=hcell
 have hset:=hK.setN (k:=19) hq (by omega) (x := .string ⟨#[97,120]⟩) (c':={ q with rtext:=⟨#[97,120]⟩ }) rfl
 have hD2:=fun c hc=>rE (hD c hc) hK (x := .string ⟨#[97,120]⟩) (2*27+19)
 have hi:(2:Int)<(hs.length:Int):=by omega
 have Hset:=Lib.hid hset
 have HD2:=Lib.hid hD2
 clear hown hD hb1 hK hset hD2 hlen
 go_wp2_with fail
 go_returns
 exact wN hm hq Hset.out HD2.out hle hok (fun h=>⟨⟨h.i0,h.i1,h.a0,h.a1,h.s0,h.s1,h.t0,h.t1,h.r0,h.r1,h.kd,h.id,h.gr,h.sl,h.at_,h.nn⟩,fun hd=>hd⟩) rfl
theorem aQ1 (p:Option Addr) (cap:Nat) (cs:List aA) (w:World) (hA:mJ w p cs) (hle:(fewL cs).length≤24) (hok:∀ c∈fewL cs,c.Ok) (hl:0<(fewL cs).length):Calls Tryz.prog 93 #[.slice p cs.length cap,.int .i64 0,.int .i64 2,.int .i64 7] w (uM w cs 0 fun q=>{ q with took:=7 }):=by
 go_enter Tryz.func93,Tryz.ntmps93
 go_wp2_with fail
 refine (uI p cap cs _ hA).mono ?_
 rintro e w1 ⟨v,rfl,hO,hb1⟩
 obtain⟨hs,hm,hown,hD⟩:=hO
 have hlen:hs.length=(fewL cs).length:=by rw[← hm,List.length_map]
 obtain⟨q,hq⟩:∃ q,hs[0]? = some q:=⟨_,List.getElem?_eq_getElem (by omega)⟩
 rcases rD hown hb1 with⟨rfl,h0⟩ | ⟨g,cap',rfl,hK⟩
 ·rw[h0] at hq;cases hq
 have hcell:=hK.cellN (k:=10) hq (by omega) (u := .int .i64 q.took) rfl
 obtain⟨c1,c2⟩:=hcell
 have hset:=hK.setN (k:=10) hq (by omega) (x := .int .i64 7) (c':={ q with took:=7 }) rfl
 have hD2:=fun c hc=>rE (hD c hc) hK (x := .int .i64 7) (0*27+10)
 have hi:(0:Int)<(hs.length:Int):=by omega
 have Hset:=Lib.hid hset
 have HD2:=Lib.hid hD2
 clear hown hD hb1 hK hset hD2 hlen
 go_wp2_with fail
 go_returns
 exact wN hm hq Hset.out HD2.out hle hok (fun h=>⟨⟨h.i0,h.i1,h.a0,h.a1,h.s0,h.s1,(by show -9223372036854775808≤(7:Int);decide),(by show (7:Int)≤9223372036854775807;decide),h.r0,h.r1,h.kd,h.id,h.gr,h.sl,h.at_,h.nn⟩,fun hd=>hd⟩) rfl
theorem aQ2 (p:Option Addr) (cap:Nat) (cs:List aA) (w:World) (hA:mJ w p cs) (hle:(fewL cs).length≤24) (hok:∀ c∈fewL cs,c.Ok) (hl:0<(fewL cs).length):Calls Tryz.prog 93 #[.slice p cs.length cap,.int .i64 0,.int .i64 3,.int .i64 8] w (uM w cs 0 fun q=>{ q with answered:=8 }):=by
 go_enter Tryz.func93,Tryz.ntmps93
 go_wp2_with fail
 refine (uI p cap cs _ hA).mono ?_
 rintro e w1 ⟨v,rfl,hO,hb1⟩
 obtain⟨hs,hm,hown,hD⟩:=hO
 have hlen:hs.length=(fewL cs).length:=by rw[← hm,List.length_map]
 obtain⟨q,hq⟩:∃ q,hs[0]? = some q:=⟨_,List.getElem?_eq_getElem (by omega)⟩
 rcases rD hown hb1 with⟨rfl,h0⟩ | ⟨g,cap',rfl,hK⟩
 ·rw[h0] at hq;cases hq
 have hcell:=hK.cellN (k:=12) hq (by omega) (u := .int .i64 q.answered) rfl
 obtain⟨c1,c2⟩:=hcell
 have hset:=hK.setN (k:=12) hq (by omega) (x := .int .i64 8) (c':={ q with answered:=8 }) rfl
 have hD2:=fun c hc=>rE (hD c hc) hK (x := .int .i64 8) (0*27+12)
 have hi:(0:Int)<(hs.length:Int):=by omega
 have Hset:=Lib.hid hset
 have HD2:=Lib.hid hD2
 clear hown hD hb1 hK hset hD2 hlen
 go_wp2_with fail
 go_returns
 exact wN hm hq Hset.out HD2.out hle hok (fun h=>⟨⟨h.i0,h.i1,(by show -9223372036854775808≤(8:Int);decide),(by show (8:Int)≤9223372036854775807;decide),h.s0,h.s1,h.t0,h.t1,h.r0,h.r1,h.kd,h.id,h.gr,h.sl,h.at_,h.nn⟩,fun hd=>hd⟩) rfl
theorem aQ3 (p:Option Addr) (cap:Nat) (cs:List aA) (w:World) (hA:mJ w p cs) (hle:(fewL cs).length≤24) (hok:∀ c∈fewL cs,c.Ok) (hl:3<(fewL cs).length):Calls Tryz.prog 93 #[.slice p cs.length cap,.int .i64 3,.int .i64 8,.int .i64 1] w (uM w cs 3 fun q=>{ q with ifrom:=1 }):=by
 go_enter Tryz.func93,Tryz.ntmps93
 go_wp2_with fail
 refine (uI p cap cs _ hA).mono ?_
 rintro e w1 ⟨v,rfl,hO,hb1⟩
 obtain⟨hs,hm,hown,hD⟩:=hO
 have hlen:hs.length=(fewL cs).length:=by rw[← hm,List.length_map]
 obtain⟨q,hq⟩:∃ q,hs[3]? = some q:=⟨_,List.getElem?_eq_getElem (by omega)⟩
 rcases rD hown hb1 with⟨rfl,h0⟩ | ⟨g,cap',rfl,hK⟩
 ·rw[h0] at hq;cases hq
 have hcell:=hK.cellN (k:=24) hq (by omega) (u := .int .i64 q.ifrom) rfl
 obtain⟨c1,c2⟩:=hcell
 have hset:=hK.setN (k:=24) hq (by omega) (x := .int .i64 1) (c':={ q with ifrom:=1 }) rfl
 have hD2:=fun c hc=>rE (hD c hc) hK (x := .int .i64 1) (3*27+24)
 have hi:(3:Int)<(hs.length:Int):=by omega
 have Hset:=Lib.hid hset
 have HD2:=Lib.hid hD2
 clear hown hD hb1 hK hset hD2 hlen
 go_wp2_with fail
 go_returns
 exact wN hm hq Hset.out HD2.out hle hok (fun h=>⟨⟨h.i0,h.i1,h.a0,h.a1,h.s0,h.s1,h.t0,h.t1,h.r0,h.r1,h.kd,h.id,h.gr,h.sl,h.at_,h.nn⟩,fun hd=>hd⟩) rfl
end Go.Proofs.YtdeiocppghhfdaaGreat.Lin
namespace Go.Proofs.YtdeiocppghhfdaaGreat.Lin
open Go.RowKit Go.Lib Go.Shelf
open Hs
open KitI (zF iL iD)
attribute [local go_sem, local simp] Hs.dB Hs.dG Hs.dE Hs.dH Hs.dI Hs.dJ Hs.dK Hs.dL Hs.dM Hs.dF Hs.aR Hs.aW Hs.bB Hs.bC Hs.aS Hs.aV Hs.aY Hs.bD Hs.bE Hs.bF Hs.bG Hs.bH Hs.bI Hs.bJ Hs.bK Hs.aU Hs.aQ Hs.fH Hs.fI Hs.fJ Hs.fK Hs.fM Hs.fO Hs.fP Hs.fQ Hs.fT Hs.fU Hs.dN Hs.dO Hs.dP Hs.dQ Hs.dR Hs.dS Hs.dU Hs.dV Hs.dW Hs.dX Hs.dY Hs.dZ Hs.eB Hs.bL Hs.bM Hs.bN Hs.bO Hs.bP Hs.bQ Hs.bR Hs.bS Hs.bT Hs.bU Hs.bV Hs.bW Hs.bX Hs.bY Hs.bZ Hs.cB Hs.aX Hs.fV Hs.fZ Hs.gB Hs.gD Hs.gF Hs.gG Hs.gH Hs.gI Hs.gJ Hs.gK Hs.eD Hs.eG Hs.eH Hs.aH Hs.aJ
attribute [local go_sem ↓] Hs.aK Hs.aN
attribute [local go_sem] Hs.fF Hs.cK Hs.aP Hs.eO Hs.fD
def SRow (w:World) (v:Value) (zs:List ByteArray):Prop :=
 (v = .slice none 0 0∧zs=[])∨∃ b off c,v = .slice (some ⟨b,off,none⟩) zs.length c∧∀ j u,zs[j]? = some u→w.cell? ⟨b,off+j,none⟩=some (.string u)
theorem SRow.own {w:World} {base:Nat} {e:TypeId} {v:Value} {n:Nat} {zs:List ByteArray} (h:w.ownsRow base e 1 v n (zs.map Value.string)) (hn:n=zs.length):SRow w v zs:=by
 subst hn
 rcases h.2 with⟨h1,h2⟩ | ⟨g,cap,cur,h1,_⟩
 ·exact .inl ⟨h1,List.length_eq_zero_iff.1 h2⟩
 ·refine .inr ⟨g,0,cap,h1,fun j u hj => ?_⟩
  subst h1
  have hlt:=(List.getElem?_eq_some_iff.1 hj).1
  rw[Nat.zero_add,h.cellAt j (by omega),List.getElem?_map,hj]
  rfl
theorem SRow.on {w w':World} {v:Value} {zs:List ByteArray} (h:SRow w v zs) (hb:Below w.heap.size w w'):SRow w' v zs:=by
 rcases h with h | ⟨b,off,c,h1,h2⟩
 ·exact .inl h
 ·exact .inr ⟨b,off,c,h1,fun j u hj=>by rw[hb.cell (iD (h2 j u hj))];exact h2 j u hj⟩
theorem SRow.nil (w:World):SRow w (.slice none 0 0) [] := .inl ⟨rfl,rfl⟩
theorem SRow.new (zs:List ByteArray) (cs:Array Value) (T:TypeId) (n c:Nat) (hc:cs=(zs.map Value.string).toArray) (hl:n=zs.length) (W:World):SRow (W.alloc (.cells cs T)) (.slice (some ⟨W.heap.size,0,none⟩) n c) zs:=by
 subst hc hl
 refine .inr ⟨_,0,c,rfl,fun j u hj => ?_⟩
 rw[Nat.zero_add,World.cell?_alloc_new]
 simp[hj]
def aTq (za zb:List ByteArray) (w:World) (i:Value) (wr:World):Prop:=∃ k n:Nat,i = .int .i64 k∧wr=w.drewN n∧k≤za.length∧za.take k=zb.take k
theorem aOh (w:World) (b1 o1 c1 b2 o2 c2:Nat) (za zb:List ByteArray) (hl:za.length=zb.length) (hs:za.length≤1000000)
  (h1:∀ j u,za[j]? = some u→w.cell? ⟨b1,o1+j,none⟩=some (.string u)) (h2:∀ j u,zb[j]? = some u→w.cell? ⟨b2,o2+j,none⟩=some (.string u)) :
  Calls Tryz.prog 45 #[.slice (some ⟨b1,o1,none⟩) za.length c1,.slice (some ⟨b2,o2,none⟩) za.length c2] w fun e w'=>e = .returned (.bool (decide (za=zb)))∧Below w.heap.size w w':=by
 have H1:=Lib.hid h1
 have H2:=Lib.hid h2
 have Hl:=Lib.hid hl
 clear h1 h2 hl
 go_enter Tryz.func45,Tryz.ntmps45
 go_wp2
 go_loopw [5] (fun i wr=>aTq za zb w i wr) (fun i wr=>za.length-(intOf i).toNat)
 case atStart=>exact⟨0,0,rfl,rfl,by omega,rfl⟩
 case round =>
  obtain⟨k,n,rfl,rfl,hk,he⟩:=hrel
  have He:=Lib.hid he;clear he
  by_cases hlt:k<za.length
  ·obtain⟨x,hx⟩:∃ x,za[k]? = some x:=⟨_,List.getElem?_eq_getElem hlt⟩
   obtain⟨y,hy⟩:∃ y,zb[k]? = some y:=⟨_,List.getElem?_eq_getElem (by rw[← Hl.out];exact hlt)⟩
   have cx:=H1.out k x hx
   have cy:=H2.out k y hy
   have Hx:=Lib.hid hx
   have Hy:=Lib.hid hy
   clear hx hy
   by_cases hxy:x=y
   ·subst hxy
    go_wp2_with (go_quiet (fail))
    go_roundw
    case rel=>exact⟨k+1,_,rfl,rfl,by omega,zF x Hx.out Hy.out He.out⟩
    case measure=>simp[intOf];omega
   ·have hd:(x.toList == y.toList)=false:=by rw[str_eq];simpa using hxy
    have hz:za≠zb:=fun e=>by
     have h1:=Hx.out
     rw[e,Hy.out] at h1
     exact hxy (Option.some.inj h1).symm
    have Hz:=Lib.hid hz
    clear hxy hz
    go_wp2_with (go_quiet (fail))
    go_returns
    refine⟨iL (by simp[Hz.out]),?_⟩
    first | exact Below.refl _ _ | exact below_drewN (KitI.below_drewN' _ _) _
  ·go_wp2
   go_returns
   refine⟨iL ?_,KitI.below_drewN' _ _⟩
   have hkk:k=za.length:=by omega
   have:=He.out
   rw[hkk,List.take_length,Hl.out,List.take_length] at this
   simp[this]
theorem aQ4 (w:World) (va vb:Value) (za zb:List ByteArray) (ha:SRow w va za) (hb:SRow w vb zb) (hs:za.length≤1000000) (hs2:zb.length≤1000000) :
  Calls Tryz.prog 45 #[va,vb] w fun e w'=>e = .returned (.bool (decide (za=zb)))∧Below w.heap.size w w':=by
 by_cases hl:za.length=zb.length
 ·rcases ha with⟨rfl,rfl⟩ | ⟨b1,o1,c1,rfl,h1⟩
  ·obtain rfl:zb=[]:=List.length_eq_zero_iff.1 hl.symm
   clear hs hs2 hl
   rcases hb with⟨rfl,_⟩ | ⟨b2,o2,c2,rfl,h2⟩
   all_goals
    go_enter Tryz.func45,Tryz.ntmps45
    go_wp2
    refine wp_loop_rounds 1 ?_
    rw[rounds_succ]
    go_wp2
    go_returns
    exact⟨rfl,Below.refl _ _⟩
  ·rcases hb with⟨rfl,rfl⟩ | ⟨b2,o2,c2,rfl,h2⟩
   ·obtain rfl:za=[]:=List.length_eq_zero_iff.1 hl
    clear hs hs2 hl h1
    go_enter Tryz.func45,Tryz.ntmps45
    go_wp2
    refine wp_loop_rounds 1 ?_
    rw[rounds_succ]
    go_wp2
    go_returns
    exact⟨rfl,Below.refl _ _⟩
   ·rw[← hl]
    exact aOh w b1 o1 c1 b2 o2 c2 za zb hl hs h1 h2
 ·have hz:decide (za=zb)=false:=by
   rw[decide_eq_false_iff_not]
   intro e
   exact hl (by rw[e])
  rw[hz]
  obtain⟨pa,ca,rfl⟩:∃ pa ca,va = .slice pa za.length ca:=by
   rcases ha with⟨rfl,rfl⟩ | ⟨b1,o1,c1,rfl,h1⟩
   ·exact⟨_,_,rfl⟩
   ·exact⟨_,_,rfl⟩
  obtain⟨pb,cb,rfl⟩:∃ pb cb,vb = .slice pb zb.length cb:=by
   rcases hb with⟨rfl,rfl⟩ | ⟨b1,o1,c1,rfl,h1⟩
   ·exact⟨_,_,rfl⟩
   ·exact⟨_,_,rfl⟩
  have hd:((za.length:Int) == (zb.length:Int))=false:=by
   rw[beq_eq_false_iff_ne]
   intro e
   exact hl (by omega)
  clear ha hb hz hl
  go_enter Tryz.func45,Tryz.ntmps45
  go_wp2
  go_returns
  exact⟨rfl,Below.refl _ _⟩
end Go.Proofs.YtdeiocppghhfdaaGreat.Lin
namespace Go.Proofs.YtdeiocppghhfdaaGreat
section
variable {P:Program} {Q:Exit→Act→World→Prop} {S:World→Prop}
theorem dC {l:List Oper} {r n id:Nat} {a:Act} {w:World} (hm:P.follows .mixedOrders=true) (hd:yM l=true) (hno:∀ a w,¬ Q .outgrown a w) (hp:∀ c a w,¬ Q (.panic c) a w) (hS:S w.drew)
  (h:S w.drew→wpAnyH P .any l.toArray (NoPanic Q) S l.length (Array.replicate l.length false) a w.drew):(Code.region id l.toArray true).wpIn (Fence.wide.inRound r) n P Q a w:=by
 refine wpIn_region_any hm (oQ (vL hd) (fun h => ?_) _ _ _ _ ?_)
 ·obtain⟨a,w,hn⟩:=h
  exact hno a w hn
 ·have h2:=wpAny_of_held _ _ _ _ (h hS)
  have hq:NoPanic Q=Q:=by
   funext e a w
   cases e<;>first | rfl | exact propext ⟨False.elim,fun h=>(hp _ _ _ h).elim⟩
  rw[hq] at h2
  simpa using h2
end
end Go.Proofs.YtdeiocppghhfdaaGreat
