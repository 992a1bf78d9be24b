/- Texts, one behind another. -/
import Derived.Test.YtdeiocppghhfdaaGreatZdad
set_option linter.unusedVariables false
set_option linter.unusedSimpArgs false
set_option maxRecDepth 100000
set_option maxHeartbeats 8000000
namespace Go.Proofs.YtdeiocppghhfdaaGreat.Hs
open Go.RowKit Go.Lib Go.Shelf
open KitI (own_below)
attribute [local go_sem] Oper.semAt_some
attribute [local go_sem, local simp] dB dG dE dH dI dJ dK dL dM dF aR aW bB bC aS aV aY bD bE bF bG bH bI bJ bK aU aQ fH fI fJ fK fM fO fP fQ fT fU dN dO dP dQ dR dS dU dV dW dX dY dZ eB bL bM bN bO bP bQ bR bS bT bU bV bW bX bY bZ cB aX fV fZ gB gD gF gG gH gI gJ gK eD eG eH aH aJ
attribute [local go_sem ↓] aK aN
attribute [local go_sem] fF cK aP eO fD
attribute [local go_sem, local simp] nC
def atV (cs:List aA) (i:Nat):aA:=(cs[i]?.getD default).pure
def OInv (w:World) (B1 base:Nat) (cs:List aA) (pre:List Nat) (W:World):Prop :=
 ∃ (v:Value) (cs':List aA),Boxed W B1 25 v∧W.ownsRow base 56 27 v cs'.length (jF cs')∧cs'.map aA.pure=pre.map (atV cs)∧∀ c∈cs',DOwn w W c
theorem aEo {β:Type} (w:World) (B1 base:Nat) (cs:List aA) (f:β→List Nat):Own (fun (s:β) W=>OInv w B1 base cs (f s) W):=by
 rintro s X Y row ⟨v,cs',h1,h2,h3,h4⟩ hg hrow
 obtain⟨v',h5,h6,_⟩:=holdsRow_own (β:=List aA) base B1 25 56 27 (fun cs=>cs.length) jF (fun _ _=>True) cs' X Y row ⟨v,h1,h2,trivial⟩ hg hrow
 refine⟨v',cs',h5,h6,h3,fun c hc => ?_⟩
 rcases h4 c hc with⟨h0,h | ⟨g,cur,e1,e2,e3,e4⟩⟩
 ·exact⟨h0,.inl h⟩
 ·refine⟨h0,.inr ⟨g,cur,e1,e2,(hg.block g (Array.getElem?_eq_some_iff.1 e3).1 (fun e => ?_)).trans e3,e4⟩⟩
  obtain⟨o,ho,hc'⟩:=hrow g e.symm
  rw[e3] at ho
  cases ho
  cases hc'
theorem aG9 (W:World) (L:List Value) (T:TypeId):∀ (j:Nat) (u:Value),L[j]? = some u→(W.alloc (.cells L.toArray T)).cell? ((⟨W.heap.size,0,none⟩:Addr).add j)=some u:=by
 intro j u h
 have h2:=aM (iM W L T) j
 rw[Addr.add_mid,Nat.zero_add,h2,h]
theorem zI {w:World} {base base':Nat} {e:TypeId} {size:Nat} {v:Value} {n:Nat} {xs:List Value} (h:w.ownsRow base e size v n xs) (hb:base'≤base):w.ownsRow base' e size v n xs:=by
 refine⟨h.1,?_⟩
 rcases h.2 with h | ⟨g,cap,cur,h1,h2,h3⟩
 ·exact .inl h
 ·exact .inr ⟨g,cap,cur,h1,Nat.le_trans hb h2,h3⟩
theorem DOwn.set {w W:World} {c:aA} {B:Nat} {t:TypeId} {v v':Value} (h:DOwn w W c) (hb:Boxed W B t v) (ht:t≠94):DOwn w (W.setCell ⟨B,0,none⟩ v') c:=by
 rcases h with⟨h0,h | ⟨g,cur,h1,h2,h3,h4⟩⟩
 ·exact⟨h0,.inl h⟩
 ·refine⟨h0,.inr ⟨g,cur,h1,h2,(Below.heap_setCell _ _ _ _ (fun e => ?_)).trans h3,h4⟩⟩
  have e:g=B:=e
  subst e
  unfold Boxed at hb
  rw[h3] at hb
  cases hb
  exact ht rfl
theorem aO6 (p:Option Addr) (cap:Nat) (t:Int) (cs:List aA) (w:World) (hC:CRow w p cap cs) (hs:cs.length≤1000000) (hd:∀ c∈cs,DAt w c) :
  Calls Tryz.prog 57 #[.int .i64 t,.slice p cs.length cap] w fun e w'=>∃ v,e = .returned v∧ORow w w.heap.size w' v ((jB t cs 0).map (atV cs))∧Below w.heap.size w w':=by
 obtain⟨i0,hi,hz0,hz1,hz2⟩:=info_parts aRt
 refine (callsIn_wide (n:=4)).1 (callsIn_of_wp_marks Tryz.func57 rfl trivial (wpIn_wide.2 ?_) rfl)
 simp only[Tryz.ntmps57,List.size_toArray,List.length_cons,List.length_nil,Nat.reduceAdd,Nat.reduceSub,Array.replicate_succ,Array.replicate_zero,List.push_toArray,List.append_toArray,List.nil_append,List.cons_append]
 go_wp2_with (go_at_call 110;refine (aO2 _ _ _ _ _).mono ?_;rintro e w' ⟨rfl,rfl⟩)
 have hs0:=Boxed.new w 25 (.slice p cs.length cap)
 have hs1:=Boxed.new (w.alloc (.cells #[.slice p cs.length cap] 25)) 25 (.slice none 0 0)
 have hs2:=Boxed.new ((w.alloc (.cells #[.slice p cs.length cap] 25)).alloc (.cells #[.slice none 0 0] 25)) 3 (.int .i64 t)
 have hs3:=Boxed.new (((w.alloc (.cells #[.slice p cs.length cap] 25)).alloc (.cells #[.slice none 0 0] 25)).alloc (.cells #[.int .i64 t] 3)) 25 (.slice p cs.length cap)
 simp only[World.size_alloc] at hs0 hs1 hs2 hs3
 have k0:=((hs0.alloc (.cells #[.slice none 0 0] 25)).alloc (.cells #[.int .i64 t] 3)).alloc (.cells #[.slice p cs.length cap] 25)
 have k1:=(hs1.alloc (.cells #[.int .i64 t] 3)).alloc (.cells #[.slice p cs.length cap] 25)
 have k2:=(hs2.alloc (.cells #[.slice p cs.length cap] 25)).cell
 have k3:=hs3.cell
 have hBX:Below w.heap.size w ((((w.alloc (.cells #[.slice p cs.length cap] 25)).alloc (.cells #[.slice none 0 0] 25)).alloc (.cells #[.int .i64 t] 3)).alloc (.cells #[.slice p cs.length cap] 25)) :=
  ((((Below.refl _ _).alloc (Nat.le_refl _) _).alloc (by simp) _).alloc (by simp;omega) _).alloc (by simp;omega) _
 have hsz:((((w.alloc (.cells #[.slice p cs.length cap] 25)).alloc (.cells #[.slice none 0 0] 25)).alloc (.cells #[.int .i64 t] 3)).alloc (.cells #[.slice p cs.length cap] 25)).heap.size=w.heap.size+4:=by simp
 clear hs0 hs1 hs2 hs3
 generalize ((((w.alloc (.cells #[.slice p cs.length cap] 25)).alloc (.cells #[.slice none 0 0] 25)).alloc (.cells #[.int .i64 t] 3)).alloc (.cells #[.slice p cs.length cap] 25))=X at *
 have hCX:CRow X p cap cs:=by
  rcases hC with h | ⟨b,off,h1,h2,h3,h4⟩
  ·exact .inl h
  ·exact .inr ⟨b,off,h1,h2,by omega,h4.below hBX h3⟩
 refine (wpIn_wide (n:=4)).1 ?_
 refine wpIn_rangeFunc_ownF rfl (by omega) (gf:=159) (lb := #[.pointer (some ⟨w.heap.size+1+1+1,0,none⟩),.pointer (some ⟨w.heap.size+1+1,0,none⟩)]) rfl trivial (enters_of Tryz.func159 (by kernel_rfl) rfl)
  (aCr cs.length 3 (by omega) _ _ cap (fun i=>i<w.heap.size+4∧i≠w.heap.size+1) p cs rfl t hs X k3 k2 hCX (by intro i hi;omega) (by omega) (by omega) (by
   intro b' o' e
   rcases hC with⟨h,_⟩ | ⟨b,off,h1,_,h3,_⟩
   ·rw[h] at e;cases e
   ·rw[h1] at e;cases e;omega))
  gL.trans (zC (by intro i hi;omega)) (Below.refl _ _) (fun _=>rfl)
  (fun pre W=>OInv w (w.heap.size+1) (w.heap.size+4) cs (pre.map (·.1)) W∧Boxed W w.heap.size 25 (.slice p cs.length cap)∧Below w.heap.size w W∧Below 0 X W) (fun _ _ _=>False)
  (OwnFrom.and (Own.from (aEo _ _ _ _ _) _) (OwnFrom.and (Own.from (boxed_own _ _ (fun _ => .slice p cs.length cap)) _) (OwnFrom.and (ownFrom_below (Nat.le_refl _) (by omega)) (ownFrom_below (Nat.zero_le _) (Nat.zero_le _))))) (fun _ _ _ _ _ hs _ _=>hs) ⟨⟨_,[],k1,World.ownsRow_nil _ _ _ _,rfl,fun c h=>by cases h⟩,k0,hBX,Below.refl _ _⟩ ?a1 ?assign ?body ?done ?stop
 case assign =>
  intro l x W K hK
  gi_wp2
  exact hK
 case body =>
  rintro l pre x W ⟨⟨v,cs',hbx,hrow,hm,hD⟩,hb0,hBW,hB0⟩ hlen
  obtain⟨c,hc⟩:∃ c,cs[x.1]? = some c:=⟨_,List.getElem?_eq_getElem x.2⟩
  obtain⟨b,off,rfl,hcap,hb,hCw⟩:∃ b off,p=some ⟨b,off,none⟩∧cs.length≤cap∧b<w.heap.size∧CAt w b off cs:=by
   rcases hC with⟨_,_,h⟩ | ⟨b,off,h⟩
   ·exact absurd x.2 (by simp[h])
   ·exact⟨b,off,h⟩
  have hld:=(hCw.below hBW hb).load hc
  have c0:=hb0.cell
  have c1:=hbx.cell
  have f1:=hbx.frozen
  have hdc:=(hd c (List.mem_of_getElem? hc)).on hBW
  have hxl:=x.2
  gi_wp2_with fail
  have hS:W.drew.cell? ⟨w.heap.size+1,0,none⟩=some v∧W.drew.cell? ⟨w.heap.size,0,none⟩=some (.slice (some ⟨b,off,none⟩) cs.length cap)∧(gX (.pointer (some ⟨b,off+x.1*27,none⟩))).run Tryz.prog W.drew = .ok (.agg (aB c).toArray) W.drew:=⟨c1,c0,(hCw.below hBW.drew hb).load hc⟩
  refine aA8 (S:=fun W=>W.cell? ⟨w.heap.size+1,0,none⟩=some v∧W.cell? ⟨w.heap.size,0,none⟩=some (.slice (some ⟨b,off,none⟩) cs.length cap)∧(gX (.pointer (some ⟨b,off+x.1*27,none⟩))).run Tryz.prog W = .ok (.agg (aB c).toArray) W) (T:=8) (by kernel_rfl) (by kernel_rfl) (fun _ _ h=>h) (fun _ _ _ h=>h) hS (fun hHeld => ?_)
  refine vK (i:=0) (v := ?_) rfl (by kernel_rfl) (by kernel_rfl) (by kernel_rfl) (by kernel_rfl) (by decide) (by rfl) ?_ (by assumption) ?_
  rotate_left 1
  ·(intro w hSw;(try dsimp only at hSw);go_simp;all_goals with_reducible rfl)
  (try simp only[Act.put,List.setIfInBounds_toArray,List.set_cons_zero,List.set_cons_succ])
  refine vK (i:=1) (v := ?_) rfl (by kernel_rfl) (by kernel_rfl) (by kernel_rfl) (by kernel_rfl) (by decide) (by rfl) ?_ (by assumption) ?_
  rotate_left 1
  ·(intro w hSw;(try dsimp only at hSw);go_simp;all_goals with_reducible rfl)
  (try simp only[Act.put,List.setIfInBounds_toArray,List.set_cons_zero,List.set_cons_succ])
  refine vK (i:=2) (v := ?_) rfl (by kernel_rfl) (by kernel_rfl) (by kernel_rfl) (by kernel_rfl) (by decide) (by rfl) ?_ (by assumption) ?_
  rotate_left 1
  ·(intro w hSw;(try dsimp only at hSw);go_simp;all_goals with_reducible rfl)
  (try simp only[Act.put,List.setIfInBounds_toArray,List.set_cons_zero,List.set_cons_succ])
  refine vK (i:=3) (v := ?_) rfl (by kernel_rfl) (by kernel_rfl) (by kernel_rfl) (by kernel_rfl) (by decide) (by rfl) ?_ (by assumption) ?_
  rotate_left 1
  ·(intro w hSw;(try dsimp only at hSw);go_simp;all_goals with_reducible rfl)
  (try simp only[Act.put,List.setIfInBounds_toArray,List.set_cons_zero,List.set_cons_succ])
  refine vK (i:=4) (v := ?_) rfl (by kernel_rfl) (by kernel_rfl) (by kernel_rfl) (by kernel_rfl) (by decide) (by rfl) ?_ (by assumption) ?_
  rotate_left 1
  ·(intro w hSw;(try dsimp only at hSw);go_simp;all_goals with_reducible rfl)
  (try simp only[Act.put,List.setIfInBounds_toArray,List.set_cons_zero,List.set_cons_succ])
  refine yL (i:=5) rfl (by kernel_rfl) (by rfl) (fun K hK => ?_)
  go_simp
  go_at_call 76
  refine (aG7 c _ (hdc.on (Below.refl _ _).drew)).mono ?_
  rintro e w2 ⟨c',rfl,hpu,hDc,hB2⟩
  (try go_wp2_with fail)
  have hBd:Below W.heap.size W w2:=(Below.refl _ _).drew.trans hB2
  have hbx2:Boxed w2 (w.heap.size+1) 25 v:=(hBd.block _ hbx.lt).trans hbx
  have hb02:Boxed w2 w.heap.size 25 (.slice (some ⟨b,off,none⟩) cs.length cap):=(hBd.block _ hb0.lt).trans hb0
  have hrow2:=own_below hrow hBd
  have hD2:∀ c∈cs',DOwn w w2 c:=fun c hc=>(hD c hc).on hBd
  have hDn:DOwn w w2 c':=hDc.mono hBW.size
  have hBw2:=hBW.trans (hBd.mono hBW.size)
  have hS2:w2.cell? ⟨w.heap.size+1,0,none⟩=some v∧w2.cell? ⟨w.heap.size,0,none⟩=some (.slice (some ⟨b,off,none⟩) cs.length cap)∧(gX (.pointer (some ⟨b,off+x.1*27,none⟩))).run Tryz.prog w2 = .ok (.agg (aB c).toArray) w2:=⟨hbx2.cell,hb02.cell,(hCw.below hBw2 hb).load hc⟩
  refine hK.out _ _ (fun _=>hS2) ?_
  clear hK K
  (try simp only[Act.put,List.setIfInBounds_toArray,List.set_cons_zero,List.set_cons_succ])
  refine yL (i:=6) rfl (by kernel_rfl) (by rfl) (fun K hK => ?_)
  go_simp
  have hbx3:=hbx2.alloc (.cells (aB c').toArray 56)
  have hb03:=hb02.alloc (.cells (aB c').toArray 56)
  have hBa:Below w2.heap.size w2 (w2.alloc (.cells (aB c').toArray 56)):=(Below.refl _ _).alloc (Nat.le_refl _) _
  refine hK.out _ _ (fun _=>⟨hbx3.cell,hb03.cell,(hCw.below (hBw2.trans (hBa.mono hBw2.size)) hb).load hc⟩) ?_
  clear hK K
  (try simp only[Act.put,List.setIfInBounds_toArray,List.set_cons_zero,List.set_cons_succ])
  refine yL (i:=7) rfl (by kernel_rfl) (by rfl) (fun K hK => ?_)
  have hlen2:cs'.length≤1000000:=by
   have h1:cs'.length=pre.length:=by
    have:=congrArg List.length hm
    simpa using this
   omega
  have hrow3:=hrow2.alloc (.cells (aB c').toArray 56)
  have hhB:w.heap.size+4≤w2.heap.size:=by have:=hB0.size;have:=hBd.size;omega
  refine wp_append_own _ _ _ 25 rfl (w.heap.size+4) 56 i0 _ 27 240 Tryz.underlying25 hi hz0 hz1 hz2 rfl (by decide) _ _ _ rfl hrow3 ⟨_,0,none⟩ 1 1 (aB c') rfl (by rw[aH]) (aG9 _ _ _) (tY c') (by unfold maxLen;omega) (by omega) (by simp;omega) ?_
  intro v' w3 hown' hgrow _
  obtain⟨g',cap',rfl⟩:=ownsRow_succ hown'
  obtain⟨hv1,hv2,_,hk2,hb2⟩:=hbx2.appended (by decide) (zI hrow2 (Nat.le_add_right _ _)) (Nat.le_trans hBW.size hBd.size) (Nat.le_add_right _ _) (zI hown' (Nat.le_add_right _ _)) hgrow
  have hr2:=hown'.kept (grownBy_setCell' w3 (w.heap.size+1) (.slice (some ⟨g',0,none⟩) (cs'.length+1) cap')) (.inr (hv1.not_row (by decide) hown').symm)
  have hb3:Below (w.heap.size+4) w2 w3:=((Below.refl _ w2).alloc hhB (.cells (aB c').toArray 56)).grown hgrow (by simp;omega) (fun k hk=>(hrow2.lt k hk).1)
  have hb0f:Boxed w3 w.heap.size 25 (.slice (some ⟨b,off,none⟩) cs.length cap):=(hb3.block _ (by omega)).trans hb02
  have hBw3:=hBw2.trans (hb3.mono (by omega))
  have hDf:∀ c0∈cs'++[c'],DOwn w (w3.setCell ⟨w.heap.size+1,0,none⟩ (.slice (some ⟨g',0,none⟩) (cs'.length+1) cap')) c0:=fun c0 h0=>by
   refine DOwn.set ?_ hv1 (by decide)
   rcases List.mem_append.1 h0 with h0 | h0
   ·exact ((hD2 c0 h0).on hBa).grown hrow3 hgrow
   ·rw[List.mem_singleton.1 h0];exact (hDn.on hBa).grown hrow3 hgrow
  have hmap:(cs'++[c']).map aA.pure=((pre++[x]).map (·.1)).map (atV cs):=by
   rw[List.map_append,hm,List.map_append,List.map_append,List.map_singleton,List.map_singleton,List.map_singleton,hpu]
   congr 2
   unfold atV
   rw[hc]
   rfl
  have hko:=((KeepsOthers.drew W).trans (gZ hB2)).trans hk2
  have hkb:gL (fun i=>i<w.heap.size+4∧i≠w.heap.size+1) W (w3.setCell ⟨w.heap.size+1,0,none⟩ (.slice (some ⟨g',0,none⟩) (cs'.length+1) cap')) :=
   (gL.of_below hBd (fun k hk=>by have:=hB0.size;have:=hk.1;omega)).trans ⟨Nat.le_trans hb3.size (by simp[World.setCell]),fun k hk=>(Below.heap_setCell _ _ _ _ (by simpa using hk.2)).trans (hb3.block k hk.1)⟩
  have hIf:OInv w (w.heap.size+1) (w.heap.size+4) cs ((pre++[x]).map (·.1)) (w3.setCell ⟨w.heap.size+1,0,none⟩ (.slice (some ⟨g',0,none⟩) (cs'.length+1) cap')) :=
   ⟨_,cs'++[c'],hv2,by rw[qB,List.length_append];exact hr2,hmap,hDf⟩
  have hb0g:=hb0f.other (B':=w.heap.size+1) (by omega) (.slice (some ⟨g',0,none⟩) (cs'.length+1) cap')
  have hBwf:=hBw2.trans hb2
  have hB0f:=hB0.trans ((hBd.mono (Nat.zero_le _)).trans (hb2.mono (Nat.zero_le _)))
  refine hK.out _ _ (fun _=>⟨hv1.cell,hb0f.cell,(hCw.below hBw3 hb).load hc⟩) ?_
  clear hK K
  (try simp only[Act.put,List.setIfInBounds_toArray,List.set_cons_zero,List.set_cons_succ])
  refine yL (i:=8) rfl (by kernel_rfl) (by rfl) (fun K hK => ?_)
  have c3:=hv1.cell
  have f3:=hv1.frozen
  go_simp
  refine hK.out _ _ (fun h=>absurd rfl h) ?_
  clear hK K
  (try simp only[Act.put,List.setIfInBounds_toArray,List.set_cons_zero,List.set_cons_succ])
  refine aO5 (by kernel_rfl) ?_ _
  refine NoPanic.normal ?_
  exact⟨hko,hkb,hIf,hb0g,hBwf,hB0f⟩
 case done =>
  rintro D ys W hD hys ⟨⟨v,cs',hbx,hrow,hm,hDs⟩,hb0,hBW,hB0⟩ hK
  have c1:=hbx.cell
  go_wp2
  have hO:=(aEo (β:=Unit) w (w.heap.size+1) (w.heap.size+4) cs (fun _=>ys.map (·.1))).putObj (s:=()) (.deferred none) ⟨v,cs',hbx,hrow,hm,hDs⟩ hK rfl
  obtain⟨v2,cs2,e1,e2,e3,e4⟩:=hO
  have e5:Boxed (W.putObj D (.deferred none)) (w.heap.size+1) 25 v:=(World.putObj_heap_other (by omega)).trans hbx
  obtain rfl:v2=v:=by
   unfold Boxed at e1 e5
   rw[e5] at e1
   cases e1
   rfl
  have hys':ys.map (·.1)=jB t cs 0:=hys
  refine⟨by simp,.inl ⟨D,_,rfl,run_takeDeferred hK,⟨v2,by simp[results,Tryz.f57,go_sem],v2,rfl,⟨cs2,by rw[e3,hys'],zI e2 (Nat.le_add_right _ _),e4⟩,hBW.trans (aBm (by omega) _ _)⟩⟩⟩
 case stop =>
  rintro D c' pre W hD _ h _
  exact h.elim
end Go.Proofs.YtdeiocppghhfdaaGreat.Hs
namespace Go.Proofs.YtdeiocppghhfdaaGreat.Hs
open Go.RowKit Go.Lib Go.Shelf
open KitI (iv IRow own_below lS)
attribute [local go_sem, local simp] dB dG dE dH dI dJ dK dL dM dF aR aW bB bC aS aV aY bD bE bF bG bH bI bJ bK aU aQ fH fI fJ fK fM fO fP fQ fT fU dN dO dP dQ dR dS dU dV dW dX dY dZ eB bL bM bN bO bP bQ bR bS bT bU bV bW bX bY bZ cB aX fV fZ gB gD gF gG gH gI gJ gK eD eG eH aH aJ
attribute [local go_sem ↓] aK aN
attribute [local go_sem] fF cK aP eO fD
def zeroV:aA:={ thread:=0,index:=0,okind:=0,oslot:=0,oat:=0,on:=0,oid:=0,ograv:=0,otext:=⟨#[]⟩,invoked:=0,took:=0,rank:=0,answered:=0,steps:=0,err:=0,rev:=0,rslot:=0,rat:=0,rgrav:=0,rtext:=⟨#[]⟩,mb:=0,mr:=0,ml:=0,ik:=0,ifrom:=0,ito:=0,ps:=[],da:=none,dc:=0 }
def ex0:aA:={ zeroV with took:=5,answered:=7,steps:=3 }
def ex1:aA:={ zeroV with thread:=1,invoked:=1,took:=5,rank:=1,answered:=9,steps:=4 }
def ex2:aA:={ zeroV with index:=1,invoked:=8,took := -1,answered := -1 }
end Go.Proofs.YtdeiocppghhfdaaGreat.Hs
namespace Go.Proofs.YtdeiocppghhfdaaGreat.Hs
open Go.RowKit Go.Lib Go.Shelf
open KitI (iv IRow own_below lS aCt)
attribute [local go_sem, local simp] dB dG dE dH dI dJ dK dL dM dF aR aW bB bC aS aV aY bD bE bF bG bH bI bJ bK aU aQ fH fI fJ fK fM fO fP fQ fT fU dN dO dP dQ dR dS dU dV dW dX dY dZ eB bL bM bN bO bP bQ bR bS bT bU bV bW bX bY bZ cB aX fV fZ gB gD gF gG gH gI gJ gK eD eG eH aH aJ
attribute [local go_sem ↓] aK aN
attribute [local go_sem] fF cK aP eO fD
theorem eqiT (W:World) (va vb:Value) (zs:List Int) (ha:IRow W va zs) (hb:IRow W vb zs) (hs:zs.length≤1000000):Calls Tryz.prog 24 #[va,vb] W fun e w'=>e = .returned (.bool true)∧Below W.heap.size W w':=by
 have h:=aCt W va vb zs zs ha hb hs hs
 rwa [decide_eq_true rfl] at h
theorem gV (W:World) (o:Obj):Below W.heap.size W (W.alloc o):=(Below.refl _ _).alloc (Nat.le_refl _) _
attribute [local irreducible] aB ex0 ex1 ex2
end Go.Proofs.YtdeiocppghhfdaaGreat.Hs
namespace Go.Proofs.YtdeiocppghhfdaaGreat.Hs
open Go.RowKit Go.Lib Go.Shelf
open KitI (own_below)
theorem aC0 (ps:List gN) (k:Nat) (p:gN) (h:ps[k]? = some p):fB (ps.take (k+1))=fB (ps.take k)++mQ p:=by
 rw[List.take_add_one,h]
 unfold fB
 simp
theorem aEp (ps:List gN) (k j:Nat) (p:gN) (h:ps[k]? = some p) (hj:j<3):(fB ps)[k*3+j]? = (mQ p)[j]? := by
 have e:ps=ps.take k++(p::ps.drop (k+1)):=by
  have hlt:=(List.getElem?_eq_some_iff.1 h).1
  have h2:=(List.getElem?_eq_some_iff.1 h).2
  rw[← h2,← List.drop_eq_getElem_cons hlt,List.take_append_drop]
 have hlt:=(List.getElem?_eq_some_iff.1 h).1
 have e2:fB ps=fB (ps.take k)++(mQ p++fB (ps.drop (k+1))):=by
  conv=>lhs;rw[e]
  unfold fB
  simp
 rw[e2,List.getElem?_append_right (by rw[lT,List.length_take];omega),lT,List.length_take,Nat.min_eq_left (by omega),Nat.add_sub_cancel_left,List.getElem?_append_left (by rw[rH];omega)]
theorem aEq (p:gN):∀ u∈mQ p,u.oneCell'=true:=by
 intro u hu
 unfold mQ at hu
 simp only[List.mem_cons,List.not_mem_nil,or_false] at hu
 rcases hu with rfl | rfl | rfl<;>rfl
theorem fC (W:World) (L:List Value) (T:TypeId):∀ (j:Nat) (u:Value),L[j]? = some u→(W.alloc (.cells L.toArray T)).cell? ((⟨W.heap.size,0,none⟩:Addr).add j)=some u:=by
 intro j u h
 have h2:=aM (iM W L T) j
 rw[Addr.add_mid,Nat.zero_add,h2,h]
def aS5 (w:World) (ps:List gN) (o i:Value) (wr:World):Prop :=
 ∃ k:Nat,i = .int .i64 k∧k≤ps.length∧wr.ownsRow w.heap.size 94 3 o k (fB (ps.take k))∧Below w.heap.size w wr
theorem aHa (b off cap:Nat) (ps:List gN) (w:World) (hb:b<w.heap.size) (hs:ps.length≤1000000) (h:∀ j u,(fB ps)[j]? = some u→w.cell? ⟨b,off+j,none⟩=some u) :
  Calls Tryz.prog 116 #[.slice (some ⟨b,off,none⟩) ps.length cap] w fun e w'=>∃ v,e = .returned v∧w'.ownsRow w.heap.size 94 3 v ps.length (fB ps)∧Below w.heap.size w w':=by
 obtain⟨i0,hi,hz0,hz1,hz2⟩:=info_parts qP
 have H:=Lib.hid h
 clear h
 go_enter Tryz.func116,Tryz.ntmps116
 go_wp2
 go_loopw [3,4] (fun o i wr=>aS5 w ps o i wr) (fun o i wr=>ps.length-(intOf i).toNat)
 case atStart=>exact⟨0,rfl,by omega,World.ownsRow_nil _ _ _ _,Below.refl _ _⟩
 case round =>
  obtain⟨k,rfl,hk,hown,hB⟩:=hrel
  by_cases hlt:k<ps.length
  ·obtain⟨p,hp⟩:∃ p,ps[k]? = some p:=⟨_,List.getElem?_eq_getElem hlt⟩
   have ce:∀ j u,j<3→(mQ p)[j]? = some u→wr.cell? ⟨b,off+k*3+j,none⟩=some u:=fun j u hj hu=>by
    rw[hB.cell (p:=⟨b,off+k*3+j,none⟩) hb,Nat.add_assoc]
    exact H.out (k*3+j) u (by rw[aEp ps k j p hp hj];exact hu)
   have d0:wr.cell? ⟨b,off+k*3,none⟩=some (.int .u8 p.kind):=ce 0 _ (by omega) rfl
   have d1:=ce 1 _ (by omega) rfl
   have d2:=ce 2 _ (by omega) rfl
   have hst:=aC0 ps k p hp
   have Hst:=Lib.hid hst
   clear ce hst hp
   go_wp2_with (at_builtin;refine wpList_append_own _ rfl _ _ 47 rfl w.heap.size 94 i0 _ 3 32 Tryz.underlying47 hi hz0 hz1 hz2 rfl (by decide) _ _ _ rfl (hown.alloc _) ⟨_,0,none⟩ 1 1 (mQ p) rfl rfl (fC _ _ _) (aEq p) (by unfold maxLen;omega) (by omega) (by have:=hB.size;simp;omega) ?_;intro v' w3 hown' hgrow _)
   have hB3:=(hB.alloc hB.size (.cells (mQ p).toArray 94)).grown hgrow (by have:=hB.size;simp at *;omega) fun k hk=>(hown.lt k hk).1
   go_roundw
   case rel=>exact⟨k+1,by go_num,by omega,by rw[Hst.out];exact hown',hB3⟩
   case measure=>simp[intOf];omega
  ·go_wp2
   go_returns
   have hkk:k=ps.length:=by omega
   subst hkk
   rw[List.take_length] at hown
   exact⟨_,rfl,hown,hB⟩
end Go.Proofs.YtdeiocppghhfdaaGreat.Hs
namespace Go.Proofs.YtdeiocppghhfdaaGreat.Hs
open Go.RowKit Go.Lib Go.Shelf
open KitI (own_below)
attribute [local go_sem, local simp] dB dG dE dH dI dJ dK dL dM dF aR aW bB bC aS aV aY bD bE bF bG bH bI bJ bK aU aQ fH fI fJ fK fM fO fP fQ fT fU dN dO dP dQ dR dS dU dV dW dX dY dZ eB bL bM bN bO bP bQ bR bS bT bU bV bW bX bY bZ cB aX fV fZ gB gD gF gG gH gI gJ gK eD eG eH aH aJ
attribute [local go_sem ↓] aK aN
attribute [local go_sem] fF cK aP eO fD
theorem aJ4 (p:Option Addr) (cap:Nat) (w:World):Calls Tryz.prog 116 #[.slice p 0 cap] w fun e w'=>e = .returned (.slice none 0 0)∧Below w.heap.size w w':=by
 go_enter Tryz.func116,Tryz.ntmps116
 go_wp2
 refine wp_loop_rounds 1 ?_
 rw[rounds_succ]
 go_wp2
 go_returns
 exact⟨rfl,Below.refl _ _⟩
theorem aC1 (c:aA) (w:World) (hd:c.ps=[]∨DAt w c):Calls Tryz.prog 60 #[.agg (aB c).toArray] w fun e w'=>∃ c',e = .returned (.agg (aB c').toArray)∧c'.pure=c.pure∧DOwn w w' c'∧Below w.heap.size w w':=by
 have hb0:=nP (iM w (aB c) 56) (.cells #[.int .i64 0,.int .i64 0,.int .u8 0,.int .i64 0,.int .i64 0,.int .i64 0,.int .u32 0,.int .u8 0,.string ⟨#[]⟩,.int .i64 0,.int .i64 0,.int .i64 0,.int .i64 0,.int .i64 0,.int .i64 0,.int .i64 0,.int .i64 0,.int .i64 0,.int .u8 0,.string ⟨#[]⟩,.int .i64 0,.int .i64 0,.int .i64 0,.int .u8 0,.int .i64 0,.int .i64 0,.slice none 0 0] 56)
 have hz0:=iM (w.alloc (.cells (aB c).toArray 56)) [.int .i64 0,.int .i64 0,.int .u8 0,.int .i64 0,.int .i64 0,.int .i64 0,.int .u32 0,.int .u8 0,.string ⟨#[]⟩,.int .i64 0,.int .i64 0,.int .i64 0,.int .i64 0,.int .i64 0,.int .i64 0,.int .i64 0,.int .i64 0,.int .i64 0,.int .u8 0,.string ⟨#[]⟩,.int .i64 0,.int .i64 0,.int .i64 0,.int .u8 0,.int .i64 0,.int .i64 0,.slice none 0 0] 56
 rw[World.size_alloc] at hz0
 have hBa:Below w.heap.size w ((w.alloc (.cells (aB c).toArray 56)).alloc (.cells #[.int .i64 0,.int .i64 0,.int .u8 0,.int .i64 0,.int .i64 0,.int .i64 0,.int .u32 0,.int .u8 0,.string ⟨#[]⟩,.int .i64 0,.int .i64 0,.int .i64 0,.int .i64 0,.int .i64 0,.int .i64 0,.int .i64 0,.int .i64 0,.int .i64 0,.int .u8 0,.string ⟨#[]⟩,.int .i64 0,.int .i64 0,.int .i64 0,.int .u8 0,.int .i64 0,.int .i64 0,.slice none 0 0] 56)):=((Below.refl _ _).alloc (Nat.le_refl _) _).alloc (by simp) _
 have q26:=aM hb0 26
 rw[aQ] at q26
 -- what comes after the copy of the delta
 have after:∀ (w3:World) (a:Option Addr) (n:Nat),Below (w.heap.size+2) ((w.alloc (.cells (aB c).toArray 56)).alloc (.cells #[.int .i64 0,.int .i64 0,.int .u8 0,.int .i64 0,.int .i64 0,.int .i64 0,.int .u32 0,.int .u8 0,.string ⟨#[]⟩,.int .i64 0,.int .i64 0,.int .i64 0,.int .i64 0,.int .i64 0,.int .i64 0,.int .i64 0,.int .i64 0,.int .i64 0,.int .u8 0,.string ⟨#[]⟩,.int .i64 0,.int .i64 0,.int .i64 0,.int .u8 0,.int .i64 0,.int .i64 0,.slice none 0 0] 56)) w3 →
   ∃ c':aA,(c'.pure=c.pure∧c'.ps=c.ps∧c'.da=a∧c'.dc=n)∧w3.cell? ⟨w.heap.size,26,none⟩=some (.slice c.da c.ps.length c.dc)∧w3.frozen? ⟨w.heap.size,26,none⟩=false ∧
   (gX (.pointer (some ⟨w.heap.size,0,none⟩))).run Tryz.prog (w3.setCell ⟨w.heap.size,26,none⟩ (.slice a c.ps.length n)) = .ok (.agg (aB c').toArray) (w3.setCell ⟨w.heap.size,26,none⟩ (.slice a c.ps.length n)) ∧
   (storeCells ⟨w.heap.size+1,0,none⟩ (aB c')).run Tryz.prog (w3.setCell ⟨w.heap.size,26,none⟩ (.slice a c.ps.length n)) = .ok () ((w3.setCell ⟨w.heap.size,26,none⟩ (.slice a c.ps.length n)).setRow (w.heap.size+1) (aB c').toArray) ∧
   ((w3.setCell ⟨w.heap.size,26,none⟩ (.slice a c.ps.length n)).setRow (w.heap.size+1) (aB c').toArray).heap[w.heap.size+1]? = some (.cells (aB c').toArray 56 (0,0)) ∧
   (∀ B,B≤w.heap.size→Below B w3 ((w3.setCell ⟨w.heap.size,26,none⟩ (.slice a c.ps.length n)).setRow (w.heap.size+1) (aB c').toArray)) ∧
   (∀ g,w.heap.size+2≤g→((w3.setCell ⟨w.heap.size,26,none⟩ (.slice a c.ps.length n)).setRow (w.heap.size+1) (aB c').toArray).heap[g]? = w3.heap[g]?):=by
  intro w3 a n hB
  have h1:=gU hb0 hB (by omega)
  have h2:=gU hz0 hB (by omega)
  have e:=setCell_eq_setRow w3 w.heap.size 26 _ _ _ (.slice a c.ps.length n) h1
  rw[aEm] at e
  have h3:(w3.setCell ⟨w.heap.size,26,none⟩ (.slice a c.ps.length n)).heap[w.heap.size]? = some (.cells (aB { c with da:=a,dc:=n }).toArray 56 (0,0)):=by rw[e];exact setRow_heap _ _ _ _ _ _ h1
  have h4:(w3.setCell ⟨w.heap.size,26,none⟩ (.slice a c.ps.length n)).heap[w.heap.size+1]? = some (.cells #[.int .i64 0,.int .i64 0,.int .u8 0,.int .i64 0,.int .i64 0,.int .i64 0,.int .u32 0,.int .u8 0,.string ⟨#[]⟩,.int .i64 0,.int .i64 0,.int .i64 0,.int .i64 0,.int .i64 0,.int .i64 0,.int .i64 0,.int .i64 0,.int .i64 0,.int .u8 0,.string ⟨#[]⟩,.int .i64 0,.int .i64 0,.int .i64 0,.int .u8 0,.int .i64 0,.int .i64 0,.slice none 0 0] 56 (0,0)):=by rw[e,setRow_other _ _ _ _ (by omega)];exact h2
  refine⟨{ c with da:=a,dc:=n },⟨rfl,rfl,rfl,rfl⟩,(aM h1 26).trans (aQ c),qA h1 26,oJ _ h3,aLy rfl h4 _,setRow_heap _ _ _ _ _ _ h4,fun B hB => ?_,fun g hg => ?_⟩
  ·exact iE ((Below.refl _ _).setCell (p:=⟨w.heap.size,26,none⟩) hB _) (by omega) _
  ·rw[setRow_other _ _ _ _ (by omega),Below.heap_setCell _ _ _ _ (by simp;omega)]
 have After:=Lib.hid after
 clear after hz0
 replace hd:c.ps=[]∨(c.ps.length≤1000000∧∃ b off,c.da=some ⟨b,off,none⟩∧b<w.heap.size∧∀ j u,(fB c.ps)[j]? = some u→w.cell? ⟨b,off+j,none⟩=some u):=by
  rcases hd with h | ⟨h0,⟨_,h,_⟩ | h⟩
  ·exact .inl h
  ·exact .inl h
  ·exact .inr ⟨h0,h⟩
 rcases hd with h2 | ⟨hdl,b,off,h1,h2,h3⟩
 ·have hdl:c.ps.length≤1000000:=by rw[h2];simp
  rw[h2] at q26
  rw[List.length_nil] at q26
  have cl:∀ W,Calls Tryz.prog 116 #[.slice c.da 0 c.dc] W fun e w'=>e = .returned (.slice none 0 0)∧Below W.heap.size W w':=fun W=>aJ4 _ _ W
  have H2:=Lib.hid h2
  have HB:=Lib.hid hBa
  clear h2 hb0 hBa
  go_enter Tryz.func60,Tryz.ntmps60
  go_wp2_with fail
  refine (cl _).mono ?_
  clear cl
  rintro e w3 ⟨rfl,hB3⟩
  have hs:((w.alloc (.cells (aB c).toArray 56)).alloc (.cells #[.int .i64 0,.int .i64 0,.int .u8 0,.int .i64 0,.int .i64 0,.int .i64 0,.int .u32 0,.int .u8 0,.string ⟨#[]⟩,.int .i64 0,.int .i64 0,.int .i64 0,.int .i64 0,.int .i64 0,.int .i64 0,.int .i64 0,.int .i64 0,.int .i64 0,.int .u8 0,.string ⟨#[]⟩,.int .i64 0,.int .i64 0,.int .i64 0,.int .u8 0,.int .i64 0,.int .i64 0,.slice none 0 0] 56)).heap.size=w.heap.size+2:=by simp
  rw[hs] at hB3
  obtain⟨c',⟨e1,e2,e3,e4⟩,q1,q2,q3,q4,q5,q6,q7⟩:=After.out w3 none 0 hB3
  have hB6:=(HB.out.trans (hB3.mono (by omega))).trans (q6 _ (Nat.le_refl _))
  have hfin:DOwn w ((w3.setCell ⟨w.heap.size,26,none⟩ (.slice none c.ps.length 0)).setRow (w.heap.size+1) (aB c').toArray) c':=⟨by rw[e2];exact hdl,.inl ⟨e3,e2.trans H2.out,e4⟩⟩
  rw[H2.out] at q1 q3 q4 q5 hfin hB6
  rw[List.length_nil] at q1 q3 q4 q5 hfin hB6
  have HF:=Lib.hid (And.intro e1 (And.intro hfin hB6))
  have Hr:=Lib.hid q5
  clear hfin hB6 e1 e2 e3 e4 q5 q6 q7 hB3 hs q26
  go_wp2
  exact⟨rfl,_,results_cell_row rfl _ _ _ _ _ _ _ rfl Hr.out Tryz.underlying56 rfl (by kernel_rfl),c',rfl,HF.out.1,HF.out.2.1,HF.out.2.2⟩
 ·have cl:=aHa b off c.dc c.ps _ (Nat.lt_of_lt_of_le h2 hBa.size) hdl (fun j u hj=>by rw[hBa.cell (p:=⟨b,off+j,none⟩) h2];exact h3 j u hj)
  rw[h1] at q26
  have H1:=Lib.hid h1
  have HB:=Lib.hid hBa
  clear h1 h2 h3 hb0 hBa
  go_enter Tryz.func60,Tryz.ntmps60
  go_wp2_with fail
  refine cl.mono ?_
  clear cl
  rintro e w3 ⟨v',rfl,hown,hB3⟩
  have hs:((w.alloc (.cells (aB c).toArray 56)).alloc (.cells #[.int .i64 0,.int .i64 0,.int .u8 0,.int .i64 0,.int .i64 0,.int .i64 0,.int .u32 0,.int .u8 0,.string ⟨#[]⟩,.int .i64 0,.int .i64 0,.int .i64 0,.int .i64 0,.int .i64 0,.int .i64 0,.int .i64 0,.int .i64 0,.int .i64 0,.int .u8 0,.string ⟨#[]⟩,.int .i64 0,.int .i64 0,.int .i64 0,.int .u8 0,.int .i64 0,.int .i64 0,.slice none 0 0] 56)).heap.size=w.heap.size+2:=by simp
  rw[hs] at hB3 hown
  rcases hown.2 with⟨rfl,hn0⟩ | ⟨g,cg,cur,rfl,hg,hgc,_⟩
  ·have hps:c.ps=[]:=List.length_eq_zero_iff.1 hn0
   obtain⟨c',⟨e1,e2,e3,e4⟩,q1,q2,q3,q4,q5,q6,q7⟩:=After.out w3 none 0 hB3
   have hB6:=(HB.out.trans (hB3.mono (by omega))).trans (q6 _ (Nat.le_refl _))
   have hfin:DOwn w ((w3.setCell ⟨w.heap.size,26,none⟩ (.slice none c.ps.length 0)).setRow (w.heap.size+1) (aB c').toArray) c':=⟨by rw[e2];exact hdl,.inl ⟨e3,e2.trans hps,e4⟩⟩
   rw[hn0] at q3 q4 q5 hfin hB6
   rw[H1.out] at q1
   have HF:=Lib.hid (And.intro e1 (And.intro hfin hB6))
   have Hr:=Lib.hid q5
   clear hfin hB6 e1 e2 e3 e4 q5 q6 q7 hB3 hs q26 hown
   go_wp2
   exact⟨rfl,_,results_cell_row rfl _ _ _ _ _ _ _ rfl Hr.out Tryz.underlying56 rfl (by kernel_rfl),c',rfl,HF.out.1,HF.out.2.1,HF.out.2.2⟩
  ·obtain⟨c',⟨e1,e2,e3,e4⟩,q1,q2,q3,q4,q5,q6,q7⟩:=After.out w3 (some ⟨g,0,none⟩) cg hB3
   have hB6:=(HB.out.trans (hB3.mono (by omega))).trans (q6 _ (Nat.le_refl _))
   have hfin:DOwn w ((w3.setCell ⟨w.heap.size,26,none⟩ (.slice (some ⟨g,0,none⟩) c.ps.length cg)).setRow (w.heap.size+1) (aB c').toArray) c' :=
    ⟨by rw[e2];exact hdl,.inr ⟨g,cur,e3,by omega,(q7 g hg).trans hgc,fun j u hj=>by
     rw[e2] at hj
     have hlt:=(List.getElem?_eq_some_iff.1 hj).1
     rw[lT] at hlt
     have:=hown.cellAt j hlt
     rw[cell_of_row _ _ _ _ _ _ hgc,hj] at this
     exact this⟩⟩
   have HF:=Lib.hid (And.intro e1 (And.intro hfin hB6))
   rw[H1.out] at q1
   have Hr:=Lib.hid q5
   clear hfin hB6 e1 e2 e3 e4 q5 q6 q7 hown hgc hB3 hs q26
   go_wp2
   exact⟨rfl,_,results_cell_row rfl _ _ _ _ _ _ _ rfl Hr.out Tryz.underlying56 rfl (by kernel_rfl),c',rfl,HF.out.1,HF.out.2.1,HF.out.2.2⟩
end Go.Proofs.YtdeiocppghhfdaaGreat.Hs
namespace Go.Proofs.YtdeiocppghhfdaaGreat.Hs
open Go.RowKit Go.Lib Go.Shelf
def lY (c:aA):aA:={ c with ps:=c.ps.take 100 }
theorem aHb (c:aA):(lY c).ps.length≤100:=by unfold lY;simp;omega
def fewL (cs:List aA):List aA:=(cs.take 24).map fun c=>(lY c).pure
theorem rJ (cs:List aA):(fewL cs).length≤24:=by unfold fewL;simp;omega
theorem aMg {cs:List aA} {k:Nat} {c:aA} (h:cs[k]? = some c) (hk:k<24):fewL (cs.take (k+1))=fewL (cs.take k)++[(lY c).pure]:=by
 unfold fewL
 rw[List.take_take,List.take_take,Nat.min_eq_right (by omega),Nat.min_eq_right (by omega),List.take_add_one,h,Option.toList_some,List.map_append]
 rfl
end Go.Proofs.YtdeiocppghhfdaaGreat.Hs
