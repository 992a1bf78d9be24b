/- Texts, one behind another. -/
import Derived.Test.YtdeiocppghhfdaaGreatZdbf
set_option linter.unusedVariables false
set_option linter.unusedSimpArgs false
set_option maxRecDepth 100000
set_option maxHeartbeats 8000000
namespace Go.Proofs.YtdeiocppghhfdaaGreat.Lin
open Go.RowKit Go.Lib Go.Shelf
open Hs
open KitI (iv IRow own_below lS)
attribute [local go_sem, local simp] Hs.dB Hs.dG Hs.dE Hs.dH Hs.dI Hs.dJ Hs.dK Hs.dL Hs.dM Hs.dF Hs.aR Hs.aW Hs.bB Hs.bC Hs.aS Hs.aV Hs.aY Hs.bD Hs.bE Hs.bF Hs.bG Hs.bH Hs.bI Hs.bJ Hs.bK Hs.aU Hs.aQ Hs.fH Hs.fI Hs.fJ Hs.fK Hs.fM Hs.fO Hs.fP Hs.fQ Hs.fT Hs.fU Hs.dN Hs.dO Hs.dP Hs.dQ Hs.dR Hs.dS Hs.dU Hs.dV Hs.dW Hs.dX Hs.dY Hs.dZ Hs.eB Hs.bL Hs.bM Hs.bN Hs.bO Hs.bP Hs.bQ Hs.bR Hs.bS Hs.bT Hs.bU Hs.bV Hs.bW Hs.bX Hs.bY Hs.bZ Hs.cB Hs.aX Hs.fV Hs.fZ Hs.gB Hs.gD Hs.gF Hs.gG Hs.gH Hs.gI Hs.gJ Hs.gK Hs.eD Hs.eG Hs.eH Hs.aH Hs.aJ
attribute [local go_sem ↓] Hs.aK Hs.aN
attribute [local go_sem] Hs.fF Hs.cK Hs.aP Hs.eO Hs.fD
abbrev tPm:TypeId:=81
def sN (l:List (Nat × MS)):Value:=match l.getLast? with | none => .pointer none | some x => .pointer (some ⟨x.1,0,none⟩)
theorem aN4 (l:List (Nat × MS)) (x:Nat × MS):sN (l++[x]) = .pointer (some ⟨x.1,0,none⟩):=by unfold sN;simp
theorem aJb {W:World} {B m:Nat} {v:Value} {T:TypeId} {cs:Array Value} (hb:W.heap[B]? = some (.cells cs T (0,0))) (hT:ETy T) (hm:m≤B) (v':Value):FrT ETy m W (W.setCell ⟨B,0,none⟩ v'):=by
 refine⟨(Below.refl m W).setCell (p:=⟨B,0,none⟩) hm v',fun k c T2 r hk h2 => ?_⟩
 by_cases e:k=B
 ·subst e
  rw[hb] at hk
  injection hk with hk
  injection hk with _ hk _
  subst hk
  exact absurd hT h2
 ·exact (aO _ _ _ _ e).trans hk
theorem aH6 (m n B:Nat) (hm:m≤B) (hB:B<n):aF4 m n 84 #[.pointer (some ⟨B,0,none⟩)] (fun l W=>W.heap[B]? = some (.cells #[sN l] tPm (0,0))) where
 ent:=enters_of Tryz.func84 (by kernel_rfl) rfl
 keep:=fun l W W' h hf=>(hf.bl.block B hB).trans h
 call:=fun W b M K l hn h _ _ _=>by
  have c0:W.cell? ⟨B,0,none⟩=some (sN l):=aM (L:=[sN l]) h 0
  have f0:W.frozen? ⟨B,0,none⟩=false:=qA (L:=[sN l]) h 0
  have h2:=jM (L:=[sN l]) h 0 (.pointer (some ⟨b,0,none⟩))
  have h3:=aJb (m:=m) (v:=sN l) h (.inr (.inr rfl)) hm (.pointer (some ⟨b,0,none⟩))
  go_enter Tryz.func84,Tryz.ntmps84
  go_wp2
  go_end0
  exact⟨rfl,by rw[aN4];exact h2,h3⟩
def aJc (w:World) (c:CfgV) (cs:List aA) (e:Ending) (w':World):Prop :=
 ((aT c cs).2≠0∧e = .returned (.tuple #[.string ⟨#[]⟩,.slice none 0 0,.int .i64 0,.int .i64 (aT c cs).2])∧Below w.heap.size w w') ∨
 ((aT c cs).2=0∧∃ v,e = .returned (.tuple #[.string (nV c cs).text,v,.int .i64 (nV c cs).number,.int .i64 0])∧MOwn w' w.heap.size v (nV c cs).marks∧Below w.heap.size w w')
theorem aN5 (cs:List aA) (st:MS) (o:List Nat):jZ cs st o≠[]:=by cases o<;>simp[jZ]
theorem aN6 (cs:List aA) (st:MS) (o:List Nat) (b:Nat):sN ((jZ cs st o).map fun s=>(b,s)) = .pointer (some ⟨b,0,none⟩):=by
 unfold sN
 rw[List.getLast?_map]
 cases h:(jZ cs st o).getLast? with
 | none=>exact absurd (List.getLast?_eq_none_iff.1 h) (aN5 cs st o)
 | some x=>rfl
theorem aK3 (c:CfgV) (p:Option Addr) (cap:Nat) (cs:List aA) (w:World) (hC:CRow w p cap cs) (hs:cs.length≤1000) (hok:∀ x∈cs,x.Ok) (hd:∀ x∈cs,x.ps.length≤1000000) :
  Calls Tryz.prog 40 #[c.v,.slice p cs.length cap] w (aJc w c cs):=by
 have hB1:Below w.heap.size w ((w.alloc (.cells #[.int .i64 c.slots,.int .u64 c.gens,.int .i64 c.clients,.int .i64 c.readers,.int .i64 c.queue,.int .i64 c.batch,.int .i64 c.feed,.string c.text] 24)).alloc (.cells #[.pointer none] tPm)):=vE _ _ _
 have hbx:((w.alloc (.cells #[.int .i64 c.slots,.int .u64 c.gens,.int .i64 c.clients,.int .i64 c.readers,.int .i64 c.queue,.int .i64 c.batch,.int .i64 c.feed,.string c.text] 24)).alloc (.cells #[.pointer none] tPm)).heap[w.heap.size+1]? = some (.cells #[.pointer none] tPm (0,0)):=by
  have:=heap_alloc_new (w.alloc (.cells #[.int .i64 c.slots,.int .u64 c.gens,.int .i64 c.clients,.int .i64 c.readers,.int .i64 c.queue,.int .i64 c.batch,.int .i64 c.feed,.string c.text] 24)) (.cells #[.pointer none] tPm)
  rwa [World.size_alloc] at this
 have hpf:=qG w.heap.size c p cap cs 84 #[.pointer (some ⟨w.heap.size+1,0,none⟩)] (fun l W=>W.heap[w.heap.size+1]? = some (.cells #[sN l] tPm (0,0))) _ hB1.size (fun W hb=>hC.on (hB1.trans hb)) (aH6 _ _ _ (by omega) (by simp)) hbx hs hok (aDx hd)
 have hfin:∀ e w',tQ w.heap.size ((w.alloc (.cells #[.int .i64 c.slots,.int .u64 c.gens,.int .i64 c.clients,.int .i64 c.readers,.int .i64 c.queue,.int .i64 c.batch,.int .i64 c.feed,.string c.text] 24)).alloc (.cells #[.pointer none] tPm)) c cs (fun l W=>W.heap[w.heap.size+1]? = some (.cells #[sN l] tPm (0,0))) e w' →
   ∃ v,e = .returned (.tuple #[v,.int .i64 (aT c cs).1,.int .i64 (aT c cs).2])∧Below w.heap.size w w'∧((aT c cs).2=0→∃ b M,MdAt w' b M∧MSok M.st 100000∧M.st=nV c cs∧w'.heap[w.heap.size+1]? = some (.cells #[.pointer (some ⟨b,0,none⟩)] tPm (0,0))):=by
  rintro e w' (⟨h1,rfl,_,hb⟩ | ⟨h1,h2,rfl,_,hb⟩ | ⟨h1,h2,E,b,M,v,hE,rfl,hI,hb,hM,hok,h3⟩)
  ·exact⟨_,by unfold aT;rw[pM h1],hB1.trans hb,fun h=>by unfold aT at h;rw[pM h1] at h;exact absurd h h1⟩
  ·exact⟨_,by unfold aT;rw[pO h1 h2],hB1.trans hb,fun h=>by unfold aT at h;rw[pO h1 h2] at h;exact absurd h h2⟩
  ·refine⟨_,by unfold aT;rw[mK hE],hB1.trans hb,fun h=>⟨b,M,hM,hok,?_,?_⟩⟩
   ·unfold aT at h
    rw[mK hE] at h
    unfold nV ordC
    rw[mK hE]
    exact (h3 h).1
   ·rw[aN6] at hI
    exact hI
 have hpf2:=hpf.mono hfin
 clear hpf hfin hbx
 have HP:aJc w c cs=fun e w'=>((aT c cs).2≠0∧e = .returned (.tuple #[.string ⟨#[]⟩,.slice none 0 0,.int .i64 0,.int .i64 (aT c cs).2])∧Below w.heap.size w w') ∨
  ((aT c cs).2=0∧∃ v,e = .returned (.tuple #[.string (nV c cs).text,v,.int .i64 (nV c cs).number,.int .i64 0])∧MOwn w' w.heap.size v (nV c cs).marks∧Below w.heap.size w w'):=rfl
 rw[HP]
 clear HP
 generalize (aT c cs).1=x1 at *
 generalize (aT c cs).2=x2 at *
 generalize nV c cs=st at *
 unfold CfgV.v at *
 by_cases hx:x2=0
 ·subst hx
  go_enter Tryz.func40,Tryz.ntmps40
  go_wp2_with (go_at_call 81;refine hpf2.mono ?_;rintro e w1 ⟨v,rfl,hb1,hq⟩)
  obtain⟨b,M,hM,hok2,hst,hbx⟩:=(by first | exact hq rfl | exact hq trivial | exact hq:∃ b M,MdAt w1 b M∧MSok M.st 100000∧M.st=st∧w1.heap[w.heap.size+1]? = some (.cells #[.pointer (some ⟨b,0,none⟩)] tPm (0,0)))
  have hS:=fun W (hb:Below w1.heap.size w1 W)=>(show W.cell? ⟨w.heap.size+1,0,none⟩=some (.pointer (some ⟨b,0,none⟩)) from aM (L:=[.pointer (some ⟨b,0,none⟩)]) (gU hbx hb (Array.getElem?_eq_some_iff.1 hbx).1) 0)
  have hMs:=fun W (hb:Below w1.heap.size w1 W)=>hM.below hb
  have hd1:Below w1.heap.size w1 w1.drew:=(Below.refl _ _).drew
  have hml:M.marks.length≤1000:=by have:=hok2.marks.1;have e:M.st.marks=M.marks:=rfl;rw[e] at this;omega
  clear hq hpf2 hM hbx
  refine wp_region_noPanic ?_
  refine wp_region_held_drew (S:=fun W=>W.cell? ⟨w.heap.size+1,0,none⟩=some (.pointer (some ⟨b,0,none⟩))) (by kernel_rfl) ?_ (fun hHeld => ?_)
  ·first | exact hS _ (Below.refl _ _) | exact hS _ hd1 | exact hS _ hd2
  ((first | refine np_n ?_ ?_ ?_ | refine np_t 0 ?_ ?_ ?_);rotate_left 1;(· (intro w hSw;(try dsimp only at hSw);go_simp;all_goals with_reducible rfl));(try simp only[nSO]))
  (refine np_t 2 ?_ ?_ ?_;rotate_left 1;(· (intro w hSw;(try dsimp only at hSw);go_simp;all_goals with_reducible rfl));(try simp only[nSO]))
  (refine np_t 4 ?_ ?_ ?_;rotate_left 1;(· (intro w hSw;(try dsimp only at hSw);go_simp;all_goals with_reducible rfl));(try simp only[nSO]))
  (refine aD (i:=1) rfl (by kernel_rfl) (fun K hK => ?_);rw[if_pos (by rfl)];go_simp;((go_at_call 51;refine (aFw b M _ (hMs _ hd1)).mono ?_;rintro e w2 ⟨rfl,rfl⟩));(try go_wp2_with fail);refine hK.out _ _ ?_ (fun hHeld => ?_);(· (first | exact hS _ (Below.refl _ _) | exact hS _ hd1 | exact hS _ hd2));clear hK K;(try simp only[nSO]))
  (refine aD (i:=3) rfl (by kernel_rfl) (fun K hK => ?_);rw[if_pos (by rfl)];go_simp;((go_at_call 85;refine (aKy b M _ (hMs _ hd1) hml).mono ?_;rintro e w2 ⟨vm,rfl,hvm,hb2⟩;have hd2:=hd1.trans hb2));(try go_wp2_with fail);refine hK.out _ _ ?_ (fun hHeld => ?_);(· (first | exact hS _ (Below.refl _ _) | exact hS _ hd1 | exact hS _ hd2));clear hK K;(try simp only[nSO]))
  (refine aD (i:=5) rfl (by kernel_rfl) (fun K hK => ?_);rw[if_pos (by rfl)];go_simp;((go_at_call 52;refine (sD b M _ (hMs _ hd2)).mono ?_;rintro e w3 ⟨rfl,rfl⟩));(try go_wp2_with fail);refine hK.out _ _ ?_ (fun hHeld => ?_);(· (first | exact hS _ (Below.refl _ _) | exact hS _ hd1 | exact hS _ hd2));clear hK K;(try simp only[nSO]))
  iterate 4 ((refine np_n ?_ ?_ ?_;rotate_left 1;(· (intro w hSw;(try dsimp only at hSw);go_simp;all_goals with_reducible rfl));(try simp only[nSO])))
  refine wpAnyH_done (by kernel_rfl) ?_ _
  refine NoPanic.normal ?_
  go_wp2_with fail
  go_returns
  refine .inr ⟨by first | rfl | trivial,vm,?_,?_,hb1.trans (hd2.mono hb1.size)⟩
  ·rw[← hst];rfl
  ·rw[← hst];exact gP (by have:=hb1.size;simp;omega) hvm
 ·have d1:(x2 != 0)=true:=by simpa using hx
  go_enter Tryz.func40,Tryz.ntmps40
  go_wp2_with (go_at_call 81;refine hpf2.mono ?_;rintro e w1 ⟨v,rfl,hb1,hq⟩)
  go_returns
  exact .inl ⟨hx,rfl,hb1⟩
end Go.Proofs.YtdeiocppghhfdaaGreat.Lin
namespace Go.Proofs.YtdeiocppghhfdaaGreat.Lin
open Go.RowKit Go.Lib Go.Shelf
open Hs
open KitI (iv IRow own_below lS)
attribute [local go_sem, local simp] Hs.dB Hs.dG Hs.dE Hs.dH Hs.dI Hs.dJ Hs.dK Hs.dL Hs.dM Hs.dF Hs.aR Hs.aW Hs.bB Hs.bC Hs.aS Hs.aV Hs.aY Hs.bD Hs.bE Hs.bF Hs.bG Hs.bH Hs.bI Hs.bJ Hs.bK Hs.aU Hs.aQ Hs.fH Hs.fI Hs.fJ Hs.fK Hs.fM Hs.fO Hs.fP Hs.fQ Hs.fT Hs.fU Hs.dN Hs.dO Hs.dP Hs.dQ Hs.dR Hs.dS Hs.dU Hs.dV Hs.dW Hs.dX Hs.dY Hs.dZ Hs.eB Hs.bL Hs.bM Hs.bN Hs.bO Hs.bP Hs.bQ Hs.bR Hs.bS Hs.bT Hs.bU Hs.bV Hs.bW Hs.bX Hs.bY Hs.bZ Hs.cB Hs.aX Hs.fV Hs.fZ Hs.gB Hs.gD Hs.gF Hs.gG Hs.gH Hs.gI Hs.gJ Hs.gK Hs.eD Hs.eG Hs.eH Hs.aH Hs.aJ
attribute [local go_sem ↓] Hs.aK Hs.aN
attribute [local go_sem] Hs.fF Hs.cK Hs.aP Hs.eO Hs.fD
abbrev tStr:TypeId:=9
abbrev wF:TypeId:=68
theorem aQn:(Tryz.prog.info? 9).map (fun i=>(i.zero,i.size,i.bytes))=some (some (.string ⟨#[]⟩),1,16):=by kernel_rfl
def aCc (B:Nat) (l:List (Nat × MS)) (W:World):Prop :=
 ∃ v,W.heap[B]? = some (.cells #[v] wF (0,0))∧W.ownsRow (B+1) tStr 1 v (kE (l.map (·.2))).length ((kE (l.map (·.2))).map Value.string)
theorem aH7 (l:List (Nat × MS)) (x:Nat × MS):kE ((l++[x]).map (·.2))=lJ (kE (l.map (·.2))) x.2:=by rw[wD,wD,List.map_append,List.foldl_append];rfl
theorem aCd:∀ (l:List MS) (out:List ByteArray),(l.foldl lJ out).length≤out.length+l.length
 | [],out=>Nat.le_refl _
 | m::l,out=>by
  have h:=aCd l (lJ out m)
  have h2:(lJ out m).length≤out.length+1:=by unfold lJ;split<;>simp
  rw[List.foldl_cons,List.length_cons]
  omega
theorem aK4 {W W':World} {base sz n:Nat} {e:TypeId} {x:Value} {xs:List Value} (h:W.ownsRow base e sz x n xs) (hk:∀ k,base≤k→W'.heap[k]? = W.heap[k]?):W'.ownsRow base e sz x n xs:=by
 refine⟨h.1,?_⟩
 rcases h.2 with hn | ⟨g,cap,cur,rfl,hB,hg,rest⟩
 ·exact .inl hn
 ·exact .inr ⟨g,cap,cur,rfl,hB,(hk g hB).trans hg,rest⟩
theorem aK5 {A A':World} {base sz n m:Nat} {v:Value} {xs:List Value} (ho:A.ownsRow base tStr sz v n xs) (hg:A.grownBy A' v.ownBlock) (hm:m≤base) (hle:m≤A.heap.size):FrT ETy m A A':=by
 refine⟨(Below.refl m A).grown hg hle (fun k hk=>Nat.le_trans hm (ho.lt k hk).1),fun k c T r hk hT=>(hg.block k (Array.getElem?_eq_some_iff.1 hk).1 fun e => ?_).trans hk⟩
 obtain⟨cs,hc⟩:=aAo ho e.symm
 rw[hk] at hc
 injection hc with hc
 injection hc with _ hc _
 subst hc
 exact hT (.inr (.inl rfl))
theorem aH8 (m n B:Nat) (hm:m≤B) (hB:B<n) (W:World) (b:Nat) (M:MM) (K:Int) (l:List (Nat × MS)) (hn:n≤W.heap.size) (h:aCc B l W) (hM:MdAt W b M) (hok:MSok M.st K) (hl:l.length≤2000) :
  Calls Tryz.prog 89 #[.pointer (some ⟨b,0,none⟩),.pointer (some ⟨B,0,none⟩)] W fun e W'=>e = .returned (.tuple #[])∧aCc B (l++[(b,M.st)]) W'∧FrT ETy m W W':=by
 obtain⟨i0,hi,hz0,hz1,hz2⟩:=info_parts aQn
 obtain⟨v,hbx,hown⟩:=h
 obtain⟨a,q,rfl⟩:=aF hown
 have hsn:=aH7 l (b,M.st)
 have htl:(kE (l.map (·.2))).length≤2000:=by
  have:=aCd (l.map (·.2)) []
  rw[← wD] at this
  simp at this
  omega
 have hstp:lJ (kE (l.map (·.2))) M.st=if M.st.number=((kE (l.map (·.2))).length:Int) then kE (l.map (·.2))++[M.st.text] else kE (l.map (·.2)):=rfl
 have hnum:M.st.number=M.number:=rfl
 have htxt:M.st.text=M.text:=rfl
 rw[hstp,hnum,htxt] at hsn
 clear hstp
 have c0:W.cell? ⟨B,0,none⟩=some (.slice a (kE (l.map (·.2))).length q):=aM (L:=[.slice a (kE (l.map (·.2))).length q]) hbx 0
 have hbW:B<W.heap.size:=by omega
 by_cases he:M.number=((kE (l.map (·.2))).length:Int)
 ·rw[if_pos he] at hsn
  have de:(M.number == ((kE (l.map (·.2))).length:Int))=true:=by simpa using he
  have Hsn:=Lib.hid hsn
  clear hsn hnum htxt he
  generalize kE (l.map (·.2))=X at *
  have cd:W.drew.cell? ⟨B,0,none⟩=some (.slice a X.length q):=c0
  have hMd:=hM.below (Below.refl W.heap.size W).drew
  have hfr0:FrT ETy m W W.drew:=FrT.below (Below.refl _ _).drew (by omega)
  have hbx0:W.drew.heap[B]? = some (.cells #[.slice a X.length q] wF (0,0)):=hbx
  have how0:=own_below hown (Below.refl W.heap.size W).drew
  have hsz0:W.drew.heap.size=W.heap.size:=rfl
  go_enter Tryz.func89,Tryz.ntmps89
  go_wp2_with fail
  refine wp_region_noPanic ?_
  refine wp_region_held_drew (S:=fun W=>W.cell? ⟨B,0,none⟩=some (.slice a X.length q)) (by kernel_rfl) ?_ (fun hHeld => ?_)
  ·first | exact c0 | exact cd
  ((first | refine np_n ?_ ?_ ?_ | refine np_t 0 ?_ ?_ ?_);rotate_left 1;(· (intro w hSw;(try dsimp only at hSw);go_simp;all_goals with_reducible rfl));(try simp only[nSO]))
  (refine np_t 2 ?_ ?_ ?_;rotate_left 1;(· (intro w hSw;(try dsimp only at hSw);go_simp;all_goals with_reducible rfl));(try simp only[nSO]))
  (refine np_n ?_ ?_ ?_;rotate_left 1;(· (intro w hSw;(try dsimp only at hSw);go_simp;all_goals with_reducible rfl));(try simp only[nSO]))
  (refine aD (i:=1) rfl (by kernel_rfl) (fun K hK => ?_);rw[if_pos (by rfl)];go_simp;((go_at_call 52;refine (sD b M _ hMd).mono ?_;rintro e w3 ⟨rfl,rfl⟩));(try go_wp2_with fail);refine hK.out _ _ ?_ (fun hHeld => ?_);(· (first | exact c0 | exact cd));clear hK K;(try simp only[nSO]))
  (refine np_t 4 ?_ ?_ ?_;rotate_left 1;(· (intro w hSw;(try dsimp only at hSw);go_simp;all_goals with_reducible rfl));(try simp only[nSO]))
  refine wpAnyH_done (by kernel_rfl) ?_ _
  refine NoPanic.normal ?_
  clear hHeld
  generalize W.drew=Wd at *
  have hsz1:B<Wd.heap.size:=by omega
  have hszn:n≤Wd.heap.size:=by omega
  clear hsz0 hn hbW
  go_wp2_with fail
  have cb:(Wd.alloc (.cells #[.string M.text] tStr)).cell? ⟨B,0,none⟩=some (.slice a X.length q):=(Lib.cell?_alloc_some _ cd)
  have hb6:∀ w6:World,(Wd.alloc (.cells #[.string M.text] tStr)).drew.grownBy w6 (Value.slice a X.length q).ownBlock→w6.heap[B]? = some (.cells #[.slice a X.length q] wF (0,0)):=fun w6 hg=>(hg.block B (by simp;omega) (fun e=>by have:=(how0.lt B e.symm).1;omega)).trans ((heap_alloc_old _ _ hsz1).trans hbx0)
  go_region_law (first | ((rw[if_pos (by rfl)];refine wp_append_own _ _ _ wF rfl (B+1) tStr i0 (.string ⟨#[]⟩) 1 16 Tryz.underlying68 hi hz0 hz1 hz2 rfl (by decide) _ X.length (X.map Value.string) rfl (how0.alloc _) ⟨_,0,none⟩ 1 1 [.string M.text] rfl rfl (cell_one_new _ _ _) (by simp[Value.oneCell']) (by unfold maxLen;omega) (by omega) (by simp;omega) ?_);intro v6 w6 hn6 hg6 _;obtain⟨a6,q6,rfl⟩:=aF hn6;have hbb:=hb6 _ hg6;have c66:w6.cell? ⟨B,0,none⟩=some (.slice a X.length q):=aM (L:=[.slice a X.length q]) hbb 0;have f66:w6.frozen? ⟨B,0,none⟩=false:=qA (L:=[.slice a X.length q]) hbb 0) | (go_simp;go_at_call 51;refine (aFw b M _ (hMd.below (Below.refl _ _).drew)).mono ?_;rintro e w3 ⟨rfl,rfl⟩))
  all_goals (
   go_wp2_with fail
   go_end0
   refine⟨rfl,⟨_,jM (L:=[.slice a X.length q]) hbb 0 _,?_⟩,?_⟩
   ·rw[Hsn.out,List.length_append,List.map_append]
    exact aK4 hn6 (fun k hk=>aO _ _ _ _ (by simp;omega))
   ·exact ((hfr0.trans (FrT.below (m:=m) ((Below.refl _ _).alloc (Nat.le_refl _) _).drew (by omega))).trans (aK5 (how0.alloc _) hg6 (by omega) (by simp;omega))).trans (aJb (v := .slice a X.length q) hbb (.inl rfl) hm _))
 ·rw[if_neg he] at hsn
  have de:(M.number == ((kE (l.map (·.2))).length:Int))=false:=by simpa using he
  have Hsn:=Lib.hid hsn
  clear hsn hnum htxt he
  generalize kE (l.map (·.2))=X at *
  have cd:W.drew.cell? ⟨B,0,none⟩=some (.slice a X.length q):=c0
  have hMd:=hM.below (Below.refl W.heap.size W).drew
  go_enter Tryz.func89,Tryz.ntmps89
  go_wp2_with fail
  refine wp_region_noPanic ?_
  refine wp_region_held_drew (S:=fun W=>W.cell? ⟨B,0,none⟩=some (.slice a X.length q)) (by kernel_rfl) ?_ (fun hHeld => ?_)
  ·first | exact c0 | exact cd
  ((first | refine np_n ?_ ?_ ?_ | refine np_t 0 ?_ ?_ ?_);rotate_left 1;(· (intro w hSw;(try dsimp only at hSw);go_simp;all_goals with_reducible rfl));(try simp only[nSO]))
  (refine np_t 2 ?_ ?_ ?_;rotate_left 1;(· (intro w hSw;(try dsimp only at hSw);go_simp;all_goals with_reducible rfl));(try simp only[nSO]))
  (refine np_n ?_ ?_ ?_;rotate_left 1;(· (intro w hSw;(try dsimp only at hSw);go_simp;all_goals with_reducible rfl));(try simp only[nSO]))
  (refine aD (i:=1) rfl (by kernel_rfl) (fun K hK => ?_);rw[if_pos (by rfl)];go_simp;((go_at_call 52;refine (sD b M _ hMd).mono ?_;rintro e w3 ⟨rfl,rfl⟩));(try go_wp2_with fail);refine hK.out _ _ ?_ (fun hHeld => ?_);(· (first | exact c0 | exact cd));clear hK K;(try simp only[nSO]))
  (refine np_t 4 ?_ ?_ ?_;rotate_left 1;(· (intro w hSw;(try dsimp only at hSw);go_simp;all_goals with_reducible rfl));(try simp only[nSO]))
  refine wpAnyH_done (by kernel_rfl) ?_ _
  refine NoPanic.normal ?_
  go_wp2_with fail
  go_end0
  refine⟨rfl,⟨_,hbx,?_⟩,FrT.below (Below.refl _ _).drew (by omega)⟩
  rw[Hsn.out]
  exact own_below hown (Below.refl _ _).drew
theorem aH9 (m n B:Nat) (hm:m≤B) (hB:B<n):aF4 m n 89 #[.pointer (some ⟨B,0,none⟩)] (aCc B) where
 ent:=enters_of Tryz.func89 (by kernel_rfl) rfl
 keep:=fun l W W' ⟨v,h1,h2⟩ hf=>⟨v,(hf.bl.block B hB).trans h1,hf.own h2 (by decide)⟩
 call:=fun W b M K l hn h hM hok hl=>aH8 m n B hm hB W b M K l hn h hM hok hl
def yX (w:World) (c:CfgV) (cs:List aA) (e:Ending) (w':World):Prop :=
 ((aT c cs).2≠0∧e = .returned (.tuple #[.slice none 0 0,.int .i64 (aT c cs).2])∧Below w.heap.size w w') ∨
 ((aT c cs).2=0∧∃ v,e = .returned (.tuple #[v,.int .i64 0])∧w'.ownsRow w.heap.size tStr 1 v (iB c cs).length ((iB c cs).map Value.string)∧Below w.heap.size w w')
theorem xH (c:CfgV) (p:Option Addr) (cap:Nat) (cs:List aA) (w:World) (hC:CRow w p cap cs) (hs:cs.length≤1000) (hok:∀ x∈cs,x.Ok) (hd:∀ x∈cs,x.ps.length≤1000000) :
  Calls Tryz.prog 42 #[c.v,.slice p cs.length cap] w (yX w c cs):=by
 have hB1:Below w.heap.size w ((w.alloc (.cells #[.int .i64 c.slots,.int .u64 c.gens,.int .i64 c.clients,.int .i64 c.readers,.int .i64 c.queue,.int .i64 c.batch,.int .i64 c.feed,.string c.text] 24)).alloc (.cells #[.slice none 0 0] wF)):=vE _ _ _
 have hbx:aCc (w.heap.size+1) [] ((w.alloc (.cells #[.int .i64 c.slots,.int .u64 c.gens,.int .i64 c.clients,.int .i64 c.readers,.int .i64 c.queue,.int .i64 c.batch,.int .i64 c.feed,.string c.text] 24)).alloc (.cells #[.slice none 0 0] wF)):=by
  have:=heap_alloc_new (w.alloc (.cells #[.int .i64 c.slots,.int .u64 c.gens,.int .i64 c.clients,.int .i64 c.readers,.int .i64 c.queue,.int .i64 c.batch,.int .i64 c.feed,.string c.text] 24)) (.cells #[.slice none 0 0] wF)
  rw[World.size_alloc] at this
  exact⟨_,this,World.ownsRow_nil _ _ _ _⟩
 have hpf:=qG w.heap.size c p cap cs 89 #[.pointer (some ⟨w.heap.size+1,0,none⟩)] (aCc (w.heap.size+1)) _ hB1.size (fun W hb=>hC.on (hB1.trans hb)) (aH9 _ _ _ (by omega) (by simp)) hbx hs hok (aDx hd)
 have hfin:∀ e w',tQ w.heap.size ((w.alloc (.cells #[.int .i64 c.slots,.int .u64 c.gens,.int .i64 c.clients,.int .i64 c.readers,.int .i64 c.queue,.int .i64 c.batch,.int .i64 c.feed,.string c.text] 24)).alloc (.cells #[.slice none 0 0] wF)) c cs (aCc (w.heap.size+1)) e w' →
   ∃ v,e = .returned (.tuple #[v,.int .i64 (aT c cs).1,.int .i64 (aT c cs).2])∧Below w.heap.size w w'∧((aT c cs).2=0→∃ u,w'.heap[w.heap.size+1]? = some (.cells #[u] wF (0,0))∧w'.ownsRow (w.heap.size+2) tStr 1 u (iB c cs).length ((iB c cs).map Value.string)):=by
  rintro e w' (⟨h1,rfl,_,hb⟩ | ⟨h1,h2,rfl,_,hb⟩ | ⟨h1,h2,E,b,M,v,hE,rfl,hI,hb,hM,hok,h3⟩)
  ·exact⟨_,by unfold aT;rw[pM h1],hB1.trans hb,fun h=>by unfold aT at h;rw[pM h1] at h;exact absurd h h1⟩
  ·exact⟨_,by unfold aT;rw[pO h1 h2],hB1.trans hb,fun h=>by unfold aT at h;rw[pO h1 h2] at h;exact absurd h h2⟩
  ·refine⟨_,by unfold aT;rw[mK hE],hB1.trans hb,fun h => ?_⟩
   obtain⟨u,h4,h5⟩:=hI
   rw[List.map_map] at h5
   have e1:((fun x:Nat × MS=>x.2) ∘ fun s:MS=>(b,s))=id:=rfl
   rw[e1,List.map_id] at h5
   refine⟨u,h4,?_⟩
   unfold iB ordC
   rw[mK hE]
   exact h5
 have hpf2:=hpf.mono hfin
 clear hpf hfin hbx
 have HP:yX w c cs=fun e w'=>((aT c cs).2≠0∧e = .returned (.tuple #[.slice none 0 0,.int .i64 (aT c cs).2])∧Below w.heap.size w w') ∨
  ((aT c cs).2=0∧∃ v,e = .returned (.tuple #[v,.int .i64 0])∧w'.ownsRow w.heap.size tStr 1 v (iB c cs).length ((iB c cs).map Value.string)∧Below w.heap.size w w'):=rfl
 rw[HP]
 clear HP
 generalize (aT c cs).1=x1 at *
 generalize (aT c cs).2=x2 at *
 generalize iB c cs=X at *
 unfold CfgV.v at *
 by_cases hx:x2=0
 ·subst hx
  go_enter Tryz.func42,Tryz.ntmps42
  go_wp2_with (go_at_call 81;refine hpf2.mono ?_;rintro e w1 ⟨v,rfl,hb1,hq⟩;obtain⟨u,h4,h5⟩:=hq rfl;have c4:w1.cell? ⟨w.heap.size+1,0,none⟩=some u:=aM (L:=[u]) h4 0;clear hq)
  go_returns
  exact .inr ⟨by first | rfl | trivial,u,rfl,gP (by omega) h5,hb1⟩
 ·have d1:(x2 != 0)=true:=by simpa using hx
  go_enter Tryz.func42,Tryz.ntmps42
  go_wp2_with (go_at_call 81;refine hpf2.mono ?_;rintro e w1 ⟨v,rfl,hb1,hq⟩)
  go_returns
  exact .inl ⟨hx,rfl,hb1⟩
end Go.Proofs.YtdeiocppghhfdaaGreat.Lin
namespace Go.Proofs.YtdeiocppghhfdaaGreat.Lin
open Go.RowKit Go.Lib Go.Shelf
open Hs
open KitI (iv IRow own_below lS)
attribute [local go_sem, local simp] Hs.dB Hs.dG Hs.dE Hs.dH Hs.dI Hs.dJ Hs.dK Hs.dL Hs.dM Hs.dF Hs.aR Hs.aW Hs.bB Hs.bC Hs.aS Hs.aV Hs.aY Hs.bD Hs.bE Hs.bF Hs.bG Hs.bH Hs.bI Hs.bJ Hs.bK Hs.aU Hs.aQ Hs.fH Hs.fI Hs.fJ Hs.fK Hs.fM Hs.fO Hs.fP Hs.fQ Hs.fT Hs.fU Hs.dN Hs.dO Hs.dP Hs.dQ Hs.dR Hs.dS Hs.dU Hs.dV Hs.dW Hs.dX Hs.dY Hs.dZ Hs.eB Hs.bL Hs.bM Hs.bN Hs.bO Hs.bP Hs.bQ Hs.bR Hs.bS Hs.bT Hs.bU Hs.bV Hs.bW Hs.bX Hs.bY Hs.bZ Hs.cB Hs.aX Hs.fV Hs.fZ Hs.gB Hs.gD Hs.gF Hs.gG Hs.gH Hs.gI Hs.gJ Hs.gK Hs.eD Hs.eG Hs.eH Hs.aH Hs.aJ
attribute [local go_sem ↓] Hs.aK Hs.aN
attribute [local go_sem] Hs.fF Hs.cK Hs.aP Hs.eO Hs.fD
theorem aCe (k:Int) (w:World):Calls Tryz.prog 133 #[.int .u8 k] w fun e w'=>e = .returned (.bool (edK k))∧w=w':=by
 unfold edK
 by_cases h1:1≤k
 ·have d1:decide (1≤k)=true:=by simpa using h1
  go_enter Tryz.func133,Tryz.ntmps133
  go_wp2
  go_returns
  exact⟨by first | rfl | (rw[d1];rfl) | simp[d1],rfl⟩
 ·have d1:decide (1≤k)=false:=by simpa using h1
  go_enter Tryz.func133,Tryz.ntmps133
  go_wp2
  go_returns
  exact⟨by first | rfl | (rw[d1];rfl) | simp[d1],rfl⟩
def numQ (s:Int) (c:aA):Bool:=edK c.okind && decide (0≤c.took) && decide (c.took≤s) && decide (c.err=0)
def numP (s:Int) (cs:List aA):Nat:=(cs.filter (numQ s)).length
theorem aN7 {s:Int} {cs:List aA} {k:Nat} {c:aA} (h:cs[k]? = some c):numP s (cs.take (k+1))=numP s (cs.take k)+if numQ s c then 1 else 0:=by
 unfold numP
 rw[List.take_add_one,h,Option.toList_some,List.filter_append,List.length_append]
 congr 1
 cases hq:numQ s c<;>simp[hq]
theorem aSj (s:Int) (cs:List aA):numP s cs≤cs.length:=List.length_filter_le _ _
theorem aAr (s:Int) (p:Option Addr) (cap:Nat) (cs:List aA) (w:World) (hC:CRow w p cap cs) (hs:cs.length≤1000000) :
  Calls Tryz.prog 109 #[.int .i64 s,.slice p cs.length cap] w fun e w'=>e = .returned (.int .i64 (numP s cs))∧Below w.heap.size w w':=by
 go_enter Tryz.func109,Tryz.ntmps109
 go_wp2
 go_loopw [5,7,10] (fun n x7 i wr=>∃ k:Nat,n = .int .i64 (numP s (cs.take k))∧i = .int .i64 k∧k≤cs.length∧Below w.heap.size w wr) (fun n x7 i wr=>cs.length-(intOf i).toNat)
 case atStart=>exact⟨0,by simp[numP],rfl,by omega,Below.refl _ _⟩
 case round =>
  obtain⟨k,rfl,rfl,hk,hB⟩:=hrel
  by_cases hlt:k<cs.length
  ·obtain⟨c,hc⟩:∃ c,cs[k]? = some c:=⟨_,List.getElem?_eq_getElem hlt⟩
   obtain⟨bq,off,rfl,hcap,hbq,hA⟩:=qF (hC.on hB) (by omega)
   have hld:=hA.load hc
   have hst:=aN7 (s:=s) hc
   have hnl:=aSj s (cs.take k)
   rw[List.length_take] at hnl
   have hqd:numQ s c=(edK c.okind && decide (0≤c.took) && decide (c.took≤s) && decide (c.err=0)):=rfl
   have hBa:=hB.alloc hB.size (.cells (aB c).toArray 56)
   have Hst:=Lib.hid hst
   clear hst hc hA hC
   have hed:=fun W=>aCe c.okind W
   generalize edK c.okind=ek at hed hqd
   cases ek with
   | false =>
    have hq:numQ s c=false:=by rw[hqd];rfl
    have hst2:numP s (cs.take (k+1))=numP s (cs.take k):=by rw[Hst.out,hq];rfl
    have Hst2:=Lib.hid hst2
    clear hst2 hq
    go_wp2_with (go_at_call 133;refine (hed _).mono ?_;rintro e v ⟨rfl,rfl⟩)
    go_roundw
    case rel=>exact⟨k+1,by rw[Hst2.out],by go_num,by omega,hBa⟩
    case measure=>simp[intOf];omega
   | true =>
    by_cases h1:0≤c.took
    ·have d1:decide (0≤c.took)=true:=by simpa using h1
     by_cases h2:c.took≤s
     ·have d2:decide (c.took≤s)=true:=by simpa using h2
      by_cases h3:c.err=0
      ·have d3:(c.err == 0)=true:=by simpa using h3
       have hq:numQ s c=true:=by rw[hqd,d1,d2];simp[h3]
       have hst2:numP s (cs.take (k+1))=numP s (cs.take k)+1:=by rw[Hst.out,hq];rfl
       have Hst2:=Lib.hid hst2
       clear hst2 hq hqd h1 h2 h3
       have hw:IntKind.i64.wrap ((numP s (cs.take k):Int)+1)=(numP s (cs.take k):Int)+1:=IntWalk.i64_in _ (by omega)
       go_wp2_with (go_at_call 133;refine (hed _).mono ?_;rintro e v ⟨rfl,rfl⟩)
       go_roundw
       case rel=>exact⟨k+1,by rw[Hst2.out];push_cast;rfl,by go_num,by omega,hBa⟩
       case measure=>simp[intOf];omega
      ·have d3:(c.err == 0)=false:=by simpa using h3
       have hq:numQ s c=false:=by rw[hqd,d1,d2];simp[h3]
       clear hqd h1 h2 h3
       have hst2:numP s (cs.take (k+1))=numP s (cs.take k):=by rw[Hst.out,hq];rfl
       have Hst2:=Lib.hid hst2
       clear hst2 hq
       go_wp2_with (go_at_call 133;refine (hed _).mono ?_;rintro e v ⟨rfl,rfl⟩)
       go_roundw
       case rel=>exact⟨k+1,by rw[Hst2.out],by go_num,by omega,hBa⟩
       case measure=>simp[intOf];omega
     ·have d2:decide (c.took≤s)=false:=by simpa using h2
      have hq:numQ s c=false:=by rw[hqd,d1,d2];rfl
      clear hqd h1 h2
      have hst2:numP s (cs.take (k+1))=numP s (cs.take k):=by rw[Hst.out,hq];rfl
      have Hst2:=Lib.hid hst2
      clear hst2 hq
      go_wp2_with (go_at_call 133;refine (hed _).mono ?_;rintro e v ⟨rfl,rfl⟩)
      go_roundw
      case rel=>exact⟨k+1,by rw[Hst2.out],by go_num,by omega,hBa⟩
      case measure=>simp[intOf];omega
    ·have d1:decide (0≤c.took)=false:=by simpa using h1
     have hq:numQ s c=false:=by rw[hqd,d1];rfl
     clear hqd h1
     have hst2:numP s (cs.take (k+1))=numP s (cs.take k):=by rw[Hst.out,hq];rfl
     have Hst2:=Lib.hid hst2
     clear hst2 hq
     go_wp2_with (go_at_call 133;refine (hed _).mono ?_;rintro e v ⟨rfl,rfl⟩)
     go_roundw
     case rel=>exact⟨k+1,by rw[Hst2.out],by go_num,by omega,hBa⟩
     case measure=>simp[intOf];omega
  ·have hke:k=cs.length:=by omega
   subst hke
   rw[List.take_length]
   go_wp2
   go_returns
   exact⟨rfl,hB⟩
end Go.Proofs.YtdeiocppghhfdaaGreat.Lin
namespace Go.Proofs.YtdeiocppghhfdaaGreat.Lin
open Go.RowKit Go.Shelf
open Hs
attribute [local go_sem] Oper.semAt_some
attribute [local go_sem, local simp] dB dG dE dH dI dJ dK dL dM dF aR aW bB bC aS aV aY bD bE bF bG bH bI bJ bK aU aQ fH fI fJ fK fM fO fP fQ fT fU dN dO dP dQ dR dS dU dV dW dX dY dZ eB bL bM bN bO bP bQ bR bS bT bU bV bW bX bY bZ cB aX fV fZ gB gD gF gG gH gI gJ gK eD eG eH aH aJ
attribute [local go_sem ↓] aK aN
attribute [local go_sem] fF cK aP eO fD
def jJ (t:Int):List aA→Nat→List Nat
 | [],_=>[]
 | c::cs,k=>if c.thread=t∧0≤c.took then k::jJ t cs (k+1) else jJ t cs (k+1)
theorem aIa {t:Int} {cs:List aA} {k:Nat} {c:aA} (h:cs[k]? = some c):jJ t (cs.drop k) k=if c.thread=t∧0≤c.took then k::jJ t (cs.drop (k+1)) (k+1) else jJ t (cs.drop (k+1)) (k+1):=by
 obtain⟨hlt,rfl⟩:=List.getElem?_eq_some_iff.1 h
 rw[List.drop_eq_getElem_cons hlt]
 rfl
theorem aJd (p:Option Addr) (n c:Nat) (t:Int) (w:World):Calls Tryz.prog 107 #[.int .i64 t,.slice p n c] w fun e w'=>e = .returned (.func (.func 158) #[] #[.pointer (some ⟨w.heap.size+1,0,none⟩),.pointer (some ⟨w.heap.size,0,none⟩)])∧(w.alloc (.cells #[.int .i64 t] 3)).alloc (.cells #[.slice p n c] 25)=w':=by
 go_enter Tryz.func107,Tryz.ntmps107
 go_wp2
 go_ret
 exact⟨rfl,rfl⟩
theorem aQo (n:Nat) (hn:1≤n) (l Bl Bt b off cap:Nat) (q:Nat→Prop) (cs:List aA) (t:Int) (hs:cs.length≤1000000) (J Jx:List Nat→World→Prop)
  (hY:∀ pre x W,J pre W→pre.length<cs.length→x<cs.length→YieldAt Fence.wide (n-1) Tryz.prog l #[.int .i64 (x:Int)] W fun e W' =>
   (e = .returned (.bool true)∧J (pre++[x]) W'∧gL q W W')∨(e = .returned (.bool false)∧Jx (pre++[x]) W'))
  (W:World) (hA:∀ pre X o,J pre X→J pre (X.alloc o)) (hBl:W.cell? ⟨Bl,0,none⟩=some (.slice (some ⟨b,off,none⟩) cs.length cap)) (hBt:W.cell? ⟨Bt,0,none⟩=some (.int .i64 t)) (hC:CAt W b off cs) (h0:∀ k,q k→k<W.heap.size) (h2:q Bt) (h3:q b) (hJ:J [] W) :
  CallsIn Fence.wide n Tryz.prog 158 #[.func (.yield l) #[] #[],.pointer (some ⟨Bl,0,none⟩),.pointer (some ⟨Bt,0,none⟩)] W (Hs.nS (jJ t cs 0) J Jx):=by
 refine callsIn_of_wp Tryz.func158 rfl trivial ?_ rfl
 simp only[Tryz.ntmps158,List.size_toArray,List.length_cons,List.length_nil,Nat.reduceAdd,Nat.reduceSub,Array.replicate_succ,Array.replicate_zero,List.push_toArray,List.append_toArray,List.nil_append,List.cons_append]
 gi_wp2
 gi_loopw [8] (fun i wr=>∃ (k:Nat) (pre:List Nat),i = .int .i64 k∧k≤cs.length∧pre++jJ t (cs.drop k) k=jJ t cs 0∧pre.length≤k∧J pre wr∧gL q W wr) (fun i wr=>cs.length-(intOf i).toNat)
 case atStart=>exact⟨0,[],rfl,by omega,by simp,by simp,hJ,gL.refl _ _⟩
 case round =>
  obtain⟨k,pre,rfl,hk,hp,hlen,hJ',hB⟩:=hrel
  have Hp:=Lib.hid hp;clear hp
  by_cases hlt:k<cs.length
  ·obtain⟨c,hc⟩:∃ c,cs[k]? = some c:=⟨_,List.getElem?_eq_getElem hlt⟩
   have hst:=aIa (t:=t) hc
   have Hst:=Lib.hid hst;clear hst
   have hld:=(hC.keep hB h3).load hc
   have hBx:=hB.trans (gL.alloc (fun k hk=>Nat.lt_of_lt_of_le (h0 k hk) hB.size) (.cells (aB c).toArray 56))
   have hct:=(hBx.cell (p:=⟨Bt,0,none⟩) h2).trans hBt
   have hJa:=hA pre wr (.cells (aB c).toArray 56) hJ'
   have Hc:=Lib.hid hc;clear hc
   by_cases hb:c.thread=t∧0≤c.took
   ·obtain⟨fn,tmps,assign,body,hy,hR⟩:=hY pre k _ hJa (by omega) hlt
    have hd:(c.thread == t)=true:=by simpa using hb.1
    have hd2:decide (0≤c.took)=true:=by simpa using hb.2
    gi_wp2
    refine hR.mono ?_
    rintro e W1 (⟨rfl,hJ1,hk1⟩ | ⟨rfl,hJ1⟩)
    ·gi_wp2
     go_roundw
     case rel=>exact⟨k+1,pre++[k],by go_num,by omega,by rw[← Hp.out,Hst.out,if_pos hb,List.append_assoc];rfl,by simp;omega,hJ1,hBx.trans hk1⟩
     case measure=>simp[intOf];omega
    ·gi_wp2
     refine bodyPost_ret (results_none rfl _ _ _) rfl ?_
     exact⟨⟨_,rfl⟩,.inr ⟨pre++[k],⟨jJ t (cs.drop (k+1)) (k+1),by rw[← Hp.out,Hst.out,if_pos hb,List.append_assoc];rfl⟩,hJ1⟩⟩
   ·by_cases hb1:c.thread=t
    ·have hd:(c.thread == t)=true:=by simpa using hb1
     have hd2:decide (0≤c.took)=false:=by
      have:¬ 0≤c.took:=fun h=>hb ⟨hb1,h⟩
      simpa using this
     gi_wp2
     refine⟨fun _ h=>(by cases h),?_⟩
     gi_wp2
     go_roundw
     case rel=>exact⟨k+1,pre,by go_num,by omega,by rw[← Hp.out,Hst.out,if_neg hb],by omega,hJa,hBx⟩
     case measure=>simp[intOf];omega
    ·have hd:(c.thread == t)=false:=by simpa using hb1
     gi_wp2
     refine⟨fun _ h=>(by cases h),?_⟩
     gi_wp2
     go_roundw
     case rel=>exact⟨k+1,pre,by go_num,by omega,by rw[← Hp.out,Hst.out,if_neg hb],by omega,hJa,hBx⟩
     case measure=>simp[intOf];omega
  ·gi_wp2
   go_end0
   refine⟨⟨_,rfl⟩,.inl ⟨_,rfl,?_⟩⟩
   have hkk:k=cs.length:=by omega
   rw[← Hp.out,hkk]
   simpa [jJ] using hJ'
theorem aN8 (n:Nat) (l Bl Bt:Nat) (t:Int) (c:Nat) (J Jx:List Nat→World→Prop)
  (W:World) (hBl:W.cell? ⟨Bl,0,none⟩=some (.slice none 0 c)) (hJ:J [] W) :
  CallsIn Fence.wide n Tryz.prog 158 #[.func (.yield l) #[] #[],.pointer (some ⟨Bl,0,none⟩),.pointer (some ⟨Bt,0,none⟩)] W (Hs.nS (jJ t [] 0) J Jx):=by
 refine callsIn_of_wp Tryz.func158 rfl trivial ?_ rfl
 simp only[Tryz.ntmps158,List.size_toArray,List.length_cons,List.length_nil,Nat.reduceAdd,Nat.reduceSub,Array.replicate_succ,Array.replicate_zero,List.push_toArray,List.append_toArray,List.nil_append,List.cons_append]
 gi_wp2
 refine wpIn_loop_once ?_
 gi_wp2
 go_end0
 exact⟨⟨_,rfl⟩,.inl ⟨_,rfl,hJ⟩⟩
theorem aK6 (n:Nat) (hn:1≤n) (Bl Bt cap:Nat) (q:Nat→Prop) (p:Option Addr) (cs:List aA) (t:Int) (hs:cs.length≤1000000) (w:World) (hBl:w.cell? ⟨Bl,0,none⟩=some (.slice p cs.length cap)) (hBt:w.cell? ⟨Bt,0,none⟩=some (.int .i64 t))
  (hC:CRow w p cap cs) (h0:∀ k,q k→k<w.heap.size) (h1:Bl<w.heap.size) (h2:q Bt) (h3:∀ b off,p=some ⟨b,off,none⟩→q b) :
  SeqStopsK Fence.wide n Tryz.prog 158 #[.pointer (some ⟨Bl,0,none⟩),.pointer (some ⟨Bt,0,none⟩)] (fun x:InC cs.length => #[Value.int .i64 (x.1:Int)]) (gL q) (fun ys=>ys.map (·.1)=jJ t cs 0) (fun ys=>ys.map (·.1) <+: jJ t cs 0) cs.length w:=by
 intro l J Jx W hW hAJ hAJx hY hJ
 have hbl:=(hW.cell (p:=⟨Bl,0,none⟩) h1).trans hBl
 have hbt:=(hW.cell (p:=⟨Bt,0,none⟩) (h0 _ h2)).trans hBt
 have key:CallsIn Fence.wide n Tryz.prog 158 #[.func (.yield l) #[] #[],.pointer (some ⟨Bl,0,none⟩),.pointer (some ⟨Bt,0,none⟩)] W (Hs.nS (jJ t cs 0) (fun xs W=>∃ ys:List (InC cs.length),ys.map (·.1)=xs∧J ys W) (fun xs W=>∃ ys:List (InC cs.length),ys.map (·.1)=xs∧Jx ys W)):=by
  rcases hC with⟨rfl,rfl,rfl⟩ | ⟨b,off,rfl,hcap,hb,hcat⟩
  ·exact aN8 n l Bl Bt t 0 _ _ W hbl ⟨[],rfl,hJ⟩
  ·refine aQo n hn l Bl Bt b off cap q cs t hs _ _ ?_ W ?_ hbl hbt (hcat.below hW hb) (fun k hk=>Nat.lt_of_lt_of_le (h0 k hk) hW.size) h2 (h3 b off rfl) ⟨[],rfl,hJ⟩
   ·rintro pre x W ⟨ys,rfl,hj⟩ hlen hx
    refine (hY ys ⟨x,hx⟩ W hj (by simpa using hlen)).mono ?_
    rintro e W' (⟨rfl,hj',hk⟩ | ⟨rfl,hj'⟩)
    ·exact .inl ⟨rfl,⟨_,by simp,hj'⟩,hk⟩
    ·exact .inr ⟨rfl,⟨_,by simp,hj'⟩⟩
   ·rintro pre X o ⟨ys,rfl,hj⟩
    exact⟨ys,rfl,hAJ ys X _ none hj (World.grownBy_alloc X o none) (fun r e=>by cases e)⟩
 refine key.mono ?_
 rintro e W' ⟨hv,⟨_,rfl,ys,hy,hj⟩ | ⟨_,hp,ys,rfl,hj⟩⟩
 ·exact⟨hv,.inl ⟨ys,hy,hj⟩⟩
 ·exact⟨hv,.inr ⟨ys,hp,hj⟩⟩
theorem yB (N:Nat) (n:Nat) (hn:1≤n) (Bl Bt cap:Nat) (q:Nat→Prop) (p:Option Addr) (cs:List aA) (hN:cs.length=N) (t:Int) (hs:N≤1000000) (w:World) (hBl:w.cell? ⟨Bl,0,none⟩=some (.slice p N cap)) (hBt:w.cell? ⟨Bt,0,none⟩=some (.int .i64 t))
  (hC:CRow w p cap cs) (h0:∀ k,q k→k<w.heap.size) (h1:Bl<w.heap.size) (h2:q Bt) (h3:∀ b off,p=some ⟨b,off,none⟩→q b) :
  SeqStopsK Fence.wide n Tryz.prog 158 #[.pointer (some ⟨Bl,0,none⟩),.pointer (some ⟨Bt,0,none⟩)] (fun x:InC N => #[Value.int .i64 (x.1:Int)]) (gL q) (fun ys=>ys.map (·.1)=jJ t cs 0) (fun ys=>ys.map (·.1) <+: jJ t cs 0) N w:=by
 subst hN
 exact aK6 n hn Bl Bt cap q p cs t hs w hBl hBt hC h0 h1 h2 h3
end Go.Proofs.YtdeiocppghhfdaaGreat.Lin
