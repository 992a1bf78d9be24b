/- Texts, one behind another. -/
import Derived.Test.YtdeiocppghhfdaaGreatZdbs
set_option linter.unusedVariables false
set_option linter.unusedSimpArgs false
set_option maxRecDepth 100000
set_option maxHeartbeats 8000000
namespace Go.Proofs.YtdeiocppghhfdaaGreat
open Go.RowKit Go.Lib Go.Shelf
theorem kT {K:Act→World→Prop} {a:Act} {W:World} (h:∀ W',W'=W→K a W'):K a W:=h W rfl
structure TI (w2:World) (o6 o7:Option Nat) (W:World):Prop where
 bl:Below w2.heap.size w2 W
 h6:∀ b,o6=some b→w2.heap.size≤b∧∃ x y z,W.heap[b]? = some (.cells #[x,y,z] 94 (0,0))
 h7:∀ b,o7=some b→w2.heap.size≤b∧∃ x y z,W.heap[b]? = some (.cells #[x,y,z] 94 (0,0))
 ne:∀ b b',o6=some b→o7=some b'→b≠b'
theorem TI.cast {w2 W W':World} {o6 o7:Option Nat} (h:TI w2 o6 o7 W) (e:W'=W):TI w2 o6 o7 W':=e ▸ h
theorem TI.a6 {w2 W:World} {o7:Option Nat} (h:TI w2 none o7 W):TI w2 (some W.heap.size) o7 (W.alloc (.cells #[.int .u8 0,.int .i64 0,.string ⟨#[]⟩] 94)):=by
 refine⟨h.bl.alloc h.bl.size _,fun b e => ?_,fun b e => ?_,fun b b' e e' => ?_⟩
 ·injection e with e;subst e;exact⟨h.bl.size,_,_,_,heap_alloc_new W _⟩
 ·obtain⟨h1,x,y,z,h2⟩:=h.h7 b e
  exact⟨h1,x,y,z,(heap_alloc_old _ _ (Array.getElem?_eq_some_iff.1 h2).1).trans h2⟩
 ·injection e with e
  obtain⟨_,x,y,z,h2⟩:=h.h7 b' e'
  have:=(Array.getElem?_eq_some_iff.1 h2).1;omega
theorem TI.a7 {w2 W:World} {o6:Option Nat} (h:TI w2 o6 none W):TI w2 o6 (some W.heap.size) (W.alloc (.cells #[.int .u8 0,.int .i64 0,.string ⟨#[]⟩] 94)):=by
 refine⟨h.bl.alloc h.bl.size _,fun b e => ?_,fun b e => ?_,fun b b' e e' => ?_⟩
 ·obtain⟨h1,x,y,z,h2⟩:=h.h6 b e
  exact⟨h1,x,y,z,(heap_alloc_old _ _ (Array.getElem?_eq_some_iff.1 h2).1).trans h2⟩
 ·injection e with e;subst e;exact⟨h.bl.size,_,_,_,heap_alloc_new W _⟩
 ·injection e' with e'
  obtain⟨_,x,y,z,h2⟩:=h.h6 b e
  have:=(Array.getElem?_eq_some_iff.1 h2).1;omega
theorem TI.on {w2 W W':World} {o6 o7:Option Nat} (h:TI w2 o6 o7 W) (hb:Below W.heap.size W W'):TI w2 o6 o7 W':=by
 refine⟨h.bl.trans (hb.mono h.bl.size),fun b e => ?_,fun b e => ?_,h.ne⟩
 ·obtain⟨h1,x,y,z,h2⟩:=h.h6 b e
  exact⟨h1,x,y,z,(hb.block _ (Array.getElem?_eq_some_iff.1 h2).1).trans h2⟩
 ·obtain⟨h1,x,y,z,h2⟩:=h.h7 b e
  exact⟨h1,x,y,z,(hb.block _ (Array.getElem?_eq_some_iff.1 h2).1).trans h2⟩
theorem TI.start (w2:World):TI w2 none none w2.drew:=⟨(Below.refl _ _).drew,fun _ e=>(by cases e),fun _ e=>(by cases e),fun _ _ e=>(by cases e)⟩
def stp3 (W:World) (B o:Nat) (u v x:Value):World:=((W.setCell ⟨B,o,none⟩ u).setCell ⟨B,o+1,none⟩ v).setCell ⟨B,o+2,none⟩ x
theorem iH (W:World) (B o:Nat) (u v x:Value) (k:Nat) (h:k≠B):(stp3 W B o u v x).heap[k]? = W.heap[k]? :=
 (Below.heap_setCell _ _ _ _ h).trans ((Below.heap_setCell _ _ _ _ h).trans (Below.heap_setCell _ _ _ _ h))
theorem iZ {n:Nat} {w W:World} {B:Nat} (h:Below n w W) (hB:n≤B) (o:Nat) (u v x:Value):Below n w (stp3 W B o u v x):=((h.setCell (p:=⟨B,o,none⟩) hB u).setCell (p:=⟨B,o+1,none⟩) hB v).setCell (p:=⟨B,o+2,none⟩) hB x
theorem fzg {W:World} {g off:Nat} {cur:Array Value} {T:TypeId} (h:W.heap[g]? = some (.cells cur T (0,0))) (u v:Value):(W.setCell ⟨g,off,none⟩ u).frozen? ⟨g,off+1,none⟩=false∧((W.setCell ⟨g,off,none⟩ u).setCell ⟨g,off+1,none⟩ v).frozen? ⟨g,off+2,none⟩=false:=by
 constructor<;>simp[World.frozen?,World.setCell,Array.getElem?_modify,h]
theorem jA {W:World} {B:Nat} {x y z:Value} {T:TypeId} (h:W.heap[B]? = some (.cells #[x,y,z] T (0,0))) (u v t:Value):(stp3 W B 0 u v t).heap[B]? = some (.cells #[u,v,t] T (0,0)):=hc3 h u v t
def TkR (w2:World) (bb n bw b1:Nat) (A Z:PcV) (a:Act) (wr:World):Prop :=
 ∃ (B6 B7:Nat) (u:Nat→Value),a={ tmps := #[.pointer (some ⟨bb,0,none⟩),.int .i64 n,u 2,u 3,.pointer (some ⟨bw,0,none⟩),.pointer (some ⟨b1,0,none⟩),.pointer (some ⟨B6,0,none⟩),.pointer (some ⟨B7,0,none⟩),u 8,u 9,u 10,u 11,u 12,u 13,u 14,u 15,u 16,u 17,u 18,u 19,u 20,u 21,u 22,u 23,u 24,u 25,u 26,u 27,u 28,u 29,u 30,u 31,u 32,u 33,u 34,u 35,u 36],defers:=[] } ∧
  wr.heap[B6]? = some (.cells (pcL A).toArray 94 (0,0))∧wr.heap[B7]? = some (.cells (pcL Z).toArray 94 (0,0))∧w2.heap.size≤B6∧w2.heap.size≤B7∧Below w2.heap.size w2 wr
theorem TkR.intro {w2:World} {bb n bw b1:Nat} {A Z:PcV} {a:Act} {wr:World} (B6 B7:Nat) (h:a={ tmps := #[.pointer (some ⟨bb,0,none⟩),.int .i64 n,a.tmps.getD 2 undef,a.tmps.getD 3 undef,.pointer (some ⟨bw,0,none⟩),.pointer (some ⟨b1,0,none⟩),.pointer (some ⟨B6,0,none⟩),.pointer (some ⟨B7,0,none⟩),a.tmps.getD 8 undef,a.tmps.getD 9 undef,a.tmps.getD 10 undef,a.tmps.getD 11 undef,a.tmps.getD 12 undef,a.tmps.getD 13 undef,a.tmps.getD 14 undef,a.tmps.getD 15 undef,a.tmps.getD 16 undef,a.tmps.getD 17 undef,a.tmps.getD 18 undef,a.tmps.getD 19 undef,a.tmps.getD 20 undef,a.tmps.getD 21 undef,a.tmps.getD 22 undef,a.tmps.getD 23 undef,a.tmps.getD 24 undef,a.tmps.getD 25 undef,a.tmps.getD 26 undef,a.tmps.getD 27 undef,a.tmps.getD 28 undef,a.tmps.getD 29 undef,a.tmps.getD 30 undef,a.tmps.getD 31 undef,a.tmps.getD 32 undef,a.tmps.getD 33 undef,a.tmps.getD 34 undef,a.tmps.getD 35 undef,a.tmps.getD 36 undef],defers:=[] })
  (h6:wr.heap[B6]? = some (.cells (pcL A).toArray 94 (0,0))) (h7:wr.heap[B7]? = some (.cells (pcL Z).toArray 94 (0,0))) (l6:w2.heap.size≤B6) (l7:w2.heap.size≤B7) (hb:Below w2.heap.size w2 wr):TkR w2 bb n bw b1 A Z a wr:=⟨B6,B7,fun i=>a.tmps.getD i undef,h,h6,h7,l6,l7,hb⟩
theorem aLk {W:World} {lo g off:Nat} {cur:Array Value} {p q:PcV} {ps:List PcV} (hlo:lo≤g) (hg:W.heap[g]? = some (.cells cur 94 (0,0))) (hcur:∀ (k:Nat) (r:PcV),(p::ps)[k]? = some r→∀ (i:Nat) (u:Value),(pcL r)[i]? = some u→cur[off+(k*3+i)]? = some u):aCm (stp3 W g off (.int .u8 q.kind) (.int .i64 q.n) (.string q.text)) lo g (some ⟨g,off,none⟩) (q::ps):=by
 have hl:off+2<cur.size:=(Array.getElem?_eq_some_iff.1 (hcur 0 p rfl 2 _ rfl)).1
 refine .inr ⟨off,((cur.setIfInBounds off (.int .u8 q.kind)).setIfInBounds (off+1) (.int .i64 q.n)).setIfInBounds (off+2) (.string q.text),rfl,hlo,?_,fun k r hr i u hu => ?_⟩
 ·simp[stp3,World.setCell,Array.getElem?_modify,hg]
 ·have hi:i<3:=(List.getElem?_eq_some_iff.1 hu).1
  rw[Array.getElem?_setIfInBounds,Array.getElem?_setIfInBounds,Array.getElem?_setIfInBounds]
  simp only[Array.size_setIfInBounds]
  match k,hr with
  | 0,hr =>
   have hr:q=r:=by simpa using hr
   subst hr
   match i,hi,hu with
   | 0,_,hu=>rw[if_neg (by omega),if_neg (by omega),if_pos (by omega),if_pos (by omega)];exact hu
   | 1,_,hu=>rw[if_neg (by omega),if_pos (by omega),if_pos (by omega)];exact hu
   | 2,_,hu=>rw[if_pos (by omega),if_pos (by omega)];exact hu
  | k+1,hr =>
   rw[if_neg (by omega),if_neg (by omega),if_neg (by omega)]
   exact hcur (k+1) r (by simpa using hr) i u hu
theorem aIl (lo b g:Nat) (p:PcV) (ps:List PcV) (n:Nat) (w:World) (h:Rdr w lo b g (p::ps)) (h1:0≤p.n) (h2:p.n≤2000000) (hs:p.text.size≤2000000) (hn:n≤2000000) (hk:p.kind=2→(n:Int)<p.text.size) (hc:(n:Int)<p.n+p.text.size) :
  Calls Tryz.prog 168 #[.pointer (some ⟨b,0,none⟩),.int .i64 n] w fun e w'=>e = .returned (.agg #[.int .u8 (aI p n).kind,.int .i64 (aI p n).n,.string (aI p n).text])∧Rdr w' lo b g (aG p n::ps)∧aC (fun k=>k=b∨k=g) w w':=by
 have hH:=Lib.hid h
 have HBL:=Lib.hid h.lt
 have HGL:=Lib.hid h.glt
 have mixed : Tryz.prog.follows Departure.mixedOrders=true:=by kernel_rfl
 have d1:decide ((n:Int)<p.n+p.text.size)=true:=by simpa using hc
 clear h
 go_enter Tryz.func168,Tryz.ntmps168
 go_wp2_with (first | (go_at_call 165;refine (jG lo b g p ps _ (hH.out.below (mP (Below.refl _ _) _))).mono ?_;rintro e w1 ⟨rfl,hB1⟩))
 have hR1:=((hH.out.below (mP (Below.refl _ _) _)).below hB1).below (mP (Below.refl _ _) (.cells #[.int .u8 p.kind,.int .i64 p.n,.string p.text] 94))
 have hz:=heap_alloc_new w1 (.cells #[.int .u8 p.kind,.int .i64 p.n,.string p.text] 94)
 have hsz:(w1.alloc (.cells #[.int .u8 p.kind,.int .i64 p.n,.string p.text] 94)).heap.size=w1.heap.size+1:=by simp
 have hF:∀ V,Below (w1.heap.size+1) (w1.alloc (.cells #[.int .u8 p.kind,.int .i64 p.n,.string p.text] 94)) V→V.cell? ⟨b,1,none⟩=some (.func (.func 167) #[] #[])∧V.cell? ⟨w1.heap.size,0,none⟩=some (.int .u8 p.kind)∧V.cell? ⟨w1.heap.size,1,none⟩=some (.int .i64 p.n)∧V.cell? ⟨w1.heap.size,2,none⟩=some (.string p.text):=fun V hV=>by
  obtain⟨a,c,r1,r2,r3⟩:=hR1.below (hsz ▸ hV)
  obtain⟨z0,z1,z2⟩:=iC ((hV.block w1.heap.size (by omega)).trans hz)
  exact⟨(wV r1).2.1,z0,z1,z2⟩
 have HF:=Lib.hid hF
 have HR1:=Lib.hid hR1
 have HZ:=Lib.hid hz
 clear hF hR1 hz hH
 refine wp_region_noPanic ?_
 refine wp_region_held_drew (S:=fun W=>W.cell? ⟨b,1,none⟩=some (.func (.func 167) #[] #[])∧W.cell? ⟨w1.heap.size,0,none⟩=some (.int .u8 p.kind)∧W.cell? ⟨w1.heap.size,1,none⟩=some (.int .i64 p.n)∧W.cell? ⟨w1.heap.size,2,none⟩=some (.string p.text)) (by kernel_rfl) ?_ (fun hHeld => ?_)
 ·first | exact HF.out _ (Below.refl _ _).drew | exact HF.out _ hB3
 iterate 6 (first | (refine aL ?_;(try simp only[nSO])) | ((first | refine np_n ?_ ?_ ?_ | refine np_t 0 ?_ ?_ ?_);rotate_left 1;(· (intro w hSw;(try dsimp only at hSw);go_simp;all_goals with_reducible rfl));(try simp only[nSO])))
 first | (refine np_s 6 ?_;(try simp only[nSO])) | (refine aD (i:=6) rfl (by kernel_rfl) (fun K hK => ?_);rw[if_pos (by rfl)];go_simp;((go_at_call 167;refine (wW p _ (by omega) (by omega)).mono ?_;rintro e w2 ⟨rfl,hB2⟩;have hB3:Below (w1.heap.size+1) (w1.alloc (.cells #[.int .u8 p.kind,.int .i64 p.n,.string p.text] 94)) w2:=(Below.refl _ _).drew.trans (hB2.mono (by simp))));(try go_wp2_with fail);refine hK.out _ _ ?_ (fun hHeld => ?_);(· (first | exact HF.out _ (Below.refl _ _).drew | exact HF.out _ hB3));clear hK K;(try simp only[nSO]))
 first | (refine aL ?_;(try simp only[nSO])) | (refine np_n ?_ ?_ ?_;rotate_left 1;(· (intro w hSw;(try dsimp only at hSw);go_simp;all_goals with_reducible rfl));(try simp only[nSO]))
 refine wpAnyH_done (by kernel_rfl) ?_ _
 refine NoPanic.normal ?_
 have hz2:=(hB3.block w1.heap.size (by omega)).trans HZ.out
 obtain⟨a,c,r1,r2,r3⟩:=HR1.out.below (hsz ▸ hB3)
 obtain⟨z0,z1,z2⟩:=iC hz2
 obtain⟨k0,_,k2,kf⟩:=wV r1
 go_wp2
 have hsp:∀ W,Below w2.heap.size w2 W→W.cell? ⟨b,2,none⟩=some (.func (.func 216) #[] #[])∧W.cell? ⟨w1.heap.size,0,none⟩=some (.int .u8 p.kind)∧W.cell? ⟨w1.heap.size,1,none⟩=some (.int .i64 p.n)∧W.cell? ⟨w1.heap.size,2,none⟩=some (.string p.text):=fun W hW=>by
  have hl:=(Array.getElem?_eq_some_iff.1 r1).1
  have hl2:=(Array.getElem?_eq_some_iff.1 hz2).1
  exact⟨(hW.cell (p:=⟨b,2,none⟩) hl).trans k2,(hW.cell (p:=⟨w1.heap.size,0,none⟩) hl2).trans z0,(hW.cell (p:=⟨w1.heap.size,1,none⟩) hl2).trans z1,(hW.cell (p:=⟨w1.heap.size,2,none⟩) hl2).trans z2⟩
 have HS:=Lib.hid hsp
 have HK0:=Lib.hid k0
 have HR2:=Lib.hid (And.intro r1 (And.intro r2 r3))
 clear hsp k2 z0 z1 z2 k0 r1 r2 r3 kf hz2
 refine Code.wp_mono (Q:=fun e a' w'=>e = .normal∧TkR w2 b n w.heap.size w1.heap.size (aI p n) (aG p n) a' w') ?_ ?region
 case region =>
  refine wp_region_noPanic ?_
  refine wp_region_held_drew (S:=fun W=>W.cell? ⟨b,2,none⟩=some (.func (.func 216) #[] #[])∧W.cell? ⟨w1.heap.size,0,none⟩=some (.int .u8 p.kind)∧W.cell? ⟨w1.heap.size,1,none⟩=some (.int .i64 p.n)∧W.cell? ⟨w1.heap.size,2,none⟩=some (.string p.text)) (by kernel_rfl) ?_ (fun hHeld => ?_)
  ·exact HS.out _ (Below.refl _ _).drew
  have hT:=TI.start w2
  generalize w2.drew=v2 at *
  iterate 6 ((first | refine np_n ?_ ?_ ?_ | refine np_t 0 ?_ ?_ ?_);rotate_left 1;(· (intro w hSw;(try dsimp only at hSw);go_simp;all_goals with_reducible rfl));(try simp only[nSO]))
  refine wpAnyH_ready (rs:=[6,10,11]) (by kernel_rfl) (by simp) (AllReadyH.cons rfl (fun K hK => ?_) (AllReadyH.cons rfl (fun K hK => ?_) (AllReadyH.cons rfl (fun K hK => ?_) AllReadyH.nil)))
  ·rw[if_pos (by rfl)];go_simp;(go_at_call 216;refine (rG p n _ (by omega) hn ⟨h1,h2⟩ hs).mono ?_;rintro e w3 ⟨rfl,hB4⟩;have hT:=hT.on hB4);(try go_wp2_with fail);refine hK.out _ _ (HS.out _ hT.bl) (fun hHeld => ?_);clear hK K;(try simp only[nSO])
   refine np_t 7 ?_ ?_ ?_;rotate_left 1;(· (intro w hSw;(try dsimp only at hSw);go_simp;all_goals with_reducible rfl));(try simp only[nSO])
   refine np_t 8 ?_ ?_ ?_;rotate_left 1;(· (intro w hSw;(try dsimp only at hSw);go_simp;all_goals with_reducible rfl));(try simp only[nSO])
   refine np_t 9 ?_ ?_ ?_;rotate_left 1;(· (intro w hSw;(try dsimp only at hSw);go_simp;all_goals with_reducible rfl));(try simp only[nSO])
   refine wpAnyH_ready (rs:=[10,11]) (by kernel_rfl) (by simp) (AllReadyH.cons rfl (fun K hK => ?_) (AllReadyH.cons rfl (fun K hK => ?_) AllReadyH.nil))
   ·have hT:=hT.a6
    rw[if_pos (by rfl)];go_simp
    refine kT (fun W9 hW9 => ?_)
    have hT:=hT.cast hW9;clear hW9
    refine hK.out _ _ (HS.out _ hT.bl) (fun hHeld => ?_)
    clear hK K;(try simp only[nSO])
    refine wpAnyH_ready (rs:=[11]) (by kernel_rfl) (by simp) (AllReadyH.cons rfl (fun K hK => ?_) AllReadyH.nil)
    ·have hT:=hT.a7
     rw[if_pos (by rfl)];go_simp
     refine kT (fun W9 hW9 => ?_)
     have hT:=hT.cast hW9;clear hW9
     refine hK.out _ _ (HS.out _ hT.bl) (fun hHeld => ?_)
     clear hK K;(try simp only[nSO])
     obtain⟨l6,x6,y6,z6,k6⟩:=hT.h6 _ rfl
     obtain⟨l7,x7,y7,z7,k7⟩:=hT.h7 _ rfl
     have hne:=hT.ne _ _ rfl rfl
     have f60:=Lib.frozen_of_heap k6 0
     obtain⟨f61,f62⟩:=fz3 k6 (.int .u8 (aI p n).kind) (.int .i64 (aI p n).n)
     obtain⟨c60,c61,c62⟩:=iC k6
     have hb6:=iZ hT.bl l6 0 (.int .u8 (aI p n).kind) (.int .i64 (aI p n).n) (.string (aI p n).text)
     have k6':=jA k6 (.int .u8 (aI p n).kind) (.int .i64 (aI p n).n) (.string (aI p n).text)
     have k7':=(iH _ _ 0 (.int .u8 (aI p n).kind) (.int .i64 (aI p n).n) (.string (aI p n).text) _ hne.symm).trans k7
     refine aD (i:=12) rfl (by kernel_rfl) (fun K hK => ?_);rw[if_pos (by rfl)];go_simp;(try go_wp2_with fail)
     refine kT (fun W8 hW8 => ?_)
     have hV8:W8=stp3 _ _ 0 (.int .u8 (aI p n).kind) (.int .i64 (aI p n).n) (.string (aI p n).text):=hW8
     rw[← hV8] at hb6 k6' k7'
     clear hV8 hW8
     refine hK.out _ _ (HS.out _ hb6) (fun hHeld => ?_);clear hK K;(try simp only[nSO])
     have f70:=Lib.frozen_of_heap k7' 0
     obtain⟨f71,f72⟩:=fz3 k7' (.int .u8 (aG p n).kind) (.int .i64 (aG p n).n)
     obtain⟨c70,c71,c72⟩:=iC k7'
     have hb7:=iZ hb6 l7 0 (.int .u8 (aG p n).kind) (.int .i64 (aG p n).n) (.string (aG p n).text)
     have k7q:=jA k7' (.int .u8 (aG p n).kind) (.int .i64 (aG p n).n) (.string (aG p n).text)
     have k6q:=(iH _ _ 0 (.int .u8 (aG p n).kind) (.int .i64 (aG p n).n) (.string (aG p n).text) _ hne).trans k6'
     refine aD (i:=13) rfl (by kernel_rfl) (fun K hK => ?_);rw[if_pos (by rfl)];go_simp;(try go_wp2_with fail)
     refine kT (fun W7 hW7 => ?_)
     have hV7:W7=stp3 _ _ 0 (.int .u8 (aG p n).kind) (.int .i64 (aG p n).n) (.string (aG p n).text):=hW7
     rw[← hV7] at hb7 k7q k6q
     clear hV7 hW7
     refine hK.out _ _ (HS.out _ hb7) (fun hHeld => ?_);clear hK K;(try simp only[nSO])
     refine wpAnyH_done (by kernel_rfl) ?_ _
     refine NoPanic.normal ?_
     exact⟨rfl,TkR.intro _ _ rfl k6q k7q l6 l7 hb7⟩
   ·have hT:=hT.a7
    rw[if_pos (by rfl)];go_simp
    refine kT (fun W9 hW9 => ?_)
    have hT:=hT.cast hW9;clear hW9
    refine hK.out _ _ (HS.out _ hT.bl) (fun hHeld => ?_)
    clear hK K;(try simp only[nSO])
    refine wpAnyH_ready (rs:=[10]) (by kernel_rfl) (by simp) (AllReadyH.cons rfl (fun K hK => ?_) AllReadyH.nil)
    ·have hT:=hT.a6
     rw[if_pos (by rfl)];go_simp
     refine kT (fun W9 hW9 => ?_)
     have hT:=hT.cast hW9;clear hW9
     refine hK.out _ _ (HS.out _ hT.bl) (fun hHeld => ?_)
     clear hK K;(try simp only[nSO])
     obtain⟨l6,x6,y6,z6,k6⟩:=hT.h6 _ rfl
     obtain⟨l7,x7,y7,z7,k7⟩:=hT.h7 _ rfl
     have hne:=hT.ne _ _ rfl rfl
     have f60:=Lib.frozen_of_heap k6 0
     obtain⟨f61,f62⟩:=fz3 k6 (.int .u8 (aI p n).kind) (.int .i64 (aI p n).n)
     obtain⟨c60,c61,c62⟩:=iC k6
     have hb6:=iZ hT.bl l6 0 (.int .u8 (aI p n).kind) (.int .i64 (aI p n).n) (.string (aI p n).text)
     have k6':=jA k6 (.int .u8 (aI p n).kind) (.int .i64 (aI p n).n) (.string (aI p n).text)
     have k7':=(iH _ _ 0 (.int .u8 (aI p n).kind) (.int .i64 (aI p n).n) (.string (aI p n).text) _ hne.symm).trans k7
     refine aD (i:=12) rfl (by kernel_rfl) (fun K hK => ?_);rw[if_pos (by rfl)];go_simp;(try go_wp2_with fail)
     refine kT (fun W8 hW8 => ?_)
     have hV8:W8=stp3 _ _ 0 (.int .u8 (aI p n).kind) (.int .i64 (aI p n).n) (.string (aI p n).text):=hW8
     rw[← hV8] at hb6 k6' k7'
     clear hV8 hW8
     refine hK.out _ _ (HS.out _ hb6) (fun hHeld => ?_);clear hK K;(try simp only[nSO])
     have f70:=Lib.frozen_of_heap k7' 0
     obtain⟨f71,f72⟩:=fz3 k7' (.int .u8 (aG p n).kind) (.int .i64 (aG p n).n)
     obtain⟨c70,c71,c72⟩:=iC k7'
     have hb7:=iZ hb6 l7 0 (.int .u8 (aG p n).kind) (.int .i64 (aG p n).n) (.string (aG p n).text)
     have k7q:=jA k7' (.int .u8 (aG p n).kind) (.int .i64 (aG p n).n) (.string (aG p n).text)
     have k6q:=(iH _ _ 0 (.int .u8 (aG p n).kind) (.int .i64 (aG p n).n) (.string (aG p n).text) _ hne).trans k6'
     refine aD (i:=13) rfl (by kernel_rfl) (fun K hK => ?_);rw[if_pos (by rfl)];go_simp;(try go_wp2_with fail)
     refine kT (fun W7 hW7 => ?_)
     have hV7:W7=stp3 _ _ 0 (.int .u8 (aG p n).kind) (.int .i64 (aG p n).n) (.string (aG p n).text):=hW7
     rw[← hV7] at hb7 k7q k6q
     clear hV7 hW7
     refine hK.out _ _ (HS.out _ hb7) (fun hHeld => ?_);clear hK K;(try simp only[nSO])
     refine wpAnyH_done (by kernel_rfl) ?_ _
     refine NoPanic.normal ?_
     exact⟨rfl,TkR.intro _ _ rfl k6q k7q l6 l7 hb7⟩
  ·have hT:=hT.a6
   rw[if_pos (by rfl)];go_simp
   refine kT (fun W9 hW9 => ?_)
   have hT:=hT.cast hW9;clear hW9
   refine hK.out _ _ (HS.out _ hT.bl) (fun hHeld => ?_)
   clear hK K;(try simp only[nSO])
   refine wpAnyH_ready (rs:=[6,11]) (by kernel_rfl) (by simp) (AllReadyH.cons rfl (fun K hK => ?_) (AllReadyH.cons rfl (fun K hK => ?_) AllReadyH.nil))
   ·rw[if_pos (by rfl)];go_simp;(go_at_call 216;refine (rG p n _ (by omega) hn ⟨h1,h2⟩ hs).mono ?_;rintro e w3 ⟨rfl,hB4⟩;have hT:=hT.on hB4);(try go_wp2_with fail);refine hK.out _ _ (HS.out _ hT.bl) (fun hHeld => ?_);clear hK K;(try simp only[nSO])
    refine np_t 7 ?_ ?_ ?_;rotate_left 1;(· (intro w hSw;(try dsimp only at hSw);go_simp;all_goals with_reducible rfl));(try simp only[nSO])
    refine np_t 8 ?_ ?_ ?_;rotate_left 1;(· (intro w hSw;(try dsimp only at hSw);go_simp;all_goals with_reducible rfl));(try simp only[nSO])
    refine np_t 9 ?_ ?_ ?_;rotate_left 1;(· (intro w hSw;(try dsimp only at hSw);go_simp;all_goals with_reducible rfl));(try simp only[nSO])
    refine wpAnyH_ready (rs:=[11]) (by kernel_rfl) (by simp) (AllReadyH.cons rfl (fun K hK => ?_) AllReadyH.nil)
    ·have hT:=hT.a7
     rw[if_pos (by rfl)];go_simp
     refine kT (fun W9 hW9 => ?_)
     have hT:=hT.cast hW9;clear hW9
     refine hK.out _ _ (HS.out _ hT.bl) (fun hHeld => ?_)
     clear hK K;(try simp only[nSO])
     obtain⟨l6,x6,y6,z6,k6⟩:=hT.h6 _ rfl
     obtain⟨l7,x7,y7,z7,k7⟩:=hT.h7 _ rfl
     have hne:=hT.ne _ _ rfl rfl
     have f60:=Lib.frozen_of_heap k6 0
     obtain⟨f61,f62⟩:=fz3 k6 (.int .u8 (aI p n).kind) (.int .i64 (aI p n).n)
     obtain⟨c60,c61,c62⟩:=iC k6
     have hb6:=iZ hT.bl l6 0 (.int .u8 (aI p n).kind) (.int .i64 (aI p n).n) (.string (aI p n).text)
     have k6':=jA k6 (.int .u8 (aI p n).kind) (.int .i64 (aI p n).n) (.string (aI p n).text)
     have k7':=(iH _ _ 0 (.int .u8 (aI p n).kind) (.int .i64 (aI p n).n) (.string (aI p n).text) _ hne.symm).trans k7
     refine aD (i:=12) rfl (by kernel_rfl) (fun K hK => ?_);rw[if_pos (by rfl)];go_simp;(try go_wp2_with fail)
     refine kT (fun W8 hW8 => ?_)
     have hV8:W8=stp3 _ _ 0 (.int .u8 (aI p n).kind) (.int .i64 (aI p n).n) (.string (aI p n).text):=hW8
     rw[← hV8] at hb6 k6' k7'
     clear hV8 hW8
     refine hK.out _ _ (HS.out _ hb6) (fun hHeld => ?_);clear hK K;(try simp only[nSO])
     have f70:=Lib.frozen_of_heap k7' 0
     obtain⟨f71,f72⟩:=fz3 k7' (.int .u8 (aG p n).kind) (.int .i64 (aG p n).n)
     obtain⟨c70,c71,c72⟩:=iC k7'
     have hb7:=iZ hb6 l7 0 (.int .u8 (aG p n).kind) (.int .i64 (aG p n).n) (.string (aG p n).text)
     have k7q:=jA k7' (.int .u8 (aG p n).kind) (.int .i64 (aG p n).n) (.string (aG p n).text)
     have k6q:=(iH _ _ 0 (.int .u8 (aG p n).kind) (.int .i64 (aG p n).n) (.string (aG p n).text) _ hne).trans k6'
     refine aD (i:=13) rfl (by kernel_rfl) (fun K hK => ?_);rw[if_pos (by rfl)];go_simp;(try go_wp2_with fail)
     refine kT (fun W7 hW7 => ?_)
     have hV7:W7=stp3 _ _ 0 (.int .u8 (aG p n).kind) (.int .i64 (aG p n).n) (.string (aG p n).text):=hW7
     rw[← hV7] at hb7 k7q k6q
     clear hV7 hW7
     refine hK.out _ _ (HS.out _ hb7) (fun hHeld => ?_);clear hK K;(try simp only[nSO])
     refine wpAnyH_done (by kernel_rfl) ?_ _
     refine NoPanic.normal ?_
     exact⟨rfl,TkR.intro _ _ rfl k6q k7q l6 l7 hb7⟩
   ·have hT:=hT.a7
    rw[if_pos (by rfl)];go_simp
    refine kT (fun W9 hW9 => ?_)
    have hT:=hT.cast hW9;clear hW9
    refine hK.out _ _ (HS.out _ hT.bl) (fun hHeld => ?_)
    clear hK K;(try simp only[nSO])
    refine wpAnyH_ready (rs:=[6]) (by kernel_rfl) (by simp) (AllReadyH.cons rfl (fun K hK => ?_) AllReadyH.nil)
    ·rw[if_pos (by rfl)];go_simp;(go_at_call 216;refine (rG p n _ (by omega) hn ⟨h1,h2⟩ hs).mono ?_;rintro e w3 ⟨rfl,hB4⟩;have hT:=hT.on hB4);(try go_wp2_with fail);refine hK.out _ _ (HS.out _ hT.bl) (fun hHeld => ?_);clear hK K;(try simp only[nSO])
     refine np_t 7 ?_ ?_ ?_;rotate_left 1;(· (intro w hSw;(try dsimp only at hSw);go_simp;all_goals with_reducible rfl));(try simp only[nSO])
     refine np_t 8 ?_ ?_ ?_;rotate_left 1;(· (intro w hSw;(try dsimp only at hSw);go_simp;all_goals with_reducible rfl));(try simp only[nSO])
     refine np_t 9 ?_ ?_ ?_;rotate_left 1;(· (intro w hSw;(try dsimp only at hSw);go_simp;all_goals with_reducible rfl));(try simp only[nSO])
     obtain⟨l6,x6,y6,z6,k6⟩:=hT.h6 _ rfl
     obtain⟨l7,x7,y7,z7,k7⟩:=hT.h7 _ rfl
     have hne:=hT.ne _ _ rfl rfl
     have f60:=Lib.frozen_of_heap k6 0
     obtain⟨f61,f62⟩:=fz3 k6 (.int .u8 (aI p n).kind) (.int .i64 (aI p n).n)
     obtain⟨c60,c61,c62⟩:=iC k6
     have hb6:=iZ hT.bl l6 0 (.int .u8 (aI p n).kind) (.int .i64 (aI p n).n) (.string (aI p n).text)
     have k6':=jA k6 (.int .u8 (aI p n).kind) (.int .i64 (aI p n).n) (.string (aI p n).text)
     have k7':=(iH _ _ 0 (.int .u8 (aI p n).kind) (.int .i64 (aI p n).n) (.string (aI p n).text) _ hne.symm).trans k7
     refine aD (i:=12) rfl (by kernel_rfl) (fun K hK => ?_);rw[if_pos (by rfl)];go_simp;(try go_wp2_with fail)
     refine kT (fun W8 hW8 => ?_)
     have hV8:W8=stp3 _ _ 0 (.int .u8 (aI p n).kind) (.int .i64 (aI p n).n) (.string (aI p n).text):=hW8
     rw[← hV8] at hb6 k6' k7'
     clear hV8 hW8
     refine hK.out _ _ (HS.out _ hb6) (fun hHeld => ?_);clear hK K;(try simp only[nSO])
     have f70:=Lib.frozen_of_heap k7' 0
     obtain⟨f71,f72⟩:=fz3 k7' (.int .u8 (aG p n).kind) (.int .i64 (aG p n).n)
     obtain⟨c70,c71,c72⟩:=iC k7'
     have hb7:=iZ hb6 l7 0 (.int .u8 (aG p n).kind) (.int .i64 (aG p n).n) (.string (aG p n).text)
     have k7q:=jA k7' (.int .u8 (aG p n).kind) (.int .i64 (aG p n).n) (.string (aG p n).text)
     have k6q:=(iH _ _ 0 (.int .u8 (aG p n).kind) (.int .i64 (aG p n).n) (.string (aG p n).text) _ hne).trans k6'
     refine aD (i:=13) rfl (by kernel_rfl) (fun K hK => ?_);rw[if_pos (by rfl)];go_simp;(try go_wp2_with fail)
     refine kT (fun W7 hW7 => ?_)
     have hV7:W7=stp3 _ _ 0 (.int .u8 (aG p n).kind) (.int .i64 (aG p n).n) (.string (aG p n).text):=hW7
     rw[← hV7] at hb7 k7q k6q
     clear hV7 hW7
     refine hK.out _ _ (HS.out _ hb7) (fun hHeld => ?_);clear hK K;(try simp only[nSO])
     refine wpAnyH_done (by kernel_rfl) ?_ _
     refine NoPanic.normal ?_
     exact⟨rfl,TkR.intro _ _ rfl k6q k7q l6 l7 hb7⟩
  ·have hT:=hT.a7
   rw[if_pos (by rfl)];go_simp
   refine kT (fun W9 hW9 => ?_)
   have hT:=hT.cast hW9;clear hW9
   refine hK.out _ _ (HS.out _ hT.bl) (fun hHeld => ?_)
   clear hK K;(try simp only[nSO])
   refine wpAnyH_ready (rs:=[6,10]) (by kernel_rfl) (by simp) (AllReadyH.cons rfl (fun K hK => ?_) (AllReadyH.cons rfl (fun K hK => ?_) AllReadyH.nil))
   ·rw[if_pos (by rfl)];go_simp;(go_at_call 216;refine (rG p n _ (by omega) hn ⟨h1,h2⟩ hs).mono ?_;rintro e w3 ⟨rfl,hB4⟩;have hT:=hT.on hB4);(try go_wp2_with fail);refine hK.out _ _ (HS.out _ hT.bl) (fun hHeld => ?_);clear hK K;(try simp only[nSO])
    refine np_t 7 ?_ ?_ ?_;rotate_left 1;(· (intro w hSw;(try dsimp only at hSw);go_simp;all_goals with_reducible rfl));(try simp only[nSO])
    refine np_t 8 ?_ ?_ ?_;rotate_left 1;(· (intro w hSw;(try dsimp only at hSw);go_simp;all_goals with_reducible rfl));(try simp only[nSO])
    refine np_t 9 ?_ ?_ ?_;rotate_left 1;(· (intro w hSw;(try dsimp only at hSw);go_simp;all_goals with_reducible rfl));(try simp only[nSO])
    refine wpAnyH_ready (rs:=[10]) (by kernel_rfl) (by simp) (AllReadyH.cons rfl (fun K hK => ?_) AllReadyH.nil)
    ·have hT:=hT.a6
     rw[if_pos (by rfl)];go_simp
     refine kT (fun W9 hW9 => ?_)
     have hT:=hT.cast hW9;clear hW9
     refine hK.out _ _ (HS.out _ hT.bl) (fun hHeld => ?_)
     clear hK K;(try simp only[nSO])
     obtain⟨l6,x6,y6,z6,k6⟩:=hT.h6 _ rfl
     obtain⟨l7,x7,y7,z7,k7⟩:=hT.h7 _ rfl
     have hne:=hT.ne _ _ rfl rfl
     have f60:=Lib.frozen_of_heap k6 0
     obtain⟨f61,f62⟩:=fz3 k6 (.int .u8 (aI p n).kind) (.int .i64 (aI p n).n)
     obtain⟨c60,c61,c62⟩:=iC k6
     have hb6:=iZ hT.bl l6 0 (.int .u8 (aI p n).kind) (.int .i64 (aI p n).n) (.string (aI p n).text)
     have k6':=jA k6 (.int .u8 (aI p n).kind) (.int .i64 (aI p n).n) (.string (aI p n).text)
     have k7':=(iH _ _ 0 (.int .u8 (aI p n).kind) (.int .i64 (aI p n).n) (.string (aI p n).text) _ hne.symm).trans k7
     refine aD (i:=12) rfl (by kernel_rfl) (fun K hK => ?_);rw[if_pos (by rfl)];go_simp;(try go_wp2_with fail)
     refine kT (fun W8 hW8 => ?_)
     have hV8:W8=stp3 _ _ 0 (.int .u8 (aI p n).kind) (.int .i64 (aI p n).n) (.string (aI p n).text):=hW8
     rw[← hV8] at hb6 k6' k7'
     clear hV8 hW8
     refine hK.out _ _ (HS.out _ hb6) (fun hHeld => ?_);clear hK K;(try simp only[nSO])
     have f70:=Lib.frozen_of_heap k7' 0
     obtain⟨f71,f72⟩:=fz3 k7' (.int .u8 (aG p n).kind) (.int .i64 (aG p n).n)
     obtain⟨c70,c71,c72⟩:=iC k7'
     have hb7:=iZ hb6 l7 0 (.int .u8 (aG p n).kind) (.int .i64 (aG p n).n) (.string (aG p n).text)
     have k7q:=jA k7' (.int .u8 (aG p n).kind) (.int .i64 (aG p n).n) (.string (aG p n).text)
     have k6q:=(iH _ _ 0 (.int .u8 (aG p n).kind) (.int .i64 (aG p n).n) (.string (aG p n).text) _ hne).trans k6'
     refine aD (i:=13) rfl (by kernel_rfl) (fun K hK => ?_);rw[if_pos (by rfl)];go_simp;(try go_wp2_with fail)
     refine kT (fun W7 hW7 => ?_)
     have hV7:W7=stp3 _ _ 0 (.int .u8 (aG p n).kind) (.int .i64 (aG p n).n) (.string (aG p n).text):=hW7
     rw[← hV7] at hb7 k7q k6q
     clear hV7 hW7
     refine hK.out _ _ (HS.out _ hb7) (fun hHeld => ?_);clear hK K;(try simp only[nSO])
     refine wpAnyH_done (by kernel_rfl) ?_ _
     refine NoPanic.normal ?_
     exact⟨rfl,TkR.intro _ _ rfl k6q k7q l6 l7 hb7⟩
   ·have hT:=hT.a6
    rw[if_pos (by rfl)];go_simp
    refine kT (fun W9 hW9 => ?_)
    have hT:=hT.cast hW9;clear hW9
    refine hK.out _ _ (HS.out _ hT.bl) (fun hHeld => ?_)
    clear hK K;(try simp only[nSO])
    refine wpAnyH_ready (rs:=[6]) (by kernel_rfl) (by simp) (AllReadyH.cons rfl (fun K hK => ?_) AllReadyH.nil)
    ·rw[if_pos (by rfl)];go_simp;(go_at_call 216;refine (rG p n _ (by omega) hn ⟨h1,h2⟩ hs).mono ?_;rintro e w3 ⟨rfl,hB4⟩;have hT:=hT.on hB4);(try go_wp2_with fail);refine hK.out _ _ (HS.out _ hT.bl) (fun hHeld => ?_);clear hK K;(try simp only[nSO])
     refine np_t 7 ?_ ?_ ?_;rotate_left 1;(· (intro w hSw;(try dsimp only at hSw);go_simp;all_goals with_reducible rfl));(try simp only[nSO])
     refine np_t 8 ?_ ?_ ?_;rotate_left 1;(· (intro w hSw;(try dsimp only at hSw);go_simp;all_goals with_reducible rfl));(try simp only[nSO])
     refine np_t 9 ?_ ?_ ?_;rotate_left 1;(· (intro w hSw;(try dsimp only at hSw);go_simp;all_goals with_reducible rfl));(try simp only[nSO])
     obtain⟨l6,x6,y6,z6,k6⟩:=hT.h6 _ rfl
     obtain⟨l7,x7,y7,z7,k7⟩:=hT.h7 _ rfl
     have hne:=hT.ne _ _ rfl rfl
     have f60:=Lib.frozen_of_heap k6 0
     obtain⟨f61,f62⟩:=fz3 k6 (.int .u8 (aI p n).kind) (.int .i64 (aI p n).n)
     obtain⟨c60,c61,c62⟩:=iC k6
     have hb6:=iZ hT.bl l6 0 (.int .u8 (aI p n).kind) (.int .i64 (aI p n).n) (.string (aI p n).text)
     have k6':=jA k6 (.int .u8 (aI p n).kind) (.int .i64 (aI p n).n) (.string (aI p n).text)
     have k7':=(iH _ _ 0 (.int .u8 (aI p n).kind) (.int .i64 (aI p n).n) (.string (aI p n).text) _ hne.symm).trans k7
     refine aD (i:=12) rfl (by kernel_rfl) (fun K hK => ?_);rw[if_pos (by rfl)];go_simp;(try go_wp2_with fail)
     refine kT (fun W8 hW8 => ?_)
     have hV8:W8=stp3 _ _ 0 (.int .u8 (aI p n).kind) (.int .i64 (aI p n).n) (.string (aI p n).text):=hW8
     rw[← hV8] at hb6 k6' k7'
     clear hV8 hW8
     refine hK.out _ _ (HS.out _ hb6) (fun hHeld => ?_);clear hK K;(try simp only[nSO])
     have f70:=Lib.frozen_of_heap k7' 0
     obtain⟨f71,f72⟩:=fz3 k7' (.int .u8 (aG p n).kind) (.int .i64 (aG p n).n)
     obtain⟨c70,c71,c72⟩:=iC k7'
     have hb7:=iZ hb6 l7 0 (.int .u8 (aG p n).kind) (.int .i64 (aG p n).n) (.string (aG p n).text)
     have k7q:=jA k7' (.int .u8 (aG p n).kind) (.int .i64 (aG p n).n) (.string (aG p n).text)
     have k6q:=(iH _ _ 0 (.int .u8 (aG p n).kind) (.int .i64 (aG p n).n) (.string (aG p n).text) _ hne).trans k6'
     refine aD (i:=13) rfl (by kernel_rfl) (fun K hK => ?_);rw[if_pos (by rfl)];go_simp;(try go_wp2_with fail)
     refine kT (fun W7 hW7 => ?_)
     have hV7:W7=stp3 _ _ 0 (.int .u8 (aG p n).kind) (.int .i64 (aG p n).n) (.string (aG p n).text):=hW7
     rw[← hV7] at hb7 k7q k6q
     clear hV7 hW7
     refine hK.out _ _ (HS.out _ hb7) (fun hHeld => ?_);clear hK K;(try simp only[nSO])
     refine wpAnyH_done (by kernel_rfl) ?_ _
     refine NoPanic.normal ?_
     exact⟨rfl,TkR.intro _ _ rfl k6q k7q l6 l7 hb7⟩
 rintro _ a w4 ⟨rfl,B6,B7,u,rfl,h6,h7,l6,l7,hb4⟩
 obtain⟨r1,r2,r3⟩:=HR2.out
 obtain⟨off,cur,rfl,hlo,hg,⟨p0,p1,p2⟩,hcur⟩:=r3.head
 have hgl2:=(Array.getElem?_eq_some_iff.1 hg).1
 have hbl2:=(Array.getElem?_eq_some_iff.1 r1).1
 have hgb:g≠b:=by rintro rfl;rw[hg] at r1;injection r1 with r1;injection r1 with _ r1 _;exact absurd r1 (by decide)
 have hg4:w4.drew.heap[g]? = some (.cells cur 94 (0,0)):=(hb4.block g hgl2).trans hg
 have hr4:w4.drew.heap[b]? = some (.cells (rdV (some ⟨g,off,none⟩) (p::ps).length c) 248 (0,0)):=(hb4.block b hbl2).trans r1
 have h64:w4.drew.heap[B6]? = some (.cells (pcL (aI p n)).toArray 94 (0,0)):=h6
 have h74:w4.drew.heap[B7]? = some (.cells (pcL (aG p n)).toArray 94 (0,0)):=h7
 have hw1:w.heap.size<w1.heap.size:=by have:=hB1.size;rw[World.size_alloc] at this;omega
 have hw2:w1.heap.size<w2.heap.size:=by have:=hB3.size;rw[hsz] at this;omega
 have hz4:w4.drew.heap[w.heap.size]? = some (.cells #[.int .u8 0,.int .i64 0,.string ⟨#[]⟩] 94 (0,0)):=(hb4.block w.heap.size (by omega)).trans ((hB3.block w.heap.size (by omega)).trans ((heap_alloc_old w1 _ hw1).trans ((hB1.block w.heap.size (by simp)).trans (heap_alloc_new w _))))
 have hv4:Below w2.heap.size w2 w4.drew:=hb4.drew
 have hS4:w4.drew.cell? ⟨b,0,none⟩=some (.slice (some ⟨g,off,none⟩) (p::ps).length c)∧w4.drew.cell? ⟨B7,0,none⟩=some (.int .u8 (aG p n).kind)∧w4.drew.cell? ⟨B7,1,none⟩=some (.int .i64 (aG p n).n)∧w4.drew.cell? ⟨B7,2,none⟩=some (.string (aG p n).text):=⟨(wV hr4).1,iC h74⟩
 have q0:w4.drew.cell? ⟨g,off,none⟩=some (.int .u8 p.kind):=by rw[Lib.cell_of_heap hg4];exact hcur 0 p rfl 0 _ rfl
 have q1:w4.drew.cell? ⟨g,off+1,none⟩=some (.int .i64 p.n):=by rw[Lib.cell_of_heap hg4];exact hcur 0 p rfl 1 _ rfl
 have q2:w4.drew.cell? ⟨g,off+2,none⟩=some (.string p.text):=by rw[Lib.cell_of_heap hg4];exact hcur 0 p rfl 2 _ rfl
 have gf0:=Lib.frozen_of_heap hg4 off
 obtain⟨gf1,gf2⟩:=fzg (off:=off) hg4 (.int .u8 (aG p n).kind) (.int .i64 (aG p n).n)
 have hpos:(0:Int)<(((p::ps).length:Nat):Int):=by rw[List.length_cons];omega
 have hps1:(p::ps).length=ps.length+1:=rfl
 clear p0 p1 p2 hg r1 r3 h6 h7 hb4
 go_wp2
 refine wp_region_noPanic ?_
 refine wp_region_held_drew (S:=fun W=>W.cell? ⟨b,0,none⟩=some (.slice (some ⟨g,off,none⟩) (p::ps).length c)∧W.cell? ⟨B7,0,none⟩=some (.int .u8 (aG p n).kind)∧W.cell? ⟨B7,1,none⟩=some (.int .i64 (aG p n).n)∧W.cell? ⟨B7,2,none⟩=some (.string (aG p n).text)) (by kernel_rfl) ?_ (fun hHeld => ?_)
 ·exact hS4
 clear hS4
 generalize w4.drew=v4 at *
 iterate 6 ((first | refine np_n ?_ ?_ ?_ | refine np_t 0 ?_ ?_ ?_);rotate_left 1;(· (intro w hSw;(try dsimp only at hSw);go_simp;all_goals with_reducible rfl));(try simp only[nSO]))
 have hg5:=aLk (q:=aG p n) hlo hg4 hcur
 have ne6:B6≠g:=by omega
 have ne7:B7≠g:=by omega
 have nw:w.heap.size≠g:=by have:=HGL.out;omega
 have h65:=(iH v4 g off (.int .u8 (aG p n).kind) (.int .i64 (aG p n).n) (.string (aG p n).text) B6 ne6).trans h64
 have h75:=(iH v4 g off (.int .u8 (aG p n).kind) (.int .i64 (aG p n).n) (.string (aG p n).text) B7 ne7).trans h74
 have hz5:=(iH v4 g off (.int .u8 (aG p n).kind) (.int .i64 (aG p n).n) (.string (aG p n).text) w.heap.size nw).trans hz4
 have hr5:=(iH v4 g off (.int .u8 (aG p n).kind) (.int .i64 (aG p n).n) (.string (aG p n).text) b hgb.symm).trans hr4
 have hk5:aC (fun k=>k=b∨k=g) v4 (stp3 v4 g off (.int .u8 (aG p n).kind) (.int .i64 (aG p n).n) (.string (aG p n).text)):=((aC.set (F:=fun k=>k=b∨k=g) (a:=⟨g,off,none⟩) (.inr rfl) _).trans (aC.set (F:=fun k=>k=b∨k=g) (a:=⟨g,off+1,none⟩) (.inr rfl) _)).trans (aC.set (F:=fun k=>k=b∨k=g) (a:=⟨g,off+2,none⟩) (.inr rfl) _)
 refine aD (i:=6) rfl (by kernel_rfl) (fun K hK => ?_);rw[if_pos (by rfl)];go_simp;(try go_wp2_with fail)
 refine kT (fun W5 hW5 => ?_)
 have hV5:W5=stp3 v4 g off (.int .u8 (aG p n).kind) (.int .i64 (aG p n).n) (.string (aG p n).text):=hW5
 rw[← hV5] at hg5 h65 h75 hz5 hr5 hk5
 clear hV5 hW5
 refine hK.out _ _ ⟨(wV hr5).1,iC h75⟩ (fun hHeld => ?_);clear hK K;(try simp only[nSO])
 refine wpAnyH_done (by kernel_rfl) ?_ _
 refine NoPanic.normal ?_
 obtain⟨y0,y1,y2⟩:=iC hz5
 have yf:=Lib.frozen_of_heap hz5 0
 obtain⟨yf1,yf2⟩:=fz3 hz5 (.int .u8 (aI p n).kind) (.int .i64 (aI p n).n)
 obtain⟨m0,m1,m2⟩:=iC h65
 have hRd:Rdr W5 lo b g (aG p n::ps):=⟨_,c,hr5,r2,hg5⟩
 have hK0:aC (fun k=>k=b∨k=g) w w2:=aC.of_below (((mP (Below.refl _ _) _).trans (hB1.mono (by simp))).trans ((nM (Below.refl _ _) _).mono (by have h6:=hB1.size;rw[World.size_alloc] at h6;omega) |>.trans (hB3.mono (by have h6:=hB1.size;rw[World.size_alloc] at h6;omega))))
 have hKA:=(hK0.trans (aC.of_below hv4)).trans hk5
 have hK4:aC (fun k=>k=w.heap.size) W5 (((W5.setCell ⟨w.heap.size,0,none⟩ (.int .u8 (aI p n).kind)).setCell ⟨w.heap.size,1,none⟩ (.int .i64 (aI p n).n)).setCell ⟨w.heap.size,2,none⟩ (.string (aI p n).text)):=aOx _ _ _ _ _
 have hwb:¬ b=w.heap.size:=fun e=>by have:=HBL.out;omega
 clear hHeld gf0 gf1 gf2 q0 q1 q2 hg4 hr4 h64 h74 hz4 hg5 hr5 h75
 go_wp2
 refine⟨rfl,_,results_cell_row rfl _ _ _ _ _ _ _ rfl (hc3 hz5 _ _ _) Tryz.underlying94 rfl (by kernel_rfl),rfl,hRd.keep hK4 hwb (fun _=>nw.symm),?_⟩
 exact aGt hKA (Nat.le_refl _) _ _ _
end Go.Proofs.YtdeiocppghhfdaaGreat
