/- Texts, one behind another. -/
import Derived.Test.YtdeiocppghhfdaaGreatZdac
import Derived.Laws.CopyRow
import Derived.OrdersIn
set_option linter.unusedVariables false
set_option linter.unusedSimpArgs false
set_option maxRecDepth 100000
set_option maxHeartbeats 8000000
namespace Go.Proofs.YtdeiocppghhfdaaGreat.Hs
open Go.RowKit Go.Lib Go.Shelf
open KitI (own_below)
attribute [local go_sem, local simp] dB dG dE dH dI dJ dK dL dM dF aR aW bB bC aS aV aY bD bE bF bG bH bI bJ bK aU aQ fH fI fJ fK fM fO fP fQ fT fU dN dO dP dQ dR dS dU dV dW dX dY dZ eB bL bM bN bO bP bQ bR bS bT bU bV bW bX bY bZ cB aX fV fZ gB gD gF gG gH gI gJ gK eD eG eH aH aJ
attribute [local go_sem ↓] aK aN
attribute [local go_sem] fF cK aP eO fD
def fB (ps:List gN):List Value:=ps.flatMap mQ
theorem rH (p:gN):(mQ p).length=3:=rfl
theorem lT (ps:List gN):(fB ps).length=ps.length*3:=by
 induction ps with
 | nil=>rfl
 | cons p ps ih=>show (mQ p++fB ps).length=_;rw[List.length_append,ih,rH,List.length_cons];omega
theorem aCx (ps:List gN):∀ u∈fB ps,u.oneCell'=true:=by
 intro u hu
 unfold fB at hu
 rw[List.mem_flatMap] at hu
 obtain⟨p,_,hu⟩:=hu
 unfold mQ at hu
 simp only[List.mem_cons,List.not_mem_nil,or_false] at hu
 rcases hu with rfl | rfl | rfl<;>rfl
theorem qP:(Tryz.prog.info? 94).map (fun i=>(i.zero,i.size,i.bytes))=some (some (.agg #[.int .u8 0,.int .i64 0,.string ⟨#[]⟩]),3,32):=by kernel_rfl
theorem aRt:(Tryz.prog.info? 56).map (fun i=>(i.zero,i.size,i.bytes))=some (some (.agg #[.int .i64 0,.int .i64 0,.int .u8 0,.int .i64 0,.int .i64 0,.int .i64 0,.int .u32 0,.int .u8 0,.string ⟨#[]⟩,.int .i64 0,.int .i64 0,.int .i64 0,.int .i64 0,.int .i64 0,.int .i64 0,.int .i64 0,.int .i64 0,.int .i64 0,.int .u8 0,.string ⟨#[]⟩,.int .i64 0,.int .i64 0,.int .i64 0,.int .u8 0,.int .i64 0,.int .i64 0,.slice none 0 0]),27,240):=by kernel_rfl
def DAt (w:World) (c:aA):Prop:=c.ps.length≤1000000∧((c.da=none∧c.ps=[]∧c.dc=0)∨∃ b off,c.da=some ⟨b,off,none⟩∧b<w.heap.size∧∀ j u,(fB c.ps)[j]? = some u→w.cell? ⟨b,off+j,none⟩=some u)
theorem DAt.on {w w':World} {c:aA} (h:DAt w c) (hb:Below w.heap.size w w'):DAt w' c:=by
 rcases h with⟨h0,h | ⟨b,off,h1,h2,h3⟩⟩
 ·exact⟨h0,.inl h⟩
 ·exact⟨h0,.inr ⟨b,off,h1,Nat.lt_of_lt_of_le h2 hb.size,fun j u hj=>by rw[hb.cell (p:=⟨b,off+j,none⟩) h2];exact h3 j u hj⟩⟩
def DOwn (w W:World) (c:aA):Prop:=c.ps.length≤1000000∧((c.da=none∧c.ps=[]∧c.dc=0)∨∃ (g:Nat) (cur:Array Value),c.da=some ⟨g,0,none⟩∧w.heap.size≤g∧W.heap[g]? = some (.cells cur 94 (0,0))∧∀ (j:Nat) (u:Value),(fB c.ps)[j]? = some u→cur[j]? = some u)
theorem DOwn.at {w W:World} {c:aA} (h:DOwn w W c):DAt W c:=by
 rcases h with⟨h0,h | ⟨g,cur,h1,h2,h3,h4⟩⟩
 ·exact⟨h0,.inl h⟩
 ·exact⟨h0,.inr ⟨g,0,h1,(Array.getElem?_eq_some_iff.1 h3).1,fun j u hj=>by rw[Nat.zero_add,cell_of_row _ _ _ _ _ _ h3];exact h4 j u hj⟩⟩
theorem DOwn.on {w W W':World} {c:aA} (h:DOwn w W c) (hb:Below W.heap.size W W'):DOwn w W' c:=by
 rcases h with⟨h0,h | ⟨g,cur,h1,h2,h3,h4⟩⟩
 ·exact⟨h0,.inl h⟩
 ·exact⟨h0,.inr ⟨g,cur,h1,h2,(hb.block _ (Array.getElem?_eq_some_iff.1 h3).1).trans h3,h4⟩⟩
theorem DOwn.grown {w W W':World} {c:aA} {base n:Nat} {v:Value} {xs:List Value} (h:DOwn w W c) (hrow:W.ownsRow base 56 27 v n xs) (hg:W.grownBy W' v.ownBlock):DOwn w W' c:=by
 rcases h with⟨h0,h | ⟨g,cur,h1,h2,h3,h4⟩⟩
 ·exact⟨h0,.inl h⟩
 ·refine⟨h0,.inr ⟨g,cur,h1,h2,(hg.block g (Array.getElem?_eq_some_iff.1 h3).1 (fun e => ?_)).trans h3,h4⟩⟩
  rcases hrow.2 with⟨h5,_⟩ | ⟨g',cap,cur',h5,_,h6,_⟩
  ·rw[h5] at e;cases e
  ·rw[h5] at e
   cases e
   rw[h6] at h3
   cases h3
theorem aCy (b off c:Nat) (ps:List gN) (w:World) (hn:ps.length≤1000000) (h:∀ j u,(fB ps)[j]? = some u→w.cell? ⟨b,off+j,none⟩=some u) :
  Calls Tryz.prog 131 #[.slice (some ⟨b,off,none⟩) ps.length c] w fun e w'=>∃ v',e = .returned v'∧w'.ownsRow w.heap.size 94 3 v' ps.length (fB ps)∧v' ≠ .slice none 0 0∧Below w.heap.size w w':=by
 obtain⟨i0,hi,hz0,hz1,hz2⟩:=info_parts qP
 exact AnyE.slices_Clone Tryz.cloneL i0 (.agg #[.int .u8 0,.int .i64 0,.string ⟨#[]⟩]) 3 32 hi hz0 hz1 hz2 rfl (by decide) (fun w => Tryz.sizeOf94 w) b off ps.length c (fB ps) w (lT ps) (by unfold maxLen;omega) (by omega) h (aCx ps)
theorem aG6 (c:Nat) (w:World):Calls Tryz.prog 131 #[.slice none 0 c] w fun e w'=>e = .returned (.slice none 0 0)∧w'=w:=AnyE.slices_Clone_nil Tryz.cloneL 0 c w
theorem aEm (c:aA) (a:Option Addr) (n:Nat):(aB c).toArray.setIfInBounds 26 (.slice a c.ps.length n)=(aB { c with da:=a,dc:=n }).toArray:=rfl
theorem aLy {W:World} {g:Nat} {cur:Array Value} (hsz:cur.size=27) (h:W.heap[g]? = some (.cells cur 56 (0,0))) (c:aA):(storeCells ⟨g,0,none⟩ (aB c)).run Tryz.prog W = .ok () (W.setRow g (aB c).toArray):=by
 have h:=run_storeCells_at (P := Tryz.prog) g 0 56 (aB c) 0 cur W h (by rw[aH];omega) (fun v hv=>by have:=vD c;rw[Array.all_eq_true'] at this;exact this v (by simpa using hv))
 rw[h]
 congr 2
 rw[aH,List.drop_eq_nil_of_le (by simp[hsz])]
 simp
theorem iE {B g:Nat} {w0 w:World} (hb:Below B w0 w) (hBg:B≤g) (cs:Array Value):Below B w0 (w.setRow g cs) :=
 ⟨hb.os,hb.tape,hb.output,by rw[setRow_size];exact hb.size,fun k hk=>(setRow_other w g k cs (by omega)).trans (hb.block k hk)⟩
theorem aG7 (c:aA) (w:World) (hd:DAt w c):Calls Tryz.prog 76 #[.agg (aB c).toArray] w fun e w'=>∃ c',e = .returned (.agg (aB c').toArray)∧c'.pure=c.pure∧DOwn w w' c'∧Below w.heap.size w w':=by
 have hb0:=nP (iM w (aB c) 56) (.cells #[.int .i64 0,.int .i64 0,.int .u8 0,.int .i64 0,.int .i64 0,.int .i64 0,.int .u32 0,.int .u8 0,.string ⟨#[]⟩,.int .i64 0,.int .i64 0,.int .i64 0,.int .i64 0,.int .i64 0,.int .i64 0,.int .i64 0,.int .i64 0,.int .i64 0,.int .u8 0,.string ⟨#[]⟩,.int .i64 0,.int .i64 0,.int .i64 0,.int .u8 0,.int .i64 0,.int .i64 0,.slice none 0 0] 56)
 have hz0:=iM (w.alloc (.cells (aB c).toArray 56)) [.int .i64 0,.int .i64 0,.int .u8 0,.int .i64 0,.int .i64 0,.int .i64 0,.int .u32 0,.int .u8 0,.string ⟨#[]⟩,.int .i64 0,.int .i64 0,.int .i64 0,.int .i64 0,.int .i64 0,.int .i64 0,.int .i64 0,.int .i64 0,.int .i64 0,.int .u8 0,.string ⟨#[]⟩,.int .i64 0,.int .i64 0,.int .i64 0,.int .u8 0,.int .i64 0,.int .i64 0,.slice none 0 0] 56
 rw[World.size_alloc] at hz0
 have hBa:Below w.heap.size w ((w.alloc (.cells (aB c).toArray 56)).alloc (.cells #[.int .i64 0,.int .i64 0,.int .u8 0,.int .i64 0,.int .i64 0,.int .i64 0,.int .u32 0,.int .u8 0,.string ⟨#[]⟩,.int .i64 0,.int .i64 0,.int .i64 0,.int .i64 0,.int .i64 0,.int .i64 0,.int .i64 0,.int .i64 0,.int .i64 0,.int .u8 0,.string ⟨#[]⟩,.int .i64 0,.int .i64 0,.int .i64 0,.int .u8 0,.int .i64 0,.int .i64 0,.slice none 0 0] 56)):=((Below.refl _ _).alloc (Nat.le_refl _) _).alloc (by simp) _
 have q26:=aM hb0 26
 rw[aQ] at q26
 -- what comes after the copy of the delta
 have after:∀ (w3:World) (a:Option Addr) (n:Nat),Below (w.heap.size+2) ((w.alloc (.cells (aB c).toArray 56)).alloc (.cells #[.int .i64 0,.int .i64 0,.int .u8 0,.int .i64 0,.int .i64 0,.int .i64 0,.int .u32 0,.int .u8 0,.string ⟨#[]⟩,.int .i64 0,.int .i64 0,.int .i64 0,.int .i64 0,.int .i64 0,.int .i64 0,.int .i64 0,.int .i64 0,.int .i64 0,.int .u8 0,.string ⟨#[]⟩,.int .i64 0,.int .i64 0,.int .i64 0,.int .u8 0,.int .i64 0,.int .i64 0,.slice none 0 0] 56)) w3 →
   ∃ c':aA,(c'.pure=c.pure∧c'.ps=c.ps∧c'.da=a∧c'.dc=n)∧w3.cell? ⟨w.heap.size,26,none⟩=some (.slice c.da c.ps.length c.dc)∧w3.frozen? ⟨w.heap.size,26,none⟩=false ∧
   (gX (.pointer (some ⟨w.heap.size,0,none⟩))).run Tryz.prog (w3.setCell ⟨w.heap.size,26,none⟩ (.slice a c.ps.length n)) = .ok (.agg (aB c').toArray) (w3.setCell ⟨w.heap.size,26,none⟩ (.slice a c.ps.length n)) ∧
   (storeCells ⟨w.heap.size+1,0,none⟩ (aB c')).run Tryz.prog (w3.setCell ⟨w.heap.size,26,none⟩ (.slice a c.ps.length n)) = .ok () ((w3.setCell ⟨w.heap.size,26,none⟩ (.slice a c.ps.length n)).setRow (w.heap.size+1) (aB c').toArray) ∧
   ((w3.setCell ⟨w.heap.size,26,none⟩ (.slice a c.ps.length n)).setRow (w.heap.size+1) (aB c').toArray).heap[w.heap.size+1]? = some (.cells (aB c').toArray 56 (0,0)) ∧
   (∀ B,B≤w.heap.size→Below B w3 ((w3.setCell ⟨w.heap.size,26,none⟩ (.slice a c.ps.length n)).setRow (w.heap.size+1) (aB c').toArray)) ∧
   (∀ g,w.heap.size+2≤g→((w3.setCell ⟨w.heap.size,26,none⟩ (.slice a c.ps.length n)).setRow (w.heap.size+1) (aB c').toArray).heap[g]? = w3.heap[g]?):=by
  intro w3 a n hB
  have h1:=gU hb0 hB (by omega)
  have h2:=gU hz0 hB (by omega)
  have e:=setCell_eq_setRow w3 w.heap.size 26 _ _ _ (.slice a c.ps.length n) h1
  rw[aEm] at e
  have h3:(w3.setCell ⟨w.heap.size,26,none⟩ (.slice a c.ps.length n)).heap[w.heap.size]? = some (.cells (aB { c with da:=a,dc:=n }).toArray 56 (0,0)):=by rw[e];exact setRow_heap _ _ _ _ _ _ h1
  have h4:(w3.setCell ⟨w.heap.size,26,none⟩ (.slice a c.ps.length n)).heap[w.heap.size+1]? = some (.cells #[.int .i64 0,.int .i64 0,.int .u8 0,.int .i64 0,.int .i64 0,.int .i64 0,.int .u32 0,.int .u8 0,.string ⟨#[]⟩,.int .i64 0,.int .i64 0,.int .i64 0,.int .i64 0,.int .i64 0,.int .i64 0,.int .i64 0,.int .i64 0,.int .i64 0,.int .u8 0,.string ⟨#[]⟩,.int .i64 0,.int .i64 0,.int .i64 0,.int .u8 0,.int .i64 0,.int .i64 0,.slice none 0 0] 56 (0,0)):=by rw[e,setRow_other _ _ _ _ (by omega)];exact h2
  refine⟨{ c with da:=a,dc:=n },⟨rfl,rfl,rfl,rfl⟩,(aM h1 26).trans (aQ c),qA h1 26,oJ _ h3,aLy rfl h4 _,setRow_heap _ _ _ _ _ _ h4,fun B hB => ?_,fun g hg => ?_⟩
  ·exact iE ((Below.refl _ _).setCell (p:=⟨w.heap.size,26,none⟩) hB _) (by omega) _
  ·rw[setRow_other _ _ _ _ (by omega),Below.heap_setCell _ _ _ _ (by simp;omega)]
 have After:=Lib.hid after
 clear after hz0
 have hdl:=hd.1
 rcases hd.2 with⟨h1,h2,h3⟩ | ⟨b,off,h1,h2,h3⟩
 ·rw[h1,h2,h3] at q26
  rw[List.length_nil] at q26
  have cl:∀ W,Calls Tryz.prog 131 #[.slice none 0 0] W fun e w'=>e = .returned (.slice none 0 0)∧Below W.heap.size W w':=fun W=>(aG6 0 W).mono (by rintro e w' ⟨h,rfl⟩;exact⟨h,Below.refl _ _⟩)
  have H1:=Lib.hid h1
  have H2:=Lib.hid h2
  have H3:=Lib.hid h3
  have HB:=Lib.hid hBa
  clear h1 h2 h3 hd hb0 hBa
  go_enter Tryz.func76,Tryz.ntmps76
  go_wp2_with fail
  refine (cl _).mono ?_
  clear cl
  rintro e w3 ⟨rfl,hB3⟩
  have hs:((w.alloc (.cells (aB c).toArray 56)).alloc (.cells #[.int .i64 0,.int .i64 0,.int .u8 0,.int .i64 0,.int .i64 0,.int .i64 0,.int .u32 0,.int .u8 0,.string ⟨#[]⟩,.int .i64 0,.int .i64 0,.int .i64 0,.int .i64 0,.int .i64 0,.int .i64 0,.int .i64 0,.int .i64 0,.int .i64 0,.int .u8 0,.string ⟨#[]⟩,.int .i64 0,.int .i64 0,.int .i64 0,.int .u8 0,.int .i64 0,.int .i64 0,.slice none 0 0] 56)).heap.size=w.heap.size+2:=by simp
  rw[hs] at hB3
  obtain⟨c',⟨e1,e2,e3,e4⟩,q1,q2,q3,q4,q5,q6,q7⟩:=After.out w3 none 0 hB3
  have hB6:=(HB.out.trans (hB3.mono (by omega))).trans (q6 _ (Nat.le_refl _))
  have hfin:DOwn w ((w3.setCell ⟨w.heap.size,26,none⟩ (.slice none c.ps.length 0)).setRow (w.heap.size+1) (aB c').toArray) c':=⟨by rw[e2];exact hdl,.inl ⟨e3,e2.trans H2.out,e4⟩⟩
  rw[H2.out] at q1 q3 q4 q5 hfin hB6
  rw[H1.out,H3.out] at q1
  rw[List.length_nil] at q1 q3 q4 q5 hfin hB6
  have HF:=Lib.hid (And.intro e1 (And.intro hfin hB6))
  have Hr:=Lib.hid q5
  clear hfin hB6 e1 e2 e3 e4 q5 q6 q7 hB3 hs q26
  go_wp2
  exact⟨rfl,_,results_cell_row rfl _ _ _ _ _ _ _ rfl Hr.out Tryz.underlying56 rfl (by kernel_rfl),c',rfl,HF.out.1,HF.out.2.1,HF.out.2.2⟩
 ·have cl:=aCy b off c.dc c.ps _ hdl (fun j u hj=>by rw[hBa.cell (p:=⟨b,off+j,none⟩) h2];exact h3 j u hj)
  rw[h1] at q26
  have H1:=Lib.hid h1
  have HB:=Lib.hid hBa
  clear h1 h2 h3 hd hb0 hBa
  go_enter Tryz.func76,Tryz.ntmps76
  go_wp2_with fail
  refine cl.mono ?_
  clear cl
  rintro e w3 ⟨v',rfl,hown,hne,hB3⟩
  have hs:((w.alloc (.cells (aB c).toArray 56)).alloc (.cells #[.int .i64 0,.int .i64 0,.int .u8 0,.int .i64 0,.int .i64 0,.int .i64 0,.int .u32 0,.int .u8 0,.string ⟨#[]⟩,.int .i64 0,.int .i64 0,.int .i64 0,.int .i64 0,.int .i64 0,.int .i64 0,.int .i64 0,.int .i64 0,.int .i64 0,.int .u8 0,.string ⟨#[]⟩,.int .i64 0,.int .i64 0,.int .i64 0,.int .u8 0,.int .i64 0,.int .i64 0,.slice none 0 0] 56)).heap.size=w.heap.size+2:=by simp
  rw[hs] at hB3 hown
  rcases hown.2 with⟨h,_⟩ | ⟨g,cg,cur,rfl,hg,hgc,_⟩
  ·exact absurd h hne
  ·obtain⟨c',⟨e1,e2,e3,e4⟩,q1,q2,q3,q4,q5,q6,q7⟩:=After.out w3 (some ⟨g,0,none⟩) cg hB3
   have hB6:=(HB.out.trans (hB3.mono (by omega))).trans (q6 _ (Nat.le_refl _))
   have hfin:DOwn w ((w3.setCell ⟨w.heap.size,26,none⟩ (.slice (some ⟨g,0,none⟩) c.ps.length cg)).setRow (w.heap.size+1) (aB c').toArray) c' :=
    ⟨by rw[e2];exact hdl,.inr ⟨g,cur,e3,by omega,(q7 g hg).trans hgc,fun j u hj=>by
     rw[e2] at hj
     have hlt:=(List.getElem?_eq_some_iff.1 hj).1
     rw[lT] at hlt
     have:=hown.cellAt j hlt
     rw[cell_of_row _ _ _ _ _ _ hgc,hj] at this
     exact this⟩⟩
   have HF:=Lib.hid (And.intro e1 (And.intro hfin hB6))
   rw[H1.out] at q1
   have Hr:=Lib.hid q5
   clear hfin hB6 e1 e2 e3 e4 q5 q6 q7 hown hgc hB3 hs q26
   go_wp2
   exact⟨rfl,_,results_cell_row rfl _ _ _ _ _ _ _ rfl Hr.out Tryz.underlying56 rfl (by kernel_rfl),c',rfl,HF.out.1,HF.out.2.1,HF.out.2.2⟩
end Go.Proofs.YtdeiocppghhfdaaGreat.Hs
namespace Go.Proofs.YtdeiocppghhfdaaGreat.Hs
open Go.RowKit Go.Lib Go.Shelf
open KitI (own_below)
attribute [local go_sem, local simp] dB dG dE dH dI dJ dK dL dM dF aR aW bB bC aS aV aY bD bE bF bG bH bI bJ bK aU aQ fH fI fJ fK fM fO fP fQ fT fU dN dO dP dQ dR dS dU dV dW dX dY dZ eB bL bM bN bO bP bQ bR bS bT bU bV bW bX bY bZ cB aX fV fZ gB gD gF gG gH gI gJ gK eD eG eH aH aJ
attribute [local go_sem ↓] aK aN
attribute [local go_sem] fF cK aP eO fD
theorem qB (cs:List aA) (c:aA):jF (cs++[c])=jF cs++aB c:=by unfold jF;simp
theorem aLz (c:aA) (x:Int):(aB c).set 10 (.int .i64 x)=aB { c with took:=x }:=rfl
theorem aL0 (c:aA) (x:Int):(aB c).set 11 (.int .i64 x)=aB { c with rank:=x }:=rfl
theorem aL1 (c:aA) (x:Int):(aB c).set 12 (.int .i64 x)=aB { c with answered:=x }:=rfl
theorem aL2 (c:aA) (x:Int):(aB c).set 14 (.int .i64 x)=aB { c with err:=x }:=rfl
theorem aL3 (c:aA) (x:Int):(aB c).set 15 (.int .i64 x)=aB { c with rev:=x }:=rfl
theorem aL4 (c:aA) (x:Int):(aB c).set 16 (.int .i64 x)=aB { c with rslot:=x }:=rfl
theorem aL5 (c:aA) (x:Int):(aB c).set 17 (.int .i64 x)=aB { c with rat:=x }:=rfl
theorem aL6 (c:aA) (x:Int):(aB c).set 18 (.int .u8 x)=aB { c with rgrav:=x }:=rfl
theorem aL7 (c:aA) (x:ByteArray):(aB c).set 19 (.string x)=aB { c with rtext:=x }:=rfl
theorem aL8 (c:aA) (x:Int):(aB c).set 20 (.int .i64 x)=aB { c with mb:=x }:=rfl
theorem aL9 (c:aA) (x:Int):(aB c).set 21 (.int .i64 x)=aB { c with mr:=x }:=rfl
theorem aMa (c:aA) (x:Int):(aB c).set 22 (.int .i64 x)=aB { c with ml:=x }:=rfl
theorem aMb (c:aA) (x:Int):(aB c).set 23 (.int .u8 x)=aB { c with ik:=x }:=rfl
theorem aMc (c:aA) (x:Int):(aB c).set 24 (.int .i64 x)=aB { c with ifrom:=x }:=rfl
theorem aMd (c:aA) (x:Int):(aB c).set 25 (.int .i64 x)=aB { c with ito:=x }:=rfl
theorem aMe (c:aA):(aB c).set 26 (.slice none 0 0)=aB { c with ps:=[],da:=none,dc:=0 }:=rfl
theorem aMf (c:aA) (x:Int):(aB c).set 13 (.int .i64 x)=aB { c with steps:=x }:=rfl
theorem DOwn.mono {w v W:World} {c:aA} (h:DOwn v W c) (hs:w.heap.size≤v.heap.size):DOwn w W c:=by
 rcases h with⟨h0,h | ⟨g,cur,h1,h2,h3,h4⟩⟩
 ·exact⟨h0,.inl h⟩
 ·exact⟨h0,.inr ⟨g,cur,h1,by omega,h3,h4⟩⟩
theorem nC (c:aA):List.foldl (fun (cs:Array Value) (x:Value × Nat)=>cs.setIfInBounds x.snd x.fst) #[.int .i64 0,.int .i64 0,.int .u8 0,.int .i64 0,.int .i64 0,.int .i64 0,.int .u32 0,.int .u8 0,.string ⟨#[]⟩,.int .i64 0,.int .i64 0,.int .i64 0,.int .i64 0,.int .i64 0,.int .i64 0,.int .i64 0,.int .i64 0,.int .i64 0,.int .u8 0,.string ⟨#[]⟩,.int .i64 0,.int .i64 0,.int .i64 0,.int .u8 0,.int .i64 0,.int .i64 0,.slice none 0 0] (aB c).zipIdx=(aB c).toArray:=by kernel_rfl
theorem tY (c:aA):∀ u∈aB c,u.oneCell'=true:=by have:=vD c;rw[Array.all_eq_true'] at this;intro v hv;exact this v (by simpa using hv)
def ORow (w:World) (base:Nat) (W:World) (v:Value) (L:List aA):Prop:=∃ cs:List aA,cs.map aA.pure=L∧W.ownsRow base 56 27 v cs.length (jF cs)∧∀ c∈cs,DOwn w W c
theorem ORow.nil (w:World) (base:Nat) (W:World):ORow w base W (.slice none 0 0) []:=⟨[],rfl,World.ownsRow_nil _ _ _ _,fun c h=>by cases h⟩
theorem ORow.on {w:World} {base:Nat} {W W':World} {v:Value} {L:List aA} (h:ORow w base W v L) (hb:Below W.heap.size W W'):ORow w base W' v L:=by
 obtain⟨cs,h1,h2,h3⟩:=h
 exact⟨cs,h1,own_below h2 hb,fun c hc=>(h3 c hc).on hb⟩
theorem ORow.len {w:World} {base:Nat} {W:World} {v:Value} {L:List aA} (h:ORow w base W v L):∃ p cap,v = .slice p L.length cap:=by
 obtain⟨cs,h1,h2,h3⟩:=h
 have hl:L.length=cs.length:=by rw[← h1];simp
 rw[hl]
 rcases h2.2 with⟨h4,h5⟩ | ⟨g,cap,cur,h4,_⟩
 ·exact⟨none,0,by rw[h5];exact h4⟩
 ·exact⟨_,_,h4⟩
attribute [local go_sem, local simp] nC aLz aL0 aL1 aMf aL2 aL3 aL4 aL5 aL6 aL7 aL8 aL9 aMa aMb aMc aMd aMe
end Go.Proofs.YtdeiocppghhfdaaGreat.Hs
namespace Go.Proofs.YtdeiocppghhfdaaGreat
section
variable {P:Program} {md:Region.Mode} {ops:Array Oper} {Q:Exit→Act→World→Prop} {S:World→Prop} {T:Nat}
def qN (P:Program) (md:Region.Mode) (ops:Array Oper) (Q:Exit→Act→World→Prop) (S:World→Prop) (T:Nat):Nat→Array Bool→Act→World→Prop
 | 0,listed,a,w=>Region.ready md ops listed=[]∧Q .normal a w
 | fuel+1,listed,a,w =>
  (Region.ready md ops listed=[]→Q .normal a w) ∧
  ∀ i∈Region.ready md ops listed,wpOp P ops Q i (fun a' w'=>(i≠T→S w')∧qN P md ops Q S T fuel (listed.setIfInBounds i true) a' w') a w
theorem zH:∀ (fuel:Nat) (listed:Array Bool) (a:Act) (w:World),qN P md ops Q S T fuel listed a w→wpAny P md ops Q fuel listed a w
 | 0,_,_,_,h=>h
 | fuel+1,_,_,_,h=>⟨h.1,fun i hi=>wpOp_mono (fun a' w' h'=>zH fuel _ a' w' h'.2) (h.2 i hi)⟩
theorem aCz {i:Nat} {oi:Oper} {v:Value} (hi:ops[i]? = some oi) (hsel:∀ (j:Nat) (o:Oper) cs b,ops[j]? = some o→o.op ≠ .select cs b)
  (hQ:∀ c a w,Q (.panic c) (a.put oi.dst v) w→Q (.panic c) a w) (hiT:i≠T)
  (hT:∀ o,ops[T]? = some o→∃ e∈o.after,Region.binds md e=true∧e.on=i) :
  ∀ (fuel:Nat) (listed:Array Bool) (a:Act) (w:World),
   (∀ j oj,ops[j]? = some oj→j≠i→listed.getD j true=false→(∀ e∈oj.after,Region.binds md e=true→e.on≠i)→oi.apart ops oj=true) →
   i∈Region.ready md ops listed→YieldsIf P ops S oi v a→S w →
   qN P md ops Q S T fuel (listed.setIfInBounds i true) (a.put oi.dst v) w→qN P md ops Q S T (fuel+1) listed a w:=by
 intro fuel
 induction fuel with
 | zero =>
  intro listed a w _ hr hy hS H
  refine⟨fun h=>(by rw[h] at hr;cases hr),fun j hj => ?_⟩
  by_cases hji:j=i
  ·subst hji;exact hy.wpOp hi hS ⟨fun _=>hS,H⟩
  ·have:=ready_mono hj hji
   rw[H.1] at this
   cases this
 | succ fuel ih =>
  intro listed a w hfree hr hy hS H
  refine⟨fun h=>(by rw[h] at hr;cases hr),fun j hj => ?_⟩
  by_cases hji:j=i
  ·subst hji;exact hy.wpOp hi hS ⟨fun _=>hS,H⟩
  ·have h1:=H.2 j (ready_mono hj hji)
   obtain⟨hjun,oj,hoj,hall⟩:=mem_ready.1 hj
   have hnot:∀ e∈oj.after,Region.binds md e=true→e.on≠i:=fun e he hb heq=>by
    have h1:=hall e he hb
    have h0:=(mem_ready.1 hr).1
    rw[heq] at h1
    rcases Nat.lt_or_ge i listed.size with h' | h'
    ·simp[h'] at h0 h1;rw[h0] at h1;cases h1
    ·simp[Array.getElem?_eq_none h'] at h1
   have hjT:j≠T:=fun e=>by
    subst e
    obtain⟨x,hx,hb,he⟩:=hT oj hoj
    exact hnot x hx hb he
   have h2:=wpOp_putIf hoj (hfree j oj hoj hji hjun hnot) (fun cs b=>hsel i oi cs b hi) (fun cs b=>hsel j oj cs b hoj) hQ hy h1
   have hfree':∀ k ok,ops[k]? = some ok→k≠i→(listed.setIfInBounds j true).getD k true=false →
     (∀ e∈ok.after,Region.binds md e=true→e.on≠i)→oi.apart ops ok=true:=fun k ok hk hki hun hno=>by
    refine hfree k ok hk hki ?_ hno
    by_cases hjk:j=k
    ·subst hjk;exact hjun
    ·rw[getD_set_ne true hjk] at hun;exact hun
   refine wpOp_mono (fun a' w' h3=>⟨fun _=>h3.2.1 hjT,ih (listed.setIfInBounds j true) a' w' hfree' (ready_mono hr (Ne.symm hji)) h3.1 (h3.2.1 hjT) ?_⟩) h2
   rw[Array.setIfInBounds_comm _ _ hji]
   exact h3.2.2
def waitsFor (md:Region.Mode) (l:List Oper) (T i:Nat):Bool:=match l[T]? with | some o=>o.after.any fun e=>Region.binds md e && (e.on == i) | none=>false
theorem aG8 {l:List Oper} {i:Nat} (h:waitsFor md l T i=true):∀ o,l.toArray[T]? = some o→∃ e∈o.after,Region.binds md e=true∧e.on=i:=by
 intro o ho
 unfold waitsFor at h
 rw[List.getElem?_toArray] at ho
 rw[ho] at h
 have h2:(o.after.any fun e=>Region.binds md e && (e.on == i))=true:=h
 rw[← Array.any_toList,List.any_eq_true] at h2
 obtain⟨e,he,h3⟩:=h2
 rw[Bool.and_eq_true] at h3
 exact⟨e,by simpa using he,h3.1,by simpa using h3.2⟩
theorem vK {l:List Oper} {i:Nat} {oi:Oper} {v:Value} {fuel:Nat} {listed:Array Bool} {a:Act} {w:World} (hi:l[i]? = some oi)
  (hs:Region.noSelect l.toArray=true) (hf:Region.free md l.toArray listed i=true) (hr:(Region.ready md l.toArray listed).contains i=true) (hT:waitsFor md l T i=true) (hiT:i≠T)
  (hw:Region.wanted oi (yielded l.toArray a.tmps)=true) (hv:∀ w,S w→(execOp a.eval oi).run P w = .ok (.value v) w) (hS:S w)
  (h:qN P md l.toArray (NoPanic Q) S T fuel (listed.setIfInBounds i true) (a.put oi.dst v) w):qN P md l.toArray (NoPanic Q) S T (fuel+1) listed a w :=
 aCz (by simpa using hi) (Region.noSelect_spec hs) (fun _ _ _ h=>h) hiT (aG8 hT) fuel listed a w (Region.free_spec (by simpa using hi) hf) (by simpa using hr) (.inl ⟨hw,hv⟩) hS h
theorem yL {l:List Oper} {i:Nat} {o:Oper} {fuel:Nat} {listed:Array Bool} {a:Act} {w:World} (ho:l[i]? = some o) (hr:Region.ready md l.toArray listed=[i]) (hw:Region.wanted o (yielded l.toArray a.tmps)=true)
  (h:∀ K':Act→World→Prop,Shut (∀ a w,(i≠T→S w)→qN P md l.toArray (NoPanic Q) S T fuel (listed.setIfInBounds i true) a w→K' a w)→Oper.wp P o a w K' (NoPanic Q)) :
  qN P md l.toArray (NoPanic Q) S T (fuel+1) listed a w:=by
 refine⟨fun h0=>(by rw[hr] at h0;cases h0),fun j hj => ?_⟩
 rw[hr] at hj
 obtain rfl:=List.mem_singleton.1 hj
 unfold wpOp
 have ho':l.toArray[j]? = some o:=by simpa using ho
 rw[ho']
 simp only[hw,if_true]
 exact .inl (h _ (fun a w h1 h2=>⟨h1,h2⟩))
theorem aO5 {l:List Oper} {listed:Array Bool} {a:Act} {w:World} (hr:Region.ready md l.toArray listed=[]) (h:Q .normal a w):∀ fuel,qN P md l.toArray Q S T fuel listed a w
 | 0=>⟨hr,h⟩
 | _+1=>⟨fun _=>h,by rw[hr];simp⟩
theorem aEn {n:Nat} {P:Program} {row:String} {args:Array Value} {w:World} {R:Value→World→Prop} (h:Rows P row args w R):RowsIn Fence.wide n P row args w R :=
 fun c cs _=>let ⟨v,w',r,s⟩:=h c cs;⟨v,w',r,stepsIn_wide.2 s⟩
theorem aA7 {o:Oper} {a:Act} {w:World} {K:Act→World→Prop} {l n:Nat} (hd:∀ c,o.op ≠ .defer c) (h:o.wp P a w K Q):o.wpIn (Fence.wide.inRound l) n P a w K Q:=by
 refine⟨fun _ _=>trivial,?_⟩
 rw[Oper.semAt_eq _ _ _ hd]
 unfold Oper.wp at h
 generalize (execOp a.eval o).run P w=r at *
 cases r with
 | ok x w' =>
  cases x<;>simp only[Oper.upon] at h
  case value u=>exact h
  case skip=>exact h
  case defer d=>exact h
  case enter f args=>exact⟨fun e=>by simp[Fence.wide,Fence.inRound] at e,CallsIn.inRound l (callsIn_wide.2 h)⟩
  case row row args=>exact⟨fun e=>by simp[Fence.wide,Fence.inRound] at e,aEn h⟩
 | halt x w'=>cases x<;>simp only[Oper.upon] at h;exact h
theorem oQ {l n:Nat} (hd:∀ (i:Nat) (o:Oper),ops[i]? = some o→∀ c,o.op ≠ .defer c) (hno:¬ LetsOut Q):∀ (fuel:Nat) (listed:Array Bool) (a:Act) (w:World),wpAny P md ops Q fuel listed a w→wpAnyIn (Fence.wide.inRound l) n P md ops Q fuel listed a w
 | 0,_,_,_,h=>h
 | fuel+1,_,a,w,h=>⟨h.1,fun i hi=>by
  have h2:=wpOp_mono (fun a' w' h'=>oQ (l:=l) (n:=n) hd hno fuel _ a' w' h') (h.2 i hi)
  unfold wpOp at h2
  unfold wpOpIn
  split
  ·rename_i ho
   rw[ho] at h2
   exact h2
  ·rename_i o ho
   rw[ho] at h2
   simp only at h2
   split
   ·rename_i hw
    rw[if_pos hw] at h2
    exact h2.elim (aA7 (hd i o ho)) (fun h3=>absurd h3.2 hno)
   ·rename_i hw
    rw[if_neg hw] at h2
    exact⟨fun _ _=>trivial,h2⟩⟩
def yM (l:List Oper):Bool:=l.all fun o=>match o.op with | .defer _=>false | _=>true
theorem vL {l:List Oper} (h:yM l=true):∀ (i:Nat) (o:Oper),l.toArray[i]? = some o→∀ c,o.op ≠ .defer c:=by
 intro i o ho c e
 unfold yM at h
 rw[List.all_eq_true] at h
 rw[List.getElem?_toArray] at ho
 have:=h o (List.mem_of_getElem? ho)
 rw[e] at this
 cases this
theorem aA8 {l:List Oper} {r n id:Nat} {a:Act} {w:World} (hm:P.follows .mixedOrders=true) (hd:yM l=true) (hno:∀ a w,¬ Q .outgrown a w) (hp:∀ c a w,¬ Q (.panic c) a w) (hS:S w.drew)
  (h:S w.drew→qN P .any l.toArray (NoPanic Q) S T l.length (Array.replicate l.length false) a w.drew):(Code.region id l.toArray true).wpIn (Fence.wide.inRound r) n P Q a w:=by
 refine wpIn_region_any hm (oQ (vL hd) (fun h => ?_) _ _ _ _ ?_)
 ·obtain⟨a,w,hn⟩:=h
  exact hno a w hn
 ·have h2:=zH _ _ _ _ (h hS)
  have hq:NoPanic Q=Q:=by
   funext e a w
   cases e<;>first | rfl | exact propext ⟨False.elim,fun h=>(hp _ _ _ h).elim⟩
  rw[hq] at h2
  simpa using h2
end
end Go.Proofs.YtdeiocppghhfdaaGreat
