/- Texts, one behind another. -/
import Derived.Test.YtdeiocppghhfdaaGreatZfac
set_option linter.unusedVariables false
set_option linter.unusedSimpArgs false
set_option maxRecDepth 100000
set_option maxHeartbeats 40000000
namespace Go.Proofs.YtdeiocppghhfdaaGreat.Hs
open Go.RowKit Go.Lib Go.Shelf
open KitI (own_below)
attribute [local go_sem, local simp] dP
attribute [local go_sem ↓] aN aR
attribute [local go_sem] bX bB aX bH cK
theorem aIi (p:Option Addr) (cap:Nat) (w:World):Calls Tryz.prog 116 #[.slice p 0 cap] w fun e w'=>e = .returned (.slice none 0 0)∧Below w.heap.size w w':=by
 go_enter Tryz.func116,Tryz.ntmps116
 go_wp2
 refine wp_loop_rounds 1 ?_
 rw[rounds_succ]
 go_wp2
 go_returns
 exact⟨rfl,Below.refl _ _⟩
theorem qO (c:aA) (w:World) (hd:c.ps=[]∨DAt w c):Calls Tryz.prog 60 #[.agg (aB c).toArray] w fun e w'=>∃ c',e = .returned (.agg (aB c').toArray)∧c'.pure=c.pure∧DOwn w w' c'∧Below w.heap.size w w':=by
 have hb0:=aZ (bE w (aB c) 56) (.cells #[.int .i64 0,.int .i64 0,.int .u8 0,.int .i64 0,.int .i64 0,.int .i64 0,.int .u32 0,.int .u8 0,.string ⟨#[]⟩,.int .i64 0,.int .i64 0,.int .i64 0,.int .i64 0,.int .i64 0,.int .i64 0,.int .i64 0,.int .i64 0,.int .i64 0,.int .u8 0,.string ⟨#[]⟩,.int .i64 0,.int .i64 0,.int .i64 0,.int .u8 0,.int .i64 0,.int .i64 0,.slice none 0 0] 56)
 have hz0:=bE (w.alloc (.cells (aB c).toArray 56)) [.int .i64 0,.int .i64 0,.int .u8 0,.int .i64 0,.int .i64 0,.int .i64 0,.int .u32 0,.int .u8 0,.string ⟨#[]⟩,.int .i64 0,.int .i64 0,.int .i64 0,.int .i64 0,.int .i64 0,.int .i64 0,.int .i64 0,.int .i64 0,.int .i64 0,.int .u8 0,.string ⟨#[]⟩,.int .i64 0,.int .i64 0,.int .i64 0,.int .u8 0,.int .i64 0,.int .i64 0,.slice none 0 0] 56
 rw[World.size_alloc] at hz0
 have hBa:Below w.heap.size w ((w.alloc (.cells (aB c).toArray 56)).alloc (.cells #[.int .i64 0,.int .i64 0,.int .u8 0,.int .i64 0,.int .i64 0,.int .i64 0,.int .u32 0,.int .u8 0,.string ⟨#[]⟩,.int .i64 0,.int .i64 0,.int .i64 0,.int .i64 0,.int .i64 0,.int .i64 0,.int .i64 0,.int .i64 0,.int .i64 0,.int .u8 0,.string ⟨#[]⟩,.int .i64 0,.int .i64 0,.int .i64 0,.int .u8 0,.int .i64 0,.int .i64 0,.slice none 0 0] 56)):=((Below.refl _ _).alloc (Nat.le_refl _) _).alloc (by simp) _
 have q26:=aD hb0 26
 rw[jS] at q26
 -- what comes after the copy of the delta
 have after:∀ (w3:World) (a:Option Addr) (n:Nat),Below (w.heap.size+2) ((w.alloc (.cells (aB c).toArray 56)).alloc (.cells #[.int .i64 0,.int .i64 0,.int .u8 0,.int .i64 0,.int .i64 0,.int .i64 0,.int .u32 0,.int .u8 0,.string ⟨#[]⟩,.int .i64 0,.int .i64 0,.int .i64 0,.int .i64 0,.int .i64 0,.int .i64 0,.int .i64 0,.int .i64 0,.int .i64 0,.int .u8 0,.string ⟨#[]⟩,.int .i64 0,.int .i64 0,.int .i64 0,.int .u8 0,.int .i64 0,.int .i64 0,.slice none 0 0] 56)) w3 →
   ∃ c':aA,(c'.pure=c.pure∧c'.ps=c.ps∧c'.da=a∧c'.dc=n)∧w3.cell? ⟨w.heap.size,26,none⟩=some (.slice c.da c.ps.length c.dc)∧w3.frozen? ⟨w.heap.size,26,none⟩=false ∧
   (aM (.pointer (some ⟨w.heap.size,0,none⟩))).run Tryz.prog (w3.setCell ⟨w.heap.size,26,none⟩ (.slice a c.ps.length n)) = .ok (.agg (aB c').toArray) (w3.setCell ⟨w.heap.size,26,none⟩ (.slice a c.ps.length n)) ∧
   (storeCells ⟨w.heap.size+1,0,none⟩ (aB c')).run Tryz.prog (w3.setCell ⟨w.heap.size,26,none⟩ (.slice a c.ps.length n)) = .ok () ((w3.setCell ⟨w.heap.size,26,none⟩ (.slice a c.ps.length n)).setRow (w.heap.size+1) (aB c').toArray) ∧
   ((w3.setCell ⟨w.heap.size,26,none⟩ (.slice a c.ps.length n)).setRow (w.heap.size+1) (aB c').toArray).heap[w.heap.size+1]? = some (.cells (aB c').toArray 56 (0,0)) ∧
   (∀ B,B≤w.heap.size→Below B w3 ((w3.setCell ⟨w.heap.size,26,none⟩ (.slice a c.ps.length n)).setRow (w.heap.size+1) (aB c').toArray)) ∧
   (∀ g,w.heap.size+2≤g→((w3.setCell ⟨w.heap.size,26,none⟩ (.slice a c.ps.length n)).setRow (w.heap.size+1) (aB c').toArray).heap[g]? = w3.heap[g]?):=by
  intro w3 a n hB
  have h1:=aU hb0 hB (by omega)
  have h2:=aU hz0 hB (by omega)
  have e:=setCell_eq_setRow w3 w.heap.size 26 _ _ _ (.slice a c.ps.length n) h1
  rw[aJr] at e
  have h3:(w3.setCell ⟨w.heap.size,26,none⟩ (.slice a c.ps.length n)).heap[w.heap.size]? = some (.cells (aB { c with da:=a,dc:=n }).toArray 56 (0,0)):=by rw[e];exact setRow_heap _ _ _ _ _ _ h1
  have h4:(w3.setCell ⟨w.heap.size,26,none⟩ (.slice a c.ps.length n)).heap[w.heap.size+1]? = some (.cells #[.int .i64 0,.int .i64 0,.int .u8 0,.int .i64 0,.int .i64 0,.int .i64 0,.int .u32 0,.int .u8 0,.string ⟨#[]⟩,.int .i64 0,.int .i64 0,.int .i64 0,.int .i64 0,.int .i64 0,.int .i64 0,.int .i64 0,.int .i64 0,.int .i64 0,.int .u8 0,.string ⟨#[]⟩,.int .i64 0,.int .i64 0,.int .i64 0,.int .u8 0,.int .i64 0,.int .i64 0,.slice none 0 0] 56 (0,0)):=by rw[e,setRow_other _ _ _ _ (by omega)];exact h2
  refine⟨{ c with da:=a,dc:=n },⟨rfl,rfl,rfl,rfl⟩,(aD h1 26).trans (jS c),eB h1 26,dD _ h3,aQr rfl h4 _,setRow_heap _ _ _ _ _ _ h4,fun B hB => ?_,fun g hg => ?_⟩
  ·exact bM ((Below.refl _ _).setCell (p:=⟨w.heap.size,26,none⟩) hB _) (by omega) _
  ·rw[setRow_other _ _ _ _ (by omega),Below.heap_setCell _ _ _ _ (by simp;omega)]
 have After:=Lib.hid after
 clear after hz0
 replace hd:c.ps=[]∨(c.ps.length≤1000000∧∃ b off,c.da=some ⟨b,off,none⟩∧b<w.heap.size∧∀ j u,(bO c.ps)[j]? = some u→w.cell? ⟨b,off+j,none⟩=some u):=by
  rcases hd with h | ⟨h0,⟨_,h,_⟩ | h⟩
  ·exact .inl h
  ·exact .inl h
  ·exact .inr ⟨h0,h⟩
 rcases hd with h2 | ⟨hdl,b,off,h1,h2,h3⟩
 ·have hdl:c.ps.length≤1000000:=by rw[h2];simp
  rw[h2] at q26
  rw[List.length_nil] at q26
  have cl:∀ W,Calls Tryz.prog 116 #[.slice c.da 0 c.dc] W fun e w'=>e = .returned (.slice none 0 0)∧Below W.heap.size W w':=fun W=>aIi _ _ W
  have H2:=Lib.hid h2
  have HB:=Lib.hid hBa
  clear h2 hb0 hBa
  go_enter Tryz.func60,Tryz.ntmps60
  go_wp2_with fail
  refine (cl _).mono ?_
  clear cl
  rintro e w3 ⟨rfl,hB3⟩
  have hs:((w.alloc (.cells (aB c).toArray 56)).alloc (.cells #[.int .i64 0,.int .i64 0,.int .u8 0,.int .i64 0,.int .i64 0,.int .i64 0,.int .u32 0,.int .u8 0,.string ⟨#[]⟩,.int .i64 0,.int .i64 0,.int .i64 0,.int .i64 0,.int .i64 0,.int .i64 0,.int .i64 0,.int .i64 0,.int .i64 0,.int .u8 0,.string ⟨#[]⟩,.int .i64 0,.int .i64 0,.int .i64 0,.int .u8 0,.int .i64 0,.int .i64 0,.slice none 0 0] 56)).heap.size=w.heap.size+2:=by simp
  rw[hs] at hB3
  obtain⟨c',⟨e1,e2,e3,e4⟩,q1,q2,q3,q4,q5,q6,q7⟩:=After.out w3 none 0 hB3
  have hB6:=(HB.out.trans (hB3.mono (by omega))).trans (q6 _ (Nat.le_refl _))
  have hfin:DOwn w ((w3.setCell ⟨w.heap.size,26,none⟩ (.slice none c.ps.length 0)).setRow (w.heap.size+1) (aB c').toArray) c':=⟨by rw[e2];exact hdl,.inl ⟨e3,e2.trans H2.out,e4⟩⟩
  rw[H2.out] at q1 q3 q4 q5 hfin hB6
  rw[List.length_nil] at q1 q3 q4 q5 hfin hB6
  have HF:=Lib.hid (And.intro e1 (And.intro hfin hB6))
  have Hr:=Lib.hid q5
  clear hfin hB6 e1 e2 e3 e4 q5 q6 q7 hB3 hs q26
  go_wp2
  exact⟨rfl,_,results_cell_row rfl _ _ _ _ _ _ _ rfl Hr.out Tryz.underlying56 rfl (by kernel_rfl),c',rfl,HF.out.1,HF.out.2.1,HF.out.2.2⟩
 ·have cl:=aDv b off c.dc c.ps _ (Nat.lt_of_lt_of_le h2 hBa.size) hdl (fun j u hj=>by rw[hBa.cell (p:=⟨b,off+j,none⟩) h2];exact h3 j u hj)
  rw[h1] at q26
  have H1:=Lib.hid h1
  have HB:=Lib.hid hBa
  clear h1 h2 h3 hb0 hBa
  go_enter Tryz.func60,Tryz.ntmps60
  go_wp2_with fail
  refine cl.mono ?_
  clear cl
  rintro e w3 ⟨v',rfl,hown,hB3⟩
  have hs:((w.alloc (.cells (aB c).toArray 56)).alloc (.cells #[.int .i64 0,.int .i64 0,.int .u8 0,.int .i64 0,.int .i64 0,.int .i64 0,.int .u32 0,.int .u8 0,.string ⟨#[]⟩,.int .i64 0,.int .i64 0,.int .i64 0,.int .i64 0,.int .i64 0,.int .i64 0,.int .i64 0,.int .i64 0,.int .i64 0,.int .u8 0,.string ⟨#[]⟩,.int .i64 0,.int .i64 0,.int .i64 0,.int .u8 0,.int .i64 0,.int .i64 0,.slice none 0 0] 56)).heap.size=w.heap.size+2:=by simp
  rw[hs] at hB3 hown
  rcases hown.2 with⟨rfl,hn0⟩ | ⟨g,cg,cur,rfl,hg,hgc,_⟩
  ·have hps:c.ps=[]:=List.length_eq_zero_iff.1 hn0
   obtain⟨c',⟨e1,e2,e3,e4⟩,q1,q2,q3,q4,q5,q6,q7⟩:=After.out w3 none 0 hB3
   have hB6:=(HB.out.trans (hB3.mono (by omega))).trans (q6 _ (Nat.le_refl _))
   have hfin:DOwn w ((w3.setCell ⟨w.heap.size,26,none⟩ (.slice none c.ps.length 0)).setRow (w.heap.size+1) (aB c').toArray) c':=⟨by rw[e2];exact hdl,.inl ⟨e3,e2.trans hps,e4⟩⟩
   rw[hn0] at q3 q4 q5 hfin hB6
   rw[H1.out] at q1
   have HF:=Lib.hid (And.intro e1 (And.intro hfin hB6))
   have Hr:=Lib.hid q5
   clear hfin hB6 e1 e2 e3 e4 q5 q6 q7 hB3 hs q26 hown
   go_wp2
   exact⟨rfl,_,results_cell_row rfl _ _ _ _ _ _ _ rfl Hr.out Tryz.underlying56 rfl (by kernel_rfl),c',rfl,HF.out.1,HF.out.2.1,HF.out.2.2⟩
  ·obtain⟨c',⟨e1,e2,e3,e4⟩,q1,q2,q3,q4,q5,q6,q7⟩:=After.out w3 (some ⟨g,0,none⟩) cg hB3
   have hB6:=(HB.out.trans (hB3.mono (by omega))).trans (q6 _ (Nat.le_refl _))
   have hfin:DOwn w ((w3.setCell ⟨w.heap.size,26,none⟩ (.slice (some ⟨g,0,none⟩) c.ps.length cg)).setRow (w.heap.size+1) (aB c').toArray) c' :=
    ⟨by rw[e2];exact hdl,.inr ⟨g,cur,e3,by omega,(q7 g hg).trans hgc,fun j u hj=>by
     rw[e2] at hj
     have hlt:=(gLz hj).1
     rw[jT] at hlt
     have:=hown.cellAt j hlt
     rw[cell_of_row _ _ _ _ _ _ hgc,hj] at this
     exact this⟩⟩
   have HF:=Lib.hid (And.intro e1 (And.intro hfin hB6))
   rw[H1.out] at q1
   have Hr:=Lib.hid q5
   clear hfin hB6 e1 e2 e3 e4 q5 q6 q7 hown hgc hB3 hs q26
   go_wp2
   exact⟨rfl,_,results_cell_row rfl _ _ _ _ _ _ _ rfl Hr.out Tryz.underlying56 rfl (by kernel_rfl),c',rfl,HF.out.1,HF.out.2.1,HF.out.2.2⟩
end Go.Proofs.YtdeiocppghhfdaaGreat.Hs
namespace Go.Proofs.YtdeiocppghhfdaaGreat.Hs
open Go.RowKit Go.Lib Go.Shelf
def gK (c:aA):aA:={ c with ps:=c.ps.take 100 }
theorem aEp (c:aA):(gK c).ps.length≤100:=by unfold gK;simp;omega
def fewL (cs:List aA):List aA:=(cs.take 24).map fun c=>(gK c).pure
open KitI (own_below)
attribute [local go_sem, local simp] dP
attribute [local go_sem ↓] aN aR
attribute [local go_sem] bX bB aX bH cK
def DRaw (w:World) (c:aA):Prop:=(c.ps=[]∧(c.da=none→c.dc=0))∨∃ b off,c.da=some ⟨b,off,none⟩∧c.ps.length≤c.dc∧c.ps.length<9223372036854775808∧b<w.heap.size∧∀ j u,(bO c.ps)[j]? = some u→w.cell? ⟨b,off+j,none⟩=some u
theorem aB4 (ps:List dZ) (n j:Nat) (u:Value) (h:(bO (ps.take n))[j]? = some u):(bO ps)[j]? = some u:=by
 have e:bO ps=bO (ps.take n)++bO (ps.drop n):=by
  unfold bO
  rw[← List.flatMap_append,List.take_append_drop]
 rw[e,List.getElem?_append_left (gLz h).1]
 exact h
theorem DRaw.cut {w:World} {c:aA} (h:DRaw w c):(gK c).ps=[]∨DAt w (gK c):=by
 rcases h with⟨h1,h2⟩ | ⟨b,off,h1,_,_,h2,h3⟩
 ·exact .inl (by unfold gK;rw[h1];rfl)
 ·exact .inr ⟨Nat.le_trans (aEp c) (by omega),.inr ⟨b,off,h1,h2,fun j u hj=>h3 j u (aB4 c.ps 100 j u hj)⟩⟩
theorem DRaw.on {w w':World} {c:aA} (h:DRaw w c) (hb:Below w.heap.size w w'):DRaw w' c:=by
 rcases h with h | ⟨b,off,h1,h4,h5,h2,h3⟩
 ·exact .inl h
 ·exact .inr ⟨b,off,h1,h4,h5,Nat.lt_of_lt_of_le h2 hb.size,fun j u hj=>by rw[hb.cell (p:=⟨b,off+j,none⟩) h2];exact h3 j u hj⟩
theorem DRaw.of {w:World} {c:aA} (h:DAt w c) (hc:c.ps.length≤c.dc):DRaw w c:=by
 rcases h with⟨h0,⟨h1,h2,h3⟩ | ⟨b,off,h1,h2,h3⟩⟩
 ·exact .inl ⟨h2,fun _=>h3⟩
 ·exact .inr ⟨b,off,h1,hc,by omega,h2,h3⟩
theorem aB5 (c:aA) (n:Nat) (h:n=(c.ps.take 100).length):(aB c).set 26 (.slice c.da n c.dc)=aB (gK c):=by subst h;rfl
def aLh (w:World) (cs:List aA) (o i:Value) (wr:World):Prop :=
 ∃ k:Nat,i = .int .i64 k∧k≤24∧k≤cs.length∧ORow w w.heap.size wr o (fewL (cs.take k))∧Below w.heap.size w wr
attribute [local go_sem, local simp] gM
def nA (w:World) (p:Option Addr) (cs:List aA):Prop:=cs=[]∨∃ b off,p=some ⟨b,off,none⟩∧b<w.heap.size∧CAt w b off cs∧cs.length<9223372036854775808∧∀ c∈cs,c.Ok∧DRaw w c
theorem nA.on {w w':World} {p:Option Addr} {cs:List aA} (h:nA w p cs) (hb:Below w.heap.size w w'):nA w' p cs:=by
 rcases h with h | ⟨b,off,h1,h2,h3,h4,h5⟩
 ·exact .inl h
 ·exact .inr ⟨b,off,h1,Nat.lt_of_lt_of_le h2 hb.size,h3.on hb,h4,fun c hc=>⟨(h5 c hc).1,(h5 c hc).2.on hb⟩⟩
end Go.Proofs.YtdeiocppghhfdaaGreat.Hs
namespace Go.Proofs.YtdeiocppghhfdaaGreat.Hs
open Go.RowKit Go.Lib Go.Shelf
open KitI (own_below)
attribute [local go_sem, local simp] dP
attribute [local go_sem ↓] aN aR
attribute [local go_sem] bX bB aX bH cK
theorem pure_ok {c d:aA} (h:c.pure=d.pure) (hd:d.Ok):c.Ok:=by
 have e1:c.invoked=d.invoked:=(congrArg aA.invoked h:c.pure.invoked=d.pure.invoked)
 have e2:c.answered=d.answered:=(congrArg aA.answered h:c.pure.answered=d.pure.answered)
 have e3:c.steps=d.steps:=(congrArg aA.steps h:c.pure.steps=d.pure.steps)
 have e4:c.took=d.took:=(congrArg aA.took h:c.pure.took=d.pure.took)
 have e5:c.rank=d.rank:=(congrArg aA.rank h:c.pure.rank=d.pure.rank)
 have e6:c.okind=d.okind:=(congrArg aA.okind h:c.pure.okind=d.pure.okind)
 have e7:c.oid=d.oid:=(congrArg aA.oid h:c.pure.oid=d.pure.oid)
 have e8:c.ograv=d.ograv:=(congrArg aA.ograv h:c.pure.ograv=d.pure.ograv)
 have e9:c.oslot=d.oslot:=(congrArg aA.oslot h:c.pure.oslot=d.pure.oslot)
 have f0:c.oat=d.oat:=(congrArg aA.oat h:c.pure.oat=d.pure.oat)
 have f1:c.on=d.on:=(congrArg aA.on h:c.pure.on=d.pure.on)
 obtain⟨a1,a2,a3,a4,a5,a6,a7,a8,a9,a10,b1,b2,b3,b4,b5,b6⟩:=hd
 exact⟨by omega,by omega,by omega,by omega,by omega,by omega,by omega,by omega,by omega,by omega,by omega,by omega,by omega,by omega,by omega,by omega⟩
structure HRow (W:World) (p:Option Addr) (cap:Nat) (cs:List aA):Prop where
 row:CRow W p cap cs
 dat:∀ c∈cs,DAt W c
 ok:∀ c∈cs,c.Ok
 len:cs.length≤24
theorem HRow.on {W W':World} {p:Option Addr} {cap:Nat} {cs:List aA} (h:HRow W p cap cs) (hb:Below W.heap.size W W'):HRow W' p cap cs:=⟨h.row.on hb,fun c hc=>(h.dat c hc).on hb,h.ok,h.len⟩
theorem nC {W:World} {base:Nat} {v:Value} {cs:List aA} (h:W.ownsRow base 56 27 v cs.length (fF cs)):∃ p cap,v = .slice p cs.length cap∧CRow W p cap cs:=by
 rcases h.2 with⟨h1,h2⟩ | ⟨g,cap,cur,rfl,h2,h3,h4,h5,h6,h7⟩
 ·have:cs=[]:=List.length_eq_zero_iff.1 h2
  subst this
  exact⟨none,0,h1,.inl ⟨rfl,rfl,rfl⟩⟩
 ·refine⟨_,_,rfl,.inr ⟨g,0,rfl,h4,(gAz h3).1,fun j u hj => ?_⟩⟩
  have hlt:=(gLz hj).1
  rw[pW] at hlt
  rw[Nat.zero_add,h.cellAt j hlt]
  exact hj
theorem aQ1 {d:aA} (h:d.Ok):(gK d).pure.Ok:=⟨h.i0,h.i1,h.a0,h.a1,h.s0,h.s1,h.t0,h.t1,h.r0,h.r1,h.kd,h.id,h.gr,h.sl,h.at_,h.nn⟩
end Go.Proofs.YtdeiocppghhfdaaGreat.Hs
