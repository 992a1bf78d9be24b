/- Texts, one behind another. -/
import Derived.Test.YtdeiocppghhfdaaGreatZfbp
import Derived.Test.YtdeiocppghhfdaaGreatZfbs
import Derived.Test.YtdeiocppghhfdaaGreatZfbt
set_option linter.unusedVariables false
set_option linter.unusedSimpArgs false
set_option maxRecDepth 100000
set_option maxHeartbeats 40000000
namespace Go.Proofs.YtdeiocppghhfdaaGreat.Lin
open Go.RowKit Go.Lib Go.Shelf
open Hs
open KitI (iv IRow own_below)
attribute [local go_sem, local simp] Hs.dP
attribute [local go_sem ↓] Hs.aN Hs.aR
attribute [local go_sem] Hs.bX Hs.bB Hs.aX Hs.bH Hs.cK
theorem aCw {w:World} {base n:Nat} {v:Value} {zs:List Nat} (h:w.ownsRow base tInt 1 v n (zs.map fun (x:Nat)=>iv x)) (hn:n=zs.length):IRow w v (zs.map fun (x:Nat)=>(x:Int)) :=
 IRow.own (base:=base) (e:=tInt) (n:=n) (by rw[List.map_map];exact h) (by rw[List.length_map];exact hn)
structure AwW (w W:World) (B:Nat) (a b:Int):Prop where
 row:Ex36 W B a b
 bl:Below w.heap.size w W
theorem AwW.on {w W W':World} {B:Nat} {a b:Int} (h:AwW w W B a b) (hb:Below W.heap.size W W'):AwW w W' B a b:=⟨h.row.on hb,h.bl.trans (hb.mono h.bl.size)⟩
theorem eG (W:World) (o:Obj):Below W.heap.size W (W.alloc o):=(Below.refl _ _).alloc (Nat.le_refl _) _
section
variable {W:World} {B:Nat}
theorem aRk (h:Ex36 W B 1 0):Calls Tryz.prog 19 #[gI.v,.slice (some ⟨B,0,none⟩) 3 3] W fun e w'=>∃ p q,e = .returned (.tuple #[.slice p 2 q,.bool true,.int .i64 0])∧IRow w' (.slice p 2 q) [1,0]∧Below W.heap.size W w':=by
 refine (mP gI _ 3 (ex36 1 0) W h.crow (by decide) (ok36 1 0) (ps36 1 0)).mono ?_
 rintro e w' ⟨v,he,hO,hb⟩
 rw[f36a] at he hO
 obtain⟨p,q,rfl⟩:=aC hO
 exact⟨p,q,he,aCw hO rfl,hb⟩
theorem aRl (h:Ex36 W B 1 1):Calls Tryz.prog 19 #[gI.v,.slice (some ⟨B,0,none⟩) 3 3] W fun e w'=>∃ p q,e = .returned (.tuple #[.slice p 2 q,.bool true,.int .i64 0])∧IRow w' (.slice p 2 q) [0,1]∧Below W.heap.size W w':=by
 refine (mP gI _ 3 (ex36 1 1) W h.crow (by decide) (ok36 1 1) (ps36 1 1)).mono ?_
 rintro e w' ⟨v,he,hO,hb⟩
 rw[f36c] at he hO
 obtain⟨p,q,rfl⟩:=aC hO
 exact⟨p,q,he,aCw hO rfl,hb⟩
theorem aRm (h:Ex36 W B 2 0):Calls Tryz.prog 23 #[gI.v,.slice (some ⟨B,0,none⟩) 3 3] W fun e w'=>e = .returned (.tuple #[.bool false,.int .i64 0])∧Below W.heap.size W w':=by
 have:=aPo gI _ 3 (ex36 2 0) W h.crow (by decide) (ok36 2 0) (ps36 2 0)
 rwa [f36b] at this
theorem aRn (h:Ex36 W B 1 0):Calls Tryz.prog 21 #[gI.v,.int .i64 100,.slice (some ⟨B,0,none⟩) 3 3] W fun e w'=>e = .returned (.tuple #[.int .i64 2,.int .i64 0])∧Below W.heap.size W w':=by
 have:=aJa gI 100 _ 3 (ex36 1 0) W h.crow (by decide) (ok36 1 0) (ps36 1 0)
 rwa [c36] at this
theorem aAt (h:Ex36 W B 1 0) (o:List Int) (r:Int) (g:Nat) (hg:IRow W (.slice (some ⟨g,0,none⟩) o.length o.length) o) (ho:o.length≤10) (hr:dI gI o (ex36 1 0)=r) :
  Calls Tryz.prog 28 #[gI.v,.slice (some ⟨g,0,none⟩) o.length o.length,.slice (some ⟨B,0,none⟩) 3 3] W fun e w'=>e = .returned (.int .i64 r)∧Below W.heap.size W w':=by
 have:=kI gI _ (some ⟨g,0,none⟩) 3 o.length (ex36 1 0) o W h.crow (IRd.of hg) (by decide) (by omega) (ok36 1 0) (ps36 1 0)
 rwa [hr] at this
theorem eqiT (va vb:Value) (zs:List Int) (ha:IRow W va zs) (hb:IRow W vb zs) (hs:zs.length≤1000000):Calls Tryz.prog 24 #[va,vb] W fun e w'=>e = .returned (.bool true)∧Below W.heap.size W w':=by
 have h:=KitI.zA W va vb zs zs ha hb hs hs
 rwa [decide_eq_true rfl] at h
end
theorem Ex36.c15 {W:World} {B:Nat} {a b:Int} (h:Ex36 W B a b):W.cell? ⟨B,15,none⟩=some (.int .i64 a):=aD h 15
theorem Ex36.c42 {W:World} {B:Nat} {a b:Int} (h:Ex36 W B a b):W.cell? ⟨B,42,none⟩=some (.int .i64 b):=aD h 42
theorem Ex36.s15 {W:World} {B:Nat} {a b:Int} (h:Ex36 W B a b) (x:Int):Ex36 (W.setCell ⟨B,15,none⟩ (.int .i64 x)) B x b:=bZ h 15 (.int .i64 x)
theorem Ex36.s42 {W:World} {B:Nat} {a b:Int} (h:Ex36 W B a b) (x:Int):Ex36 (W.setCell ⟨B,42,none⟩ (.int .i64 x)) B a x:=bZ h 42 (.int .i64 x)
attribute [local irreducible] aB gI
theorem aCx (w:World):Calls Tryz.prog 26 #[] w fun e w'=>e = .returned (.bool true)∧Below w.heap.size w w':=by
 go_enter Tryz.func26,Tryz.ntmps26
 go_wp2_with fail
 refine (oP w).mono ?_
 rintro e w1 ⟨rfl,hC,hB1⟩
 obtain⟨B,hBB⟩:∃ B,w.heap.size=B:=⟨_,rfl⟩
 have hx:AwW w w1 B 1 0:=⟨hBB ▸ hC,hB1⟩
 have HB:=Lib.hid hBB
 clear hC hB1
 rw[hBB]
 clear hBB
 go_wp2_with fail
 refine (dY _).mono ?_
 rintro e w2 ⟨rfl,hb⟩
 replace hx:=hx.on hb
 clear hb
 go_wp2_with fail
 refine (aRk hx.row).mono ?_
 rintro e w3 ⟨p1,q1,rfl,hI,hb⟩
 replace hx:=hx.on hb
 clear hb
 go_wp2_with fail
 refine (dY _).mono ?_
 rintro e w4 ⟨rfl,hb⟩
 replace hx:=hx.on hb
 replace hI:=hI.on hb
 clear hb
 go_wp2_with fail
 refine (aRn hx.row).mono ?_
 rintro e w5 ⟨rfl,hb⟩
 replace hx:=hx.on hb
 replace hI:=hI.on hb
 clear hb
 go_wp2_with fail
 replace hx:=hx.on (eG w5 (.cells #[.int .i64 1,.int .i64 0] tInt))
 replace hI:=hI.on (eG w5 (.cells #[.int .i64 1,.int .i64 0] tInt))
 refine (eqiT _ _ [1,0] hI (IRow.new [1,0] _ _ 2 2 rfl rfl _) (by decide)).mono ?_
 rintro e w6 ⟨rfl,hb⟩
 replace hx:=hx.on hb
 clear hb hI
 go_wp2_with fail
 refine (dY _).mono ?_
 rintro e w7 ⟨rfl,hb⟩
 replace hx:=hx.on hb
 clear hb
 replace hx:=hx.on (eG w7 (.cells #[.int .i64 1,.int .i64 0,.int .i64 2] tInt))
 have hV:=aAt hx.row [1,0,2] 0 w7.heap.size (IRow.new [1,0,2] _ _ 3 3 rfl rfl _) (by decide) v36a
 go_wp2_with fail
 refine hV.mono ?_
 rintro e w8 ⟨rfl,hb⟩
 replace hx:=hx.on hb
 clear hb hV
 go_wp2_with fail
 refine (dY _).mono ?_
 rintro e w9 ⟨rfl,hb⟩
 replace hx:=hx.on hb
 clear hb
 replace hx:=hx.on (eG w9 (.cells #[.int .i64 0,.int .i64 1] tInt))
 have hV:=aAt hx.row [0,1] 26 w9.heap.size (IRow.new [0,1] _ _ 2 2 rfl rfl _) (by decide) v36b
 go_wp2_with fail
 refine hV.mono ?_
 rintro e w10 ⟨rfl,hb⟩
 replace hx:=hx.on hb
 clear hb hV
 go_wp2_with fail
 refine (dY _).mono ?_
 rintro e w11 ⟨rfl,hb⟩
 replace hx:=hx.on hb
 clear hb
 replace hx:=hx.on (eG w11 (.cells #[.int .i64 1] tInt))
 have hV:=aAt hx.row [1] 26 w11.heap.size (IRow.new [1] _ _ 1 1 rfl rfl _) (by decide) v36c
 go_wp2_with fail
 refine hV.mono ?_
 rintro e w12 ⟨rfl,hb⟩
 replace hx:=hx.on hb
 clear hb hV
 go_wp2_with fail
 refine (dY _).mono ?_
 rintro e w13 ⟨rfl,hb⟩
 replace hx:=hx.on hb
 clear hb
 replace hx:=hx.on (eG w13 (.cells #[.int .i64 2,.int .i64 1,.int .i64 0] tInt))
 have hV:=aAt hx.row [2,1,0] 26 w13.heap.size (IRow.new [2,1,0] _ _ 3 3 rfl rfl _) (by decide) v36d
 go_wp2_with fail
 refine hV.mono ?_
 rintro e w14 ⟨rfl,hb⟩
 replace hx:=hx.on hb
 clear hb hV
 have hr:=hx.row
 have r15:w14.cell? ⟨B,15,none⟩=some (.int .i64 1):=hr.c15
 have f15:w14.frozen? ⟨B,15,none⟩=false:=eB hr 15
 have hx2:AwW w (w14.setCell ⟨B,15,none⟩ (.int .i64 2)) B 2 0:=⟨hr.s15 2,hx.bl.setCell (p:=⟨B,15,none⟩) (by rw[HB.out];exact Nat.le_refl _) _⟩
 clear hx hr
 go_wp2_with fail
 refine (dY _).mono ?_
 rintro e w15 ⟨rfl,hb⟩
 replace hx2:=hx2.on hb
 clear hb
 go_wp2_with fail
 refine (aRm hx2.row).mono ?_
 rintro e w16 ⟨rfl,hb⟩
 have hbl:=(hx2.on hb).bl
 clear hb hx2
 go_wp2_with fail
 refine (oP _).mono ?_
 rintro e w17 ⟨rfl,hC,hb⟩
 have hge:B≤w16.heap.size:=by have:=hbl.size;have:=HB.out;omega
 replace hbl:=hbl.trans (hb.mono (by have:=HB.out;omega))
 generalize w16.heap.size=g at *
 have hx:AwW w w17 g 1 0:=⟨hC,hbl⟩
 clear hC hb hbl
 have hr:=hx.row
 have r42:=hr.c42
 have f42:w17.frozen? ⟨g,42,none⟩=false:=eB hr 42
 have hx2:AwW w (w17.setCell ⟨g,42,none⟩ (.int .i64 1)) g 1 1:=⟨hr.s42 1,hx.bl.setCell (p:=⟨g,42,none⟩) (by rw[HB.out];exact hge) _⟩
 clear hx hr
 go_wp2_with fail
 refine (dY _).mono ?_
 rintro e w18 ⟨rfl,hb⟩
 replace hx2:=hx2.on hb
 clear hb
 go_wp2_with fail
 refine (aRl hx2.row).mono ?_
 rintro e w19 ⟨p2,q2,rfl,hI,hb⟩
 have hbl:=(hx2.on hb).bl
 clear hb hx2
 replace hI:=hI.on (eG w19 (.cells #[.int .i64 0,.int .i64 1] tInt))
 replace hbl:=hbl.alloc hbl.size (.cells #[.int .i64 0,.int .i64 1] tInt)
 go_wp2_with fail
 refine (eqiT _ _ [0,1] hI (IRow.new [0,1] _ _ 2 2 rfl rfl _) (by decide)).mono ?_
 rintro e w20 ⟨rfl,hb⟩
 go_wp2_with fail
 go_returns
 exact⟨rfl,hbl.trans (hb.mono hbl.size)⟩
end Go.Proofs.YtdeiocppghhfdaaGreat.Lin
namespace Go.Proofs.YtdeiocppghhfdaaGreat.Lin
open Go.RowKit Go.WideShapes Go.ChangeShapes Go.Deep
open Hs
open KitI (IRow)
def ArgI (w:World) (p:Option Addr) (l:List Int):Prop:=l=[]∨∃ b off,p=some ⟨b,off,none⟩∧b<w.heap.size∧(∀ j u,l[j]? = some u→w.cell? ⟨b,off+j,none⟩=some (.int .i64 u))∧l.length<9223372036854775808∧∀ x∈l,-9223372036854775808≤x∧x≤9223372036854775807
theorem ArgI.on {w w':World} {p:Option Addr} {l:List Int} (h:ArgI w p l) (hb:Below w.heap.size w w'):ArgI w' p l:=by
 rcases h with h | ⟨b,off,h1,h2,h3,h4,h5⟩
 ·exact .inl h
 ·exact .inr ⟨b,off,h1,Nat.lt_of_lt_of_le h2 hb.size,fun j u hj=>(hb.cell (p:=⟨b,off+j,none⟩) h2).trans (h3 j u hj),h4,h5⟩
section
variable {H:Type} {enc:TypeId × Value→H} {w:World} {base:Nat} {spare:Nat→Bool} {held:Bool}
theorem open_ints {b0:Nat} {v:Value} {d:DataW H} {ps:List MemPlace} (hval:Value.okWide Tryz.prog w .any b0 28 v) (hd:DataW.Trod enc Tryz.prog w base spare held 28 v d ps):∃ (p:Option Addr) (cap:Nat) (l:List Int),v = .slice p l.length cap∧l.length≤cap∧ArgI w p l:=by
 obtain⟨fuel,hf⟩:=hd
 obtain⟨a0,n0,c0,rfl⟩:=okWide_slice Tryz.underlying28 hval
 rcases open_slice Tryz.underlying28 hf with⟨h1,_⟩ | ⟨a,len,cap,q,n,D,Pl,h1,hb,hlc,hcap,hq,_,hel⟩
 ·simp[Value.cells] at h1
  obtain⟨rfl,rfl,rfl⟩:=h1
  exact⟨none,0,[],rfl,Nat.le_refl _,.inl rfl⟩
 ·simp[Value.cells] at h1
  obtain⟨rfl,rfl,rfl⟩:=h1
  have hc1 : Tryz.prog.cellsOf 3=1:=by kernel_rfl
  rw[hc1] at hel
  have hlq:n0≤q:=by rw[hq];split<;>omega
  obtain⟨l,hl,hQ,hcell⟩:=uC (w:=w) (base:=base) (fun z:Int=>[Value.int .i64 z]) 1 (fun _=>rfl) a (fun z => -9223372036854775808≤z∧z≤9223372036854775807) n0 (fun i hi=>by
   obtain⟨cs',h1,h2⟩:=hel i (by omega)
   obtain⟨z,rfl,_,hz⟩:=DataW.trod_int Tryz.underlying3 h2
   exact⟨z,h1,wf64 hz⟩)
  have hfl:∀ (l:List Int) (j:Nat) (u:Int),l[j]? = some u→(l.flatMap fun z:Int=>[Value.int .i64 z])[j]? = some (.int .i64 u):=by
   intro l j u h
   have e:(l.flatMap fun z:Int=>[Value.int .i64 z])=l.map (Value.int .i64):=(List.map_eq_flatMap ..).symm
   rw[e,List.getElem?_map,h]
   rfl
  refine⟨_,_,l,by rw[hl],by omega,?_⟩
  by_cases h0:l=[]
  ·exact .inl h0
  ·right
   obtain⟨b,off,spot⟩:=a
   have hpos:0<l.length:=by
    rcases l with _ | ⟨p,l⟩
    ·exact absurd rfl h0
    ·simp
   have g0:=hcell 0 _ (hfl l 0 _ (gEz hpos))
   have hspot:spot=none:=by simpa [Addr.add] using World.cell?_spot g0
   subst hspot
   have hblk:b<w.heap.size:=by
    have:=cO g0
    simpa [Addr.add] using this
   have hml:maxLen<9223372036854775808:=by unfold maxLen;omega
   exact⟨b,off,rfl,hblk,fun j u hj=>by have:=hcell j _ (hfl l j u hj);rwa [add_plain] at this,by omega,hQ⟩
end
theorem ArgI.take {w:World} {p:Option Addr} {l:List Int} (h:ArgI w p l) (k:Nat):IRd w p (l.take k):=by
 rcases h with rfl | ⟨b,off,rfl,h2,h3,_⟩
 ·exact .inl (by simp)
 ·exact .inr ⟨b,off,rfl,fun j u hj=>h3 j u (by rw[List.getElem?_take] at hj;split at hj;exact hj;cases hj)⟩
end Go.Proofs.YtdeiocppghhfdaaGreat.Lin
namespace Go.Proofs.YtdeiocppghhfdaaGreat.Lin
open Go.RowKit Go.Lib Go.Shelf
open Hs
open KitI (iv IRow)
abbrev tCfg:TypeId:=24
def uK (v:Value):Sem Value:=Instr.loadAt tCfg v
theorem aFl (v:Value):Instr.loadAt 24 v=uK v:=rfl
theorem aM7 {W:World} {b:Nat} {c:CfgV} (h:W.heap[b]? = some (.cells (cfgL c).toArray tCfg (0,0))):(uK (.pointer (some ⟨b,0,none⟩))).run Tryz.prog W = .ok (.agg (cfgL c).toArray) W :=
 run_loadAt_mid W b 0 tCfg (cfgL c) _ (yY h) Tryz.underlying24 rfl (by kernel_rfl)
theorem aP7 (c:CfgV):cfgL c≠[]:=by simp[cfgL]
theorem aRo {W:World} {g:Nat} {cs:Array Value} (h:W.heap[g]? = some (.cells cs tCfg (0,0))) (hs:cs.size=8) (c:CfgV):(storeCells ⟨g,0,none⟩ (cfgL c)).run Tryz.prog W = .ok () (W.setRow g (cfgL c).toArray):=mQ h hs (cfgL c) rfl (by simp[cfgL,Value.oneCell'])
structure LawW (w W:World) (c:CfgV) (p:Option Addr) (cap:Nat) (cs:List aA):Prop where
 bl:Below w.heap.size w W
 box:W.heap[w.heap.size]? = some (.cells (cfgL c).toArray tCfg (0,0))
 row:HRow W p cap cs
theorem LawW.on {w W W':World} {c:CfgV} {p:Option Addr} {cap:Nat} {cs:List aA} (h:LawW w W c p cap cs) (hb:Below W.heap.size W W'):LawW w W' c p cap cs :=
 ⟨h.bl.trans (hb.mono h.bl.size),aU h.box hb (gAz h.box).1,h.row.on hb⟩
theorem LawW.ld {w W:World} {c:CfgV} {p:Option Addr} {cap:Nat} {cs:List aA} (h:LawW w W c p cap cs):(uK (.pointer (some ⟨w.heap.size,0,none⟩))).run Tryz.prog W = .ok (.agg (cfgL c).toArray) W:=aM7 h.box
theorem aJd (c:CfgV) (w:World):Calls Tryz.prog 17 #[.agg (cfgL c).toArray] w fun e w'=>e = .returned (.agg (cfgL (pR 100 c)).toArray)∧Below w.heap.size w w':=aCq c w
section
variable {w W:World} {c:CfgV} {p:Option Addr} {cap:Nat} {cs:List aA}
theorem LawW.ps (h:LawW w W c p cap cs):∀ x∈cs,x.ps.length≤1000000:=fun x hx=>(h.row.dat x hx).1
theorem LawW.valid (h:LawW w W c p cap cs) {po:Option Addr} {co n:Nat} {o:List Int} (hn:n=o.length) (hO:IRd W po o) (ho:o.length≤1000):Calls Tryz.prog 28 #[.agg (cfgL c).toArray,.slice po n co,.slice p cs.length cap] W fun e W'=>e = .returned (.int .i64 (dI c o cs))∧Below W.heap.size W W':=by
 subst hn
 exact kI c p po cap co cs o W h.row.row hO (by have:=h.row.len;omega) ho h.row.ok h.ps
end
end Go.Proofs.YtdeiocppghhfdaaGreat.Lin
namespace Go.Proofs.YtdeiocppghhfdaaGreat.Lin
open Go.RowKit Go.Lib Go.Shelf
open Hs
open KitI (iv IRow own_below)
attribute [local go_sem, local simp] Hs.dP
attribute [local go_sem ↓] Hs.aN Hs.aR
attribute [local go_sem] Hs.bX Hs.bB Hs.aX Hs.bH Hs.cK
def aM8 (c:CfgV) (p:Option Addr) (cap:Nat) (cs:List aA) (w:World) (e:Ending) (w':World):Prop :=
 (bK c cs≠0∧e = .returned (.tuple #[.pointer none,.pointer none,.int .i64 (bK c cs)])∧Below w.heap.size w w') ∨
 (bK c cs=0∧∃ s g b M,e = .returned (.tuple #[.pointer (some ⟨s,0,none⟩),.pointer (some ⟨b,0,none⟩),.int .i64 0])∧RRun w w' b M∧M.st=newS c∧SrAt w' s g p cap cs.length (List.replicate cs.length false) (.slice none 0 0) (.slice none 0 0) 0 1∧(∀ k,M.fp b k→k≠s∧k≠g)∧w.heap.size≤g∧w.heap.size≤s)
theorem aP8 (c:CfgV) (w0 w:World) (hc:cfgE c=0) (hb:Below w0.heap.size w0 w):Calls Tryz.prog 120 #[c.v] w fun e w'=>∃ b M,e = .returned (.tuple #[.pointer (some ⟨b,0,none⟩),.int .i64 0])∧RRun w0 w' b M∧M.st=newS c:=(aCv c w).mono fun e w' h=>h.elim (fun h=>absurd hc h.1) (fun ⟨_,b,M,h1,h2,h3,h4,h5⟩=>⟨b,M,h1,⟨h2,fun k hk=>Nat.le_trans hb.size (h5 k hk),hb.trans (h4.mono hb.size)⟩,h3⟩)
theorem aP9 (c:CfgV) (w:World) (hc:cfgE c≠0):Calls Tryz.prog 120 #[c.v] w fun e w'=>e = .returned (.tuple #[.pointer none,.int .i64 (cfgE c)])∧Below w.heap.size w w':=(aCv c w).mono fun e w' h=>h.elim (fun h=>⟨h.2.1,h.2.2⟩) (fun h=>absurd h.1 hc)
theorem aFm (c:CfgV) (p:Option Addr) (cap:Nat) (cs:List aA) (w:World) (hC:CRow w p cap cs) (hs:cs.length≤1000) (hok:∀ x∈cs,x.Ok) (hd:∀ x∈cs,DAt w x) :
  Calls Tryz.prog 67 #[c.v,.slice p cs.length cap] w (aM8 c p cap cs w):=by
 have hB0:Below w.heap.size w (w.alloc (.cells #[.int .i64 c.slots,.int .u64 c.gens,.int .i64 c.clients,.int .i64 c.readers,.int .i64 c.queue,.int .i64 c.batch,.int .i64 c.feed,.string c.text] 24)):=(Below.refl w.heap.size w).alloc (Nat.le_refl _) _
 have hck:=fun W (h:Below w.heap.size w W)=>lW p cap cs W (hC.on h) (by omega) hok (fun x hx=>(hd x hx).on h)
 have hS:bK c cs=if cfgE c≠0 then cfgE c else if (bF cs).2≠0 then (bF cs).2 else if 10<cs.length then 5 else 0:=rfl
 by_cases hc:cfgE c=0
 ·have hnew:=aP8 c w _ hc hB0
  rw[if_neg (by rw[hc];simp)] at hS
  unfold CfgV.v at *
  rcases nL cs with h2 | h2
  ·rw[if_neg (by rw[h2];simp)] at hS
   by_cases hl:10<cs.length
   ·rw[if_pos hl] at hS
    go_enter Tryz.func67,Tryz.ntmps67
    go_wp2_with (first | (go_at_call 120;refine hnew.mono ?_;rintro e w1 ⟨b,M,rfl,hR,hst⟩) | (go_at_call 121;refine (hck _ hR.bl).mono ?_;rw[h2];rintro e w2 ⟨rfl,hb2⟩))
    go_returns
    exact .inl ⟨by rw[hS];simp,by rw[hS];rfl,(hR.on hb2).bl⟩
   ·rw[if_neg hl] at hS
    go_enter Tryz.func67,Tryz.ntmps67
    go_wp2_with (first | (go_at_call 120;refine hnew.mono ?_;rintro e w1 ⟨b,M,rfl,hR,hst⟩) | (go_at_call 121;refine (hck _ hR.bl).mono ?_;rw[h2];rintro e w2 ⟨rfl,hb2⟩;have hR2:=hR.on hb2;obtain⟨V,hmk,hsz,hgV,hbV⟩:=aCm w2 cs.length (by omega);have hR3:=hR2.on hbV;have hb4:Below V.heap.size V (V.alloc (.cells [.slice p cs.length cap,.slice none 0 0,.slice (some ⟨w2.heap.size,0,none⟩) cs.length cs.length,.int .i64 0,.slice none 0 0,.int .i64 1].toArray 115)):=(Below.refl _ _).alloc (Nat.le_refl _) _))
    go_returns
    have hlt:=fun k (hk:M.fp b k)=>hR2.at_.fp_lt hk
    refine .inr ⟨hS,w2.heap.size+1,w2.heap.size,b,M,rfl,hR3.on hb4,hst,⟨by rw[← hsz];exact heap_alloc_new V _,(hb4.block _ (by omega)).trans (by rw[hgV,List.map_replicate]),by simp⟩,fun k hk => ?_,hR2.bl.size,Nat.le_succ_of_le hR2.bl.size⟩
    have:=hlt k hk
    omega
  ·rw[h2,if_pos (by simp)] at hS
   go_enter Tryz.func67,Tryz.ntmps67
   go_wp2_with (first | (go_at_call 120;refine hnew.mono ?_;rintro e w1 ⟨b,M,rfl,hR,hst⟩) | (go_at_call 121;refine (hck _ hR.bl).mono ?_;rw[h2];rintro e w2 ⟨rfl,hb2⟩))
   go_returns
   exact .inl ⟨by rw[hS];simp,by rw[hS];rfl,(hR.on hb2).bl⟩
 ·have hnew:=fun W=>aP9 c W hc
  rw[if_pos hc] at hS
  have hd:(cfgE c != 0)=true:=by simpa using hc
  generalize cfgE c=ce at *
  unfold CfgV.v at *
  go_enter Tryz.func67,Tryz.ntmps67
  go_wp2_with (go_at_call 120;refine (hnew _).mono ?_;rintro e w1 ⟨rfl,hb1⟩)
  go_returns
  exact .inl ⟨by rw[hS];exact hc,by rw[hS];rfl,hB0.trans (hb1.mono hB0.size)⟩
theorem own_ne {W W':World} {B s n g:Nat} {e:TypeId} {v:Value} {xs:List Value} (h:W.ownsRow B e s v n xs) (hk:∀ k,k<W.heap.size→k≠g→W'.heap[k]? = W.heap[k]?) (hne:v.ownBlock≠some g):W'.ownsRow B e s v n xs:=by
 refine⟨h.1,?_⟩
 rcases h.2 with hn | ⟨q,cap,cur,rfl,hB,hg,rest⟩
 ·exact .inl hn
 ·exact .inr ⟨q,cap,cur,rfl,hB,(hk q (gAz hg).1 (fun e=>hne (by rw[e];rfl))).trans hg,rest⟩
theorem aJe {W W':World} {b g:Nat} {M:RM} {cs:Array Value} (h:RdAt W b M) (hg:W.heap[g]? = some (.cells cs 4 (0,0))) (hk:∀ k,k<W.heap.size→k≠g→W'.heap[k]? = W.heap[k]?) (hne:∀ k,M.fp b k→k≠g):RdAt W' b M :=
 ⟨(hk b (gAz h.blk).1 (hne b (.inl rfl))).trans h.blk,aH h.marks hg (by decide) hk,own_ne h.subs hk (fun e=>hne g (.inr (.inl e)) rfl),aH h.snaps hg (by decide) hk,fun S hS=>own_ne (h.slots S hS) hk (fun e=>hne g (.inr (.inr ⟨S,hS,e⟩)) rfl),fun S hS x hx=>aH (h.smarks S hS x hx) hg (by decide) hk,h.some_,h.nodup⟩
def oU (n:Nat) (o:List Int):List Bool:=o.foldl (fun l (x:Int)=>l.set x.toNat true) (List.replicate n false)
theorem aJf (n:Nat) (o:List Int):(oU n o).length=n:=by
 unfold oU
 have:∀ (o:List Int) (l:List Bool),(o.foldl (fun l (x:Int)=>l.set x.toNat true) l).length=l.length:=by
  intro o
  induction o with
  |nil=>intro l;rfl
  |cons x r ih=>intro l;rw[List.foldl_cons,ih,List.length_set]
 rw[this,List.length_replicate]
theorem aFn {n k:Nat} {o:List Int} {x:Int} (h:o[k]? = some x):oU n (o.take (k+1))=(oU n (o.take k)).set x.toNat true:=by
 unfold oU
 rw[List.take_add_one,h,List.foldl_append];rfl
theorem aJg {n:Nat} {o:List Int} (h:∀ x∈o,0≤x∧x<(n:Int)) {j:Nat} (hj:j<n):(oU n o).getD j false=o.contains (j:Int):=by
 unfold oU
 have:∀ (o:List Int),(∀ x∈o,0≤x∧x<(n:Int))→∀ (l:List Bool),l.length=n→(o.foldl (fun l (x:Int)=>l.set x.toNat true) l).getD j false=(l.getD j false || o.contains (j:Int)):=by
  intro o
  induction o with
  |nil=>intro _ l _;simp
  |cons x r ih =>
   intro ho l hl
   have hx:=ho x (List.mem_cons_self ..)
   rw[List.foldl_cons,ih (fun y hy=>ho y (List.mem_cons_of_mem _ hy)) _ (by rw[List.length_set];exact hl)]
   rw[List.getD_eq_getElem?_getD,List.getD_eq_getElem?_getD,List.getElem?_set,List.contains_cons]
   by_cases e:x=(j:Int)
   ·have e2:x.toNat=j:=by omega
    rw[if_pos e2,if_pos (by omega)]
    simp[e]
   ·have e2:¬ x.toNat=j:=by omega
    rw[if_neg e2]
    have e3:((j:Int) == x)=false:=by simpa using fun h=>e h.symm
    rw[e3,Bool.false_or]
 rw[this o h _ (List.length_replicate ..),List.getD_eq_getElem?_getD,List.getElem?_replicate,if_pos hj]
 simp
theorem aM9 {cs:List aA} {o:List Int} (h:∀ x∈o,0≤x∧x<(cs.length:Int)):wK cs (oU cs.length o)=hasAll cs o:=by
 unfold wK hasAll
 rw[Bool.eq_iff_iff,List.all_eq_true,List.all_eq_true]
 exact forall_congr' fun j=>forall_congr' fun hj=>by rw[aJg h (List.mem_range.1 hj)]
def aSh (cs:List aA) (c:CfgV) (o:List Int) (w:World) (s g b:Nat) (p:Option Addr) (cap:Nat) (i:Value) (wr:World):Prop :=
 ∃ (k:Nat) (M:RM),i = .int .i64 k∧k≤o.length∧RRun w wr b M∧runO cs (newS c) (o.take k)=some M.st∧MSok M.st k∧SrAt wr s g p cap cs.length (oU cs.length (o.take k)) (.slice none 0 0) (.slice none 0 0) 0 1∧(∀ k,M.fp b k→k≠s∧k≠g)∧w.heap.size≤g
theorem aFo (c:CfgV) (p po:Option Addr) (cap co:Nat) (cs:List aA) (o:List Int) (w:World) (hC:CRow w p cap cs) (hO:IRd w po o) (hs:cs.length≤1000) (hs2:o.length≤1000) (hok:∀ x∈cs,x.Ok) (hd:∀ x∈cs,DAt w x) :
  Calls Tryz.prog 29 #[c.v,.slice po o.length co,.slice p cs.length cap] w fun e w'=>e = .returned (.int .i64 (dI c o cs))∧Below w.heap.size w w':=by
 have hB0:Below w.heap.size w (w.alloc (.cells #[.int .i64 c.slots,.int .u64 c.gens,.int .i64 c.clients,.int .i64 c.readers,.int .i64 c.queue,.int .i64 c.batch,.int .i64 c.feed,.string c.text] 24)):=(Below.refl w.heap.size w).alloc (Nat.le_refl _) _
 have hag:=fun W (h:Below w.heap.size w W)=>xI p po cap co cs o W (hC.on h) (hO.on h) (by omega) (by omega) hok (fun x hx=>(hd x hx).on h)
 have hst:=aFm c p cap cs _ (hC.on hB0) hs hok (fun x hx=>(hd x hx).on hB0)
 unfold aM8 at hst
 by_cases h0:bK c cs=0
 ·replace hst:=hst.mono fun e w' h=>h.elim (fun h=>absurd h0 h.1) (fun h=>h.2)
  obtain⟨h00,hck,hle⟩:=nY h0
  have hv:dI c o cs=if (aQ o cs).2≠0 then (aQ o cs).2 else if (aQ o cs).1=false then 26 else match runO cs (newS c) o with | none=>26 | some _=>if hasAll cs o then 0 else 26:=by unfold dI;rw[if_neg (by rw[h0];simp)];(try rfl)
  unfold CfgV.v at *
  by_cases ha:(aQ o cs).2=0
  ·rw[if_neg (by rw[ha];simp)] at hv
   have hrng:=wJ hck ha
   rw[ha] at hag
   obtain⟨ag,hagb⟩:∃ x,(aQ o cs).1=x:=⟨_,rfl⟩
   rw[hagb] at hv hag
   clear hagb ha
   go_enter Tryz.func29,Tryz.ntmps29
   go_wp2_with (first | (go_at_call 67;refine hst.mono ?_;rintro e w1 ⟨s,g,b,M,rfl,hR,hM,hSr,hne,hgs,-⟩;have hb1:=hB0.trans (hR.bl.mono hB0.size)) | (go_at_call 72;refine (hag _ hb1).mono ?_;rintro e w2 ⟨rfl,hb2⟩))
   have hR2:RRun w w2 b M:=⟨(hR.on hb2).at_,fun k hk=>Nat.le_trans hB0.size (hR.own k hk),hb1.trans (hb2.mono hb1.size)⟩
   have hSr2:=hSr.on hb2
   have hgs2:w.heap.size≤g:=Nat.le_trans hB0.size hgs
   clear hag hst hR hb2 hb1 hSr hgs
   go_loopw [11] (fun i wr=>aSh cs c o w s g b p cap i wr) (fun i wr=>o.length-(intOf i).toNat)
   case atStart=>exact⟨0,M,rfl,by omega,hR2,by rw[hM];rfl,by rw[hM];exact uB h00,hSr2,hne,hgs2⟩
   case round =>
    clear hR2 hSr2 hM hne hgs2
    obtain⟨k,M',rfl,hk,hR3,hrun,hMok,hSr3,hne3,hgs3⟩:=hrel
    by_cases hlt:k<o.length
    ·obtain⟨x,hx⟩:∃ x,o[k]? = some x:=⟨_,gEz hlt⟩
     obtain⟨bo,oo,rfl,hco⟩:=uI hO (by omega)
     have hck0:=hco wr hR3.bl k _ hx
     have hxr:=hrng x (mGz hx)
     have htk:=sD (L:=cs) (st:=newS c) hx
     rw[hrun] at htk
     obtain⟨i,rfl⟩:∃ i:Nat,x=i:=⟨x.toNat,by omega⟩
     have hi:i<cs.length:=by omega
     have hcm:getC cs i∈cs:=mGz (bR hi)
     have hpf:=aAl s g cap p cs _ _ _ _ _ wr hSr3 (hC.on hR3.bl) b M' hR3.at_ (hMok.mono (by omega)) i hi (hok _ hcm)
     have hbs:=aFn (n:=cs.length) hx
     rw[Int.toNat_natCast] at hbs
     have hcok:=hok _ hcm
     have hnx:nx cs M'.st i=eZ M'.st (getC cs i):=rfl
     generalize getC cs i=q at *
     have Htk:=Lib.hid htk
     have Hbs:=Lib.hid hbs
     have Hco:=Lib.hid hco
     have Hx:=Lib.hid hx
     clear htk hrun hbs hco hx
     cases hn:eZ M'.st q with
     |none =>
      have hv2:dI c o cs=26:=by
       rw[hv,sF (k:=k+1) (by rw[Htk.out];show nx cs M'.st i=none;rw[hnx,hn])]
       cases ag<;>rfl
      go_wp2_with (go_at_call 73;refine hpf.mono ?_;unfold aMs;rw[hn];rintro e w4 ⟨rfl,M4,hM4,hst4,hk4,hf4⟩)
      go_returns
      exact⟨by rw[hv2];rfl,hR3.keep hk4⟩
     |some t =>
      have hr2:runO cs (newS c) (o.take (k+1))=some t:=by rw[Htk.out];show nx cs M'.st i=some t;rw[hnx,hn]
      have htok:=uF hMok hcok hn
      go_wp2_with (go_at_call 73;refine hpf.mono ?_;unfold aMs;rw[hn];rintro e w4 ⟨rfl,M4,hM4,hst4,hk4,hf4⟩;have hB4:=hR3.keep hk4;have hck4:=Hco.out w4 hB4 k _ Hx.out;have hS4:=hSr3.keep hk4 (fun hf=>(hne3 _ hf).1 rfl) (fun hf=>(hne3 _ hf).2 rfl);obtain⟨s0,s2⟩:=hS4.c0;have hi2:i<(oU cs.length (o.take k)).length:=by rw[aJf];exact hi)
      obtain⟨f0,f1⟩:=hS4.bit (gEz hi2)
      have hsl:s<wr.heap.size∧g<wr.heap.size:=⟨(gAz hSr3.blk).1,(gAz hSr3.row).1⟩
      have hne4:∀ k,M4.fp b k→k≠s∧k≠g:=fun k hk=>(hf4 k hk).elim (hne3 k) (fun h=>by omega)
      have hM5:=(aJe hM4 (W':=w4.setCell ⟨g,i,none⟩ (.bool true)) hS4.row (fun k _ hk=>aG w4 ⟨g,i,none⟩ _ k hk) (fun k hk=>(hne4 k hk).2)).below (Below.refl _ _).drew
      have hS5:=(hS4.set i true).on (Below.refl _ _).drew
      have hB5:=(bQ hB4 g i (.bool true) hgs3).drew
      clear hM4 hS4 hSr3 hC
      go_region
      all_goals
       go_wp2
       go_roundw
       case rel=>exact⟨k+1,M4,by go_num,by omega,⟨hM5,fun k hk=>(hf4 k hk).elim (hR3.own k) (fun h=>Nat.le_trans hR3.bl.size h),hB5⟩,by rw[hr2,hst4 t rfl],by rw[hst4 t rfl];exact htok,by rw[Hbs.out];exact hS5,hne4,hgs3⟩
       case measure=>simp[intOf];omega
    ·have hke:k=o.length:=by omega
     subst hke
     rw[List.take_length] at hrun hSr3
     rw[hrun] at hv
     have hfl:=aI6 s g cap p cs _ _ _ _ _ wr hSr3 (hC.on hR3.bl) hs
     rw[aM9 hrng] at hfl
     cases ag with
     |false =>
      go_wp2
      go_returns
      exact⟨by first | (rw[hv];rfl) | rfl,hR3.bl⟩
     |true =>
      generalize hasAll cs o=hb at hfl hv
      cases hb
      all_goals
       go_wp2_with (go_at_call 74;refine hfl.mono ?_;rintro e w5 ⟨rfl,hb5⟩)
       go_returns
       exact⟨by first | (rw[hv];rfl) | rfl,hR3.bl.trans (hb5.mono hR3.bl.size)⟩
  ·rw[if_pos ha] at hv
   have hda:((aQ o cs).2 != 0)=true:=by simpa using ha
   generalize (aQ o cs).2=ae at *
   generalize (aQ o cs).1=ab at *
   go_enter Tryz.func29,Tryz.ntmps29
   go_wp2_with (first | (go_at_call 67;refine hst.mono ?_;rintro e w1 ⟨s,g,b,M,rfl,hR,hM,hSr,hne,hgs,-⟩;have hb1:=hB0.trans (hR.bl.mono hB0.size)) | (go_at_call 72;refine (hag _ hb1).mono ?_;rintro e w2 ⟨rfl,hb2⟩))
   go_returns
   exact⟨by rw[hv];rfl,hb1.trans (hb2.mono hb1.size)⟩
 ·replace hst:=hst.mono fun e w' h=>h.elim (fun h=>h.2) (fun h=>absurd h.1 h0)
  have hf:dI c o cs=bK c cs:=by unfold dI;rw[if_pos h0]
  have hd:(bK c cs != 0)=true:=by simpa using h0
  generalize bK c cs=sE at *
  unfold CfgV.v at *
  go_enter Tryz.func29,Tryz.ntmps29
  go_wp2_with (go_at_call 67;refine hst.mono ?_;rintro e w1 ⟨rfl,hb1⟩)
  go_returns
  exact⟨by rw[hf];rfl,hB0.trans (hb1.mono hB0.size)⟩
theorem aNa (c:CfgV) (p po:Option Addr) (cap co n:Nat) (cs:List aA) (o:List Int) (w:World) (hn:n=o.length) (hR:HRow w p cap cs) (hO:IRd w po o) (hs2:o.length≤1000) :
  Calls Tryz.prog 29 #[.agg (cfgL c).toArray,.slice po n co,.slice p cs.length cap] w fun e w'=>e = .returned (.int .i64 (dI c o cs))∧Below w.heap.size w w':=by
 subst hn
 exact aFo c p po cap co cs o w hR.row hO (by have:=hR.len;omega) hs2 hR.ok hR.dat
end Go.Proofs.YtdeiocppghhfdaaGreat.Lin
namespace Go.Proofs.YtdeiocppghhfdaaGreat.Lin
open Go.RowKit Go.Lib Go.Shelf
open Hs
theorem lC (L:List aA) (i:Nat):getC (L.map aA.pure) i=(getC L i).pure:=by
 unfold getC
 rw[List.getD_eq_getElem?_getD,List.getD_eq_getElem?_getD,List.getElem?_map]
 cases L[i]? <;> rfl
theorem aGv (L:List aA):nx (L.map aA.pure)=nx L:=by
 funext st i
 unfold nx
 rw[lC,aIl]
theorem aNb (L:List aA):rdyB (L.map aA.pure)=rdyB L:=by
 funext u i
 unfold rdyB
 rw[List.length_map]
 congr 1
 funext j
 rw[lC,lC]
 rfl
theorem aJh (L:List aA):bW (L.map aA.pure)=bW L:=by
 funext u
 unfold bW
 rw[List.length_map]
 congr 1
 funext j
 rw[lC]
 rfl
theorem aQa (L:List aA) (st:MS) (u:Nat):SS (L.map aA.pure) st u=SS L st u:=by
 show S (L.map aA.pure).length (nx (L.map aA.pure)) (rdyB (L.map aA.pure)) (bW (L.map aA.pure)) st u=_
 rw[List.length_map,aGv,aNb,aJh]
theorem wP (c:CfgV) (L:List aA):bK c (L.map aA.pure)=bK c L:=by
 unfold bK
 rw[wM,List.length_map]
theorem yX (c:CfgV) (L:List aA):iE c (L.map aA.pure)=iE c L:=by
 unfold iE
 rw[wP,aQa]
theorem aQb {c:CfgV} {A B:List aA} (h:A.map aA.pure=B.map aA.pure):iE c A=iE c B:=by rw[← yX c A,h,yX]
attribute [local go_sem, local simp] Hs.dP
attribute [local go_sem ↓] Hs.aN Hs.aR
attribute [local go_sem] Hs.bX Hs.bB Hs.aX Hs.bH Hs.cK
def mG (n u:Nat):List Bool:=(List.range n).map u.testBit
theorem iH (n u:Nat):(mG n u).length=n:=by unfold mG;simp
theorem gQ {n u j:Nat} (hj:j<n):(mG n u)[j]? = some (u.testBit j):=by unfold mG;rw[List.getElem?_map,List.getElem?_range hj];rfl
theorem aRp (n:Nat):List.replicate n false=mG n 0:=by
 refine List.ext_getElem? fun j => ?_
 rw[List.getElem?_replicate]
 split
 ·rename_i h;rw[gQ h,Nat.zero_testBit]
 ·rename_i h;rw[List.getElem?_eq_none (by rw[iH];omega)]
theorem aRv {n u i:Nat}:(mG n u).set i true=mG n (u ||| 2 ^ i):=by
 refine List.ext_getElem? fun j => ?_
 rw[List.getElem?_set,iH]
 by_cases hj:j<n
 ·rw[gQ hj,gQ hj,aAa]
  by_cases e:i=j
  ·subst e;simp[hj]
  ·simp[e]
 ·rw[List.getElem?_eq_none (by rw[iH];omega),List.getElem?_eq_none (by rw[iH];omega)]
  split
  ·rename_i e;subst e;rw[if_neg hj]
  ·rfl
theorem aRq {n u i:Nat} (h:u.testBit i=false):(mG n (u ||| 2 ^ i)).set i false=mG n u:=by
 refine List.ext_getElem? fun j => ?_
 rw[List.getElem?_set,iH]
 by_cases hj:j<n
 ·rw[gQ hj,gQ hj,aAa]
  by_cases e:i=j
  ·subst e;simp[hj,h]
  ·simp[e]
 ·rw[List.getElem?_eq_none (by rw[iH];omega),List.getElem?_eq_none (by rw[iH];omega)]
  split
  ·rename_i e;subst e;rw[if_neg hj]
  ·rfl
theorem aRw (cs:List aA) (u:Nat):wK cs (mG cs.length u)=bW cs u:=by
 unfold wK bW
 rw[Bool.eq_iff_iff,List.all_eq_true,List.all_eq_true]
 exact forall_congr' fun j=>forall_congr' fun hj=>by
  rw[List.getD_eq_getElem?_getD,gQ (List.mem_range.1 hj),Option.getD_some,Bool.or_comm]
theorem aRr (s g cap:Nat) (p:Option Addr) (cs:List aA) (u:Nat) (ov fv:Value) (many most:Int) (w:World) (hS:SrAt w s g p cap cs.length (mG cs.length u) ov fv many most) (hC:CRow w p cap cs) (hl:cs.length≤1000) (i:Nat) (hi:i<cs.length) :
  Calls Tryz.prog 123 #[.pointer (some ⟨s,0,none⟩),.int .i64 i] w fun e w'=>e = .returned (.bool (cand (rdyB cs) u i))∧Below w.heap.size w w':=by
 obtain⟨b,off,rfl,hcap,hb,hA⟩:=jA hC (by omega)
 have hic:=bR hi
 generalize hd:getC cs i=d at hic
 have Hd:=Lib.hid hd
 have Hic:=Lib.hid hic
 clear hd hic
 go_enter Tryz.func123,Tryz.ntmps123
 go_wp2
 go_loopw [5] (fun j wr=>∃ k:Nat,j = .int .i64 k∧k≤cs.length∧Below w.heap.size w wr∧∀ x,x<k→(u.testBit x || !befB (getC cs x) (getC cs i))=true) (fun j wr=>cs.length-(intOf j).toNat)
 case atStart=>exact⟨0,rfl,by omega,Below.refl _ _,fun x h=>by omega⟩
 case round =>
  obtain⟨k,rfl,hk,hB,hall⟩:=hrel
  obtain⟨c0,c2⟩:=(hS.on hB).c0
  by_cases hlt:k<cs.length
  ·have hbg:=gQ (u:=u) hlt
   have hck:=bR hlt
   have hno:=fun (h:(u.testBit k || !befB (getC cs k) (getC cs i))=false)=>aFc (n:=cs.length) (q:=fun j=>u.testBit j || !befB (getC cs j) (getC cs i)) hlt h
   have hstep:=fun (h:(u.testBit k || !befB (getC cs k) (getC cs i))=true)=>(show ∀ j,j<k+1→(u.testBit j || !befB (getC cs j) (getC cs i))=true from fun j hj=>by
    rcases Nat.lt_or_ge j k with h' | h'
    ·exact hall j h'
    ·have:j=k:=by omega
     subst this;exact h)
   rw[Hd.out] at hno hstep
   have bc:=fun W=>kG (getC cs k) d W
   have kx:∀ W,Below w.heap.size w W→W.cell? ⟨s,0,none⟩=some (.slice (some ⟨b,off,none⟩) cs.length cap)∧W.cell? ⟨s,2,none⟩=some (.slice (some ⟨g,0,none⟩) cs.length cs.length)∧(aM (.pointer (some ⟨b,off+k*27,none⟩))).run Tryz.prog W = .ok (.agg (aB (getC cs k)).toArray) W∧(aM (.pointer (some ⟨b,off+i*27,none⟩))).run Tryz.prog W = .ok (.agg (aB d).toArray) W∧W.cell? ⟨g,k,none⟩=some (.bool (u.testBit k)):=fun W hW =>
    ⟨((hS.on hW).c0).1,((hS.on hW).c0).2,(hA.below hW hb).load hck,(hA.below hW hb).load Hic.out,((hS.on hW).bit hbg).1⟩
   have Kx:=Lib.hid kx
   generalize getC cs k=c at *
   obtain⟨y,hy⟩:∃ y,befB c d=y:=⟨_,rfl⟩
   rw[hy] at bc hno hstep
   have Hno:=Lib.hid hno
   have Hstep:=Lib.hid hstep
   have hx0:=hB.drew
   clear kx hno hstep hall hbg hck hy
   cases y
   all_goals cases hx:u.testBit k
   all_goals
    go_wp2
    refine aP (S:=fun W=>W.cell? ⟨s,0,none⟩=some (.slice (some ⟨b,off,none⟩) cs.length cap)∧W.cell? ⟨s,2,none⟩=some (.slice (some ⟨g,0,none⟩) cs.length cs.length)∧(aM (.pointer (some ⟨b,off+k*27,none⟩))).run Tryz.prog W = .ok (.agg (aB c).toArray) W∧(aM (.pointer (some ⟨b,off+i*27,none⟩))).run Tryz.prog W = .ok (.agg (aB d).toArray) W∧W.cell? ⟨g,k,none⟩=some (.bool (u.testBit k))) ?_ (fun hHeld => ?_)
    ·first | exact Kx.out _ hx1 | exact Kx.out _ hx0
    iterate 14 ((first | refine aJ ?_ | refine np_q ?_ | refine aL 0 ?_);(try simp only[nSO]))
    first | (refine np_s 14 ?_;(try simp only[nSO])) | (refine np_c 14 (fun K hK => ?_);go_simp;((go_at_call 126;refine (bc _).mono ?_;rintro e v9 ⟨rfl,hbc⟩;have hx1:=hx0.trans (hbc.mono hx0.size)));(try go_wp2_with fail);refine hK.out _ _ ?_ (fun hHeld => ?_);(· (first | exact Kx.out _ hx1 | exact Kx.out _ hx0));clear hK K;(try simp only[nSO]))
    iterate 10 ((first | refine aJ ?_ | refine np_q ?_);(try simp only[nSO]))
    refine np_z ?_
    go_wp2
    first
    |have hv:cand (rdyB cs) u i=false:=by unfold cand rdyB;rw[Hd.out,Hno.out (by rw[hx];rfl),Bool.and_false]
     go_returns
     exact⟨by rw[hv];rfl,hx1⟩
    |skip
     go_roundw
     case rel=>exact⟨k+1,by go_num,by omega,hx1,by rw[Hd.out];exact Hstep.out (by rw[hx];rfl)⟩
     case measure=>simp[intOf];omega
  ·have hke:k=cs.length:=by omega
   subst hke
   have q:=((hS.on hB).bit (gQ (u:=u) hi)).1
   have hv:cand (rdyB cs) u i = !u.testBit i:=by
    unfold cand rdyB
    rw[aAk hall,Bool.and_true]
   go_wp2
   go_returns
   exact⟨by rw[hv];rfl,hB⟩
end Go.Proofs.YtdeiocppghhfdaaGreat.Lin
