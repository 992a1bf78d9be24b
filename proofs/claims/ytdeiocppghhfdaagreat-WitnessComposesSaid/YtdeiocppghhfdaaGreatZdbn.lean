/- Texts, one behind another. -/
import Derived.Test.YtdeiocppghhfdaaGreatZdbm
import Derived.WalkMore
import Derived.Scope
set_option linter.unusedVariables false
set_option linter.unusedSimpArgs false
set_option maxRecDepth 100000
set_option maxHeartbeats 8000000
namespace Go.Proofs.YtdeiocppghhfdaaGreat.Lin
open Go.RowKit Go.Lib Go.Shelf
open Hs
open KitI (iv IRow own_below lS)
attribute [local go_sem] Oper.semAt_some
attribute [local go_sem, local simp] Hs.dB Hs.dG Hs.dE Hs.dH Hs.dI Hs.dJ Hs.dK Hs.dL Hs.dM Hs.dF Hs.aR Hs.aW Hs.bB Hs.bC Hs.aS Hs.aV Hs.aY Hs.bD Hs.bE Hs.bF Hs.bG Hs.bH Hs.bI Hs.bJ Hs.bK Hs.aU Hs.aQ Hs.fH Hs.fI Hs.fJ Hs.fK Hs.fM Hs.fO Hs.fP Hs.fQ Hs.fT Hs.fU Hs.dN Hs.dO Hs.dP Hs.dQ Hs.dR Hs.dS Hs.dU Hs.dV Hs.dW Hs.dX Hs.dY Hs.dZ Hs.eB Hs.bL Hs.bM Hs.bN Hs.bO Hs.bP Hs.bQ Hs.bR Hs.bS Hs.bT Hs.bU Hs.bV Hs.bW Hs.bX Hs.bY Hs.bZ Hs.cB Hs.aX Hs.fV Hs.fZ Hs.gB Hs.gD Hs.gF Hs.gG Hs.gH Hs.gI Hs.gJ Hs.gK Hs.eD Hs.eG Hs.eH Hs.aH Hs.aJ
attribute [local go_sem ↓] Hs.aK Hs.aN
attribute [local go_sem] Hs.fF Hs.cK Hs.aP Hs.eO Hs.fD
attribute [local go_sem ↓] sG
def kP (v:Value):Sem Value:=Instr.loadAt 49 v
theorem aAu (v:Value):Instr.loadAt 49 v=kP v:=rfl
attribute [local go_sem ↓] aAu
theorem aOi {W:World} {b:Nat} (c:aA) (h:W.heap[b]? = some (.cells (aB c).toArray 56 (0,0))):(kP (.pointer (some ⟨b,23,none⟩))).run Tryz.prog W = .ok (.agg (itmL c).toArray) W :=
 run_loadAt_mid W b 23 49 (itmL c) _ (fun j v hv=>by
  rw[aM h]
  have hlt:=(List.getElem?_eq_some_iff.1 hv).1
  have:(itmL c)[j]? = (aB c)[23+j]? := by
   rw[show itmL c=(aB c).drop 23 from rfl,List.getElem?_drop]
  rw[← this]
  exact hv) Tryz.underlying49 rfl (by kernel_rfl)
structure FdB (g:Nat) (c:CfgV) (sl:Value) (r:Int) (W:World):Prop where
 cf:W.heap[g]? = some (.cells (cfgL c).toArray 24 (0,0))
 bl:Boxed W (g+1) 25 sl
 br:Boxed W (g+1+1) 3 (.int .i64 r)
theorem FdB.on {g:Nat} {c:CfgV} {sl:Value} {r:Int} {X W:World} (h:FdB g c sl r X) (hb:Below (g+3) X W):FdB g c sl r W :=
 ⟨(hb.block g (by omega)).trans h.cf,(hb.block _ (by omega)).trans h.bl,(hb.block _ (by omega)).trans h.br⟩
theorem aQ5 (w:World) (c:CfgV) (sl:Value) (X:World) (hX:(((w.alloc (.cells (cfgL c).toArray 24)).alloc (.cells #[sl] 25)).alloc (.cells #[.int .i64 0] 3))=X) :
  FdB w.heap.size c sl 0 X∧X.heap.size=w.heap.size+3∧Below w.heap.size w X:=by
 subst hX
 have h0:=iM w (cfgL c) 24
 refine⟨⟨?_,?_,?_⟩,by simp,((((Below.refl _ _).alloc (Nat.le_refl _) _).alloc (by simp) _).alloc (by simp;omega) _)⟩
 ·exact ((((Below.refl _ _).alloc (Nat.le_refl _) _).alloc (by simp) _:Below (w.alloc (.cells (cfgL c).toArray 24)).heap.size (w.alloc (.cells (cfgL c).toArray 24)) _).block _ (by simp)).trans h0
 ·have h:=Boxed.new (w.alloc (.cells (cfgL c).toArray 24)) 25 sl
  rw[World.size_alloc] at h
  exact h.alloc _
 ·have h:=Boxed.new ((w.alloc (.cells (cfgL c).toArray 24)).alloc (.cells #[sl] 25)) 3 (.int .i64 0)
  rw[World.size_alloc,World.size_alloc] at h
  exact h
theorem FdB.set {g:Nat} {c:CfgV} {sl:Value} {r:Int} {W:World} (h:FdB g c sl r W) (r':Int):FdB g c sl r' (W.setCell ⟨g+1+1,0,none⟩ (.int .i64 r')) :=
 ⟨(Below.heap_setCell W ⟨g+1+1,0,none⟩ _ g (by simp;omega)).trans h.cf,h.bl.other (by omega) _,h.br.set _⟩
def FdI (ap:ByteArray→List gN→Option (ByteArray × Int)) (P:Int→Prop) (Y:World) (Bp Bt:Nat) (cl:Int) (cs:List aA) (z:Option Nat) (T:List ByteArray) (N:Nat) (pre:List (InC N)) (W:World):Prop :=
 ∃ pos,P pos∧(∀ rest,fdE ap cs z T 0 (pre.map (·.1)++rest)=fdE ap cs z T pos rest)∧Below Bp Y W∧Boxed W Bp 3 (.int .i64 pos)∧Boxed W Bt 3 (.int .i64 cl)
def FdX (ap:ByteArray→List gN→Option (ByteArray × Int)) (g:Nat) (w:World) (cs:List aA) (z:Option Nat) (T:List ByteArray) (N:Nat) (c:Code) (pre:List (InC N)) (W:World):Prop :=
 c = .exit 0∧∃ i:Nat,(∀ rest,fdE ap cs z T 0 (pre.map (·.1)++rest)=some (some i))∧Below g w W∧Boxed W (g+1+1) 3 (.int .i64 i)
theorem aQ6 (ap:ByteArray→List gN→Option (ByteArray × Int)) (P:Int→Prop) (Y:World) (Bp Bt:Nat) (cl:Int) (cs:List aA) (z:Option Nat) (T:List ByteArray) (N B:Nat) (hB:Bp≤B) (hY:Bp≤Y.heap.size):OwnFrom B (FdI ap P Y Bp Bt cl cs z T N):=by
 rintro pre Z Z' row ⟨pos,h0,h1,h2,h3,h4⟩ hg hr
 exact⟨pos,h0,h1,ownFrom_below (β:=Unit) hY hB () Z Z' row h2 hg hr,(boxed_own (β:=Unit) Bp 3 (fun _ => .int .i64 pos)).from B () Z Z' row h3 hg hr,(boxed_own (β:=Unit) Bt 3 (fun _ => .int .i64 cl)).from B () Z Z' row h4 hg hr⟩
theorem aQ7 (ap:ByteArray→List gN→Option (ByteArray × Int)) (g:Nat) (w:World) (cs:List aA) (z:Option Nat) (T:List ByteArray) (N B:Nat) (hB:g≤B) (hw:g≤w.heap.size) (c:Code):OwnFrom B (FdX ap g w cs z T N c):=by
 rintro pre Z Z' row ⟨hc,i,h1,h2,h3⟩ hg hr
 exact⟨hc,i,h1,ownFrom_below (β:=Unit) hw hB () Z Z' row h2 hg hr,(boxed_own (β:=Unit) (g+1+1) 3 (fun _ => .int .i64 i)).from B () Z Z' row h3 hg hr⟩
theorem aGg {ap:ByteArray→List gN→Option (ByteArray × Int)} {P:Int→Prop} (hap:ApOK ap) (c:CfgV) (cl:Int) (p:Option Addr) (cap:Nat) (cs:List aA) (w:World) (hC:CRow w p cap cs) (hs:cs.length≤1000) (hok:∀ x∈cs,x.Ok) (hd:∀ x∈cs,x.ps.length≤1000000)
  (hDA:∀ y∈cs,DAt w y) (hP0:P 0) (hPs:(aT c cs).2=0→∀ y∈cs,y.okind=14→y.err=0→P y.rev) (hPr:(aT c cs).2=0→∀ pos,P pos→∀ y∈cs,y.okind=15→y.err=0→lK ap y pos (numP y.took cs) (iB c cs)=some false→P y.ito) (hsafe:(aT c cs).2=0→∀ pos,P pos→∀ y∈cs,y.okind=15→y.err=0→lK ap y pos (numP y.took cs) (iB c cs)≠none) :
  Calls Tryz.prog 56 #[c.v,.int .i64 cl,.slice p cs.length cap] w fun e w'=>e = .returned (.tuple #[.int .i64 (pQ ap c cl cs).1,.int .i64 (pQ ap c cl cs).2])∧Below w.heap.size w w':=by
 obtain⟨X,hX⟩:∃ X,(((w.alloc (.cells (cfgL c).toArray 24)).alloc (.cells #[.slice p cs.length cap] 25)).alloc (.cells #[.int .i64 0] 3))=X:=⟨_,rfl⟩
 obtain⟨hSB,hXs,hBX⟩:=aQ5 w c _ X hX
 have lc:=sH hSB.cf
 have hchk:=sI c p cap cs X (hC.on hBX) hs hok hd
 have hV:pQ ap c cl cs=if (aT c cs).2≠0 then aT c cs else if cl<0∨c.clients≤cl then (0,7) else fdR (fdE ap cs (iA cs (effC cs)) (iB c cs) 0 (jJ cl cs 0)):=rfl
 rw[hV]
 clear hV
 refine (callsIn_wide (n:=4)).1 (callsIn_of_wp_marks Tryz.func56 rfl trivial (wpIn_wide.2 ?_) rfl)
 simp only[Tryz.ntmps56,List.size_toArray,List.length_cons,List.length_nil,Nat.reduceAdd,Nat.reduceSub,Array.replicate_succ,Array.replicate_zero,List.push_toArray,List.append_toArray,List.nil_append,List.cons_append]
 have htx:=fun W (hb:Below X.heap.size X W)=>xH c p cap cs W (hC.on (hBX.trans (hb.mono (by omega)))) hs hok hd
 have hef:=fun W (hb:Below X.heap.size X W)=>xS p cap cs W (hC.on (hBX.trans (hb.mono (by omega)))) (by omega) hok
 have Htx:=Lib.hid htx
 have Hef:=Lib.hid hef
 clear htx hef
 have cl0:=hSB.bl.cell
 unfold CfgV.v at *
 by_cases hp0:(aT c cs).2=0
 ·rw[if_neg (by simpa using hp0)]
  replace hPs:=hPs hp0
  replace hPr:=hPr hp0
  replace hsafe:=hsafe hp0
  have d0:((aT c cs).2 != 0)=false:=by simpa using hp0
  obtain⟨hcf,hck,_⟩:=nI hp0
  have hz1:(aT c cs).1=(aT c cs).1:=rfl
  generalize hx1:(aT c cs).1=x1 at hchk
  rw[hp0] at hchk
  clear hx1 hz1
  unfold cfgL at lc hX
  by_cases hcl:cl<0∨c.clients≤cl
  ·rw[if_pos hcl]
   by_cases h0:cl<0
   ·have d1:decide (cl<0)=true:=by simpa using h0
    clear hcl h0
    go_wp2
    go_step3
    go_wp2_with (go_at_call 38;refine hchk.mono ?_;rintro e w1 ⟨rfl,hb1⟩;have hF1:=hSB.on (hXs ▸ hb1);have fr:=hF1.br.frozen;have cr:=hF1.br.cell;have c9:=(hF1.br.set (.int .i64 0)).cell;have cc:=aM hF1.cf 2;have cc2:w1.cell? ⟨w.heap.size,2,none⟩=some (.int .i64 c.clients):=cc;clear cc;have lc1:=sH hF1.cf;unfold cfgL at lc1;have cl1:=hF1.bl.cell)
    exact⟨.tuple #[.int .i64 0,.int .i64 7],by simp[results,Tryz.f56,go_sem,c9],rfl,(hBX.trans (hb1.mono (by omega))).setCell (p:=⟨w.heap.size+1+1,0,none⟩) (by simp;omega) _⟩
   ·have d1:decide (cl<0)=false:=by simpa using h0
    have d2:decide (c.clients≤cl)=true:=by simp;omega
    clear hcl h0
    go_wp2
    go_step3
    go_wp2_with (go_at_call 38;refine hchk.mono ?_;rintro e w1 ⟨rfl,hb1⟩;have hF1:=hSB.on (hXs ▸ hb1);have fr:=hF1.br.frozen;have cr:=hF1.br.cell;have c9:=(hF1.br.set (.int .i64 0)).cell;have cc:=aM hF1.cf 2;have cc2:w1.cell? ⟨w.heap.size,2,none⟩=some (.int .i64 c.clients):=cc;clear cc;have lc1:=sH hF1.cf;unfold cfgL at lc1;have cl1:=hF1.bl.cell)
    exact⟨.tuple #[.int .i64 0,.int .i64 7],by simp[results,Tryz.f56,go_sem,c9],rfl,(hBX.trans (hb1.mono (by omega))).setCell (p:=⟨w.heap.size+1+1,0,none⟩) (by simp;omega) _⟩
  ·rw[if_neg hcl]
   have d1:decide (cl<0)=false:=by simp;omega
   have d2:decide (c.clients≤cl)=false:=by simp;omega
   clear hcl
   have htx2:∀ W,Below X.heap.size X W→Calls Tryz.prog 42 #[.agg #[.int .i64 c.slots,.int .u64 c.gens,.int .i64 c.clients,.int .i64 c.readers,.int .i64 c.queue,.int .i64 c.batch,.int .i64 c.feed,.string c.text],.slice p cs.length cap] W fun e w'=>∃ ao qo,e = .returned (.tuple #[.slice ao (iB c cs).length qo,.int .i64 0])∧w'.ownsRow W.heap.size tStr 1 (.slice ao (iB c cs).length qo) (iB c cs).length ((iB c cs).map Value.string)∧(iB c cs).length≤qo∧Below W.heap.size W w':=fun W hW=>(Htx.out W hW).mono (by
    rintro e w' (⟨h,_⟩ | ⟨_,v,rfl,hT,hb⟩)
    ·exact absurd hp0 h
    ·obtain⟨ao,qo,rfl⟩:=aF hT
     refine⟨ao,qo,rfl,hT,?_,hb⟩
     rcases hT.2 with⟨h,h2⟩ | ⟨g,cp,cur,h,_,_,h3,_⟩
     ·injection h with _ h _;omega
     ·injection h with _ h h';omega)
   have hef2:∀ W,Below X.heap.size X W→Calls Tryz.prog 54 #[.slice p cs.length cap] W fun e w'=>∃ ao qo,e = .returned (.tuple #[.slice ao (effC cs).length qo,.int .i64 0])∧IRd w' ao ((effC cs).map fun (x:Nat)=>(x:Int))∧(∀ i∈effC cs,i<cs.length)∧(effC cs).length≤1000∧Below W.heap.size W w':=fun W hW=>(Hef.out W hW).mono (by
    rintro e w' (⟨h,_⟩ | ⟨_,v,E,hE,rfl,hO,hb⟩)
    ·rw[hck] at h;cases h
    ·obtain⟨ao,qo,rfl⟩:=aF hO
     rw[mK hE]
     exact⟨ao,qo,rfl,IRd.of (tO hO rfl),fun i hi=>((sF hE).1 hi).1,by have:=yQ hE;omega,hb⟩)
   have Htx2:=Lib.hid htx2
   have Hef2:=Lib.hid hef2
   clear htx2 hef2 Htx Hef
   generalize iB c cs=T at *
   generalize effC cs=E at *
   go_wp2
   go_step3
   go_wp2_with (first | (go_at_call 38;refine hchk.mono ?_;rintro e w1 ⟨rfl,hb1⟩;have hF1:=hSB.on (hXs ▸ hb1);have fr:=hF1.br.frozen;have cr:=hF1.br.cell;have c9:=(hF1.br.set (.int .i64 0)).cell;have cc:=aM hF1.cf 2;have cc2:w1.cell? ⟨w.heap.size,2,none⟩=some (.int .i64 c.clients):=cc;clear cc;have lc1:=sH hF1.cf;unfold cfgL at lc1;have cl1:=hF1.bl.cell) |
    (go_at_call 42;refine (Htx2.out _ hb1).mono ?_;rintro e w2 ⟨ao,qo,rfl,hT,hq,hb2⟩;have hb2X:=hb1.trans (hb2.mono hb1.size);have hb3X:=hb2X.alloc hb2X.size (.cells #[.slice ao T.length qo] 68);have hF3:=hSB.on (hXs ▸ hb3X);have cl3:=hF3.bl.cell) |
    (go_at_call 54;refine (Hef2.out _ hb3X).mono ?_;rintro e w4 ⟨ae,qe,rfl,hI,hEi,hEl,hb4⟩;have hb4X:=hb3X.trans (hb4.mono hb3X.size);have hF4:=hSB.on (hXs ▸ hb4X);have cl4:=hF4.bl.cell) |
    (go_at_call 77;refine (xY ae p qe cap E cs _ hI (hC.on (hBX.trans (hb4X.mono (by omega)))) hEi (by omega) (by omega)).mono ?_;rintro e w5 ⟨rfl,hb5⟩;have hb5X:=hb4X.trans (hb5.mono hb4X.size);have hb7X:=(hb5X.alloc hb5X.size (.cells #[.int .i64 (clI (iA cs E))] 3)).alloc (by have:=hb5X.size;simp;omega) (.cells #[.int .i64 0] 3);have hF7:=hSB.on (hXs ▸ hb7X);have fr7:=hF7.br.frozen;have cr7:=hF7.br.cell;have hF8:=hF7.set (-1);have cl8:=hF8.bl.cell))
   go_step3
   go_wp2_with (go_at_call 107;refine (aJd _ _ _ _ _).mono ?_;rintro e w6 ⟨rfl,rfl⟩)
   have hx3:=Boxed.new w2 68 (.slice ao T.length qo)
   have hx5:Boxed w5 w2.heap.size 68 (.slice ao T.length qo):=(hb5.block _ (by have:=hb4.size;simp at this;omega)).trans ((hb4.block _ (by simp)).trans hx3)
   have hle1:=hb1.size
   have hle2:=hb2.size
   have hle4:=hb4.size
   have hle5:=hb5.size
   rw[World.size_alloc] at hle4
   rw[hXs] at hle1
   have hT5:=own_below (own_below (own_below hT ((Below.refl w2.heap.size w2).alloc (Nat.le_refl _) (.cells #[.slice ao T.length qo] 68))) hb4) hb5
   have hz6:=Boxed.new w5 3 (.int .i64 (clI (iA cs E)))
   have hp6:=Boxed.new (w5.alloc (.cells #[.int .i64 (clI (iA cs E))] 3)) 3 (.int .i64 0)
   rw[World.size_alloc] at hp6
   have hx8:=((hx5.alloc (.cells #[.int .i64 (clI (iA cs E))] 3)).alloc (.cells #[.int .i64 0] 3)).other (B':=w.heap.size+1+1) (by omega) (.int .i64 (-1))
   have hz8:=(hz6.alloc (.cells #[.int .i64 0] 3)).other (B':=w.heap.size+1+1) (by omega) (.int .i64 (-1))
   have hp8:=hp6.other (B':=w.heap.size+1+1) (by omega) (.int .i64 (-1))
   have hT5':SRd (w.heap.size+3) w5.heap.size w5 ao T:=by
    have h9:=SRd.of_own hT5
    rcases h9 with h9 | ⟨b9,o9,g1,g2,g3,g4⟩
    ·exact .inl h9
    ·exact .inr ⟨b9,o9,g1,by omega,g3,g4⟩
   have hT8:=((hT5'.on ((Below.refl w5.heap.size w5).alloc (Nat.le_refl _) (.cells #[.int .i64 (clI (iA cs E))] 3))).on ((Below.refl w5.heap.size _).alloc (by simp) (.cells #[.int .i64 0] 3))).set (B:=w.heap.size+1+1) (by omega) (.int .i64 (-1))
   have hB8:=(hBX.trans (hb7X.mono (by omega))).setCell (p:=⟨w.heap.size+1+1,0,none⟩) (by simp;omega) (.int .i64 (-1))
   have hs8:((((w5.alloc (.cells #[.int .i64 (clI (iA cs E))] 3)).alloc (.cells #[.int .i64 0] 3)).setCell ⟨w.heap.size+1+1,0,none⟩ (.int .i64 (-1)))).heap.size=w5.heap.size+2:=by simp[World.setCell]
   clear hx3 hx5 hT5 hT5' hT hz6 hp6 hF3 hF4 cl3 cl4 hF7 fr7 cr7 cl8 hb7X hF1 fr cr c9 cc2 lc1 cl1 lc cl0
   generalize (((w5.alloc (.cells #[.int .i64 (clI (iA cs E))] 3)).alloc (.cells #[.int .i64 0] 3)).setCell ⟨w.heap.size+1+1,0,none⟩ (.int .i64 (-1)))=Z at *
   generalize hzz:iA cs E=z at *
   have Hz:=Lib.hid hzz
   have hzl:∀ z',z=some z'→z'<cs.length:=fun z' h=>hEi z' (List.mem_of_find?_eq_some (show iA cs E=some z' from hzz.trans h))
   clear hzz hI hEi hEl Htx2 Hef2
   have hbt:=(Boxed.new Z 3 (.int .i64 cl)).alloc (.cells #[.slice p cs.length cap] 25)
   have hbl:=Boxed.new (Z.alloc (.cells #[.int .i64 cl] 3)) 25 (.slice p cs.length cap)
   rw[World.size_alloc] at hbl
   have hYb:Below Z.heap.size Z ((Z.alloc (.cells #[.int .i64 cl] 3)).alloc (.cells #[.slice p cs.length cap] 25)):=vE _ _ _
   have hYs:((Z.alloc (.cells #[.int .i64 cl] 3)).alloc (.cells #[.slice p cs.length cap] 25)).heap.size=w5.heap.size+4:=by simp[hs8]
   have hFY:=hF8.on (hYb.mono (by omega))
   have hTY:SRd (w.heap.size+3) w5.heap.size ((Z.alloc (.cells #[.int .i64 cl] 3)).alloc (.cells #[.slice p cs.length cap] 25)) ao T:=hT8.on (hYb.mono (by omega))
   have hxY:=(hx8.alloc (.cells #[.int .i64 cl] 3)).alloc (.cells #[.slice p cs.length cap] 25)
   have hzY:=(hz8.alloc (.cells #[.int .i64 cl] 3)).alloc (.cells #[.slice p cs.length cap] 25)
   have hpY:=(hp8.alloc (.cells #[.int .i64 cl] 3)).alloc (.cells #[.slice p cs.length cap] 25)
   have hBY:=hB8.trans (hYb.mono (by have:=hB8.size;omega))
   rw[hs8] at hbt hbl
   clear hF8 hT8 hx8 hz8 hp8 hYb hb5X hb4X hb3X hb2X hX hb1 hb2 hb4 hb5 hchk
   (try rw[hs8])
   generalize ((Z.alloc (.cells #[.int .i64 cl] 3)).alloc (.cells #[.slice p cs.length cap] 25))=Y at *
   generalize w5.heap.size=B5 at *
   generalize w2.heap.size=B2 at *
   have hCY:CRow Y p cap cs:=hC.on hBY
   have hDY:∀ y∈cs,DAt Y y:=fun y hy=>(hDA y hy).on hBY
   refine (wpIn_wide (n:=4)).1 ?_
   refine wpIn_rangeFunc_ownF rfl (by omega) (gf:=158) (lb := #[.pointer (some ⟨B5+1+1+1,0,none⟩),.pointer (some ⟨B5+1+1,0,none⟩)]) rfl trivial (enters_of Tryz.func158 (by kernel_rfl) rfl)
    (yB cs.length 3 (by omega) _ _ cap (fun i=>i<B5+1∨i=B5+2) p cs rfl cl (by omega) Y hbl.cell hbt.cell hCY (by intro i hi;omega) (by omega) (by omega) (by
     intro b' o' e
     rcases hC with⟨h,_⟩ | ⟨b,off,h,_,h3,_⟩
     ·rw[h] at e;cases e
     ·rw[h] at e;cases e;have:=hB8.size;omega))
    gL.trans (zC (by intro i hi;omega)) (Below.refl _ _) (fun _=>rfl)
    (FdI ap P Y (B5+1) (B5+2) cl cs z T cs.length) (FdX ap w.heap.size w cs z T cs.length) (aQ6 _ _ _ _ _ _ _ _ _ _ _ (by omega) (by omega)) (aQ7 _ _ _ _ _ _ _ _ (by omega) (by omega)) ⟨0,hP0,fun _=>rfl,Below.refl _ _,hpY,hbt⟩ ?a1 ?assign ?body ?done ?stop
   case assign =>
    intro l x W K hK
    gi_wp2
    exact hK
   case body =>
    rintro l pre i W ⟨pos,hpos,hE,hBW,hBp,hBt⟩ hlen
    have hyc:=gM i.2
    have hym:=List.mem_of_getElem? hyc
    have hlt:=i.2
    obtain⟨b,off,rfl,hcap,hb,hA⟩:=qF (hC.on (hBY.trans (hBW.mono (by omega)))) (by omega)
    have hld:=hA.load hyc
    have hFW:=hFY.on (hBW.mono (by omega))
    have clw:=hFW.bl.cell
    have cpw:=hBp.cell
    have fpw:=hBp.frozen
    have hEx:∀ rest,fdE ap cs z T 0 ((pre++[i]).map (·.1)++rest)=fdE ap cs z T pos (i.1::rest):=fun rest=>by
     rw[List.map_append,List.append_assoc,hE];rfl
    have hE1:∀ rest,fdE ap cs z T pos (i.1::rest)=match fdS ap cs z T pos (getC cs i.1) with | .on pos'=>fdE ap cs z T pos' rest | .stop=>some (some i.1) | .open_=>none:=fun _=>rfl
    have hq:∀ j,(j<B5+1∨j=B5+2)→j<W.heap.size:=by have h8:=hBt.lt;have h9:=hBp.lt;intro j hj;omega
    have hBa:Below W.heap.size W (W.alloc (.cells (aB (getC cs i.1)).toArray 56)):=(Below.refl _ _).alloc (Nat.le_refl _) _
    have hz0:=iM W (aB (getC cs i.1)) 56
    have hS1:fdS ap cs z T pos (getC cs i.1)=if (getC cs i.1).okind=14 then .on (if (getC cs i.1).err=0 then (getC cs i.1).rev else pos) else if (getC cs i.1).okind=15 then (if aJi cs z (getC cs i.1) then .stop else if (getC cs i.1).err=0 then (match lK ap (getC cs i.1) pos (numP (getC cs i.1).took cs) T with | none => .open_ | some true => .stop | some false => .on (getC cs i.1).ito) else .on pos) else .on pos:=rfl
    generalize getC cs i.1=y at *
    have HEx:=Lib.hid hEx
    have HE1:=Lib.hid hE1
    clear hEx hE1 hE
    have hBp1:=hBp.alloc (.cells (aB y).toArray 56)
    have cp1:=hBp1.cell
    have fp1:=hBp1.frozen
    by_cases s1:y.okind=14
    ·have e1:(y.okind == 14)=true:=by simpa using s1
     rw[if_pos s1] at hS1
     by_cases s2:y.err=0
     ·have e2:(y.err == 0)=true:=by simpa using s2
      rw[if_pos s2] at hS1
      have hP1:=hPs y hym s1 s2
      clear s1 s2
      gi_wp2
      exact⟨(KeepsOthers.alloc W _).trans (KeepsOthers.setCell _ _ _),(gL.alloc hq _).trans (gL.set (p:=⟨B5+1,0,none⟩) (by simp) _),y.rev,hP1,fun rest=>by rw[HEx.out,HE1.out,hS1],(hBW.trans (hBa.mono (by have:=hBp.lt;omega))).setCell (p:=⟨B5+1,0,none⟩) (Nat.le_refl _) _,hBp1.set _,(hBt.alloc _).other (by omega) _⟩
     ·have e2:(y.err == 0)=false:=by simpa using s2
      rw[if_neg s2] at hS1
      clear s1 s2
      gi_wp2
      exact⟨KeepsOthers.alloc W _,gL.alloc hq _,pos,hpos,fun rest=>by rw[HEx.out,HE1.out,hS1],hBW.trans (hBa.mono (by have:=hBp.lt;omega)),hBp.alloc _,hBt.alloc _⟩
    ·have e1:(y.okind == 14)=false:=by simpa using s1
     rw[if_neg s1] at hS1
     by_cases s2:y.okind=15
     ·have e2:(y.okind == 15)=true:=by simpa using s2
      rw[if_pos s2] at hS1
      have h15:=s2
      clear s1 s2
      have hlw:∀ W',Below (W.heap.size+1) (W.alloc (.cells (aB y).toArray 56)) W'→W'.cell? ⟨B5,0,none⟩=some (.int .i64 (clI z))∧W'.cell? ⟨W.heap.size,9,none⟩=some (.int .i64 y.invoked)∧W'.cell? ⟨w.heap.size+1,0,none⟩=some (.slice (some ⟨b,off,none⟩) cs.length cap)∧W'.cell? ⟨W.heap.size,14,none⟩=some (.int .i64 y.err)∧(kP (.pointer (some ⟨W.heap.size,23,none⟩))).run Tryz.prog W' = .ok (.agg (itmL y).toArray) W'∧W'.cell? ⟨B5+1,0,none⟩=some (.int .i64 pos)∧W'.cell? ⟨W.heap.size,10,none⟩=some (.int .i64 y.took)∧W'.cell? ⟨B2,0,none⟩=some (.slice ao T.length qo)∧Below W.heap.size W W':=fun W' hW'=>by
       have hx2:=gU hz0 hW' (by omega)
       have hWW:Below W.heap.size W W':=hBa.trans (hW'.mono (by omega))
       have hz9:Boxed W' B5 3 (.int .i64 (clI z)):=(hWW.block _ (by have:=hBp.lt;omega)).trans ((hBW.block _ (by omega)).trans hzY)
       have hl9:Boxed W' (w.heap.size+1) 25 (.slice (some ⟨b,off,none⟩) cs.length cap):=(hWW.block _ hFW.bl.lt).trans hFW.bl
       have hp9:Boxed W' (B5+1) 3 (.int .i64 pos):=(hWW.block _ hBp.lt).trans hBp
       have hx9:Boxed W' B2 68 (.slice ao T.length qo):=(hWW.block _ (by have:=hBp.lt;omega)).trans ((hBW.block _ (by omega)).trans hxY)
       exact⟨hz9.cell,(aM hx2 9).trans (dF y),hl9.cell,(aM hx2 14).trans (aS y),aOi y hx2,hp9.cell,(aM hx2 10).trans (aR y),hx9.cell,hWW⟩
      have hzi:z=none∧clI z = -1∨∃ zz,z=some zz∧clI z=(zz:Int):=by cases z with | none=>exact .inl ⟨rfl,rfl⟩ | some zz=>exact .inr ⟨zz,rfl,rfl⟩
      generalize clI z=zi at *
      have hN:∀ W',Below (W.heap.size+1) (W.alloc (.cells (aB y).toArray 56)) W'→W'.cell? ⟨B5,0,none⟩=some (.int .i64 zi)∧W'.cell? ⟨W.heap.size,9,none⟩=some (.int .i64 y.invoked)∧W'.cell? ⟨w.heap.size+1,0,none⟩=some (.slice (some ⟨b,off,none⟩) cs.length cap)∧W'.cell? ⟨W.heap.size,14,none⟩=some (.int .i64 y.err):=fun W' hW'=>⟨(hlw W' hW').1,(hlw W' hW').2.1,(hlw W' hW').2.2.1,(hlw W' hW').2.2.2.1⟩
      have hM:∀ W',Below (W.heap.size+1) (W.alloc (.cells (aB y).toArray 56)) W' →  W'.cell? ⟨W.heap.size,14,none⟩=some (.int .i64 y.err)∧(kP (.pointer (some ⟨W.heap.size,23,none⟩))).run Tryz.prog W' = .ok (.agg (itmL y).toArray) W'∧W'.cell? ⟨B5+1,0,none⟩=some (.int .i64 pos)∧W'.cell? ⟨W.heap.size,10,none⟩=some (.int .i64 y.took)∧W'.cell? ⟨w.heap.size+1,0,none⟩=some (.slice (some ⟨b,off,none⟩) cs.length cap)∧W'.cell? ⟨B2,0,none⟩=some (.slice ao T.length qo):=fun W' hW'=>⟨(hlw W' hW').2.2.2.1,(hlw W' hW').2.2.2.2.1,(hlw W' hW').2.2.2.2.2.1,(hlw W' hW').2.2.2.2.2.2.1,(hlw W' hW').2.2.1,(hlw W' hW').2.2.2.2.2.2.2.1⟩
      have hbd:Below (W.heap.size+1) (W.alloc (.cells (aB y).toArray 56)) (W.alloc (.cells (aB y).toArray 56)).drew:=(Below.refl _ _).drew
      rcases hzi with⟨rfl,hzi⟩ | ⟨zz,rfl,hzi⟩
      ·have q0:decide (0≤zi)=false:=by rw[hzi];rfl
       have hl:aJi cs none y=false:=rfl
       rw[if_neg (by rw[hl];simp)] at hS1
       clear hl hzi
       by_cases s2:y.err=0
       ·have e2:(y.err == 0)=true:=by simpa using s2
        rw[if_pos s2] at hS1
        obtain⟨B,hB⟩:=Option.ne_none_iff_exists'.1 (hsafe pos hpos y hym h15 s2)
        rw[hB] at hS1
        have hPi:B=false→P y.ito:=fun e=>hPr pos hpos y hym h15 s2 (by rw[hB,e])
        clear s2
        have hBw:Below w.heap.size w W:=hBY.trans (hBW.mono (by omega))
        have hnum:∀ W',Below (W.heap.size+1) (W.alloc (.cells (aB y).toArray 56)) W'→Calls Tryz.prog 109 #[.int .i64 y.took,.slice (some ⟨b,off,none⟩) cs.length cap] W' fun e w'=>e = .returned (.int .i64 (numP y.took cs))∧Below W'.heap.size W' w':=fun W' hW'=>aAr y.took (some ⟨b,off,none⟩) cap cs W' (hC.on (hBw.trans ((hlw W' hW').2.2.2.2.2.2.2.2.mono hBw.size))) (by omega)
        have hwr:∀ W',Below (W.heap.size+1) (W.alloc (.cells (aB y).toArray 56)) W'→Calls Tryz.prog 108 #[.agg (itmL y).toArray,.int .i64 pos,.int .i64 (numP y.took cs),.slice ao T.length qo] W' fun e w'=>e = .returned (.bool B)∧Below W'.heap.size W' w':=fun W' hW'=>by
         have h9:=(hlw W' hW').2.2.2.2.2.2.2.2
         have h8:=hBp.lt
         exact aCh hap y pos (numP y.took cs) ao qo T B W' ((hTY.on (hBW.mono (by omega))).on (h9.mono (by omega))) (by have:=h9.size;omega) (by omega) ((hDA y hym).on (hBw.trans (h9.mono hBw.size))) hB
        gi_wp2_with fail
        refine dC (S:=fun W'=>W'.cell? ⟨B5,0,none⟩=some (.int .i64 zi)∧W'.cell? ⟨W.heap.size,9,none⟩=some (.int .i64 y.invoked)∧W'.cell? ⟨w.heap.size+1,0,none⟩=some (.slice (some ⟨b,off,none⟩) cs.length cap)∧W'.cell? ⟨W.heap.size,14,none⟩=some (.int .i64 y.err)) (by kernel_rfl) (by kernel_rfl) (fun _ _ h=>h) (fun _ _ _ h=>h) (hN _ (Below.refl _ _).drew) (fun hHeld => ?_)
        iterate 25 (first | (refine aL ?_;(try simp only[nSO])) | ((first | refine np_n ?_ ?_ ?_ | refine np_t 0 ?_ ?_ ?_);rotate_left 1;(· (intro w hSw;(try dsimp only at hSw);go_simp;all_goals with_reducible rfl));(try simp only[nSO])))
        refine wpAnyH_done (by kernel_rfl) ?_ _
        refine NoPanic.normal ?_
        cases B with
        | true =>
         gi_wp2_with fail
         refine dC (S:=fun W'=>W'.cell? ⟨W.heap.size,14,none⟩=some (.int .i64 y.err)∧(kP (.pointer (some ⟨W.heap.size,23,none⟩))).run Tryz.prog W' = .ok (.agg (itmL y).toArray) W'∧W'.cell? ⟨B5+1,0,none⟩=some (.int .i64 pos)∧W'.cell? ⟨W.heap.size,10,none⟩=some (.int .i64 y.took)∧W'.cell? ⟨w.heap.size+1,0,none⟩=some (.slice (some ⟨b,off,none⟩) cs.length cap)∧W'.cell? ⟨B2,0,none⟩=some (.slice ao T.length qo)) (by kernel_rfl) (by kernel_rfl) (fun _ _ h=>h) (fun _ _ _ h=>h) (hM _ hbd.drew) (fun hHeld => ?_)
         iterate 14 (first | (refine aL ?_;(try simp only[nSO])) | ((first | refine np_n ?_ ?_ ?_ | refine np_t 0 ?_ ?_ ?_);rotate_left 1;(· (intro w hSw;(try dsimp only at hSw);go_simp;all_goals with_reducible rfl));(try simp only[nSO])))
         first | (refine np_s 15 ?_;(try simp only[nSO])) | (refine np_t 15 ?_ ?_ ?_;rotate_left 1;(· (intro w hSw;(try dsimp only at hSw);go_simp;all_goals with_reducible rfl));(try simp only[nSO]))
         first | (refine np_s 14 ?_;(try simp only[nSO])) | (refine aD (i:=14) rfl (by kernel_rfl) (fun K hK => ?_);rw[if_pos (by rfl)];go_simp;((go_at_call 109;refine (hnum _ hbd.drew).mono ?_;rintro e w7 ⟨rfl,hb7'⟩;have hb7:=hbd.drew.trans (hb7'.mono (by simp))));(try go_wp2_with fail);refine hK.out _ _ ?_ (fun hHeld => ?_);(· (first | exact hM _ hbd.drew | exact hM _ hb7 | exact hM _ hb8));clear hK K;(try simp only[nSO]))
         first | (refine np_s 16 ?_;(try simp only[nSO])) | (refine aD (i:=16) rfl (by kernel_rfl) (fun K hK => ?_);rw[if_pos (by rfl)];go_simp;((go_at_call 108;refine (hwr _ hb7).mono ?_;rintro e w8 ⟨rfl,hb8'⟩;have hb8:=hb7.trans (hb8'.mono (by have:=hb7.size;simp at this;omega));have hWW8:=(hlw _ hb8).2.2.2.2.2.2.2.2;have hr8:Boxed w8 (w.heap.size+1+1) 3 (.int .i64 (-1)):=(hWW8.block _ hFW.br.lt).trans hFW.br;have cr8:=hr8.cell;have fr8:=hr8.frozen;have hp8:Boxed w8 (B5+1) 3 (.int .i64 pos):=(hWW8.block _ hBp.lt).trans hBp;have cp8:=hp8.cell;have fp8:=hp8.frozen;have ci8:=(aM (gU hz0 hb8 (by omega)) 25).trans (aU y);have ce8:=(hlw _ hb8).2.2.2.1));(try go_wp2_with fail);refine hK.out _ _ ?_ (fun hHeld => ?_);(· (first | exact hM _ hbd.drew | exact hM _ hb7 | exact hM _ hb8));clear hK K;(try simp only[nSO]))
         iterate 2 (first | (refine aL ?_;(try simp only[nSO])) | (refine np_n ?_ ?_ ?_;rotate_left 1;(· (intro w hSw;(try dsimp only at hSw);go_simp;all_goals with_reducible rfl));(try simp only[nSO])))
         refine wpAnyH_done (by kernel_rfl) ?_ _
         refine NoPanic.normal ?_
         gi_wp2_with fail
         exact⟨(gZ hWW8).trans (KeepsOthers.setCell _ _ _),rfl,i.1,fun rest=>by rw[HEx.out,HE1.out,hS1],(hBw.trans (hWW8.mono hBw.size)).setCell (p:=⟨w.heap.size+1+1,0,none⟩) (by simp;omega) _,hr8.set _⟩
        | false =>
         gi_wp2_with fail
         refine dC (S:=fun W'=>W'.cell? ⟨W.heap.size,14,none⟩=some (.int .i64 y.err)∧(kP (.pointer (some ⟨W.heap.size,23,none⟩))).run Tryz.prog W' = .ok (.agg (itmL y).toArray) W'∧W'.cell? ⟨B5+1,0,none⟩=some (.int .i64 pos)∧W'.cell? ⟨W.heap.size,10,none⟩=some (.int .i64 y.took)∧W'.cell? ⟨w.heap.size+1,0,none⟩=some (.slice (some ⟨b,off,none⟩) cs.length cap)∧W'.cell? ⟨B2,0,none⟩=some (.slice ao T.length qo)) (by kernel_rfl) (by kernel_rfl) (fun _ _ h=>h) (fun _ _ _ h=>h) (hM _ hbd.drew) (fun hHeld => ?_)
         iterate 14 (first | (refine aL ?_;(try simp only[nSO])) | ((first | refine np_n ?_ ?_ ?_ | refine np_t 0 ?_ ?_ ?_);rotate_left 1;(· (intro w hSw;(try dsimp only at hSw);go_simp;all_goals with_reducible rfl));(try simp only[nSO])))
         first | (refine np_s 15 ?_;(try simp only[nSO])) | (refine np_t 15 ?_ ?_ ?_;rotate_left 1;(· (intro w hSw;(try dsimp only at hSw);go_simp;all_goals with_reducible rfl));(try simp only[nSO]))
         first | (refine np_s 14 ?_;(try simp only[nSO])) | (refine aD (i:=14) rfl (by kernel_rfl) (fun K hK => ?_);rw[if_pos (by rfl)];go_simp;((go_at_call 109;refine (hnum _ hbd.drew).mono ?_;rintro e w7 ⟨rfl,hb7'⟩;have hb7:=hbd.drew.trans (hb7'.mono (by simp))));(try go_wp2_with fail);refine hK.out _ _ ?_ (fun hHeld => ?_);(· (first | exact hM _ hbd.drew | exact hM _ hb7 | exact hM _ hb8));clear hK K;(try simp only[nSO]))
         first | (refine np_s 16 ?_;(try simp only[nSO])) | (refine aD (i:=16) rfl (by kernel_rfl) (fun K hK => ?_);rw[if_pos (by rfl)];go_simp;((go_at_call 108;refine (hwr _ hb7).mono ?_;rintro e w8 ⟨rfl,hb8'⟩;have hb8:=hb7.trans (hb8'.mono (by have:=hb7.size;simp at this;omega));have hWW8:=(hlw _ hb8).2.2.2.2.2.2.2.2;have hr8:Boxed w8 (w.heap.size+1+1) 3 (.int .i64 (-1)):=(hWW8.block _ hFW.br.lt).trans hFW.br;have cr8:=hr8.cell;have fr8:=hr8.frozen;have hp8:Boxed w8 (B5+1) 3 (.int .i64 pos):=(hWW8.block _ hBp.lt).trans hBp;have cp8:=hp8.cell;have fp8:=hp8.frozen;have ci8:=(aM (gU hz0 hb8 (by omega)) 25).trans (aU y);have ce8:=(hlw _ hb8).2.2.2.1));(try go_wp2_with fail);refine hK.out _ _ ?_ (fun hHeld => ?_);(· (first | exact hM _ hbd.drew | exact hM _ hb7 | exact hM _ hb8));clear hK K;(try simp only[nSO]))
         iterate 2 (first | (refine aL ?_;(try simp only[nSO])) | (refine np_n ?_ ?_ ?_;rotate_left 1;(· (intro w hSw;(try dsimp only at hSw);go_simp;all_goals with_reducible rfl));(try simp only[nSO])))
         refine wpAnyH_done (by kernel_rfl) ?_ _
         refine NoPanic.normal ?_
         gi_wp2_with fail
         exact⟨(gZ hWW8).trans (KeepsOthers.setCell _ _ _),(gL.of_below hWW8 hq).trans (gL.set (p:=⟨B5+1,0,none⟩) (by simp) _),y.ito,hPi (by trivial),fun rest=>by rw[HEx.out,HE1.out,hS1],(hBW.trans (hWW8.mono (by have:=hBp.lt;omega))).setCell (p:=⟨B5+1,0,none⟩) (Nat.le_refl _) _,hp8.set _,(show Boxed w8 (B5+2) 3 (.int .i64 cl) from (hWW8.block _ hBt.lt).trans hBt).other (by omega) _⟩
       ·have e2:(y.err == 0)=false:=by simpa using s2
        rw[if_neg s2] at hS1
        clear s2
        gi_wp2_with fail
        refine dC (S:=fun W'=>W'.cell? ⟨B5,0,none⟩=some (.int .i64 zi)∧W'.cell? ⟨W.heap.size,9,none⟩=some (.int .i64 y.invoked)∧W'.cell? ⟨w.heap.size+1,0,none⟩=some (.slice (some ⟨b,off,none⟩) cs.length cap)∧W'.cell? ⟨W.heap.size,14,none⟩=some (.int .i64 y.err)) (by kernel_rfl) (by kernel_rfl) (fun _ _ h=>h) (fun _ _ _ h=>h) (hN _ (Below.refl _ _).drew) (fun hHeld => ?_)
        iterate 25 (first | (refine aL ?_;(try simp only[nSO])) | ((first | refine np_n ?_ ?_ ?_ | refine np_t 0 ?_ ?_ ?_);rotate_left 1;(· (intro w hSw;(try dsimp only at hSw);go_simp;all_goals with_reducible rfl));(try simp only[nSO])))
        refine wpAnyH_done (by kernel_rfl) ?_ _
        refine NoPanic.normal ?_
        gi_wp2_with fail
        refine dC (S:=fun W'=>W'.cell? ⟨W.heap.size,14,none⟩=some (.int .i64 y.err)∧(kP (.pointer (some ⟨W.heap.size,23,none⟩))).run Tryz.prog W' = .ok (.agg (itmL y).toArray) W'∧W'.cell? ⟨B5+1,0,none⟩=some (.int .i64 pos)∧W'.cell? ⟨W.heap.size,10,none⟩=some (.int .i64 y.took)∧W'.cell? ⟨w.heap.size+1,0,none⟩=some (.slice (some ⟨b,off,none⟩) cs.length cap)∧W'.cell? ⟨B2,0,none⟩=some (.slice ao T.length qo)) (by kernel_rfl) (by kernel_rfl) (fun _ _ h=>h) (fun _ _ _ h=>h) (hM _ hbd.drew) (fun hHeld => ?_)
        iterate 14 (first | (refine aL ?_;(try simp only[nSO])) | ((first | refine np_n ?_ ?_ ?_ | refine np_t 0 ?_ ?_ ?_);rotate_left 1;(· (intro w hSw;(try dsimp only at hSw);go_simp;all_goals with_reducible rfl));(try simp only[nSO])))
        first | (refine np_s 14 ?_;(try simp only[nSO])) | (refine aD (i:=14) rfl (by kernel_rfl) (fun K hK => ?_);rw[if_pos (by rfl)];go_simp;(fail);(try go_wp2_with fail);refine hK.out _ _ ?_ (fun hHeld => ?_);(· (exact hM _ hbd.drew));clear hK K;(try simp only[nSO]))
        first | (refine aL ?_;(try simp only[nSO])) | (refine np_n ?_ ?_ ?_;rotate_left 1;(· (intro w hSw;(try dsimp only at hSw);go_simp;all_goals with_reducible rfl));(try simp only[nSO]))
        first | (refine np_s 16 ?_;(try simp only[nSO])) | (refine aD (i:=16) rfl (by kernel_rfl) (fun K hK => ?_);rw[if_pos (by rfl)];go_simp;(fail);(try go_wp2_with fail);refine hK.out _ _ ?_ (fun hHeld => ?_);(· (exact hM _ hbd.drew));clear hK K;(try simp only[nSO]))
        iterate 2 (first | (refine aL ?_;(try simp only[nSO])) | (refine np_n ?_ ?_ ?_;rotate_left 1;(· (intro w hSw;(try dsimp only at hSw);go_simp;all_goals with_reducible rfl));(try simp only[nSO])))
        refine wpAnyH_done (by kernel_rfl) ?_ _
        refine NoPanic.normal ?_
        gi_wp2_with fail
        have hWW:Below W.heap.size W _:=hBa.trans (hbd.drew.mono (by omega))
        exact⟨gZ hWW,gL.of_below hWW hq,pos,hpos,fun rest=>by rw[HEx.out,HE1.out,hS1],hBW.trans (hWW.mono (by have:=hBp.lt;omega)),(hWW.block _ hBp.lt).trans hBp,(hWW.block _ hBt.lt).trans hBt⟩
      ·have hzz:=hzl zz rfl
       have q0:decide (0≤zi)=true:=by rw[hzi];simp
       have q1:0≤zi:=by omega
       have q2:zi<(cs.length:Int):=by omega
       have hzt:zi.toNat=zz:=by omega
       have hl:aJi cs (some zz) y=(decide ((getC cs zz).took<y.invoked) && (decide (y.err=0) || decide (y.err=17))):=rfl
       have hQ:∀ W',Below (W.heap.size+1) (W.alloc (.cells (aB y).toArray 56)) W'→W'.cell? ⟨B5,0,none⟩=some (.int .i64 zi)∧W'.cell? ⟨W.heap.size,9,none⟩=some (.int .i64 y.invoked)∧W'.cell? ⟨w.heap.size+1,0,none⟩=some (.slice (some ⟨b,off,none⟩) cs.length cap)∧W'.cell? ⟨W.heap.size,14,none⟩=some (.int .i64 y.err)∧W'.cell? ⟨b,off+zi.toNat*27+10,none⟩=some (.int .i64 (getC cs zz).took):=fun W' hW'=>by
        have h9:=(hlw W' hW').2.2.2.2.2.2.2.2
        have h0:=(hA.on h9).cell (gM hzz) 10 (by omega)
        rw[aR] at h0
        rw[hzt]
        exact⟨(hN W' hW').1,(hN W' hW').2.1,(hN W' hW').2.2.1,(hN W' hW').2.2.2,h0⟩
       clear hzt
       generalize (getC cs zz).took=tz at *
       have hrA:Boxed (W.alloc (.cells (aB y).toArray 56)) (w.heap.size+1+1) 3 (.int .i64 (-1)):=hFW.br.alloc _
       have crA:=hrA.cell
       have frA:=hrA.frozen
       by_cases t1:tz<y.invoked
       ·have q3:decide (tz<y.invoked)=true:=by simpa using t1
        by_cases s2:y.err=0
        ·have e2:(y.err == 0)=true:=by simpa using s2
         rw[if_pos (by rw[hl,q3];simp[s2])] at hS1
         clear hl hzi hzz t1 s2
         gi_wp2_with fail
         refine dC (S:=fun W'=>W'.cell? ⟨B5,0,none⟩=some (.int .i64 zi)∧W'.cell? ⟨W.heap.size,9,none⟩=some (.int .i64 y.invoked)∧W'.cell? ⟨w.heap.size+1,0,none⟩=some (.slice (some ⟨b,off,none⟩) cs.length cap)∧W'.cell? ⟨W.heap.size,14,none⟩=some (.int .i64 y.err)∧W'.cell? ⟨b,off+zi.toNat*27+10,none⟩=some (.int .i64 tz)) (by kernel_rfl) (by kernel_rfl) (fun _ _ h=>h) (fun _ _ _ h=>h) (hQ _ (Below.refl _ _).drew) (fun hHeld => ?_)
         iterate 25 (first | (refine aL ?_;(try simp only[nSO])) | ((first | refine np_n ?_ ?_ ?_ | refine np_t 0 ?_ ?_ ?_);rotate_left 1;(· (intro w hSw;(try dsimp only at hSw);go_simp;all_goals with_reducible rfl));(try simp only[nSO])))
         refine wpAnyH_done (by kernel_rfl) ?_ _
         refine NoPanic.normal ?_
         gi_wp2_with fail
         refine dC (S:=fun W'=>W'.cell? ⟨W.heap.size,14,none⟩=some (.int .i64 y.err)∧(kP (.pointer (some ⟨W.heap.size,23,none⟩))).run Tryz.prog W' = .ok (.agg (itmL y).toArray) W'∧W'.cell? ⟨B5+1,0,none⟩=some (.int .i64 pos)∧W'.cell? ⟨W.heap.size,10,none⟩=some (.int .i64 y.took)∧W'.cell? ⟨w.heap.size+1,0,none⟩=some (.slice (some ⟨b,off,none⟩) cs.length cap)∧W'.cell? ⟨B2,0,none⟩=some (.slice ao T.length qo)) (by kernel_rfl) (by kernel_rfl) (fun _ _ h=>h) (fun _ _ _ h=>h) (hM _ hbd.drew) (fun hHeld => ?_)
         iterate 14 (first | (refine aL ?_;(try simp only[nSO])) | ((first | refine np_n ?_ ?_ ?_ | refine np_t 0 ?_ ?_ ?_);rotate_left 1;(· (intro w hSw;(try dsimp only at hSw);go_simp;all_goals with_reducible rfl));(try simp only[nSO])))
         first | (refine np_s 14 ?_;(try simp only[nSO])) | (refine aD (i:=14) rfl (by kernel_rfl) (fun K hK => ?_);rw[if_pos (by rfl)];go_simp;(fail);(try go_wp2_with fail);refine hK.out _ _ ?_ (fun hHeld => ?_);(· (exact hM _ hbd.drew));clear hK K;(try simp only[nSO]))
         first | (refine aL ?_;(try simp only[nSO])) | (refine np_n ?_ ?_ ?_;rotate_left 1;(· (intro w hSw;(try dsimp only at hSw);go_simp;all_goals with_reducible rfl));(try simp only[nSO]))
         first | (refine np_s 16 ?_;(try simp only[nSO])) | (refine aD (i:=16) rfl (by kernel_rfl) (fun K hK => ?_);rw[if_pos (by rfl)];go_simp;(fail);(try go_wp2_with fail);refine hK.out _ _ ?_ (fun hHeld => ?_);(· (exact hM _ hbd.drew));clear hK K;(try simp only[nSO]))
         iterate 2 (first | (refine aL ?_;(try simp only[nSO])) | (refine np_n ?_ ?_ ?_;rotate_left 1;(· (intro w hSw;(try dsimp only at hSw);go_simp;all_goals with_reducible rfl));(try simp only[nSO])))
         refine wpAnyH_done (by kernel_rfl) ?_ _
         refine NoPanic.normal ?_
         gi_wp2_with fail
         have hWW:Below W.heap.size W _:=hBa.trans (hbd.drew.mono (by omega))
         exact⟨(gZ hWW).trans (KeepsOthers.setCell _ _ _),rfl,i.1,fun rest=>by rw[HEx.out,HE1.out,hS1],((hBY.trans (hBW.mono (by omega))).trans (hWW.mono (hBY.trans (hBW.mono (by omega))).size)).setCell (p:=⟨w.heap.size+1+1,0,none⟩) (by simp;omega) _,(show Boxed (W.alloc (.cells (aB y).toArray 56)).drew.drew (w.heap.size+1+1) 3 (.int .i64 (-1)) from hrA).set _⟩
        ·have e2:(y.err == 0)=false:=by simpa using s2
         by_cases s3:y.err=17
         ·have e3:(y.err == 17)=true:=by simpa using s3
          rw[if_pos (by rw[hl,q3];simp[s3])] at hS1
          clear hl hzi hzz t1 s2 s3
          gi_wp2_with fail
          refine dC (S:=fun W'=>W'.cell? ⟨B5,0,none⟩=some (.int .i64 zi)∧W'.cell? ⟨W.heap.size,9,none⟩=some (.int .i64 y.invoked)∧W'.cell? ⟨w.heap.size+1,0,none⟩=some (.slice (some ⟨b,off,none⟩) cs.length cap)∧W'.cell? ⟨W.heap.size,14,none⟩=some (.int .i64 y.err)∧W'.cell? ⟨b,off+zi.toNat*27+10,none⟩=some (.int .i64 tz)) (by kernel_rfl) (by kernel_rfl) (fun _ _ h=>h) (fun _ _ _ h=>h) (hQ _ (Below.refl _ _).drew) (fun hHeld => ?_)
          iterate 25 (first | (refine aL ?_;(try simp only[nSO])) | ((first | refine np_n ?_ ?_ ?_ | refine np_t 0 ?_ ?_ ?_);rotate_left 1;(· (intro w hSw;(try dsimp only at hSw);go_simp;all_goals with_reducible rfl));(try simp only[nSO])))
          refine wpAnyH_done (by kernel_rfl) ?_ _
          refine NoPanic.normal ?_
          gi_wp2_with fail
          refine dC (S:=fun W'=>W'.cell? ⟨W.heap.size,14,none⟩=some (.int .i64 y.err)∧(kP (.pointer (some ⟨W.heap.size,23,none⟩))).run Tryz.prog W' = .ok (.agg (itmL y).toArray) W'∧W'.cell? ⟨B5+1,0,none⟩=some (.int .i64 pos)∧W'.cell? ⟨W.heap.size,10,none⟩=some (.int .i64 y.took)∧W'.cell? ⟨w.heap.size+1,0,none⟩=some (.slice (some ⟨b,off,none⟩) cs.length cap)∧W'.cell? ⟨B2,0,none⟩=some (.slice ao T.length qo)) (by kernel_rfl) (by kernel_rfl) (fun _ _ h=>h) (fun _ _ _ h=>h) (hM _ hbd.drew) (fun hHeld => ?_)
          iterate 14 (first | (refine aL ?_;(try simp only[nSO])) | ((first | refine np_n ?_ ?_ ?_ | refine np_t 0 ?_ ?_ ?_);rotate_left 1;(· (intro w hSw;(try dsimp only at hSw);go_simp;all_goals with_reducible rfl));(try simp only[nSO])))
          first | (refine np_s 14 ?_;(try simp only[nSO])) | (refine aD (i:=14) rfl (by kernel_rfl) (fun K hK => ?_);rw[if_pos (by rfl)];go_simp;(fail);(try go_wp2_with fail);refine hK.out _ _ ?_ (fun hHeld => ?_);(· (exact hM _ hbd.drew));clear hK K;(try simp only[nSO]))
          first | (refine aL ?_;(try simp only[nSO])) | (refine np_n ?_ ?_ ?_;rotate_left 1;(· (intro w hSw;(try dsimp only at hSw);go_simp;all_goals with_reducible rfl));(try simp only[nSO]))
          first | (refine np_s 16 ?_;(try simp only[nSO])) | (refine aD (i:=16) rfl (by kernel_rfl) (fun K hK => ?_);rw[if_pos (by rfl)];go_simp;(fail);(try go_wp2_with fail);refine hK.out _ _ ?_ (fun hHeld => ?_);(· (exact hM _ hbd.drew));clear hK K;(try simp only[nSO]))
          iterate 2 (first | (refine aL ?_;(try simp only[nSO])) | (refine np_n ?_ ?_ ?_;rotate_left 1;(· (intro w hSw;(try dsimp only at hSw);go_simp;all_goals with_reducible rfl));(try simp only[nSO])))
          refine wpAnyH_done (by kernel_rfl) ?_ _
          refine NoPanic.normal ?_
          gi_wp2_with fail
          have hWW:Below W.heap.size W _:=hBa.trans (hbd.drew.mono (by omega))
          exact⟨(gZ hWW).trans (KeepsOthers.setCell _ _ _),rfl,i.1,fun rest=>by rw[HEx.out,HE1.out,hS1],((hBY.trans (hBW.mono (by omega))).trans (hWW.mono (hBY.trans (hBW.mono (by omega))).size)).setCell (p:=⟨w.heap.size+1+1,0,none⟩) (by simp;omega) _,(show Boxed (W.alloc (.cells (aB y).toArray 56)).drew.drew (w.heap.size+1+1) 3 (.int .i64 (-1)) from hrA).set _⟩
         ·have e3:(y.err == 17)=false:=by simpa using s3
          rw[if_neg (by rw[hl];simp[s2,s3]),if_neg s2] at hS1
          clear hl hzi hzz t1 s2 s3
          gi_wp2_with fail
          refine dC (S:=fun W'=>W'.cell? ⟨B5,0,none⟩=some (.int .i64 zi)∧W'.cell? ⟨W.heap.size,9,none⟩=some (.int .i64 y.invoked)∧W'.cell? ⟨w.heap.size+1,0,none⟩=some (.slice (some ⟨b,off,none⟩) cs.length cap)∧W'.cell? ⟨W.heap.size,14,none⟩=some (.int .i64 y.err)∧W'.cell? ⟨b,off+zi.toNat*27+10,none⟩=some (.int .i64 tz)) (by kernel_rfl) (by kernel_rfl) (fun _ _ h=>h) (fun _ _ _ h=>h) (hQ _ (Below.refl _ _).drew) (fun hHeld => ?_)
          iterate 25 (first | (refine aL ?_;(try simp only[nSO])) | ((first | refine np_n ?_ ?_ ?_ | refine np_t 0 ?_ ?_ ?_);rotate_left 1;(· (intro w hSw;(try dsimp only at hSw);go_simp;all_goals with_reducible rfl));(try simp only[nSO])))
          refine wpAnyH_done (by kernel_rfl) ?_ _
          refine NoPanic.normal ?_
          gi_wp2_with fail
          refine dC (S:=fun W'=>W'.cell? ⟨W.heap.size,14,none⟩=some (.int .i64 y.err)∧(kP (.pointer (some ⟨W.heap.size,23,none⟩))).run Tryz.prog W' = .ok (.agg (itmL y).toArray) W'∧W'.cell? ⟨B5+1,0,none⟩=some (.int .i64 pos)∧W'.cell? ⟨W.heap.size,10,none⟩=some (.int .i64 y.took)∧W'.cell? ⟨w.heap.size+1,0,none⟩=some (.slice (some ⟨b,off,none⟩) cs.length cap)∧W'.cell? ⟨B2,0,none⟩=some (.slice ao T.length qo)) (by kernel_rfl) (by kernel_rfl) (fun _ _ h=>h) (fun _ _ _ h=>h) (hM _ hbd.drew) (fun hHeld => ?_)
          iterate 14 (first | (refine aL ?_;(try simp only[nSO])) | ((first | refine np_n ?_ ?_ ?_ | refine np_t 0 ?_ ?_ ?_);rotate_left 1;(· (intro w hSw;(try dsimp only at hSw);go_simp;all_goals with_reducible rfl));(try simp only[nSO])))
          first | (refine np_s 14 ?_;(try simp only[nSO])) | (refine aD (i:=14) rfl (by kernel_rfl) (fun K hK => ?_);rw[if_pos (by rfl)];go_simp;(fail);(try go_wp2_with fail);refine hK.out _ _ ?_ (fun hHeld => ?_);(· (exact hM _ hbd.drew));clear hK K;(try simp only[nSO]))
          first | (refine aL ?_;(try simp only[nSO])) | (refine np_n ?_ ?_ ?_;rotate_left 1;(· (intro w hSw;(try dsimp only at hSw);go_simp;all_goals with_reducible rfl));(try simp only[nSO]))
          first | (refine np_s 16 ?_;(try simp only[nSO])) | (refine aD (i:=16) rfl (by kernel_rfl) (fun K hK => ?_);rw[if_pos (by rfl)];go_simp;(fail);(try go_wp2_with fail);refine hK.out _ _ ?_ (fun hHeld => ?_);(· (exact hM _ hbd.drew));clear hK K;(try simp only[nSO]))
          iterate 2 (first | (refine aL ?_;(try simp only[nSO])) | (refine np_n ?_ ?_ ?_;rotate_left 1;(· (intro w hSw;(try dsimp only at hSw);go_simp;all_goals with_reducible rfl));(try simp only[nSO])))
          refine wpAnyH_done (by kernel_rfl) ?_ _
          refine NoPanic.normal ?_
          gi_wp2_with fail
          have hWW:Below W.heap.size W _:=hBa.trans (hbd.drew.mono (by omega))
          exact⟨gZ hWW,gL.of_below hWW hq,pos,hpos,fun rest=>by rw[HEx.out,HE1.out,hS1],hBW.trans (hWW.mono (by have:=hBp.lt;omega)),(hWW.block _ hBp.lt).trans hBp,(hWW.block _ hBt.lt).trans hBt⟩
       ·have q3:decide (tz<y.invoked)=false:=by simpa using t1
        rw[if_neg (by rw[hl,q3];simp)] at hS1
        by_cases s2:y.err=0
        ·have e2:(y.err == 0)=true:=by simpa using s2
         rw[if_pos s2] at hS1
         clear hl hzi hzz t1
         obtain⟨B,hB⟩:=Option.ne_none_iff_exists'.1 (hsafe pos hpos y hym h15 s2)
         rw[hB] at hS1
         have hPi:B=false→P y.ito:=fun e=>hPr pos hpos y hym h15 s2 (by rw[hB,e])
         clear s2
         have hBw:Below w.heap.size w W:=hBY.trans (hBW.mono (by omega))
         have hnum:∀ W',Below (W.heap.size+1) (W.alloc (.cells (aB y).toArray 56)) W'→Calls Tryz.prog 109 #[.int .i64 y.took,.slice (some ⟨b,off,none⟩) cs.length cap] W' fun e w'=>e = .returned (.int .i64 (numP y.took cs))∧Below W'.heap.size W' w':=fun W' hW'=>aAr y.took (some ⟨b,off,none⟩) cap cs W' (hC.on (hBw.trans ((hlw W' hW').2.2.2.2.2.2.2.2.mono hBw.size))) (by omega)
         have hwr:∀ W',Below (W.heap.size+1) (W.alloc (.cells (aB y).toArray 56)) W'→Calls Tryz.prog 108 #[.agg (itmL y).toArray,.int .i64 pos,.int .i64 (numP y.took cs),.slice ao T.length qo] W' fun e w'=>e = .returned (.bool B)∧Below W'.heap.size W' w':=fun W' hW'=>by
          have h9:=(hlw W' hW').2.2.2.2.2.2.2.2
          have h8:=hBp.lt
          exact aCh hap y pos (numP y.took cs) ao qo T B W' ((hTY.on (hBW.mono (by omega))).on (h9.mono (by omega))) (by have:=h9.size;omega) (by omega) ((hDA y hym).on (hBw.trans (h9.mono hBw.size))) hB
         gi_wp2_with fail
         refine dC (S:=fun W'=>W'.cell? ⟨B5,0,none⟩=some (.int .i64 zi)∧W'.cell? ⟨W.heap.size,9,none⟩=some (.int .i64 y.invoked)∧W'.cell? ⟨w.heap.size+1,0,none⟩=some (.slice (some ⟨b,off,none⟩) cs.length cap)∧W'.cell? ⟨W.heap.size,14,none⟩=some (.int .i64 y.err)∧W'.cell? ⟨b,off+zi.toNat*27+10,none⟩=some (.int .i64 tz)) (by kernel_rfl) (by kernel_rfl) (fun _ _ h=>h) (fun _ _ _ h=>h) (hQ _ (Below.refl _ _).drew) (fun hHeld => ?_)
         iterate 25 (first | (refine aL ?_;(try simp only[nSO])) | ((first | refine np_n ?_ ?_ ?_ | refine np_t 0 ?_ ?_ ?_);rotate_left 1;(· (intro w hSw;(try dsimp only at hSw);go_simp;all_goals with_reducible rfl));(try simp only[nSO])))
         refine wpAnyH_done (by kernel_rfl) ?_ _
         refine NoPanic.normal ?_
         cases B with
         | true =>
          gi_wp2_with fail
          refine dC (S:=fun W'=>W'.cell? ⟨W.heap.size,14,none⟩=some (.int .i64 y.err)∧(kP (.pointer (some ⟨W.heap.size,23,none⟩))).run Tryz.prog W' = .ok (.agg (itmL y).toArray) W'∧W'.cell? ⟨B5+1,0,none⟩=some (.int .i64 pos)∧W'.cell? ⟨W.heap.size,10,none⟩=some (.int .i64 y.took)∧W'.cell? ⟨w.heap.size+1,0,none⟩=some (.slice (some ⟨b,off,none⟩) cs.length cap)∧W'.cell? ⟨B2,0,none⟩=some (.slice ao T.length qo)) (by kernel_rfl) (by kernel_rfl) (fun _ _ h=>h) (fun _ _ _ h=>h) (hM _ hbd.drew) (fun hHeld => ?_)
          iterate 14 (first | (refine aL ?_;(try simp only[nSO])) | ((first | refine np_n ?_ ?_ ?_ | refine np_t 0 ?_ ?_ ?_);rotate_left 1;(· (intro w hSw;(try dsimp only at hSw);go_simp;all_goals with_reducible rfl));(try simp only[nSO])))
          first | (refine np_s 15 ?_;(try simp only[nSO])) | (refine np_t 15 ?_ ?_ ?_;rotate_left 1;(· (intro w hSw;(try dsimp only at hSw);go_simp;all_goals with_reducible rfl));(try simp only[nSO]))
          first | (refine np_s 14 ?_;(try simp only[nSO])) | (refine aD (i:=14) rfl (by kernel_rfl) (fun K hK => ?_);rw[if_pos (by rfl)];go_simp;((go_at_call 109;refine (hnum _ hbd.drew).mono ?_;rintro e w7 ⟨rfl,hb7'⟩;have hb7:=hbd.drew.trans (hb7'.mono (by simp))));(try go_wp2_with fail);refine hK.out _ _ ?_ (fun hHeld => ?_);(· (first | exact hM _ hbd.drew | exact hM _ hb7 | exact hM _ hb8));clear hK K;(try simp only[nSO]))
          first | (refine np_s 16 ?_;(try simp only[nSO])) | (refine aD (i:=16) rfl (by kernel_rfl) (fun K hK => ?_);rw[if_pos (by rfl)];go_simp;((go_at_call 108;refine (hwr _ hb7).mono ?_;rintro e w8 ⟨rfl,hb8'⟩;have hb8:=hb7.trans (hb8'.mono (by have:=hb7.size;simp at this;omega));have hWW8:=(hlw _ hb8).2.2.2.2.2.2.2.2;have hr8:Boxed w8 (w.heap.size+1+1) 3 (.int .i64 (-1)):=(hWW8.block _ hFW.br.lt).trans hFW.br;have cr8:=hr8.cell;have fr8:=hr8.frozen;have hp8:Boxed w8 (B5+1) 3 (.int .i64 pos):=(hWW8.block _ hBp.lt).trans hBp;have cp8:=hp8.cell;have fp8:=hp8.frozen;have ci8:=(aM (gU hz0 hb8 (by omega)) 25).trans (aU y);have ce8:=(hlw _ hb8).2.2.2.1));(try go_wp2_with fail);refine hK.out _ _ ?_ (fun hHeld => ?_);(· (first | exact hM _ hbd.drew | exact hM _ hb7 | exact hM _ hb8));clear hK K;(try simp only[nSO]))
          iterate 2 (first | (refine aL ?_;(try simp only[nSO])) | (refine np_n ?_ ?_ ?_;rotate_left 1;(· (intro w hSw;(try dsimp only at hSw);go_simp;all_goals with_reducible rfl));(try simp only[nSO])))
          refine wpAnyH_done (by kernel_rfl) ?_ _
          refine NoPanic.normal ?_
          gi_wp2_with fail
          exact⟨(gZ hWW8).trans (KeepsOthers.setCell _ _ _),rfl,i.1,fun rest=>by rw[HEx.out,HE1.out,hS1],(hBw.trans (hWW8.mono hBw.size)).setCell (p:=⟨w.heap.size+1+1,0,none⟩) (by simp;omega) _,hr8.set _⟩
         | false =>
          gi_wp2_with fail
          refine dC (S:=fun W'=>W'.cell? ⟨W.heap.size,14,none⟩=some (.int .i64 y.err)∧(kP (.pointer (some ⟨W.heap.size,23,none⟩))).run Tryz.prog W' = .ok (.agg (itmL y).toArray) W'∧W'.cell? ⟨B5+1,0,none⟩=some (.int .i64 pos)∧W'.cell? ⟨W.heap.size,10,none⟩=some (.int .i64 y.took)∧W'.cell? ⟨w.heap.size+1,0,none⟩=some (.slice (some ⟨b,off,none⟩) cs.length cap)∧W'.cell? ⟨B2,0,none⟩=some (.slice ao T.length qo)) (by kernel_rfl) (by kernel_rfl) (fun _ _ h=>h) (fun _ _ _ h=>h) (hM _ hbd.drew) (fun hHeld => ?_)
          iterate 14 (first | (refine aL ?_;(try simp only[nSO])) | ((first | refine np_n ?_ ?_ ?_ | refine np_t 0 ?_ ?_ ?_);rotate_left 1;(· (intro w hSw;(try dsimp only at hSw);go_simp;all_goals with_reducible rfl));(try simp only[nSO])))
          first | (refine np_s 15 ?_;(try simp only[nSO])) | (refine np_t 15 ?_ ?_ ?_;rotate_left 1;(· (intro w hSw;(try dsimp only at hSw);go_simp;all_goals with_reducible rfl));(try simp only[nSO]))
          first | (refine np_s 14 ?_;(try simp only[nSO])) | (refine aD (i:=14) rfl (by kernel_rfl) (fun K hK => ?_);rw[if_pos (by rfl)];go_simp;((go_at_call 109;refine (hnum _ hbd.drew).mono ?_;rintro e w7 ⟨rfl,hb7'⟩;have hb7:=hbd.drew.trans (hb7'.mono (by simp))));(try go_wp2_with fail);refine hK.out _ _ ?_ (fun hHeld => ?_);(· (first | exact hM _ hbd.drew | exact hM _ hb7 | exact hM _ hb8));clear hK K;(try simp only[nSO]))
          first | (refine np_s 16 ?_;(try simp only[nSO])) | (refine aD (i:=16) rfl (by kernel_rfl) (fun K hK => ?_);rw[if_pos (by rfl)];go_simp;((go_at_call 108;refine (hwr _ hb7).mono ?_;rintro e w8 ⟨rfl,hb8'⟩;have hb8:=hb7.trans (hb8'.mono (by have:=hb7.size;simp at this;omega));have hWW8:=(hlw _ hb8).2.2.2.2.2.2.2.2;have hr8:Boxed w8 (w.heap.size+1+1) 3 (.int .i64 (-1)):=(hWW8.block _ hFW.br.lt).trans hFW.br;have cr8:=hr8.cell;have fr8:=hr8.frozen;have hp8:Boxed w8 (B5+1) 3 (.int .i64 pos):=(hWW8.block _ hBp.lt).trans hBp;have cp8:=hp8.cell;have fp8:=hp8.frozen;have ci8:=(aM (gU hz0 hb8 (by omega)) 25).trans (aU y);have ce8:=(hlw _ hb8).2.2.2.1));(try go_wp2_with fail);refine hK.out _ _ ?_ (fun hHeld => ?_);(· (first | exact hM _ hbd.drew | exact hM _ hb7 | exact hM _ hb8));clear hK K;(try simp only[nSO]))
          iterate 2 (first | (refine aL ?_;(try simp only[nSO])) | (refine np_n ?_ ?_ ?_;rotate_left 1;(· (intro w hSw;(try dsimp only at hSw);go_simp;all_goals with_reducible rfl));(try simp only[nSO])))
          refine wpAnyH_done (by kernel_rfl) ?_ _
          refine NoPanic.normal ?_
          gi_wp2_with fail
          exact⟨(gZ hWW8).trans (KeepsOthers.setCell _ _ _),(gL.of_below hWW8 hq).trans (gL.set (p:=⟨B5+1,0,none⟩) (by simp) _),y.ito,hPi (by trivial),fun rest=>by rw[HEx.out,HE1.out,hS1],(hBW.trans (hWW8.mono (by have:=hBp.lt;omega))).setCell (p:=⟨B5+1,0,none⟩) (Nat.le_refl _) _,hp8.set _,(show Boxed w8 (B5+2) 3 (.int .i64 cl) from (hWW8.block _ hBt.lt).trans hBt).other (by omega) _⟩
        ·have e2:(y.err == 0)=false:=by simpa using s2
         rw[if_neg s2] at hS1
         clear hl hzi hzz t1 s2
         gi_wp2_with fail
         refine dC (S:=fun W'=>W'.cell? ⟨B5,0,none⟩=some (.int .i64 zi)∧W'.cell? ⟨W.heap.size,9,none⟩=some (.int .i64 y.invoked)∧W'.cell? ⟨w.heap.size+1,0,none⟩=some (.slice (some ⟨b,off,none⟩) cs.length cap)∧W'.cell? ⟨W.heap.size,14,none⟩=some (.int .i64 y.err)∧W'.cell? ⟨b,off+zi.toNat*27+10,none⟩=some (.int .i64 tz)) (by kernel_rfl) (by kernel_rfl) (fun _ _ h=>h) (fun _ _ _ h=>h) (hQ _ (Below.refl _ _).drew) (fun hHeld => ?_)
         iterate 25 (first | (refine aL ?_;(try simp only[nSO])) | ((first | refine np_n ?_ ?_ ?_ | refine np_t 0 ?_ ?_ ?_);rotate_left 1;(· (intro w hSw;(try dsimp only at hSw);go_simp;all_goals with_reducible rfl));(try simp only[nSO])))
         refine wpAnyH_done (by kernel_rfl) ?_ _
         refine NoPanic.normal ?_
         gi_wp2_with fail
         refine dC (S:=fun W'=>W'.cell? ⟨W.heap.size,14,none⟩=some (.int .i64 y.err)∧(kP (.pointer (some ⟨W.heap.size,23,none⟩))).run Tryz.prog W' = .ok (.agg (itmL y).toArray) W'∧W'.cell? ⟨B5+1,0,none⟩=some (.int .i64 pos)∧W'.cell? ⟨W.heap.size,10,none⟩=some (.int .i64 y.took)∧W'.cell? ⟨w.heap.size+1,0,none⟩=some (.slice (some ⟨b,off,none⟩) cs.length cap)∧W'.cell? ⟨B2,0,none⟩=some (.slice ao T.length qo)) (by kernel_rfl) (by kernel_rfl) (fun _ _ h=>h) (fun _ _ _ h=>h) (hM _ hbd.drew) (fun hHeld => ?_)
         iterate 14 (first | (refine aL ?_;(try simp only[nSO])) | ((first | refine np_n ?_ ?_ ?_ | refine np_t 0 ?_ ?_ ?_);rotate_left 1;(· (intro w hSw;(try dsimp only at hSw);go_simp;all_goals with_reducible rfl));(try simp only[nSO])))
         first | (refine np_s 14 ?_;(try simp only[nSO])) | (refine aD (i:=14) rfl (by kernel_rfl) (fun K hK => ?_);rw[if_pos (by rfl)];go_simp;(fail);(try go_wp2_with fail);refine hK.out _ _ ?_ (fun hHeld => ?_);(· (exact hM _ hbd.drew));clear hK K;(try simp only[nSO]))
         first | (refine aL ?_;(try simp only[nSO])) | (refine np_n ?_ ?_ ?_;rotate_left 1;(· (intro w hSw;(try dsimp only at hSw);go_simp;all_goals with_reducible rfl));(try simp only[nSO]))
         first | (refine np_s 16 ?_;(try simp only[nSO])) | (refine aD (i:=16) rfl (by kernel_rfl) (fun K hK => ?_);rw[if_pos (by rfl)];go_simp;(fail);(try go_wp2_with fail);refine hK.out _ _ ?_ (fun hHeld => ?_);(· (exact hM _ hbd.drew));clear hK K;(try simp only[nSO]))
         iterate 2 (first | (refine aL ?_;(try simp only[nSO])) | (refine np_n ?_ ?_ ?_;rotate_left 1;(· (intro w hSw;(try dsimp only at hSw);go_simp;all_goals with_reducible rfl));(try simp only[nSO])))
         refine wpAnyH_done (by kernel_rfl) ?_ _
         refine NoPanic.normal ?_
         gi_wp2_with fail
         have hWW:Below W.heap.size W _:=hBa.trans (hbd.drew.mono (by omega))
         exact⟨gZ hWW,gL.of_below hWW hq,pos,hpos,fun rest=>by rw[HEx.out,HE1.out,hS1],hBW.trans (hWW.mono (by have:=hBp.lt;omega)),(hWW.block _ hBp.lt).trans hBp,(hWW.block _ hBt.lt).trans hBt⟩
     ·have e2:(y.okind == 15)=false:=by simpa using s2
      rw[if_neg s2] at hS1
      clear s1 s2
      gi_wp2
      exact⟨KeepsOthers.alloc W _,gL.alloc hq _,pos,hpos,fun rest=>by rw[HEx.out,HE1.out,hS1],hBW.trans (hBa.mono (by have:=hBp.lt;omega)),hBp.alloc _,hBt.alloc _⟩
   case done =>
    rintro D ys W hD hys ⟨pos,hpos,hE,hBW,hBp,hBt⟩ hK
    have hE0:=hE []
    rw[List.append_nil,hys] at hE0
    have hFW:=hFY.on (hBW.mono (by omega))
    have cr:=hFW.br.cell
    have fr:=hFW.br.frozen
    have hbf:=hFW.br.set (.int .i64 0)
    have hBf:=(hBY.trans (hBW.mono (by omega))).setCell (p:=⟨w.heap.size+1+1,0,none⟩) (by simp;omega) (.int .i64 0)
    have hK2:=(Below.heap_setCell W ⟨w.heap.size+1+1,0,none⟩ (.int .i64 0) D (by simp;omega)).trans hK
    go_wp2
    refine gQ (n₀:=w.heap.size+3) _ _ ⟨D,rfl,by omega,hK2,fun _ h=>(by cases h),trivial⟩ (fun w' hw' => ?_)
    have hb9:Boxed w' (w.heap.size+1+1) 3 (.int .i64 0):=(hw'.block _ (by omega)).trans hbf
    have c9:=hb9.cell
    exact⟨.tuple #[.int .i64 0,.int .i64 0],by simp[results,Tryz.f56,go_sem,c9],by rw[Hz.out,hE0];rfl,hBf.trans (hw'.mono (by omega))⟩
   case stop =>
    rintro D c' pre W hD hp ⟨rfl,i,hE,hBW,hb⟩ hK
    obtain⟨tl,htl⟩:=hp
    have hE0:=hE tl
    rw[htl] at hE0
    have cr:=hb.cell
    have fr:=hb.frozen
    have hbf:=hb.set (.int .i64 i)
    have hBf:=hBW.setCell (p:=⟨w.heap.size+1+1,0,none⟩) (by simp;omega) (.int .i64 i)
    have hK2:=(Below.heap_setCell W ⟨w.heap.size+1+1,0,none⟩ (.int .i64 i) D (by simp;omega)).trans hK
    gi_wp2
    go_wp2
    refine gQ (n₀:=w.heap.size+3) _ _ ⟨D,rfl,by omega,hK2,fun _ h=>(by cases h),trivial⟩ (fun w' hw' => ?_)
    have hb9:Boxed w' (w.heap.size+1+1) 3 (.int .i64 i):=(hw'.block _ (by omega)).trans hbf
    have c9:=hb9.cell
    exact⟨.tuple #[.int .i64 i,.int .i64 26],by simp[results,Tryz.f56,go_sem,c9],by rw[Hz.out,hE0];rfl,hBf.trans (hw'.mono (by omega))⟩
 ·rw[if_pos hp0]
  have d0:((aT c cs).2 != 0)=true:=by simpa using hp0
  generalize (aT c cs).1=x1 at *
  generalize (aT c cs).2=x2 at *
  unfold cfgL at lc hX
  go_wp2
  go_step3
  go_wp2_with (go_at_call 38;refine hchk.mono ?_;rintro e w1 ⟨rfl,hb1⟩;have hF1:=hSB.on (hXs ▸ hb1);have fr:=hF1.br.frozen;have cr:=hF1.br.cell;have c9:=(hF1.br.set (.int .i64 x1)).cell)
  exact⟨.tuple #[.int .i64 x1,.int .i64 x2],by simp[results,Tryz.f56,go_sem,c9],rfl,(hBX.trans (hb1.mono (by omega))).setCell (p:=⟨w.heap.size+1+1,0,none⟩) (by simp;omega) _⟩
end Go.Proofs.YtdeiocppghhfdaaGreat.Lin
