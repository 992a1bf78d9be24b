/- Texts, one behind another. -/
import Derived.Test.YtdeiocppghhfdaaGreatZfbb
import Derived.Laws.EntriesVeiled
set_option linter.unusedVariables false
set_option linter.unusedSimpArgs false
set_option maxRecDepth 100000
set_option maxHeartbeats 40000000
namespace Go.Proofs.YtdeiocppghhfdaaGreat.Lin
open Go.RowKit Go.Lib Go.Shelf
open Hs
open KitI (iv own_below)
attribute [local go_sem, local simp] Hs.dP
attribute [local go_sem ↓] Hs.aN Hs.aR
attribute [local go_sem] Hs.bX Hs.bB Hs.aX Hs.bH Hs.cK
def aSb (n0 s:Nat) (w0:World) (p:Option Addr) (cap:Nat) (cs:List aA) (nm k:Nat) (pre:List Nat) (st:MS) (u:Nat) (W:World) (e:Ending) (W':World):Prop :=
 e = .returned (.bool (SS cs st u).isSome)∧∃ nm' v',nm'≤nm+11 ^ k∧FE n0 s w0 p cap cs nm' v' W'∧FK n0 s W W' ∧
  W'.ownsRow (s+4) tInt 1 v' (pre++(SS cs st u).getD []).length ((pre++(SS cs st u).getD []).map fun (x:Nat)=>iv x)
def aL0 (n0 s:Nat) (w0:World) (p:Option Addr) (cap:Nat) (cs:List aA) (k:Nat):Prop :=
 ∀ (W:World) (b:Nat) (M:MM) (st:MS) (u nm:Nat) (v:Value) (pre:List Nat) (K:Int),MdAt W b M→M.st=st→MSok st K→K+k≤100000→fr cs.length u≤k→u<2 ^ 10→FE n0 s w0 p cap cs nm v W→nm+11 ^ k≤11 ^ 12 →
  W.ownsRow (s+4) tInt 1 v pre.length (pre.map fun (x:Nat)=>iv x)→pre.length+k≤10 →
  Calls Tryz.prog jP #[.pointer (some ⟨b,0,none⟩),.int .i64 u,.pointer (some ⟨s+1,0,none⟩),.pointer (some ⟨s+2,0,none⟩),.pointer (some ⟨n0+1,0,none⟩),.pointer (some ⟨n0+2,0,none⟩),.pointer (some ⟨s+3,0,none⟩)] W (aSb n0 s w0 p cap cs nm k pre st u W)
def FRel (n0 s:Nat) (w0:World) (p:Option Addr) (cap:Nat) (cs:List aA) (nm k:Nat) (pre:List Nat) (st:MS) (u:Nat) (w2:World) (i:Value) (wr:World):Prop :=
 ∃ (j nm':Nat) (v':Value),i = .int .i64 j∧j≤cs.length∧nm'≤nm+j*k∧FE n0 s w0 p cap cs nm' v' wr∧FK n0 s w2 wr∧wr.ownsRow (s+4) tInt 1 v' pre.length (pre.map fun (x:Nat)=>iv x) ∧
  ∀ x,x<j→tryS cs.length (nx cs) (rdyB cs) (bW cs) st u x=none
theorem nX {n0 s:Nat} {w0:World} {p:Option Addr} {cap:Nat} {cs:List aA} {nm k:Nat} {pre:List Nat} {st:MS} {u:Nat} {w2 wr:World} {j nm':Nat} {v':Value} (hE:FE n0 s w0 p cap cs nm' v' wr) (hk:FK n0 s w2 wr) (hO:wr.ownsRow (s+4) tInt 1 v' pre.length (pre.map fun (x:Nat)=>iv x))
  (ht:∀ x,x<j→tryS cs.length (nx cs) (rdyB cs) (bW cs) st u x=none) (h:tryS cs.length (nx cs) (rdyB cs) (bW cs) st u j=none) (hj:j<cs.length) (hn:nm'≤nm+(j+1)*k) :
  FRel n0 s w0 p cap cs nm k pre st u w2 (.int .i64 ((j:Int)+1)) wr :=
 ⟨j+1,nm',v',by go_num,by omega,hn,hE,hk,hO,fun x hx=>by
  rcases Nat.lt_or_ge x j with h' | h'
  ·exact ht x h'
  ·have:x=j:=by omega
   subst this;exact h⟩
theorem aEy {u:Nat} (h:u<2 ^ 62):(Lit.int .i64 (u:Int)).wf=true:=by
 exact WalkArith.wf_i64 (by omega)
theorem lS {α:Type} (f:α→List Int) (c:Nat):∀ l:List α,(∀ x∈l,(f x).length≤c)→(l.flatMap f).length≤l.length*c
 |[],_=>by simp
 |x::l,h=>by
  have h1:=lS f c l fun y hy=>h y (by simp[hy])
  have h2:=h x (by simp)
  rw[List.flatMap_cons,List.length_append,List.length_cons,Nat.succ_mul];omega
theorem qW (s:MS) {K:Int} (h:MSok s K):(strOf (keyL s)).size≤maxLen:=by
 have h1:(strOf (keyL s)).size=(keyL s).length:=by
  have:=congrArg List.length (aEx (keyL s))
  rw[List.length_map,Array.length_toList] at this
  exact this
 have h2:=aGg h
 have h3:=lS seK 600000 s.seats fun x hx=>aGi h hx
 have h4:=Nat.mul_le_mul_right 600000 h.clients
 have h5:(keyL s).length=(hdK s).length+(s.seats.flatMap seK).length:=by unfold keyL;rw[List.length_append]
 unfold maxLen
 omega
theorem aIp {n0 s:Nat} {w0:World} {p:Option Addr} {cap:Nat} {cs:List aA} {k:Nat} (hs:n0+3≤s) (hC:∀ W,Below n0 w0 W→CRow W p cap cs) (hl:cs.length≤10) (hok:∀ c∈cs,c.Ok) (hd:∀ c∈cs,c.ps.length≤1000000)
  (ih:∀ j,j<k→aL0 n0 s w0 p cap cs j):aL0 n0 s w0 p cap cs k:=by
 intro W b M st u nm v pre K hM hst hMok hK hfr hu hE hnm hO hpre
 subst hst
 obtain⟨i0,hi,hz0,hz1,hz2⟩:=info_parts KitI.kH
 obtain⟨X,hX1,hX2⟩:∃ X,(∀ j,k=j+1→X=11 ^ j)∧10*X+1≤11 ^ k:=by
  cases k with
  |zero=>exact⟨0,fun j h=>by omega,by decide⟩
  |succ k=>exact⟨11 ^ k,fun j h=>by cases h;rfl,by have:=Nat.two_pow_pos k;have:0<11 ^ k:=Nat.pow_pos (by omega);rw[Nat.pow_succ];omega⟩
 have hfm:=yH cs u
 have hal:=qU cs cs.length 10 hl
 have hand:=mH u (allB cs cs.length) (by omega) (by omega)
 have c1:=hE.ca
 have hbool:(bits .and .i64 (u:Int) (allB cs cs.length:Nat) == ((allB cs cs.length:Nat):Int))=bW cs u:=by
  rw[hand,← hfm,Bool.eq_iff_iff];simp;omega
 cases hf:bW cs u with
 |true =>
  rw[hf] at hbool
  have hS:SS cs M.st u=some []:=vL hf
  go_enter Tryz.func63,Tryz.ntmps63
  go_wp2
  go_returns
  refine⟨by rw[hS];rfl,nm,v,Nat.le_add_right _ _,hE,FK.refl _ _ _,?_⟩
  rw[hS];simpa using hO
 |false =>
  rw[hf] at hbool
  have hwf:=aEy (u:=u) (by omega)
  have hkey:=aGj b M W K hM hMok
  go_enter Tryz.func63,Tryz.ntmps63
  go_wp2_with (first | (go_at_call 64;refine hkey.mono ?_;rintro e w1 ⟨rfl,hb1⟩;have hb2:Below W.heap.size W (w1.alloc (.cells #[.int .i64 u,.string (strOf (keyL M.st))] 105)):=hb1.alloc hb1.size _;have hE2:=hE.on hb2 hs;have c2:=hE2.cd;have c3:=hE2.cl;have hM2:=hM.below hb2;have hk2:=FK.below hb2 hE.le (by omega:n0≤s);have hO2:=own_below hO hb2) | (at_lookup;refine rY _ rfl _ _ 102 rfl 4 Tryz.underlying102 Tryz.underlying4 (by kernel_rfl) rfl hE2.mp u (strOf (keyL M.st)) rfl hwf (qW M.st hMok) ?_;intro y hy))
  ·have hyt:y=true:=by assumption
   rcases hy with hy | hy
   ·rw[hyt] at hy;cases hy
   ·have hS:SS cs M.st u=none:=hy u M.st rfl (hMok.mono (by omega)) rfl
    go_returns
    refine⟨by rw[hS];rfl,nm,v,Nat.le_add_right _ _,hE2,hk2,?_⟩
    rw[hS];simpa using hO2
  ·clear hy hkey hbool hand hfm c1 c2 c3 hM hE hO
   have hzz:=heap_alloc_new w1 (.cells #[.int .i64 (u:Int),.string (strOf (keyL M.st))] 105)
   generalize w1.alloc (.cells #[.int .i64 (u:Int),.string (strOf (keyL M.st))] 105)=w2 at *
   generalize w1.heap.size=z at *
   go_loopw [28] (fun i wr=>FRel n0 s w0 p cap cs nm X pre M.st u w2 i wr) (fun i wr=>cs.length-(intOf i).toNat)
   case atStart=>exact⟨0,nm,v,rfl,by omega,by omega,hE2,FK.refl _ _ _,hO2,fun j hj=>by omega⟩
   case round =>
    obtain⟨j,nm',v',rfl,hj,hnm',hE3,hk3,hO3,htry⟩:=hrel
    by_cases hlt:j<cs.length
    ·have hbit:=aAc u j (by omega)
     have c3:=hE3.cl
     cases hub:u.testBit j with
     |true =>
      rw[hub] at hbit
      simp only[if_true] at hbit
      have ht:tryS cs.length (nx cs) (rdyB cs) (bW cs) M.st u j=none:=by unfold tryS cand;rw[hub];rfl
      go_wp2
      go_roundw
      case rel=>exact nX hE3 hk3 hO3 htry ht hlt (by rw[Nat.succ_mul];omega)
      case measure=>simp[intOf];omega
     |false =>
      rw[hub] at hbit
      simp only[Bool.false_eq_true,if_false] at hbit
      have hrd:=fun W (h:Below n0 w0 W)=>yL p cap cs u j W (hC W h) (by omega) (by omega) hlt
      generalize hr:rdyB cs u j=r at hrd
      cases r with
      |false =>
       have ht:tryS cs.length (nx cs) (rdyB cs) (bW cs) M.st u j=none:=by unfold tryS cand;rw[hub,hr];rfl
       go_wp2_with (go_at_call 65;refine (hrd _ hE3.bel).mono ?_;rintro e w3 ⟨rfl,hb3⟩)
       have hk3':=hk3.trans (FK.below hb3 hE3.le (by omega))
       have hO3':=own_below hO3 hb3
       have hE3':=hE3.on hb3 hs
       go_roundw
       case rel=>exact nX hE3' hk3' hO3' htry ht hlt (by rw[Nat.succ_mul];omega)
       case measure=>simp[intOf];omega
      |true =>
       have hcand:cand (rdyB cs) u j=true:=by unfold cand;rw[hub,hr];rfl
       have hfr2:=yG hlt hub
       obtain⟨k',rfl⟩:∃ k',k=k'+1:=⟨k-1,by omega⟩
       have hXe:=hX1 k' rfl
       have hM3:=hE2.model hk3 hM2
       obtain⟨bq,off,rfl,hcap,_,_⟩:=jA (hC w0 (Below.refl _ _)) (by omega)
       have hld:=fun W (h:Below n0 w0 W)=>(aB8 (hC W h)).load (bR hlt)
       have hcm:getC cs j∈cs:=mGz (bR hlt)
       have hcok:=hok _ hcm
       have hcd:=hd _ hcm
       have hnx:∀ st,nx cs st j=eZ st (getC cs j):=fun _=>rfl
       generalize getC cs j=c at *
       cases hn:eZ M.st c with
       |none =>
        have ht:tryS cs.length (nx cs) (rdyB cs) (bW cs) M.st u j=none:=by unfold tryS;rw[if_pos hcand,hnx,hn];rfl
        go_wp2_with (first | (go_at_call 65;refine (hrd _ hE3.bel).mono ?_;rintro e w3 ⟨rfl,hb3⟩;have hk3':=hk3.trans (FK.below hb3 hE3.le (by omega));have hO3':=own_below hO3 hb3;have hE3':=hE3.on hb3 hs;have hM3':=hM3.below hb3;have c3':=hE3'.cl;have ld3:=hld _ hE3'.bel) | (go_at_call 66;refine (kU b M c _ K hM3' hMok (by omega) hcok hcd).mono ?_;rintro e w4 ⟨b4,M4,he,hR4,hst4⟩;rw[hn] at he hst4;subst he))
        have hE4:=hE3'.on hR4.bl hs
        have hk4:=hk3'.trans (FK.below hR4.bl hE3'.le (by omega))
        have hO4:=own_below hO3' hR4.bl
        go_roundw
        case rel=>exact nX hE4 hk4 hO4 htry ht hlt (by rw[Nat.succ_mul];omega)
        case measure=>simp[intOf];omega
       |some t =>
        have hor:bits .or .i64 (u:Int) (IntKind.i64.wrap (2 ^ j))=((u ||| 2 ^ j:Nat):Int):=by
         rw[sh_w (by omega)]
         exact qB u (2 ^ j) (by omega) (Nat.pow_lt_pow_right (by omega) (by omega))
        have hu2:u ||| 2 ^ j<2 ^ 10:=Nat.or_lt_two_pow hu (Nat.pow_lt_pow_right (by omega) (by omega))
        have htok:=uF hMok hcok hn
        have hlp:pre.length+1≤10:=by omega
        cases hSS:SS cs t (u ||| 2 ^ j) with
        |some a =>
         have hS:SS cs M.st u=some (j::a):=aLl hf hlt htry (by unfold tryS;rw[if_pos hcand,hnx,hn];simp[hSS])
         go_wp2_with (first | (go_at_call 65;refine (hrd _ hE3.bel).mono ?_;rintro e w3 ⟨rfl,hb3⟩;have hk3':=hk3.trans (FK.below hb3 hE3.le (by omega));have hO3':=own_below hO3 hb3;have hE3':=hE3.on hb3 hs;have hM3':=hM3.below hb3;have c3':=hE3'.cl;have ld3:=hld _ hE3'.bel) | (go_at_call 66;refine (kU b M c _ K hM3' hMok (by omega) hcok hcd).mono ?_;rintro e w4 ⟨b4,M4,he,hR4,hst4⟩;rw[hn] at he hst4;subst he;have hE4:=hE3'.on hR4.bl hs;have hk4:=hk3'.trans (FK.below hR4.bl hE3'.le (by omega));have hO4:=own_below hO3' hR4.bl;have c4:w4.cell? ⟨n0+2,0,none⟩=some v':=aD (L:=[v']) hE4.co 0) | (at_builtin;go_loud (refine wpList_append_own _ rfl _ _ tSl rfl (s+4) tInt i0 (.int .i64 0) 1 8 Tryz.underlying28 hi hz0 hz1 hz2 rfl (by decide) _ _ _ rfl (hO4.alloc _) ⟨_,0,none⟩ 1 1 [.int .i64 (j:Int)] rfl rfl (cell_one_new _ _ _) (by simp[Value.oneCell']) (by unfold maxLen;omega) (by omega) (by have:=hE4.le;simp;omega) ?_;intro v5 w5 hO5 hg5 _;obtain⟨a5,q5,rfl⟩:=aC hO5;have hba:Below w4.heap.size w4 (w4.alloc (.cells #[.int .i64 (j:Int)] 3)):=(Below.refl _ _).alloc (Nat.le_refl _) _;have hE5:=(hE4.on hba hs).grown (hO4.alloc _) hg5 hs;have hk45:=(FK.below hba hE4.le (by omega:n0≤s)).trans (FK.row (hO4.alloc _) hg5 (hE4.on hba hs).le (by omega));have c5:w5.cell? ⟨n0+2,0,none⟩=some v':=aD (L:=[v']) hE5.co 0;have f5:w5.frozen? ⟨n0+2,0,none⟩=false:=eB (L:=[v']) hE5.co 0)))
         have hE6:=hE5.box hs (.slice a5 (pre.length+1) q5)
         have hk46:=hk45.trans (FK.box w5 (.slice a5 (pre.length+1) q5) hs)
         have hO6:=uE (u := .slice a5 (pre.length+1) q5) hO5 hs
         generalize w5.setCell ⟨n0+2,0,none⟩ (.slice a5 (pre.length+1) q5)=w6 at *
         have hbd:Below w6.heap.size w6 w6.drew:=(Below.refl _ _).drew
         have hkd:=FK.below hbd hE6.le (by omega:n0≤s)
         have hE6d:=hE6.on hbd hs
         have hih:=ih k' (by omega) w6.drew b4 M4 t (u ||| 2 ^ j) nm' _ (pre++[j]) (K+1) ((hE4.model hk46 hR4.at_).below hbd) (hst4 t rfl) htok (by omega) (by omega) hu2 hE6d (by rw[Nat.pow_succ] at hnm;have:=Nat.mul_le_mul_right X (show j≤9 by omega);omega) (by have:=own_below hO6 hbd;simpa [iv] using this) (by simp;omega)
         clear ih hE5 hE4 hO5 hg5 hk45 c5 f5 c4
         refine aP (S:=fun W=>W.cell? ⟨s+3,0,none⟩=some (.func (.func 63) #[] #[.pointer (some ⟨s+1,0,none⟩),.pointer (some ⟨s+2,0,none⟩),.pointer (some ⟨n0+1,0,none⟩),.pointer (some ⟨n0+2,0,none⟩),.pointer (some ⟨s+3,0,none⟩)])) ?_ (fun hHeld => ?_)
         ·first | exact hE6.cf | exact hE6d.cf | exact hE7.cf
         iterate 6 ((first | refine aJ ?_ | refine np_q ?_ | refine aL 0 ?_);(try simp only[nSO]))
         first | (refine np_s 6 ?_;(try simp only[nSO])) | (refine np_c 6 (fun K hK => ?_);go_simp;((go_at_call 63;refine hih.mono ?_;rintro e w7 ⟨he,nm7,v7,hn7,hE7,hk7,hO7⟩;rw[hSS] at he;subst he));(try go_wp2_with fail);refine hK.out _ _ ?_ (fun hHeld => ?_);(· (first | exact hE6.cf | exact hE6d.cf | exact hE7.cf));clear hK K;(try simp only[nSO]))
         refine np_z ?_
         have hE7':=hE7
         go_wp2
         go_returns
         refine⟨by rw[hS];rfl,nm7,v7,?_,hE7,hk2.trans (hk4.trans (hk46.trans (hkd.trans hk7))),?_⟩
         ·rw[Nat.pow_succ];have:=Nat.mul_le_mul_right X (show j≤9 by omega);omega
         ·rw[hS];rw[hSS] at hO7;simpa using hO7
        |none =>
         have ht:tryS cs.length (nx cs) (rdyB cs) (bW cs) M.st u j=none:=by unfold tryS;rw[if_pos hcand,hnx,hn];simp[hSS]
         go_wp2_with (first | (go_at_call 65;refine (hrd _ hE3.bel).mono ?_;rintro e w3 ⟨rfl,hb3⟩;have hk3':=hk3.trans (FK.below hb3 hE3.le (by omega));have hO3':=own_below hO3 hb3;have hE3':=hE3.on hb3 hs;have hM3':=hM3.below hb3;have c3':=hE3'.cl;have ld3:=hld _ hE3'.bel) | (go_at_call 66;refine (kU b M c _ K hM3' hMok (by omega) hcok hcd).mono ?_;rintro e w4 ⟨b4,M4,he,hR4,hst4⟩;rw[hn] at he hst4;subst he;have hE4:=hE3'.on hR4.bl hs;have hk4:=hk3'.trans (FK.below hR4.bl hE3'.le (by omega));have hO4:=own_below hO3' hR4.bl;have c4:w4.cell? ⟨n0+2,0,none⟩=some v':=aD (L:=[v']) hE4.co 0) | (at_builtin;go_loud (refine wpList_append_own _ rfl _ _ tSl rfl (s+4) tInt i0 (.int .i64 0) 1 8 Tryz.underlying28 hi hz0 hz1 hz2 rfl (by decide) _ _ _ rfl (hO4.alloc _) ⟨_,0,none⟩ 1 1 [.int .i64 (j:Int)] rfl rfl (cell_one_new _ _ _) (by simp[Value.oneCell']) (by unfold maxLen;omega) (by omega) (by have:=hE4.le;simp;omega) ?_;intro v5 w5 hO5 hg5 _;obtain⟨a5,q5,rfl⟩:=aC hO5;have hba:Below w4.heap.size w4 (w4.alloc (.cells #[.int .i64 (j:Int)] 3)):=(Below.refl _ _).alloc (Nat.le_refl _) _;have hE5:=(hE4.on hba hs).grown (hO4.alloc _) hg5 hs;have hk45:=(FK.below hba hE4.le (by omega:n0≤s)).trans (FK.row (hO4.alloc _) hg5 (hE4.on hba hs).le (by omega));have c5:w5.cell? ⟨n0+2,0,none⟩=some v':=aD (L:=[v']) hE5.co 0;have f5:w5.frozen? ⟨n0+2,0,none⟩=false:=eB (L:=[v']) hE5.co 0)))
         have hE6:=hE5.box hs (.slice a5 (pre.length+1) q5)
         have hk46:=hk45.trans (FK.box w5 (.slice a5 (pre.length+1) q5) hs)
         have hO6:=uE (u := .slice a5 (pre.length+1) q5) hO5 hs
         generalize w5.setCell ⟨n0+2,0,none⟩ (.slice a5 (pre.length+1) q5)=w6 at *
         have hbd:Below w6.heap.size w6 w6.drew:=(Below.refl _ _).drew
         have hkd:=FK.below hbd hE6.le (by omega:n0≤s)
         have hE6d:=hE6.on hbd hs
         have hih:=ih k' (by omega) w6.drew b4 M4 t (u ||| 2 ^ j) nm' _ (pre++[j]) (K+1) ((hE4.model hk46 hR4.at_).below hbd) (hst4 t rfl) htok (by omega) (by omega) hu2 hE6d (by rw[Nat.pow_succ] at hnm;have:=Nat.mul_le_mul_right X (show j≤9 by omega);omega) (by have:=own_below hO6 hbd;simpa [iv] using this) (by simp;omega)
         clear ih hE5 hE4 hO5 hg5 hk45 c5 f5 c4
         refine aP (S:=fun W=>W.cell? ⟨s+3,0,none⟩=some (.func (.func 63) #[] #[.pointer (some ⟨s+1,0,none⟩),.pointer (some ⟨s+2,0,none⟩),.pointer (some ⟨n0+1,0,none⟩),.pointer (some ⟨n0+2,0,none⟩),.pointer (some ⟨s+3,0,none⟩)])) ?_ (fun hHeld => ?_)
         ·first | exact hE6.cf | exact hE6d.cf | exact hE7.cf
         iterate 6 ((first | refine aJ ?_ | refine np_q ?_ | refine aL 0 ?_);(try simp only[nSO]))
         first | (refine np_s 6 ?_;(try simp only[nSO])) | (refine np_c 6 (fun K hK => ?_);go_simp;((go_at_call 63;refine hih.mono ?_;rintro e w7 ⟨he,nm7,v7,hn7,hE7,hk7,hO7⟩;rw[hSS] at he;subst he));(try go_wp2_with fail);refine hK.out _ _ ?_ (fun hHeld => ?_);(· (first | exact hE6.cf | exact hE6d.cf | exact hE7.cf));clear hK K;(try simp only[nSO]))
         refine np_z ?_
         have hO8:w7.ownsRow (s+4) tInt 1 v7 (pre.length+1) ((pre.map fun (x:Nat)=>iv x)++[iv j]):=by rw[hSS] at hO7;simpa using hO7
         obtain⟨a7,q7,rfl⟩:=aC hO8
         have c7:w7.cell? ⟨n0+2,0,none⟩=some (.slice a7 (pre.length+1) q7):=aD (L:=[.slice a7 (pre.length+1) q7]) hE7.co 0
         have f7:w7.frozen? ⟨n0+2,0,none⟩=false:=eB (L:=[.slice a7 (pre.length+1) q7]) hE7.co 0
         have hcap7:=aPh hO8
         have hk8:=hk4.trans (hk46.trans (hkd.trans (hk7.trans (FK.box w7 (.slice a7 pre.length q7) hs))))
         have hE8:=hE7.box hs (.slice a7 pre.length q7)
         have hO9:=uE (u := .slice a7 pre.length q7) (aPi hO8) hs
         have hnm8:nm7≤nm+(j+1)*X:=by rw[Nat.succ_mul];omega
         clear hSS hn hO8 hO7 hk7 hkd hk46 hk4
         go_wp2
         go_roundw
         case rel=>exact nX hE8 hk8 hO9 htry ht hlt hnm8
         case measure=>simp[intOf];omega
    ·have hke:j=cs.length:=by omega
     subst hke
     have hS:SS cs M.st u=none:=aLm hf htry
     have hlx:=Nat.mul_le_mul_right X hl
     have hPr:vP cs u (strOf (keyL M.st)) (.bool true):=fun x st hx hst hk=>by
      have e:=(aGn hMok hst (by omega) (by omega)).1 hk
      subst e
      have e2:x=u:=by omega
      rw[e2];exact hS
     have hzb:=hE2.blk hk3 hzz (by decide) (by decide)
     have e0:wr.cell? ⟨z,0,none⟩=some (.int .i64 u):=aD (L:=[.int .i64 u,.string (strOf (keyL M.st))]) hzb 0
     have e1:wr.cell? ⟨z,1,none⟩=some (.string (strOf (keyL M.st))):=aD (L:=[.int .i64 u,.string (strOf (keyL M.st))]) hzb 1
     have c3:=hE3.cd
     go_wp2_with (at_mapUpdate;refine lZ _ rfl _ _ _ 102 rfl 4 Tryz.underlying102 rfl hE3.mp (by unfold maxLen;omega) u (strOf (keyL M.st)) (.bool true) rfl rfl hwf (qW M.st hMok) (plainElem_bool Tryz.underlying4 true) hPr ?_;intro w9 hm9 hg9)
     go_returns
     refine⟨by rw[hS];rfl,_,v',?_,hE3.store hs hg9 hm9,hk2.trans (hk3.trans (FK.map hg9 hE3.le (by omega))),?_⟩
     ·omega
     ·rw[hS];have:=aPg hO3 hg9;simpa using this
theorem aPn {n0 s:Nat} {w0:World} {p:Option Addr} {cap:Nat} {cs:List aA} (hs:n0+3≤s) (hC:∀ W,Below n0 w0 W→CRow W p cap cs) (hl:cs.length≤10) (hok:∀ c∈cs,c.Ok) (hd:∀ c∈cs,c.ps.length≤1000000) :
  ∀ k,aL0 n0 s w0 p cap cs k:=by
 intro k
 induction k using Nat.strongRecOn with
 |ind k ih=>exact aIp hs hC hl hok hd ih
theorem vQ {c:CfgV} {p:Option Addr} {cap:Nat} {cs:List aA} {w:World} (hC:CRow w p cap cs) (hs:cs.length≤1000) (hok:∀ x∈cs,x.Ok) (h:bK c cs≠0) :
  Calls Tryz.prog 61 #[c.v,.slice p cs.length cap] w fun e w'=>e = .returned (.tuple #[.pointer none,.int .i64 (bK c cs)])∧Below w.heap.size w w' :=
 (yK c p cap cs w hC hs hok).mono fun e w' h'=>h'.elim (fun h'=>h'.2) (fun h'=>absurd h'.1 h)
theorem vR {c:CfgV} {p:Option Addr} {cap:Nat} {cs:List aA} {w:World} (hC:CRow w p cap cs) (hs:cs.length≤1000) (hok:∀ x∈cs,x.Ok) (h:bK c cs=0) :
  Calls Tryz.prog 61 #[c.v,.slice p cs.length cap] w fun e w'=>∃ b M,e = .returned (.tuple #[.pointer (some ⟨b,0,none⟩),.int .i64 0])∧Run w w' b M∧M.st=newS c :=
 (yK c p cap cs w hC hs hok).mono fun e w' h'=>h'.elim (fun h'=>absurd h h'.1) (fun h'=>h'.2)
theorem nY {c:CfgV} {cs:List aA} (h:bK c cs=0):cfgE c=0∧(bF cs).2=0∧cs.length≤10:=by
 unfold bK at h
 split at h
 ·rename_i h1;exact absurd h h1
 ·rename_i h1
  split at h
  ·rename_i h2;exact absurd h h2
  ·rename_i h2
   split at h
   ·cases h
   ·exact⟨by simpa using h1,by simpa using h2,by omega⟩
theorem aL1 {n0:Nat} {w0 w2:World} {p:Option Addr} {cap:Nat} {cs:List aA} (hB:Below n0 w0 w2) (hl:w2.heap[n0+1]? = some (.cells #[.slice p cs.length cap] 25 (0,0))) (ho:w2.heap[n0+1+1]? = some (.cells #[.slice none 0 0] tSl (0,0))) (hn:n0+3≤w2.heap.size) :
  FE n0 w2.heap.size w0 p cap cs 0 (.slice none 0 0) ((((w2.alloc (.map #[] 0)).alloc (.cells #[.int .i64 (allB cs cs.length:Nat)] 3)).alloc (.cells #[.map (some w2.heap.size)] 102)).alloc (.cells #[(.func (.func jP) #[] #[.pointer (some ⟨w2.heap.size+1,0,none⟩),.pointer (some ⟨w2.heap.size+1+1,0,none⟩),.pointer (some ⟨n0+1,0,none⟩),.pointer (some ⟨n0+1+1,0,none⟩),.pointer (some ⟨w2.heap.size+1+1+1,0,none⟩)])] 103)):=by
 have h1:=aZ (aZ (aZ hl (.map #[] 0)) (.cells #[.int .i64 (allB cs cs.length:Nat)] 3)) (.cells #[.map (some w2.heap.size)] 102)
 have h2:=aZ (aZ (aZ ho (.map #[] 0)) (.cells #[.int .i64 (allB cs cs.length:Nat)] 3)) (.cells #[.map (some w2.heap.size)] 102)
 have h3:=aZ (aZ (bE (w2.alloc (.map #[] 0)) [.int .i64 (allB cs cs.length:Nat)] 3) (.cells #[.map (some w2.heap.size)] 102)) (.cells #[(.func (.func jP) #[] #[.pointer (some ⟨w2.heap.size+1,0,none⟩),.pointer (some ⟨w2.heap.size+1+1,0,none⟩),.pointer (some ⟨n0+1,0,none⟩),.pointer (some ⟨n0+1+1,0,none⟩),.pointer (some ⟨w2.heap.size+1+1+1,0,none⟩)])] 103)
 have h4:=aZ (bE ((w2.alloc (.map #[] 0)).alloc (.cells #[.int .i64 (allB cs cs.length:Nat)] 3)) [.map (some w2.heap.size)] 102) (.cells #[(.func (.func jP) #[] #[.pointer (some ⟨w2.heap.size+1,0,none⟩),.pointer (some ⟨w2.heap.size+1+1,0,none⟩),.pointer (some ⟨n0+1,0,none⟩),.pointer (some ⟨n0+1+1,0,none⟩),.pointer (some ⟨w2.heap.size+1+1+1,0,none⟩)])] 103)
 have h5:=bE (((w2.alloc (.map #[] 0)).alloc (.cells #[.int .i64 (allB cs cs.length:Nat)] 3)).alloc (.cells #[.map (some w2.heap.size)] 102)) [(.func (.func jP) #[] #[.pointer (some ⟨w2.heap.size+1,0,none⟩),.pointer (some ⟨w2.heap.size+1+1,0,none⟩),.pointer (some ⟨n0+1,0,none⟩),.pointer (some ⟨n0+1+1,0,none⟩),.pointer (some ⟨w2.heap.size+1+1+1,0,none⟩)])] 103
 have hm:=aZ (aZ (aZ (MapKept.heap_alloc w2 (.map #[] 0)).1 (.cells #[.int .i64 (allB cs cs.length:Nat)] 3)) (.cells #[.map (some w2.heap.size)] 102)) (.cells #[(.func (.func jP) #[] #[.pointer (some ⟨w2.heap.size+1,0,none⟩),.pointer (some ⟨w2.heap.size+1+1,0,none⟩),.pointer (some ⟨n0+1,0,none⟩),.pointer (some ⟨n0+1+1,0,none⟩),.pointer (some ⟨w2.heap.size+1+1+1,0,none⟩)])] 103)
 simp only[World.size_alloc] at h3 h4 h5
 refine⟨(((hB.alloc (by omega) _).alloc (by simp only[World.size_alloc];omega) _).alloc (by simp only[World.size_alloc];omega) _).alloc (by simp only[World.size_alloc];omega) _,by simp only[World.size_alloc];omega,aD (L:=[.slice p cs.length cap]) (aZ h1 _) 0,aZ h2 _,?_,aD (L:=[.int .i64 (allB cs cs.length:Nat)]) h3 0,aD (L:=[.map (some w2.heap.size)]) h4 0,aD (L:=[(.func (.func jP) #[] #[.pointer (some ⟨w2.heap.size+1,0,none⟩),.pointer (some ⟨w2.heap.size+1+1,0,none⟩),.pointer (some ⟨n0+1,0,none⟩),.pointer (some ⟨n0+1+1,0,none⟩),.pointer (some ⟨w2.heap.size+1+1+1,0,none⟩)])]) h5 0⟩
 exact (MapP.made w2 4 (vP cs)).keep (by rw[hm];exact (MapKept.heap_alloc w2 (.map #[] 0)).1.symm)
theorem yN {n0 b:Nat} {w0 w2:World} {p:Option Addr} {cap:Nat} {cs:List aA} {c:CfgV} {M:MM} (hB:Below n0 w0 w2) (hl:w2.heap[n0+1]? = some (.cells #[.slice p cs.length cap] 25 (0,0))) (ho:w2.heap[n0+1+1]? = some (.cells #[.slice none 0 0] tSl (0,0))) (hn:n0+3≤w2.heap.size)
  (hC:∀ W,Below n0 w0 W→CRow W p cap cs) (hle:cs.length≤10) (hok:∀ c∈cs,c.Ok) (hd:∀ c∈cs,c.ps.length≤1000000) (hM:MdAt w2 b M) (hst:M.st=newS c) (hc:cfgE c=0) :
  Calls Tryz.prog jP #[.pointer (some ⟨b,0,none⟩),.int .i64 0,.pointer (some ⟨w2.heap.size+1,0,none⟩),.pointer (some ⟨w2.heap.size+1+1,0,none⟩),.pointer (some ⟨n0+1,0,none⟩),.pointer (some ⟨n0+1+1,0,none⟩),.pointer (some ⟨w2.heap.size+1+1+1,0,none⟩)] ((((w2.alloc (.map #[] 0)).alloc (.cells #[.int .i64 (allB cs cs.length:Nat)] 3)).alloc (.cells #[.map (some w2.heap.size)] 102)).alloc (.cells #[(.func (.func jP) #[] #[.pointer (some ⟨w2.heap.size+1,0,none⟩),.pointer (some ⟨w2.heap.size+1+1,0,none⟩),.pointer (some ⟨n0+1,0,none⟩),.pointer (some ⟨n0+1+1,0,none⟩),.pointer (some ⟨w2.heap.size+1+1+1,0,none⟩)])] 103))
   fun e W'=>∃ v',e = .returned (.bool (SS cs (newS c) 0).isSome)∧W'.heap[n0+1+1]? = some (.cells #[v'] tSl (0,0))∧Below n0 w0 W'∧W'.ownsRow (w2.heap.size+4) tInt 1 v' ((SS cs (newS c) 0).getD []).length (((SS cs (newS c) 0).getD []).map fun (x:Nat)=>iv x):=by
 have hE:=aL1 hB hl ho hn
 have hk:Below w2.heap.size w2 ((((w2.alloc (.map #[] 0)).alloc (.cells #[.int .i64 (allB cs cs.length:Nat)] 3)).alloc (.cells #[.map (some w2.heap.size)] 102)).alloc (.cells #[(.func (.func jP) #[] #[.pointer (some ⟨w2.heap.size+1,0,none⟩),.pointer (some ⟨w2.heap.size+1+1,0,none⟩),.pointer (some ⟨n0+1,0,none⟩),.pointer (some ⟨n0+1+1,0,none⟩),.pointer (some ⟨w2.heap.size+1+1+1,0,none⟩)])] 103)):=((((Below.refl _ w2).alloc (Nat.le_refl _) _).alloc (by simp only[World.size_alloc];omega) _).alloc (by simp only[World.size_alloc];omega) _).alloc (by simp only[World.size_alloc];omega) _
 have h:=aPn (n0:=n0) (s:=w2.heap.size) hn hC hle hok hd cs.length _ b M (newS c) 0 0 (.slice none 0 0) [] 0 (hM.below hk) hst (uB hc) (by omega) (by unfold fr;exact Nat.le_trans (List.length_filter_le _ _) (by simp)) (by decide) hE (by have:11 ^ cs.length≤11 ^ 10:=Nat.pow_le_pow_right (by omega) hle;have:(11:Nat) ^ 10≤11 ^ 12:=(by decide);omega) (World.ownsRow_nil _ _ _ _) (by simpa using hle)
 refine h.mono ?_
 rintro e W' ⟨he,nm',v',_,hE',_,hO⟩
 refine⟨v',he,hE'.co,hE'.bel,?_⟩
 rw[List.nil_append] at hO
 exact hO
def aL2 (c:CfgV) (cs:List aA) (w:World) (e:Ending) (w':World):Prop :=
 ∃ v,e = .returned (.tuple #[v,.bool (iE c cs).2.1,.int .i64 (iE c cs).2.2])∧w'.ownsRow w.heap.size tInt 1 v (iE c cs).1.length ((iE c cs).1.map fun (x:Nat)=>iv x)∧Below w.heap.size w w'
theorem mP (c:CfgV) (p:Option Addr) (cap:Nat) (cs:List aA) (w:World) (hC:CRow w p cap cs) (hs:cs.length≤1000) (hok:∀ x∈cs,x.Ok) (hd:∀ x∈cs,x.ps.length≤1000000) :
  Calls Tryz.prog 19 #[c.v,.slice p cs.length cap] w (aL2 c cs w):=by
 have hB0:Below w.heap.size w (((w.alloc (.cells #[.int .i64 c.slots,.int .u64 c.gens,.int .i64 c.clients,.int .i64 c.readers,.int .i64 c.queue,.int .i64 c.batch,.int .i64 c.feed,.string c.text] 24)).alloc (.cells #[.slice p cs.length cap] 25)).alloc (.cells #[.slice none 0 0] tSl)):=(((Below.refl w.heap.size w).alloc (Nat.le_refl _) _).alloc (by simp) _).alloc (by simp;omega) _
 have hl0:=aZ (bE (w.alloc (.cells #[.int .i64 c.slots,.int .u64 c.gens,.int .i64 c.clients,.int .i64 c.readers,.int .i64 c.queue,.int .i64 c.batch,.int .i64 c.feed,.string c.text] 24)) [.slice p cs.length cap] 25) (.cells #[.slice none 0 0] tSl)
 have ho0:=bE ((w.alloc (.cells #[.int .i64 c.slots,.int .u64 c.gens,.int .i64 c.clients,.int .i64 c.readers,.int .i64 c.queue,.int .i64 c.batch,.int .i64 c.feed,.string c.text] 24)).alloc (.cells #[.slice p cs.length cap] 25)) [.slice none 0 0] tSl
 rw[World.size_alloc] at hl0
 rw[World.size_alloc,World.size_alloc] at ho0
 have hsz0:(((w.alloc (.cells #[.int .i64 c.slots,.int .u64 c.gens,.int .i64 c.clients,.int .i64 c.readers,.int .i64 c.queue,.int .i64 c.batch,.int .i64 c.feed,.string c.text] 24)).alloc (.cells #[.slice p cs.length cap] 25)).alloc (.cells #[.slice none 0 0] tSl)).heap.size=w.heap.size+3:=by simp
 by_cases h0:bK c cs=0
 ·have hst:=vR (hC.on hB0) hs hok h0
  have hmm := @run_makeMap Tryz.prog
  obtain⟨h00,_,hle⟩:=nY h0
  unfold CfgV.v at *
  have hfp:iE c cs=match SS cs (newS c) 0 with | some a=>(a,true,0) | none=>([],false,0):=by unfold iE;rw[if_neg (by rw[h0];simp)];(try (cases SS cs (newS c) 0<;>rfl))
  cases hSS:SS cs (newS c) 0 with
  |none =>
   rw[hSS] at hfp
   go_enter Tryz.func19,Tryz.ntmps19
   go_wp2_with (first | (go_at_call 61;refine hst.mono ?_;rintro e w1 ⟨b,M,rfl,hR,hM⟩;have hl1:=aU hl0 hR.bl (by omega);have ho1:=aU ho0 hR.bl (by omega);have hB1:Below w.heap.size w w1:=hB0.trans (hR.bl.mono (by omega));have e1:w1.cell? ⟨w.heap.size+1,0,none⟩=some (.slice p cs.length cap):=aD (L:=[.slice p cs.length cap]) hl1 0) | (go_at_call 62;refine (lQ p cap cs _ (hC.on hB1) (by omega)).mono ?_;rintro e w2 ⟨rfl,hb2⟩) | (go_at_call 63;have hs1:=hR.bl.size;refine (yN (hB1.trans (hb2.mono hB1.size)) (aU hl1 hb2 (by omega)) (aU ho1 hb2 (by omega)) (by have:=hb2.size;omega) (fun W h=>hC.on h) hle hok hd (hR.at_.below hb2) hM h00).mono ?_;rintro e w9 ⟨v9,he,ho9,hB9,hO9⟩;rw[hSS] at he hO9;subst he;obtain⟨a9,q9,rfl⟩:=aC hO9;have c9:w9.cell? ⟨w.heap.size+1+1,0,none⟩=some (.slice a9 _ q9):=aD (L:=[_]) ho9 0;have f9:w9.frozen? ⟨w.heap.size+1+1,0,none⟩=false:=eB (L:=[_]) ho9 0))
   have cf:(w9.setCell ⟨w.heap.size+1+1,0,none⟩ (.slice none 0 0)).cell? ⟨w.heap.size+1+1,0,none⟩=some (.slice none 0 0):=aD (L:=[.slice none 0 0]) (bZ (L:=[_]) ho9 0 (.slice none 0 0)) 0
   exact⟨rfl,.tuple #[.slice none 0 0,.bool false,.int .i64 0],by simp[results,Tryz.f19,go_sem,cf],.slice none 0 0,by rw[hfp],by rw[hfp];exact World.ownsRow_nil _ _ _ _,hB9.setCell (p:=⟨w.heap.size+1+1,0,none⟩) (by simp;omega) _⟩
  |some a =>
   rw[hSS] at hfp
   go_enter Tryz.func19,Tryz.ntmps19
   go_wp2_with (first | (go_at_call 61;refine hst.mono ?_;rintro e w1 ⟨b,M,rfl,hR,hM⟩;have hl1:=aU hl0 hR.bl (by omega);have ho1:=aU ho0 hR.bl (by omega);have hB1:Below w.heap.size w w1:=hB0.trans (hR.bl.mono (by omega));have e1:w1.cell? ⟨w.heap.size+1,0,none⟩=some (.slice p cs.length cap):=aD (L:=[.slice p cs.length cap]) hl1 0) | (go_at_call 62;refine (lQ p cap cs _ (hC.on hB1) (by omega)).mono ?_;rintro e w2 ⟨rfl,hb2⟩) | (go_at_call 63;have hs1:=hR.bl.size;refine (yN (hB1.trans (hb2.mono hB1.size)) (aU hl1 hb2 (by omega)) (aU ho1 hb2 (by omega)) (by have:=hb2.size;omega) (fun W h=>hC.on h) hle hok hd (hR.at_.below hb2) hM h00).mono ?_;rintro e w9 ⟨v9,he,ho9,hB9,hO9⟩;rw[hSS] at he hO9;subst he;obtain⟨a9,q9,rfl⟩:=aC hO9;have c9:w9.cell? ⟨w.heap.size+1+1,0,none⟩=some (.slice a9 _ q9):=aD (L:=[_]) ho9 0;have f9:w9.frozen? ⟨w.heap.size+1+1,0,none⟩=false:=eB (L:=[_]) ho9 0))
   have cf:(w9.setCell ⟨w.heap.size+1+1,0,none⟩ (.slice a9 a.length q9)).cell? ⟨w.heap.size+1+1,0,none⟩=some (.slice a9 a.length q9):=aD (L:=[.slice a9 a.length q9]) (bZ (L:=[_]) ho9 0 (.slice a9 a.length q9)) 0
   have hsz2:w.heap.size+3≤w2.heap.size:=by have h1:=hR.bl.size;have h2:=hb2.size;omega
   exact⟨rfl,.tuple #[.slice a9 a.length q9,.bool true,.int .i64 0],by simp[results,Tryz.f19,go_sem,cf],.slice a9 a.length q9,by rw[hfp],by rw[hfp];exact aJ9 (uE (n0:=w.heap.size) (s:=w2.heap.size) (u := .slice a9 a.length q9) hO9 hsz2) (by omega),hB9.setCell (p:=⟨w.heap.size+1+1,0,none⟩) (by simp;omega) _⟩
 ·have hst:=vQ (hC.on hB0) hs hok h0
  have hf:iE c cs=([],false,bK c cs):=by unfold iE;rw[if_pos h0]
  have hd:(bK c cs != 0)=true:=by simpa using h0
  generalize bK c cs=sE at *
  unfold CfgV.v at *
  go_enter Tryz.func19,Tryz.ntmps19
  go_wp2_with (go_at_call 61;refine hst.mono ?_;rintro e w1 ⟨rfl,hb1⟩;have ho1:=aU ho0 hb1 (by omega);have c1:w1.cell? ⟨w.heap.size+1+1,0,none⟩=some (.slice none 0 0):=aD (L:=[.slice none 0 0]) ho1 0;have f1:w1.frozen? ⟨w.heap.size+1+1,0,none⟩=false:=eB (L:=[.slice none 0 0]) ho1 0)
  have cf:(w1.setCell ⟨w.heap.size+1+1,0,none⟩ (.slice none 0 0)).cell? ⟨w.heap.size+1+1,0,none⟩=some (.slice none 0 0):=aD (L:=[.slice none 0 0]) (bZ (L:=[_]) ho1 0 (.slice none 0 0)) 0
  have hB1:Below w.heap.size w w1:=hB0.trans (hb1.mono (by omega))
  exact⟨rfl,.tuple #[.slice none 0 0,.bool false,.int .i64 sE],by simp[results,Tryz.f19,go_sem,cf],.slice none 0 0,by rw[hf],by rw[hf];exact World.ownsRow_nil _ _ _ _,hB1.setCell (p:=⟨w.heap.size+1+1,0,none⟩) (by simp;omega) _⟩
theorem aPo (c:CfgV) (p:Option Addr) (cap:Nat) (cs:List aA) (w:World) (hC:CRow w p cap cs) (hs:cs.length≤1000) (hok:∀ x∈cs,x.Ok) (hd:∀ x∈cs,x.ps.length≤1000000) :
  Calls Tryz.prog 23 #[c.v,.slice p cs.length cap] w fun e w'=>e = .returned (.tuple #[.bool (iE c cs).2.1,.int .i64 (iE c cs).2.2])∧Below w.heap.size w w':=by
 have hB0:Below w.heap.size w (w.alloc (.cells #[.int .i64 c.slots,.int .u64 c.gens,.int .i64 c.clients,.int .i64 c.readers,.int .i64 c.queue,.int .i64 c.batch,.int .i64 c.feed,.string c.text] 24)):=(Below.refl w.heap.size w).alloc (Nat.le_refl _) _
 have hf:=mP c p cap cs _ (hC.on hB0) hs hok hd
 unfold CfgV.v at *
 go_enter Tryz.func23,Tryz.ntmps23
 go_wp2_with (go_at_call 19;refine hf.mono ?_;rintro e w1 ⟨v,rfl,hO,hb1⟩;obtain⟨a9,q9,rfl⟩:=aC hO)
 go_returns
 exact⟨rfl,hB0.trans (hb1.mono hB0.size)⟩
end Go.Proofs.YtdeiocppghhfdaaGreat.Lin
