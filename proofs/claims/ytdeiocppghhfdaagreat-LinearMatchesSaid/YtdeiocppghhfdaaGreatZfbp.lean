/- Texts, one behind another. -/
import Derived.Test.YtdeiocppghhfdaaGreatZfbo
set_option linter.unusedVariables false
set_option linter.unusedSimpArgs false
set_option maxRecDepth 100000
set_option maxHeartbeats 40000000
namespace Go.Proofs.YtdeiocppghhfdaaGreat.Lin
open Go.RowKit Go.Lib Go.Shelf
open Hs
open KitI (iv own_below)
attribute [local go_sem, local simp] Hs.dP
attribute [local go_sem ↓] Hs.aN Hs.aR
attribute [local go_sem] Hs.bX Hs.bB Hs.aX Hs.bH Hs.cK
theorem aGr (f:Nat→Nat) (m a:Nat):∀ l:List Nat,min (a+(l.map fun y=>min (f y) m).sum) m=min (a+(l.map f).sum) m
 |[]=>rfl
 |x::l=>by
  have h1:=aGr f m a l
  simp only[List.map_cons,List.sum_cons]
  omega
theorem eO {W W':World} {row:Option Nat} (h:Below W.heap.size W W'):W.grownBy W' row:=⟨h.os,h.tape,h.output,h.size,fun k hk _=>h.block k hk⟩
theorem aFe (W:World) (row:Option Nat):W.grownBy W row:=⟨rfl,rfl,rfl,Nat.le_refl _,fun _ _ _=>rfl⟩
theorem fT {A B C:World} {row:Option Nat} (h:A.grownBy B row) (k:B.grownBy C row):A.grownBy C row:=⟨k.os.trans h.os,k.tape.trans h.tape,k.output.trans h.output,Nat.le_trans h.size k.size,fun j hj hne=>(k.block j (Nat.lt_of_lt_of_le hj h.size) hne).trans (h.block j hj hne)⟩
def aAn (cs:List aA) (most:Nat) (u:Int) (k:ByteArray) (v:Value):Prop:=∀ (x:Nat) (st:MS),(x:Int)=u→MSok st 100000→k=strOf (keyL st)→v = .int .i64 (min (CC cs st x) most:Nat)
abbrev iB:FuncId:=69
def aRi (n0 s:Nat):Value := .func (.func iB) #[] #[.pointer (some ⟨s+2,0,none⟩),.pointer (some ⟨s+1,0,none⟩),.pointer (some ⟨n0+2,0,none⟩),.pointer (some ⟨s+3,0,none⟩),.pointer (some ⟨n0+1,0,none⟩)]
structure CE (n0 s:Nat) (w0:World) (p:Option Addr) (cap:Nat) (cs:List aA) (most nm:Nat) (W:World):Prop where
 bel:Below n0 w0 W
 le:s+4≤W.heap.size
 cm:W.cell? ⟨n0+1,0,none⟩=some (.int .i64 most)
 cl:W.cell? ⟨n0+2,0,none⟩=some (.slice p cs.length cap)
 mp:MapP W 3 s nm (aAn cs most)
 ca:W.cell? ⟨s+1,0,none⟩=some (.int .i64 (allB cs cs.length:Nat))
 cd:W.cell? ⟨s+2,0,none⟩=some (.map (some s))
 cf:W.cell? ⟨s+3,0,none⟩=some (aRi n0 s)
section
variable {n0 s:Nat} {w0:World} {p:Option Addr} {cap:Nat} {cs:List aA} {most nm nm':Nat} {W W':World}
theorem CE.step (h:CE n0 s w0 p cap cs most nm W) (hg:W.grownBy W' (some s)) (hs:n0+3≤s) (hm:MapP W' 3 s nm' (aAn cs most)):CE n0 s w0 p cap cs most nm' W':=by
 have hc:∀ j o,j<s+4→j≠s→W'.cell? ⟨j,o,none⟩=W.cell? ⟨j,o,none⟩:=fun j o h1 h2=>World.cell?_of_block (a:=⟨j,o,none⟩) (hg.block j (by have:=h.le;omega) (fun e=>h2 (Option.some.inj e)))
 refine⟨h.bel.trans ⟨hg.os,hg.tape,hg.output,hg.size,fun k hk=>hg.block k (by have:=h.le;omega) (fun e=>by injection e with e;omega)⟩,Nat.le_trans h.le hg.size,?_,?_,hm,?_,?_,?_⟩
 ·rw[hc _ _ (by omega) (by omega)];exact h.cm
 ·rw[hc _ _ (by omega) (by omega)];exact h.cl
 ·rw[hc _ _ (by omega) (by omega)];exact h.ca
 ·rw[hc _ _ (by omega) (by omega)];exact h.cd
 ·rw[hc _ _ (by omega) (by omega)];exact h.cf
theorem CE.on (h:CE n0 s w0 p cap cs most nm W) (hb:Below W.heap.size W W') (hs:n0+3≤s):CE n0 s w0 p cap cs most nm W':=h.step (eO hb) hs (h.mp.keep (hb.block _ h.mp.lt))
theorem CE.blk (h:CE n0 s w0 p cap cs most nm W) (hg:W.grownBy W' (some s)) {j:Nat} {c:Array Value} {T:TypeId} {r:Nat × Nat} (hj:W.heap[j]? = some (.cells c T r)):W'.heap[j]? = some (.cells c T r):=by
 refine (hg.block j (gAz hj).1 fun e => ?_).trans hj
 injection e with e
 subst e
 obtain⟨es,ck,hm,_⟩:=h.mp
 rw[hm] at hj;cases hj
theorem CE.row (h:CE n0 s w0 p cap cs most nm W) (hg:W.grownBy W' (some s)) {base sz n:Nat} {e:TypeId} {x:Value} {xs:List Value} (ho:W.ownsRow base e sz x n xs):W'.ownsRow base e sz x n xs:=by
 refine⟨ho.1,?_⟩
 rcases ho.2 with hn | ⟨g,cap,cur,rfl,hB,hc,rest⟩
 ·exact .inl hn
 ·exact .inr ⟨g,cap,cur,rfl,hB,h.blk hg hc,rest⟩
theorem CE.model (h:CE n0 s w0 p cap cs most nm W) (hg:W.grownBy W' (some s)) {b:Nat} {M:MM} (hM:MdAt W b M):MdAt W' b M :=
 ⟨h.blk hg hM.blk,h.row hg hM.marks,h.row hg hM.seats,fun S hS=>h.row hg (hM.slots S hS),fun S hS x hx=>h.row hg (hM.smarks S hS x hx),hM.some_,hM.nodup⟩
end
def psum (cs:List aA) (most:Nat) (st:MS) (u j:Nat):Nat:=(if bW cs u then 1 else 0)+((List.range j).map fun y=>min (tryC cs.length (nx cs) (rdyB cs) (bW cs) st u y) most).sum
theorem yU (cs:List aA) (most:Nat) (st:MS) (u j:Nat):psum cs most st u (j+1)=psum cs most st u j+min (tryC cs.length (nx cs) (rdyB cs) (bW cs) st u j) most:=by
 unfold psum;rw[List.range_succ,List.map_append,List.sum_append];simp;omega
theorem aGs (cs:List aA) (most:Nat) (st:MS) (u:Nat):∀ j,psum cs most st u j≤1+j*most
 |0=>by unfold psum;simp;split<;>omega
 |j+1=>by have:=aGs cs most st u j;rw[yU,Nat.succ_mul];omega
theorem aMu (cs:List aA) (most:Nat) (st:MS) (u:Nat):min (psum cs most st u cs.length) most=min (CC cs st u) most:=by
 unfold psum;rw[aGr,← C_eq]
def aSd (n0 s:Nat) (w0:World) (p:Option Addr) (cap:Nat) (cs:List aA) (most nm k:Nat) (st:MS) (u:Nat) (W:World) (e:Ending) (W':World):Prop :=
 e = .returned (.int .i64 (min (CC cs st u) most:Nat))∧∃ nm',nm'≤nm+11 ^ k∧CE n0 s w0 p cap cs most nm' W'∧W.grownBy W' (some s)
def aMv (n0 s:Nat) (w0:World) (p:Option Addr) (cap:Nat) (cs:List aA) (most k:Nat):Prop :=
 ∀ (W:World) (b:Nat) (M:MM) (st:MS) (u nm:Nat) (K:Int),MdAt W b M→M.st=st→MSok st K→K+k≤100000→fr cs.length u≤k→u<2 ^ 10→CE n0 s w0 p cap cs most nm W→nm+11 ^ k≤11 ^ 12→k≤10 →
  Calls Tryz.prog iB #[.pointer (some ⟨b,0,none⟩),.int .i64 u,.pointer (some ⟨s+2,0,none⟩),.pointer (some ⟨s+1,0,none⟩),.pointer (some ⟨n0+2,0,none⟩),.pointer (some ⟨s+3,0,none⟩),.pointer (some ⟨n0+1,0,none⟩)] W (aSd n0 s w0 p cap cs most nm k st u W)
def CRel (n0 s:Nat) (w0:World) (p:Option Addr) (cap:Nat) (cs:List aA) (most nm k:Nat) (st:MS) (u:Nat) (w2:World) (x i:Value) (wr:World):Prop :=
 ∃ j nm':Nat,i = .int .i64 j∧x = .int .i64 (psum cs most st u j:Nat)∧j≤cs.length∧nm'≤nm+j*k∧CE n0 s w0 p cap cs most nm' wr∧w2.grownBy wr (some s)
theorem oG {n0 s:Nat} {w0:World} {p:Option Addr} {cap:Nat} {cs:List aA} {most nm k:Nat} {st:MS} {u:Nat} {w2 wr:World} {j nm':Nat} {x:Value} (hE:CE n0 s w0 p cap cs most nm' wr) (hk:w2.grownBy wr (some s))
  (hx:x = .int .i64 ((psum cs most st u j:Nat)+(min (tryC cs.length (nx cs) (rdyB cs) (bW cs) st u j) most:Nat):Int)) (hj:j<cs.length) (hn:nm'≤nm+(j+1)*k) :
  CRel n0 s w0 p cap cs most nm k st u w2 x (.int .i64 ((j:Int)+1)) wr :=
 ⟨j+1,nm',by go_num,by rw[hx,yU];simp,by omega,hn,hE,hk⟩
theorem aFf {n0 s:Nat} {w0:World} {p:Option Addr} {cap:Nat} {cs:List aA} {most k:Nat} (hs:n0+3≤s) (hC:∀ W,Below n0 w0 W→CRow W p cap cs) (hl:cs.length≤10) (hmost:most≤1000000) (hok:∀ c∈cs,c.Ok) (hd:∀ c∈cs,c.ps.length≤1000000)
  (ih:∀ j,j<k→aMv n0 s w0 p cap cs most j):aMv n0 s w0 p cap cs most k:=by
 intro W b M st u nm K hM hst hMok hK hfr hu hE hnm hk10
 subst hst
 obtain⟨X,hX1,hX2⟩:∃ X,(∀ j,k=j+1→X=11 ^ j)∧10*X+1≤11 ^ k:=by
  cases k with
  |zero=>exact⟨0,fun j h=>by omega,by decide⟩
  |succ k=>exact⟨11 ^ k,fun j h=>by cases h;rfl,by have:0<11 ^ k:=Nat.pow_pos (by omega);rw[Nat.pow_succ];omega⟩
 have hfm:=yH cs u
 have hal:=qU cs cs.length 10 hl
 have hand:=mH u (allB cs cs.length) (by omega) (by omega)
 have hbool:(bits .and .i64 (u:Int) (allB cs cs.length:Nat) == ((allB cs cs.length:Nat):Int))=bW cs u:=by
  rw[hand,← hfm,Bool.eq_iff_iff];simp;omega
 have hwf:=aEy (u:=u) (by omega)
 have hkey:=aGj b M W K hM hMok
 have hp0:psum cs most M.st u 0=if bW cs u then 1 else 0:=rfl
 clear hand hfm
 generalize hf:bW cs u=f at hbool hp0
 cases f
 all_goals
  go_enter Tryz.func69,Tryz.ntmps69
  go_wp2_with (first | (go_at_call 64;refine hkey.mono ?_;rintro e w1 ⟨rfl,hb1⟩;have hb2:Below W.heap.size W (w1.alloc (.cells #[.int .i64 u,.string (strOf (keyL M.st))] 105)):=hb1.alloc hb1.size _;have hE2:=hE.on hb2 hs;have c2:=hE2.cd;have c3:=hE2.cl;have c4:=hE2.ca;have hM2:=hM.below hb2;have hk2:W.grownBy _ (some s):=eO hb2) | (at_lookup;refine tL _ rfl _ _ 116 rfl 3 Tryz.underlying116 Tryz.underlying3 (by kernel_rfl) rfl hE2.mp u (strOf (keyL M.st)) rfl hwf (qW M.st hMok) ?_;intro y cc hy))
  ·have hyt:y=true:=by assumption
   have h1:Value.int .i64 cc = .int .i64 (min (CC cs M.st u) most:Nat):=hy hyt u M.st rfl (hMok.mono (by omega)) rfl
   go_returns
   refine⟨by show Ending.returned (.int .i64 cc)=_;rw[h1],nm,Nat.le_add_right _ _,hE2,hk2⟩
  ·skip
   obtain rfl:y=false:=by first | assumption | (cases y<;>simp_all)
   clear hy hkey hbool c2 c3 c4 hM hE
   have hzz:=heap_alloc_new w1 (.cells #[.int .i64 (u:Int),.string (strOf (keyL M.st))] 105)
   generalize w1.alloc (.cells #[.int .i64 (u:Int),.string (strOf (keyL M.st))] 105)=w2 at *
   generalize w1.heap.size=z at *
   go_loopw [13,36] (fun x i wr=>CRel n0 s w0 p cap cs most nm X M.st u w2 x i wr) (fun x i wr=>cs.length-(intOf i).toNat)
   case atStart=>exact⟨0,nm,rfl,by rw[hp0];rfl,by omega,by omega,hE2,aFe _ _⟩
   case round =>
    obtain⟨j,nm',rfl,rfl,hj,hnm',hE3,hk3⟩:=hrel
    by_cases hlt:j<cs.length
    ·have hnm1:nm'≤nm+(j+1)*X:=by rw[Nat.succ_mul];omega
     have hbit:=aAc u j (by omega)
     have c3:=hE3.cl
     cases hub:u.testBit j with
     |true =>
      rw[hub] at hbit
      simp only[if_true] at hbit
      have ht:tryC cs.length (nx cs) (rdyB cs) (bW cs) M.st u j=0:=by unfold tryC cand;rw[hub];rfl
      go_wp2
      go_roundw
      case rel=>exact oG hE3 hk3 (by rw[ht];(try simp)) hlt hnm1
      case measure=>simp[intOf];omega
     |false =>
      rw[hub] at hbit
      simp only[Bool.false_eq_true,if_false] at hbit
      have hrd:=fun W (h:Below n0 w0 W)=>yL p cap cs u j W (hC W h) (by omega) (by omega) hlt
      generalize hr:rdyB cs u j=r at hrd
      cases r with
      |false =>
       have ht:tryC cs.length (nx cs) (rdyB cs) (bW cs) M.st u j=0:=by unfold tryC cand;rw[hub,hr];rfl
       go_wp2_with (go_at_call 65;refine (hrd _ hE3.bel).mono ?_;rintro e w3 ⟨rfl,hb3⟩)
       have hk3':=fT hk3 (eO hb3)
       have hE3':=hE3.on hb3 hs
       go_roundw
       case rel=>exact oG hE3' hk3' (by rw[ht];(try simp)) hlt hnm1
       case measure=>simp[intOf];omega
      |true =>
       have hcand:cand (rdyB cs) u j=true:=by unfold cand;rw[hub,hr];rfl
       have hfr2:=yG hlt hub
       obtain⟨k',rfl⟩:∃ k',k=k'+1:=⟨k-1,by omega⟩
       have hXe:=hX1 k' rfl
       have hM3:=hE2.model hk3 hM2
       obtain⟨bq,off,rfl,hcap,_,_⟩:=jA (hC w0 (Below.refl _ _)) (by omega)
       have hld:=fun W (h:Below n0 w0 W)=>(aB8 (hC W h)).load (bR hlt)
       have hcm:getC cs j∈cs:=mGz (bR hlt)
       have hcok:=hok _ hcm
       have hcd:=hd _ hcm
       have hnx:∀ st,nx cs st j=eZ st (getC cs j):=fun _=>rfl
       generalize getC cs j=c at *
       cases hn:eZ M.st c with
       |none =>
        have ht:tryC cs.length (nx cs) (rdyB cs) (bW cs) M.st u j=0:=by unfold tryC;rw[if_pos hcand,hnx,hn]
        go_wp2_with (first | (go_at_call 65;refine (hrd _ hE3.bel).mono ?_;rintro e w3 ⟨rfl,hb3⟩;have hk3':=hk3.trans (eO hb3);have hE3':=hE3.on hb3 hs;have hM3':=hM3.below hb3;have c3':=hE3'.cl;have ld3:=hld _ hE3'.bel) | (go_at_call 66;refine (kU b M c _ K hM3' hMok (by omega) hcok hcd).mono ?_;rintro e w4 ⟨b4,M4,he,hR4,hst4⟩;rw[hn] at he hst4;subst he))
        have hE4:=hE3'.on hR4.bl hs
        have hk4:=fT hk3' (eO hR4.bl)
        go_roundw
        case rel=>exact oG hE4 hk4 (by rw[ht];(try simp)) hlt hnm1
        case measure=>simp[intOf];omega
       |some t =>
        have ht:tryC cs.length (nx cs) (rdyB cs) (bW cs) M.st u j=CC cs t (u ||| 2 ^ j):=by unfold tryC;rw[if_pos hcand,hnx,hn]
        have hor:bits .or .i64 (u:Int) (IntKind.i64.wrap (2 ^ j))=((u ||| 2 ^ j:Nat):Int):=by
         rw[sh_w (by omega)]
         exact qB u (2 ^ j) (by omega) (Nat.pow_lt_pow_right (by omega) (by omega))
        have hu2:u ||| 2 ^ j<2 ^ 10:=Nat.or_lt_two_pow hu (Nat.pow_lt_pow_right (by omega) (by omega))
        have htok:=uF hMok hcok hn
        have hps:=aGs cs most M.st u j
        have hjm:j*most≤10*1000000:=Nat.mul_le_mul (by omega) hmost
        obtain⟨g,hg⟩:∃ g,g=min (CC cs t (u ||| 2 ^ j)) most:=⟨_,rfl⟩
        have hgm:g≤most:=by omega
        have hadd:IntKind.i64.wrap ((psum cs most M.st u j:Nat)+(g:Int))=(psum cs most M.st u j:Nat)+(g:Int):=by rw[IntKind.wrap_i64];omega
        have Hg:=Lib.hid hg
        clear hg
        have Hps:=Lib.hid hps
        clear hps
        go_wp2_with (first | (go_at_call 65;refine (hrd _ hE3.bel).mono ?_;rintro e w3 ⟨rfl,hb3⟩;have hk3':=hk3.trans (eO hb3);have hE3':=hE3.on hb3 hs;have hM3':=hM3.below hb3;have c3':=hE3'.cl;have ld3:=hld _ hE3'.bel) | (go_at_call 66;refine (kU b M c _ K hM3' hMok (by omega) hcok hcd).mono ?_;rintro e w4 ⟨b4,M4,he,hR4,hst4⟩;rw[hn] at he hst4;subst he))
        have hE4:=hE3'.on hR4.bl hs
        have hk4:=fT hk3' (eO hR4.bl)
        have hbd:Below w4.heap.size w4 w4.drew:=(Below.refl _ _).drew
        have hE4d:=hE4.on hbd hs
        have hih:=ih k' (by omega) w4.drew b4 M4 t (u ||| 2 ^ j) nm' (K+1) (hR4.at_.below hbd) (hst4 t rfl) htok (by omega) (by omega) hu2 hE4d (by rw[Nat.pow_succ] at hnm;have:=Nat.mul_le_mul_right X (show j≤9 by omega);omega) (by omega)
        clear ih
        refine aP (S:=fun W=>W.cell? ⟨s+3,0,none⟩=some (.func (.func 69) #[] #[.pointer (some ⟨s+2,0,none⟩),.pointer (some ⟨s+1,0,none⟩),.pointer (some ⟨n0+2,0,none⟩),.pointer (some ⟨s+3,0,none⟩),.pointer (some ⟨n0+1,0,none⟩)])) ?_ (fun hHeld => ?_)
        ·first | exact hE4.cf | exact hE4d.cf | exact hE7.cf
        iterate 7 ((first | refine aJ ?_ | refine np_q ?_ | refine aL 0 ?_);(try simp only[nSO]))
        first | (refine np_s 7 ?_;(try simp only[nSO])) | (refine np_c 7 (fun K hK => ?_);go_simp;((go_at_call 69;refine hih.mono ?_;rintro e w7 ⟨he,nm7,hn7,hE7,hk7⟩;rw[← Hg.out] at he;subst he));(try go_wp2_with fail);refine hK.out _ _ ?_ (fun hHeld => ?_);(· (first | exact hE4.cf | exact hE4d.cf | exact hE7.cf));clear hK K;(try simp only[nSO]))
        iterate 2 ((first | refine aJ ?_ | refine np_q ?_);(try simp only[nSO]))
        refine np_z ?_
        have hnm8:nm7≤nm+(j+1)*X:=by rw[Nat.succ_mul];omega
        have hk8:=fT hk4 (fT (eO hbd) hk7)
        go_wp2
        go_roundw
        case rel=>exact oG hE7 hk8 (by rw[ht,← Hg.out]) hlt hnm8
        case measure=>simp[intOf];omega
    ·have hke:j=cs.length:=by omega
     subst hke
     have hlx:=Nat.mul_le_mul_right X hl
     have hall:=aMu cs most M.st u
     have hmn:min ((psum cs most M.st u cs.length:Nat):Int) (most:Int)=((min (CC cs M.st u) most:Nat):Int):=by rw[← hall];omega
     have hle:min (CC cs M.st u) most≤most:=by omega
     have hPr:aAn cs most u (strOf (keyL M.st)) (.int .i64 (min (CC cs M.st u) most:Nat)):=fun x st hx hst hk=>by
      have e:=(aGn hMok hst (by omega) (by omega)).1 hk
      subst e
      have e2:x=u:=by omega
      rw[e2]
     have hzb:=hE2.blk hk3 hzz
     have e0:wr.cell? ⟨z,0,none⟩=some (.int .i64 u):=aD (L:=[.int .i64 u,.string (strOf (keyL M.st))]) hzb 0
     have e1:wr.cell? ⟨z,1,none⟩=some (.string (strOf (keyL M.st))):=aD (L:=[.int .i64 u,.string (strOf (keyL M.st))]) hzb 1
     have c3:=hE3.cd
     have c5:=hE3.cm
     have hwf2:=aEy (u:=min (CC cs M.st u) most) (by omega)
     generalize hg0:min (CC cs M.st u) most=g at *
     have Hg0:=Lib.hid hg0
     clear hg0
     generalize psum cs most M.st u cs.length=q at *
     go_wp2_with (at_mapUpdate;refine lZ _ rfl _ _ _ 116 rfl 3 Tryz.underlying116 rfl hE3.mp (by unfold maxLen;omega) u (strOf (keyL M.st)) (.int .i64 (g:Nat)) rfl rfl hwf (qW M.st hMok) (plainElem_int Tryz.underlying3 hwf2) hPr ?_;intro w9 hm9 hg9)
     go_returns
     refine⟨by rw[Hg0.out];rfl,_,?_,hE3.step hg9 hs hm9,fT hk2 (fT hk3 hg9)⟩
     omega
theorem vC {n0 s:Nat} {w0:World} {p:Option Addr} {cap:Nat} {cs:List aA} {most:Nat} (hs:n0+3≤s) (hC:∀ W,Below n0 w0 W→CRow W p cap cs) (hl:cs.length≤10) (hmost:most≤1000000) (hok:∀ c∈cs,c.Ok) (hd:∀ c∈cs,c.ps.length≤1000000) :
  ∀ k,aMv n0 s w0 p cap cs most k:=by
 intro k
 induction k using Nat.strongRecOn with
 |ind k ih=>exact aFf hs hC hl hmost hok hd ih
end Go.Proofs.YtdeiocppghhfdaaGreat.Lin
namespace Go.Proofs.YtdeiocppghhfdaaGreat.Lin
open Go.RowKit Go.Lib Go.Shelf
open Hs
open KitI (iv own_below)
attribute [local go_sem, local simp] Hs.dP
attribute [local go_sem ↓] Hs.aN Hs.aR
attribute [local go_sem] Hs.bX Hs.bB Hs.aX Hs.bH Hs.cK
theorem aMw {n0 most:Nat} {w0 w2:World} {p:Option Addr} {cap:Nat} {cs:List aA} (hB:Below n0 w0 w2) (hm:w2.heap[n0+1]? = some (.cells #[.int .i64 most] 3 (0,0))) (hl:w2.heap[n0+1+1]? = some (.cells #[.slice p cs.length cap] 25 (0,0))) (hn:n0+3≤w2.heap.size) :
  CE n0 w2.heap.size w0 p cap cs most 0 ((((w2.alloc (.map #[] 0)).alloc (.cells #[.int .i64 (allB cs cs.length:Nat)] 3)).alloc (.cells #[.map (some w2.heap.size)] 116)).alloc (.cells #[(.func (.func iB) #[] #[.pointer (some ⟨w2.heap.size+1+1,0,none⟩),.pointer (some ⟨w2.heap.size+1,0,none⟩),.pointer (some ⟨n0+1+1,0,none⟩),.pointer (some ⟨w2.heap.size+1+1+1,0,none⟩),.pointer (some ⟨n0+1,0,none⟩)])] 117)):=by
 have h1:=aZ (aZ (aZ hm (.map #[] 0)) (.cells #[.int .i64 (allB cs cs.length:Nat)] 3)) (.cells #[.map (some w2.heap.size)] 116)
 have h2:=aZ (aZ (aZ hl (.map #[] 0)) (.cells #[.int .i64 (allB cs cs.length:Nat)] 3)) (.cells #[.map (some w2.heap.size)] 116)
 have h3:=aZ (aZ (bE (w2.alloc (.map #[] 0)) [.int .i64 (allB cs cs.length:Nat)] 3) (.cells #[.map (some w2.heap.size)] 116)) (.cells #[(.func (.func iB) #[] #[.pointer (some ⟨w2.heap.size+1+1,0,none⟩),.pointer (some ⟨w2.heap.size+1,0,none⟩),.pointer (some ⟨n0+1+1,0,none⟩),.pointer (some ⟨w2.heap.size+1+1+1,0,none⟩),.pointer (some ⟨n0+1,0,none⟩)])] 117)
 have h4:=aZ (bE ((w2.alloc (.map #[] 0)).alloc (.cells #[.int .i64 (allB cs cs.length:Nat)] 3)) [.map (some w2.heap.size)] 116) (.cells #[(.func (.func iB) #[] #[.pointer (some ⟨w2.heap.size+1+1,0,none⟩),.pointer (some ⟨w2.heap.size+1,0,none⟩),.pointer (some ⟨n0+1+1,0,none⟩),.pointer (some ⟨w2.heap.size+1+1+1,0,none⟩),.pointer (some ⟨n0+1,0,none⟩)])] 117)
 have h5:=bE (((w2.alloc (.map #[] 0)).alloc (.cells #[.int .i64 (allB cs cs.length:Nat)] 3)).alloc (.cells #[.map (some w2.heap.size)] 116)) [(.func (.func iB) #[] #[.pointer (some ⟨w2.heap.size+1+1,0,none⟩),.pointer (some ⟨w2.heap.size+1,0,none⟩),.pointer (some ⟨n0+1+1,0,none⟩),.pointer (some ⟨w2.heap.size+1+1+1,0,none⟩),.pointer (some ⟨n0+1,0,none⟩)])] 117
 have hmp:=aZ (aZ (aZ (MapKept.heap_alloc w2 (.map #[] 0)).1 (.cells #[.int .i64 (allB cs cs.length:Nat)] 3)) (.cells #[.map (some w2.heap.size)] 116)) (.cells #[(.func (.func iB) #[] #[.pointer (some ⟨w2.heap.size+1+1,0,none⟩),.pointer (some ⟨w2.heap.size+1,0,none⟩),.pointer (some ⟨n0+1+1,0,none⟩),.pointer (some ⟨w2.heap.size+1+1+1,0,none⟩),.pointer (some ⟨n0+1,0,none⟩)])] 117)
 simp only[World.size_alloc] at h3 h4 h5
 refine⟨(((hB.alloc (by omega) _).alloc (by simp only[World.size_alloc];omega) _).alloc (by simp only[World.size_alloc];omega) _).alloc (by simp only[World.size_alloc];omega) _,by simp only[World.size_alloc];omega,aD (L:=[.int .i64 most]) (aZ h1 _) 0,aD (L:=[.slice p cs.length cap]) (aZ h2 _) 0,?_,aD (L:=[.int .i64 (allB cs cs.length:Nat)]) h3 0,aD (L:=[.map (some w2.heap.size)]) h4 0,aD (L:=[(.func (.func iB) #[] #[.pointer (some ⟨w2.heap.size+1+1,0,none⟩),.pointer (some ⟨w2.heap.size+1,0,none⟩),.pointer (some ⟨n0+1+1,0,none⟩),.pointer (some ⟨w2.heap.size+1+1+1,0,none⟩),.pointer (some ⟨n0+1,0,none⟩)])]) h5 0⟩
 exact (MapP.made w2 3 (aAn cs most)).keep (by rw[hmp];exact (MapKept.heap_alloc w2 (.map #[] 0)).1.symm)
theorem aFg {n0 b most:Nat} {w0 w2:World} {p:Option Addr} {cap:Nat} {cs:List aA} {c:CfgV} {M:MM} (hB:Below n0 w0 w2) (hm:w2.heap[n0+1]? = some (.cells #[.int .i64 most] 3 (0,0))) (hl:w2.heap[n0+1+1]? = some (.cells #[.slice p cs.length cap] 25 (0,0))) (hn:n0+3≤w2.heap.size) (hmost:most≤1000000)
  (hC:∀ W,Below n0 w0 W→CRow W p cap cs) (hle:cs.length≤10) (hok:∀ c∈cs,c.Ok) (hd:∀ c∈cs,c.ps.length≤1000000) (hM:MdAt w2 b M) (hst:M.st=newS c) (hc:cfgE c=0) :
  Calls Tryz.prog iB #[.pointer (some ⟨b,0,none⟩),.int .i64 0,.pointer (some ⟨w2.heap.size+1+1,0,none⟩),.pointer (some ⟨w2.heap.size+1,0,none⟩),.pointer (some ⟨n0+1+1,0,none⟩),.pointer (some ⟨w2.heap.size+1+1+1,0,none⟩),.pointer (some ⟨n0+1,0,none⟩)] ((((w2.alloc (.map #[] 0)).alloc (.cells #[.int .i64 (allB cs cs.length:Nat)] 3)).alloc (.cells #[.map (some w2.heap.size)] 116)).alloc (.cells #[(.func (.func iB) #[] #[.pointer (some ⟨w2.heap.size+1+1,0,none⟩),.pointer (some ⟨w2.heap.size+1,0,none⟩),.pointer (some ⟨n0+1+1,0,none⟩),.pointer (some ⟨w2.heap.size+1+1+1,0,none⟩),.pointer (some ⟨n0+1,0,none⟩)])] 117))
   fun e W'=>e = .returned (.int .i64 (min (CC cs (newS c) 0) most:Nat))∧Below n0 w0 W':=by
 have hE:=aMw hB hm hl hn
 have hk:Below w2.heap.size w2 ((((w2.alloc (.map #[] 0)).alloc (.cells #[.int .i64 (allB cs cs.length:Nat)] 3)).alloc (.cells #[.map (some w2.heap.size)] 116)).alloc (.cells #[(.func (.func iB) #[] #[.pointer (some ⟨w2.heap.size+1+1,0,none⟩),.pointer (some ⟨w2.heap.size+1,0,none⟩),.pointer (some ⟨n0+1+1,0,none⟩),.pointer (some ⟨w2.heap.size+1+1+1,0,none⟩),.pointer (some ⟨n0+1,0,none⟩)])] 117)):=((((Below.refl _ w2).alloc (Nat.le_refl _) _).alloc (by simp only[World.size_alloc];omega) _).alloc (by simp only[World.size_alloc];omega) _).alloc (by simp only[World.size_alloc];omega) _
 have h:=vC (n0:=n0) (s:=w2.heap.size) hn hC hle hmost hok hd cs.length _ b M (newS c) 0 0 0 (hM.below hk) hst (uB hc) (by omega) (by unfold fr;exact Nat.le_trans (List.length_filter_le _ _) (by simp)) (by decide) hE (by have:11 ^ cs.length≤11 ^ 10:=Nat.pow_le_pow_right (by omega) hle;have:(11:Nat) ^ 10≤11 ^ 12:=(by decide);omega) hle
 refine h.mono ?_
 rintro e W' ⟨he,nm',_,hE',_⟩
 exact⟨he,hE'.bel⟩
theorem aJa (c:CfgV) (most:Int) (p:Option Addr) (cap:Nat) (cs:List aA) (w:World) (hC:CRow w p cap cs) (hs:cs.length≤1000) (hok:∀ x∈cs,x.Ok) (hd:∀ x∈cs,x.ps.length≤1000000) :
  Calls Tryz.prog 21 #[c.v,.int .i64 most,.slice p cs.length cap] w fun e w'=>e = .returned (.tuple #[.int .i64 (countP c most cs).1,.int .i64 (countP c most cs).2])∧Below w.heap.size w w':=by
 have hB0:Below w.heap.size w (((w.alloc (.cells #[.int .i64 c.slots,.int .u64 c.gens,.int .i64 c.clients,.int .i64 c.readers,.int .i64 c.queue,.int .i64 c.batch,.int .i64 c.feed,.string c.text] 24)).alloc (.cells #[.int .i64 most] 3)).alloc (.cells #[.slice p cs.length cap] 25)):=(((Below.refl w.heap.size w).alloc (Nat.le_refl _) _).alloc (by simp) _).alloc (by simp;omega) _
 have hm0:=aZ (bE (w.alloc (.cells #[.int .i64 c.slots,.int .u64 c.gens,.int .i64 c.clients,.int .i64 c.readers,.int .i64 c.queue,.int .i64 c.batch,.int .i64 c.feed,.string c.text] 24)) [.int .i64 most] 3) (.cells #[.slice p cs.length cap] 25)
 have hl0:=bE ((w.alloc (.cells #[.int .i64 c.slots,.int .u64 c.gens,.int .i64 c.clients,.int .i64 c.readers,.int .i64 c.queue,.int .i64 c.batch,.int .i64 c.feed,.string c.text] 24)).alloc (.cells #[.int .i64 most] 3)) [.slice p cs.length cap] 25
 rw[World.size_alloc] at hm0
 rw[World.size_alloc,World.size_alloc] at hl0
 have hsz0:(((w.alloc (.cells #[.int .i64 c.slots,.int .u64 c.gens,.int .i64 c.clients,.int .i64 c.readers,.int .i64 c.queue,.int .i64 c.batch,.int .i64 c.feed,.string c.text] 24)).alloc (.cells #[.int .i64 most] 3)).alloc (.cells #[.slice p cs.length cap] 25)).heap.size=w.heap.size+3:=by simp
 by_cases h0:bK c cs=0
 ·have hst:=vR (hC.on hB0) hs hok h0
  have hmm := @run_makeMap Tryz.prog
  obtain⟨h00,_,hle⟩:=nY h0
  have hcp:countP c most cs=if most<1∨1000000<most then (0,2) else (min (CC cs (newS c) 0:Int) most,0):=by unfold countP;rw[if_neg (by rw[h0];simp)]
  unfold CfgV.v at *
  by_cases hq1:most<1
  ·rw[if_pos (.inl hq1)] at hcp
   have hd1:decide (most<1)=true:=by simpa using hq1
   go_enter Tryz.func21,Tryz.ntmps21
   go_wp2_with (go_at_call 61;refine hst.mono ?_;rintro e w1 ⟨b,M,rfl,hR,hM⟩;have hm1:=aU hm0 hR.bl (by omega);have hl1:=aU hl0 hR.bl (by omega);have hB1:Below w.heap.size w w1:=hB0.trans (hR.bl.mono (by omega));have e1:w1.cell? ⟨w.heap.size+1,0,none⟩=some (.int .i64 _):=aD (L:=[_]) hm1 0;have e2:w1.cell? ⟨w.heap.size+1+1,0,none⟩=some (.slice p cs.length cap):=aD (L:=[.slice p cs.length cap]) hl1 0)
   go_returns
   exact⟨by rw[hcp];rfl,hB1⟩
  ·have hd1:decide (most<1)=false:=by simpa using hq1
   by_cases hm2:1000000<most
   ·rw[if_pos (.inr hm2)] at hcp
    have hd2:decide (1000000<most)=true:=by simpa using hm2
    go_enter Tryz.func21,Tryz.ntmps21
    go_wp2_with (go_at_call 61;refine hst.mono ?_;rintro e w1 ⟨b,M,rfl,hR,hM⟩;have hm1:=aU hm0 hR.bl (by omega);have hl1:=aU hl0 hR.bl (by omega);have hB1:Below w.heap.size w w1:=hB0.trans (hR.bl.mono (by omega));have e1:w1.cell? ⟨w.heap.size+1,0,none⟩=some (.int .i64 _):=aD (L:=[_]) hm1 0;have e2:w1.cell? ⟨w.heap.size+1+1,0,none⟩=some (.slice p cs.length cap):=aD (L:=[.slice p cs.length cap]) hl1 0)
    go_returns
    exact⟨by rw[hcp];rfl,hB1⟩
   ·rw[if_neg (by omega)] at hcp
    have hd2:decide (1000000<most)=false:=by simpa using hm2
    obtain⟨n,rfl⟩:∃ n:Nat,most=n:=⟨most.toNat,by omega⟩
    have hmost:n≤1000000:=by omega
    obtain⟨g,hg⟩:∃ g,min (CC cs (newS c) 0) n=g:=⟨_,rfl⟩
    have Hg:=Lib.hid hg
    have hcp2:countP c n cs=((g:Int),0):=by rw[hcp,← hg];simp;omega
    clear hg hcp
    go_enter Tryz.func21,Tryz.ntmps21
    go_wp2_with (first | (go_at_call 61;refine hst.mono ?_;rintro e w1 ⟨b,M,rfl,hR,hM⟩;have hm1:=aU hm0 hR.bl (by omega);have hl1:=aU hl0 hR.bl (by omega);have hB1:Below w.heap.size w w1:=hB0.trans (hR.bl.mono (by omega));have e1:w1.cell? ⟨w.heap.size+1,0,none⟩=some (.int .i64 _):=aD (L:=[_]) hm1 0;have e2:w1.cell? ⟨w.heap.size+1+1,0,none⟩=some (.slice p cs.length cap):=aD (L:=[.slice p cs.length cap]) hl1 0) | (go_at_call 62;refine (lQ p cap cs _ (hC.on hB1) (by omega)).mono ?_;rintro e w2 ⟨rfl,hb2⟩) | (go_at_call 69;have hs1:=hR.bl.size;refine (aFg (hB1.trans (hb2.mono hB1.size)) (aU hm1 hb2 (by omega)) (aU hl1 hb2 (by omega)) (by have:=hb2.size;omega) hmost (fun W h=>hC.on h) hle hok hd (hR.at_.below hb2) hM h00).mono ?_;rintro e w9 ⟨he,hB9⟩;rw[Hg.out] at he;subst he))
    go_returns
    exact⟨by rw[hcp2];rfl,hB9⟩
 ·have hst:=vQ (hC.on hB0) hs hok h0
  have hf:countP c most cs=(0,bK c cs):=by unfold countP;rw[if_pos h0]
  have hd:(bK c cs != 0)=true:=by simpa using h0
  generalize bK c cs=sE at *
  unfold CfgV.v at *
  go_enter Tryz.func21,Tryz.ntmps21
  go_wp2_with (go_at_call 61;refine hst.mono ?_;rintro e w1 ⟨rfl,hb1⟩)
  go_returns
  exact⟨by rw[hf];rfl,hB0.trans (hb1.mono (by omega))⟩
end Go.Proofs.YtdeiocppghhfdaaGreat.Lin
namespace Go.Proofs.YtdeiocppghhfdaaGreat.Lin
open Go.RowKit Go.Lib Go.Shelf
open Hs
open KitI (iv IRow own_below)
attribute [local go_sem, local simp] Hs.dP
attribute [local go_sem ↓] Hs.aN Hs.aR
attribute [local go_sem] Hs.bX Hs.bB Hs.aX Hs.bH Hs.cK
def pR (n:Nat) (c:CfgV):CfgV:={ c with text:=c.text.extract 0 (min c.text.size n) }
theorem aCq (c:CfgV) (w:World):Calls Tryz.prog 17 #[c.v] w fun e w'=>e = .returned (pR 100 c).v∧Below w.heap.size w w':=by
 have hm0:0≤min (c.text.size:Int) 100:=by omega
 have hm1:min (c.text.size:Int) 100≤c.text.size:=by omega
 have hmn:(min (c.text.size:Int) 100).toNat=min c.text.size 100:=by omega
 unfold CfgV.v pR
 go_enter Tryz.func17,Tryz.ntmps17
 go_wp2
 exact⟨rfl,_,results_cell_row rfl _ _ _ _ _ _ _ rfl (by rw[← World.size_alloc];exact heap_alloc_new _ _) Tryz.underlying24 rfl (by kernel_rfl),rfl,lX _ _ _⟩
def gI:CfgV:=⟨16,9,2,1,2,2,2,⟨#[97,98]⟩⟩
theorem dY (w:World):Calls Tryz.prog 31 #[] w fun e w'=>e = .returned gI.v∧Below w.heap.size w w':=by
 go_enter Tryz.func31,Tryz.ntmps31
 go_wp2
 exact⟨rfl,_,results_cell_row rfl _ _ _ _ _ _ _ rfl (heap_alloc_new _ _) Tryz.underlying24 rfl (by kernel_rfl),rfl,(Below.refl _ _).alloc (Nat.le_refl _) _⟩
def fU:aA:={ thread:=0,index:=0,okind:=0,oslot:=0,oat:=0,on:=0,oid:=0,ograv:=0,otext:=⟨#[]⟩,invoked:=0,took:=0,rank:=0,answered:=0,steps:=0,err:=0,rev:=0,rslot:=0,rat:=0,rgrav:=0,rtext:=⟨#[]⟩,mb:=0,mr:=0,ml:=0,ik:=0,ifrom:=0,ito:=0,ps:=[],da:=none,dc:=0 }
def ex36 (a b:Int):List aA:=[{ fU with okind:=1,oat:=1,otext:=⟨#[120]⟩,took:=5,answered:=5,steps:=2,rev:=a },{ fU with thread:=1,okind:=5,invoked:=1,took:=4,answered:=4,steps:=2,rev:=b },{ fU with thread:=1,index:=1,okind:=2,on:=1,invoked:=6,took := -1,answered := -1 }]
theorem f36a:iE gI (ex36 1 0)=([1,0],true,0):=by decide +kernel
theorem f36b:(iE gI (ex36 2 0)).2=(false,0):=by decide +kernel
theorem f36c:iE gI (ex36 1 1)=([0,1],true,0):=by decide +kernel
theorem c36:countP gI 100 (ex36 1 0)=(2,0):=by decide +kernel
theorem v36a:dI gI [1,0,2] (ex36 1 0)=0:=by decide +kernel
theorem v36b:dI gI [0,1] (ex36 1 0)=26:=by decide +kernel
theorem v36c:dI gI [1] (ex36 1 0)=26:=by decide +kernel
theorem v36d:dI gI [2,1,0] (ex36 1 0)=26:=by decide +kernel
theorem ok36 (a b:Int):∀ c∈ex36 a b,c.Ok:=by
 intro c hc
 simp only[ex36,List.mem_cons,List.not_mem_nil,or_false] at hc
 rcases hc with rfl | rfl | rfl<;>constructor<;>simp[fU]
theorem ps36 (a b:Int):∀ c∈ex36 a b,c.ps.length≤1000000:=by
 intro c hc
 simp only[ex36,List.mem_cons,List.not_mem_nil,or_false] at hc
 rcases hc with rfl | rfl | rfl<;>simp[fU]
def Ex36 (W:World) (B:Nat) (a b:Int):Prop:=W.heap[B]? = some (.cells (fF (ex36 a b)).toArray 56 (0,0))
theorem oP (w:World):Calls Tryz.prog 30 #[] w fun e w'=>e = .returned (.slice (some ⟨w.heap.size,0,none⟩) 3 3)∧Ex36 w' w.heap.size 1 0∧Below w.heap.size w w':=by
 go_enter Tryz.func30,Tryz.ntmps30
 go_wp2
 go_returns
 exact⟨rfl,(heap_alloc_new _ _).trans (congrArg some (by kernel_rfl)),(Below.refl _ _).alloc (Nat.le_refl _) _⟩
theorem Ex36.crow {W:World} {B:Nat} {a b:Int} (h:Ex36 W B a b):CRow W (some ⟨B,0,none⟩) 3 (ex36 a b) := .inr ⟨B,0,rfl,Nat.le_refl 3,(gAz h).1,fun j u hj=>by rw[Nat.zero_add,aD h];exact hj⟩
theorem Ex36.on {W W':World} {B:Nat} {a b:Int} (h:Ex36 W B a b) (hb:Below W.heap.size W W'):Ex36 W' B a b:=aU h hb (gAz h).1
end Go.Proofs.YtdeiocppghhfdaaGreat.Lin
