/- Texts, one behind another. -/
import Derived.Test.YtdeiocppghhfdaaGreatZfbq
set_option linter.unusedVariables false
set_option linter.unusedSimpArgs false
set_option maxRecDepth 100000
set_option maxHeartbeats 40000000
namespace Go.Proofs.YtdeiocppghhfdaaGreat.Hs
open Go.RowKit Go.Lib Go.Shelf
open KitI (iv IRow own_below kH)
attribute [local go_sem, local simp] dP
attribute [local go_sem ↓] aN aR
attribute [local go_sem] bX bB aX bH cK
def eF (pre:List aA) (c:aA):Bool :=
 (match pre.getLast? with | some p=>decide (p.invoked<c.invoked) | none=>true) && decide (c.index=(thF c.thread pre).length) &&
  (match (thF c.thread pre).getLast? with | some d=>befB d c | none=>true) && pre.all fun d => !dF c d
theorem aM3 (pre:List aA) (c:aA):accB pre c=(iC c && eF pre c):=by
 rw[aAq]
 unfold eF
 simp only[Bool.and_assoc]
 rfl
theorem wN {pre:List aA} {c d:aA} {j:Nat} (hd:pre[j]? = some d) (h:dF c d=true):eF pre c=false:=by
 have hm:=mGz hd
 have:(pre.all fun d => !dF c d)=false:=by
  rw[List.all_eq_false]
  exact⟨d,hm,by simp[h]⟩
 unfold eF
 rw[this,Bool.and_false]
theorem yV {pre:List aA} {c:aA} {k:Nat} (hk:pre.length≤k) (h:∀ m d,m<k→pre[m]? = some d→dF c d=false):(pre.all fun d => !dF c d)=true:=by
 rw[List.all_eq_true]
 intro d hd
 obtain⟨m,hm⟩:=List.getElem?_of_mem hd
 have:=(gLz hm).1
 simp[h m d (by omega) hm]
structure FI (w:World) (c:aA) (b off:Nat) (pre:List aA) (W:World):Prop where
 blk:iI W w.heap.size c
 row:CAt W b off pre
 bl:Below w.heap.size w W
theorem FI.on {w:World} {c:aA} {b off:Nat} {pre:List aA} {W W':World} (h:FI w c b off pre W) (hb:Below W.heap.size W W'):FI w c b off pre W' :=
 ⟨aU h.blk hb (gAz h.blk).1,h.row.on hb,h.bl.trans (hb.mono h.bl.size)⟩
def aQp (w:World) (c:aA) (b off:Nat) (pre:List aA) (i:Value) (wr:World):Prop :=
 ∃ j:Nat,i = .int .i64 j∧j≤pre.length∧(∀ m d,m<j→pre[m]? = some d→dF c d=false)∧FI w c b off pre wr
theorem aM4 (c:aA) (p:Option Addr) (cap:Nat) (w:World) (hC:CRow w p cap []):Calls Tryz.prog 177 #[.agg (aB c).toArray,.slice p 0 cap] w fun e w'=>e = .returned (.bool (eF [] c))∧Below w.heap.size w w':=by
 have hb0:=bE w (aB c) 56
 have hB0:Below w.heap.size w (w.alloc (.cells (aB c).toArray 56)):=(Below.refl _ _).alloc (Nat.le_refl _) _
 have hfit:eF [] c=decide (c.index=0):=by rw[Bool.eq_iff_iff];simp[eF,thF];exact decide_eq_true_iff
 have oc:=kV p cap c.thread [] (w.alloc (.cells (aB c).toArray 56)).drew (hC.on hB0.drew) (by simp) (fun c hc=>by cases hc)
 have q0:=aD (W:=(w.alloc (.cells (aB c).toArray 56)).drew) hb0 0
 rw[fI] at q0
 go_enter Tryz.func177,Tryz.ntmps177
 go_wp2
 refine aP (S:=fun _=>True) ?_ (fun hHeld => ?_)
 ·trivial
 iterate 15 ((first | refine aJ ?_ | refine np_q ?_ | refine aL 0 ?_);(try simp only[nSO]))
 refine np_z ?_
 go_wp2_with fail
 refine oc.mono ?_
 clear oc
 rintro e w3 ⟨v,rfl,⟨own,hmo,howno,_⟩,hb3⟩
 obtain⟨po,co,rfl,hCo⟩:=nC howno
 have hol:own.length=0:=by have:=congrArg List.length hmo;simpa [thF] using this
 have hB3:=hB0.drew.trans (hb3.mono hB0.size)
 have hb0':=aU (W:=(w.alloc (.cells (aB c).toArray 56)).drew) hb0 hb3 (by simp)
 have q1:=aD (W:=w3.drew) hb0' 1
 rw[rJ] at q1
 rw[hol]
 clear howno hCo hmo q0 hHeld hb0' hb0
 by_cases hix:c.index=0
 ·have t2:(c.index != 0)=false:=by simpa using hix
  have t2':(c.index == 0)=true:=by simpa using hix
  have Hb:=Lib.hid (show eF [] c=true by rw[hfit,decide_eq_true hix])
  clear hix hfit
  go_wp2
  refine aP (S:=fun W=>W.cell? ⟨w.heap.size,1,none⟩=some (.int .i64 c.index)) ?_ (fun hHeld => ?_)
  ·exact q1
  iterate 21 ((first | refine aJ ?_ | refine np_q ?_ | refine aL 0 ?_);(try simp only[nSO]))
  refine np_z ?_
  go_wp2
  refine wp_loop_rounds 1 ?_
  rw[rounds_succ]
  go_wp2
  go_returns
  exact⟨aO Hb.out.symm,hB3.drew⟩
 ·have t2:(c.index != 0)=true:=by simpa using hix
  have t2':(c.index == 0)=false:=by simpa using hix
  have Hb:=Lib.hid (show eF [] c=false by rw[hfit,decide_eq_false hix])
  clear hix hfit
  go_wp2
  refine aP (S:=fun W=>W.cell? ⟨w.heap.size,1,none⟩=some (.int .i64 c.index)) ?_ (fun hHeld => ?_)
  ·exact q1
  iterate 21 ((first | refine aJ ?_ | refine np_q ?_ | refine aL 0 ?_);(try simp only[nSO]))
  refine np_z ?_
  go_wp2
  go_returns
  exact⟨aO Hb.out.symm,hB3.drew⟩
theorem wO {W:World} {p:Option Addr} {cap:Nat} {cs:List aA} (h:CRow W p cap cs) (hi:0<cs.length):∃ b off,p=some ⟨b,off,none⟩∧cs.length≤cap∧b<W.heap.size∧CAt W b off cs:=by
 rcases h with⟨_,_,h⟩ | h
 ·rw[h] at hi;simp at hi
 ·exact h
theorem aJc (c:aA) (b off cap:Nat) (pre:List aA) (w:World) (hb:b<w.heap.size) (hcap:pre.length≤cap) (hC:CAt w b off pre) (hn:0<pre.length) (hs:pre.length≤1000000) (hdp:∀ c∈pre,DAt w c) :
  Calls Tryz.prog 177 #[.agg (aB c).toArray,.slice (some ⟨b,off,none⟩) pre.length cap] w fun e w'=>e = .returned (.bool (eF pre c))∧Below w.heap.size w w':=by
 have hI:FI w c b off pre (w.alloc (.cells (aB c).toArray 56)):=⟨bE w _ _,hC.on ((Below.refl _ _).alloc (Nat.le_refl _) _),(Below.refl _ _).alloc (Nat.le_refl _) _⟩
 obtain⟨q,hq⟩:∃ q,pre[pre.length-1]? = some q:=⟨_,gEz (by omega)⟩
 have hlast:pre.getLast? = some q:=by rw[List.getLast?_eq_getElem?];exact hq
 have hw1:IntKind.i64.wrap ((pre.length:Int)-1)=(pre.length:Int)-1:=IntWalk.i64_in _ (by omega)
 have hk1:(0:Int)≤(pre.length:Int)-1:=by omega
 have hk2:(1:Int)≤(pre.length:Int):=by omega
 have hk3:(pre.length:Int)-1<(pre.length:Int):=by omega
 have hd0:decide (0<pre.length)=true:=by simpa using hn
 have q1:=aD hI.blk 9
 have q2:=hI.row.cell hq 9 (by omega)
 rw[aAv] at q1 q2
 have q1d:(w.alloc (.cells (aB c).toArray 56)).drew.cell? ⟨w.heap.size,9,none⟩=some (.int .i64 c.invoked):=q1
 have q2d:(w.alloc (.cells (aB c).toArray 56)).drew.cell? ⟨b,off+(pre.length-1)*27+9,none⟩=some (.int .i64 q.invoked):=q2
 have hId:=hI.on (Below.refl _ _).drew
 have HI:=Lib.hid hId
 have Hlast:=Lib.hid hlast
 clear hI q1 q2 hq hlast hId
 by_cases hinv:c.invoked≤q.invoked
 ·have t1:decide (c.invoked≤q.invoked)=true:=decide_eq_true hinv
  have hbad:eF pre c=false:=by unfold eF;rw[Hlast.out];simp only[];rw[decide_eq_false (show ¬ q.invoked<c.invoked by omega)];simp
  have Hbad:=Lib.hid hbad
  clear hinv hbad
  go_enter Tryz.func177,Tryz.ntmps177
  go_wp2
  refine aP (S:=fun W=>W.cell? ⟨w.heap.size,9,none⟩=some (.int .i64 c.invoked)∧W.cell? ⟨b,off+(pre.length-1)*27+9,none⟩=some (.int .i64 q.invoked)) ?_ (fun hHeld => ?_)
  ·exact⟨q1d,q2d⟩
  iterate 15 ((first | refine aJ ?_ | refine np_q ?_ | refine aL 0 ?_);(try simp only[nSO]))
  refine np_z ?_
  go_wp2
  go_returns
  exact⟨aO Hbad.out.symm,HI.out.bl⟩
 ·have t1:decide (c.invoked≤q.invoked)=false:=decide_eq_false hinv
  have hi2:decide (q.invoked<c.invoked)=true:=decide_eq_true (by omega)
  have hfit:eF pre c=(decide (c.index=(thF c.thread pre).length) && (match (thF c.thread pre).getLast? with | some d=>befB d c | none=>true) && pre.all fun d => !dF c d):=by
   unfold eF;rw[Hlast.out];simp only[];rw[hi2,Bool.true_and]
  have Hfit0:=Lib.hid hfit
  clear hinv hfit hi2
  go_enter Tryz.func177,Tryz.ntmps177
  go_wp2
  refine aP (S:=fun W=>W.cell? ⟨w.heap.size,9,none⟩=some (.int .i64 c.invoked)∧W.cell? ⟨b,off+(pre.length-1)*27+9,none⟩=some (.int .i64 q.invoked)) ?_ (fun hHeld => ?_)
  ·exact⟨q1d,q2d⟩
  iterate 15 ((first | refine aJ ?_ | refine np_q ?_ | refine aL 0 ?_);(try simp only[nSO]))
  refine np_z ?_
  have q0:=aD HI.out.blk 0
  rw[fI] at q0
  have oc:=kV (some ⟨b,off,none⟩) cap c.thread pre _ (.inr ⟨b,off,rfl,hcap,Nat.lt_of_lt_of_le hb HI.out.bl.size,HI.out.row⟩) hs (fun d hd=>(hdp d hd).on HI.out.bl)
  clear hHeld q1d q2d
  go_wp2_with fail
  refine oc.mono ?_
  clear oc
  rintro e w3 ⟨v,rfl,⟨own,hmo,howno,_⟩,hb3⟩
  obtain⟨po,co,rfl,hCo⟩:=nC howno
  have hol:own.length=(thF c.thread pre).length:=by have:=congrArg List.length hmo;simpa using this
  have hI:=HI.out.on hb3
  have hol2:own.length≤pre.length:=by rw[hol];exact aGu _ _
  have Hol:=Lib.hid hol
  have Hmo:=Lib.hid hmo
  clear howno hb3 HI q0 hol hmo
  have qi:=aD hI.blk 1
  rw[rJ] at qi
  by_cases hix:c.index=(own.length:Int)
  ·have t2:(c.index != (own.length:Int))=false:=by simpa using hix
   have t2':(c.index == (own.length:Int))=true:=by simpa using hix
   have hixt:decide (c.index=((thF c.thread pre).length:Int))=true:=decide_eq_true (by rw[hix,Hol.out])
   have Hixt:=Lib.hid hixt
   clear hix hixt
   rcases Nat.eq_zero_or_pos own.length with h0 | hpos
   ·have t3:decide (0<own.length)=false:=by simp[h0]
    have hth:thF c.thread pre=[]:=List.length_eq_zero_iff.1 (by rw[← Hol.out,h0])
    have hfit:eF pre c=pre.all fun d => !dF c d:=by rw[Hfit0.out,Hixt.out,hth];simp
    have Hfit:=Lib.hid hfit
    have qid:w3.drew.cell? ⟨w.heap.size,1,none⟩=some (.int .i64 c.index):=qi
    replace hI:=hI.on (Below.refl _ _).drew
    clear hth hfit qi h0
    go_wp2
    refine aP (S:=fun W=>W.cell? ⟨w.heap.size,1,none⟩=some (.int .i64 c.index)) ?_ (fun hHeld => ?_)
    ·exact qid
    iterate 21 ((first | refine aJ ?_ | refine np_q ?_ | refine aL 0 ?_);(try simp only[nSO]))
    refine np_z ?_
    clear hHeld qid
    go_wp2
    go_loopw [6] (fun i wr=>aQp w c b off pre i wr) (fun i wr=>pre.length-(intOf i).toNat)
    case atStart=>exact⟨0,rfl,by omega,fun m d hm=>by omega,hI⟩
    case round =>
     clear hI
     obtain⟨j,rfl,hj,hcl,hI⟩:=hrel
     have Hcl:=Lib.hid hcl
     clear hcl
     by_cases hjl:j<pre.length
     ·obtain⟨d,hd⟩:∃ d,pre[j]? = some d:=⟨_,gEz hjl⟩
      have cl:=fun W=>rH c d W
      obtain⟨x,hx⟩:∃ x,dF c d=x:=⟨_,rfl⟩
      rw[hx] at cl
      have kx:∀ W,FI w c b off pre W→((aM (.pointer (some ⟨w.heap.size,0,none⟩))).run Tryz.prog W = .ok (.agg (aB c).toArray) W∧(aM (.pointer (some ⟨b,off+j*27,none⟩))).run Tryz.prog W = .ok (.agg (aB d).toArray) W)∧FI w c b off pre W:=fun W h=>⟨⟨dD c h.blk,h.row.load hd⟩,h⟩
      have Kx:=Lib.hid kx
      have hx0:=hI.on (Below.refl _ _).drew
      have Hx:=Lib.hid hx
      have Hd:=Lib.hid hd
      clear kx hI hx hd
      go_wp2
      refine aP (S:=fun W=>((aM (.pointer (some ⟨w.heap.size,0,none⟩))).run Tryz.prog W = .ok (.agg (aB c).toArray) W∧(aM (.pointer (some ⟨b,off+j*27,none⟩))).run Tryz.prog W = .ok (.agg (aB d).toArray) W)∧FI w c b off pre W) ?_ (fun hHeld => ?_)
      ·first | exact Kx.out _ hx1 | exact Kx.out _ hx0
      iterate 5 ((first | refine aJ ?_ | refine np_q ?_ | refine aL 0 ?_);(try simp only[nSO]))
      first | (refine np_s 5 ?_;(try simp only[nSO])) | (refine np_c 5 (fun K hK => ?_);go_simp;((go_at_call 220;refine (cl _).mono ?_;rintro e v9 ⟨rfl,hbc⟩;have hx1:=hHeld.2.on hbc));(try go_wp2_with fail);refine hK.out _ _ ?_ (fun hHeld => ?_);(· (first | exact Kx.out _ hx1 | exact Kx.out _ hx0));clear hK K;(try simp only[nSO]))
      refine np_z ?_
      have HI:=Lib.hid hHeld.2
      clear cl hHeld hx0
      cases x with
      |true =>
       have hbad:eF pre c=false:=wN Hd.out Hx.out
       have Hbad:=Lib.hid hbad
       clear hbad
       go_wp2
       go_returns
       exact⟨aO Hbad.out.symm,HI.out.bl⟩
      |false =>
       go_wp2
       go_roundw
       case rel =>
        refine⟨j+1,by go_num,by omega,fun m e hm he => ?_,HI.out⟩
        by_cases hmj:m=j
        ·subst hmj
         have:=Hd.out
         rw[this] at he
         cases he
         exact Hx.out
        ·exact Hcl.out m e (by omega) he
       case measure=>simp[intOf];omega
     ·have hgood:eF pre c=true:=by rw[Hfit.out];exact yV (by omega) Hcl.out
      have Hgood:=Lib.hid hgood
      clear hgood
      go_wp2
      go_returns
      exact⟨aO Hgood.out.symm,hI.bl⟩
   ·have t3:decide (0<own.length)=true:=by simpa using hpos
    obtain⟨d,hd⟩:∃ d,own[own.length-1]? = some d:=⟨_,gEz (by omega)⟩
    obtain⟨bo,oo,rfl,hco,hbo,hCo2⟩:=wO hCo hpos
    obtain⟨y,hy⟩:∃ y,befB d c=y:=⟨_,rfl⟩
    have hlast2:(match (thF c.thread pre).getLast? with | some d=>befB d c | none=>true)=y:=by
     have h1:(own.map aA.pure).getLast? = ((thF c.thread pre).map aA.pure).getLast? := by rw[Hmo.out]
     rw[List.getLast?_map,List.getLast?_map,List.getLast?_eq_getElem? (l:=own),hd] at h1
     cases hg:(thF c.thread pre).getLast? with
     |none=>rw[hg] at h1;simp at h1
     |some e =>
      rw[hg] at h1
      simp only[Option.map_some,Option.some.injEq] at h1
      have e1:d.answered=e.answered:=(congrArg aA.answered h1:d.pure.answered=e.pure.answered)
      show befB e c=y
      rw[← hy]
      unfold befB
      rw[e1]
    have hfit:eF pre c=(y && pre.all fun d => !dF c d):=by rw[Hfit0.out,Hixt.out,hlast2,Bool.true_and]
    have bc:=fun W=>kG d c W
    rw[hy] at bc
    have kx4:∀ W,FI w c b off pre W∧CAt W bo oo own→(W.cell? ⟨w.heap.size,1,none⟩=some (.int .i64 c.index)∧(aM (.pointer (some ⟨bo,oo+(own.length-1)*27,none⟩))).run Tryz.prog W = .ok (.agg (aB d).toArray) W∧(aM (.pointer (some ⟨w.heap.size,0,none⟩))).run Tryz.prog W = .ok (.agg (aB c).toArray) W)∧FI w c b off pre W∧CAt W bo oo own:=fun W h=>⟨⟨by have:=aD h.1.blk 1;rwa [rJ] at this,h.2.load hd,dD c h.1.blk⟩,h⟩
    have Kx4:=Lib.hid kx4
    have hx0:FI w c b off pre w3.drew∧CAt w3.drew bo oo own:=⟨hI.on (Below.refl _ _).drew,hCo2.on (Below.refl _ _).drew⟩
    have hw2:IntKind.i64.wrap ((own.length:Int)-1)=(own.length:Int)-1:=IntWalk.i64_in _ (by omega)
    have hm1:(0:Int)≤(own.length:Int)-1:=by omega
    have hm2:(1:Int)≤(own.length:Int):=by omega
    have hm3:(own.length:Int)-1<(own.length:Int):=by omega
    have Hfit1:=Lib.hid hfit
    clear kx4 hI qi hy hlast2 hfit hd hCo
    cases y with
    |false =>
     go_wp2
     refine aP (S:=fun W=>(W.cell? ⟨w.heap.size,1,none⟩=some (.int .i64 c.index)∧(aM (.pointer (some ⟨bo,oo+(own.length-1)*27,none⟩))).run Tryz.prog W = .ok (.agg (aB d).toArray) W∧(aM (.pointer (some ⟨w.heap.size,0,none⟩))).run Tryz.prog W = .ok (.agg (aB c).toArray) W)∧FI w c b off pre W∧CAt W bo oo own) ?_ (fun hHeld => ?_)
     ·first | exact Kx4.out _ hx1 | exact Kx4.out _ hx0
     iterate 17 ((first | refine aJ ?_ | refine np_q ?_ | refine aL 0 ?_);(try simp only[nSO]))
     first | (refine np_s 17 ?_;(try simp only[nSO])) | (refine np_c 17 (fun K hK => ?_);go_simp;((go_at_call 126;refine (bc _).mono ?_;rintro e v8 ⟨rfl,hbc⟩;have hx1:FI w c b off pre v8∧CAt v8 bo oo own:=⟨hHeld.2.1.on hbc,hHeld.2.2.on hbc⟩));(try go_wp2_with fail);refine hK.out _ _ ?_ (fun hHeld => ?_);(· (first | exact Kx4.out _ hx1 | exact Kx4.out _ hx0));clear hK K;(try simp only[nSO]))
     iterate 3 ((first | refine aJ ?_ | refine np_q ?_);(try simp only[nSO]))
     refine np_z ?_
     have hbl:=hHeld.2.1.bl
     have hbad:eF pre c=false:=by rw[Hfit1.out,Bool.false_and]
     have Hbad:=Lib.hid hbad
     clear hHeld hbad
     go_wp2
     go_returns
     exact⟨aO Hbad.out.symm,hbl⟩
    |true =>
     have hfit:eF pre c=pre.all fun d => !dF c d:=by rw[Hfit1.out,Bool.true_and]
     have Hfit:=Lib.hid hfit
     clear hfit
     go_wp2
     refine aP (S:=fun W=>(W.cell? ⟨w.heap.size,1,none⟩=some (.int .i64 c.index)∧(aM (.pointer (some ⟨bo,oo+(own.length-1)*27,none⟩))).run Tryz.prog W = .ok (.agg (aB d).toArray) W∧(aM (.pointer (some ⟨w.heap.size,0,none⟩))).run Tryz.prog W = .ok (.agg (aB c).toArray) W)∧FI w c b off pre W∧CAt W bo oo own) ?_ (fun hHeld => ?_)
     ·first | exact Kx4.out _ hx1 | exact Kx4.out _ hx0
     iterate 17 ((first | refine aJ ?_ | refine np_q ?_ | refine aL 0 ?_);(try simp only[nSO]))
     first | (refine np_s 17 ?_;(try simp only[nSO])) | (refine np_c 17 (fun K hK => ?_);go_simp;((go_at_call 126;refine (bc _).mono ?_;rintro e v8 ⟨rfl,hbc⟩;have hx1:FI w c b off pre v8∧CAt v8 bo oo own:=⟨hHeld.2.1.on hbc,hHeld.2.2.on hbc⟩));(try go_wp2_with fail);refine hK.out _ _ ?_ (fun hHeld => ?_);(· (first | exact Kx4.out _ hx1 | exact Kx4.out _ hx0));clear hK K;(try simp only[nSO]))
     iterate 3 ((first | refine aJ ?_ | refine np_q ?_);(try simp only[nSO]))
     refine np_z ?_
     have hI:=hHeld.2.1
     clear hHeld bc hx0
     go_wp2
     go_loopw [6] (fun i wr=>aQp w c b off pre i wr) (fun i wr=>pre.length-(intOf i).toNat)
     case atStart=>exact⟨0,rfl,by omega,fun m d hm=>by omega,hI⟩
     case round =>
      clear hI
      obtain⟨j,rfl,hj,hcl,hI⟩:=hrel
      have Hcl:=Lib.hid hcl
      clear hcl
      by_cases hjl:j<pre.length
      ·obtain⟨d,hd⟩:∃ d,pre[j]? = some d:=⟨_,gEz hjl⟩
       have cl:=fun W=>rH c d W
       obtain⟨x,hx⟩:∃ x,dF c d=x:=⟨_,rfl⟩
       rw[hx] at cl
       have kx:∀ W,FI w c b off pre W→((aM (.pointer (some ⟨w.heap.size,0,none⟩))).run Tryz.prog W = .ok (.agg (aB c).toArray) W∧(aM (.pointer (some ⟨b,off+j*27,none⟩))).run Tryz.prog W = .ok (.agg (aB d).toArray) W)∧FI w c b off pre W:=fun W h=>⟨⟨dD c h.blk,h.row.load hd⟩,h⟩
       have Kx:=Lib.hid kx
       have hx0:=hI.on (Below.refl _ _).drew
       have Hx:=Lib.hid hx
       have Hd:=Lib.hid hd
       clear kx hI hx hd
       go_wp2
       refine aP (S:=fun W=>((aM (.pointer (some ⟨w.heap.size,0,none⟩))).run Tryz.prog W = .ok (.agg (aB c).toArray) W∧(aM (.pointer (some ⟨b,off+j*27,none⟩))).run Tryz.prog W = .ok (.agg (aB d).toArray) W)∧FI w c b off pre W) ?_ (fun hHeld => ?_)
       ·first | exact Kx.out _ hx1 | exact Kx.out _ hx0
       iterate 5 ((first | refine aJ ?_ | refine np_q ?_ | refine aL 0 ?_);(try simp only[nSO]))
       first | (refine np_s 5 ?_;(try simp only[nSO])) | (refine np_c 5 (fun K hK => ?_);go_simp;((go_at_call 220;refine (cl _).mono ?_;rintro e v9 ⟨rfl,hbc⟩;have hx1:=hHeld.2.on hbc));(try go_wp2_with fail);refine hK.out _ _ ?_ (fun hHeld => ?_);(· (first | exact Kx.out _ hx1 | exact Kx.out _ hx0));clear hK K;(try simp only[nSO]))
       refine np_z ?_
       have HI:=Lib.hid hHeld.2
       clear cl hHeld hx0
       cases x with
       |true =>
        have hbad:eF pre c=false:=wN Hd.out Hx.out
        have Hbad:=Lib.hid hbad
        clear hbad
        go_wp2
        go_returns
        exact⟨aO Hbad.out.symm,HI.out.bl⟩
       |false =>
        go_wp2
        go_roundw
        case rel =>
         refine⟨j+1,by go_num,by omega,fun m e hm he => ?_,HI.out⟩
         by_cases hmj:m=j
         ·subst hmj
          have:=Hd.out
          rw[this] at he
          cases he
          exact Hx.out
         ·exact Hcl.out m e (by omega) he
        case measure=>simp[intOf];omega
      ·have hgood:eF pre c=true:=by rw[Hfit.out];exact yV (by omega) Hcl.out
       have Hgood:=Lib.hid hgood
       clear hgood
       go_wp2
       go_returns
       exact⟨aO Hgood.out.symm,hI.bl⟩
  ·have t2:(c.index != (own.length:Int))=true:=by simpa using hix
   have t2':(c.index == (own.length:Int))=false:=by simpa using hix
   have hbad:eF pre c=false:=by rw[Hfit0.out,decide_eq_false (by rw[← Hol.out];exact hix)];simp
   have Hbad:=Lib.hid hbad
   have qid:w3.drew.cell? ⟨w.heap.size,1,none⟩=some (.int .i64 c.index):=qi
   have hBd:=hI.bl.drew
   clear hix hbad qi
   go_wp2
   refine aP (S:=fun W=>W.cell? ⟨w.heap.size,1,none⟩=some (.int .i64 c.index)) ?_ (fun hHeld => ?_)
   ·exact qid
   iterate 21 ((first | refine aJ ?_ | refine np_q ?_ | refine aL 0 ?_);(try simp only[nSO]))
   refine np_z ?_
   go_wp2
   go_returns
   exact⟨aO Hbad.out.symm,hBd⟩
theorem aM5 (c:aA) (p:Option Addr) (cap:Nat) (pre:List aA) (w:World) (hC:CRow w p cap pre) (hs:pre.length≤1000000) (hd:∀ c∈pre,DAt w c) :
  Calls Tryz.prog 177 #[.agg (aB c).toArray,.slice p pre.length cap] w fun e w'=>e = .returned (.bool (eF pre c))∧Below w.heap.size w w':=by
 rcases Nat.eq_zero_or_pos pre.length with h | h
 ·have:pre=[]:=List.length_eq_zero_iff.1 h
  subst this
  exact aM4 c p cap w hC
 ·obtain⟨b,off,rfl,h1,h2,h3⟩:=wO hC h
  exact aJc c b off cap pre w h2 h1 h3 h hs hd
structure CI (w:World) (b off:Nat) (cs:List aA) (W:World):Prop where
 row:CAt W b off cs
 bl:Below w.heap.size w W
theorem CI.on {w:World} {b off:Nat} {cs:List aA} {W W':World} (h:CI w b off cs W) (hb:Below W.heap.size W W'):CI w b off cs W':=⟨h.row.on hb,h.bl.trans (hb.mono h.bl.size)⟩
def aSf (w:World) (b off:Nat) (cs:List aA) (i:Value) (wr:World):Prop:=∃ k:Nat,i = .int .i64 k∧k≤cs.length∧(∀ m,m<k→okAt cs m=true)∧CI w b off cs wr
theorem xG (b off cap:Nat) (cs:List aA) (w:World) (hcap:cs.length≤cap) (hb:b<w.heap.size) (hC:CAt w b off cs) (hs:cs.length≤1000000) (hok:∀ c∈cs,c.Ok) (hd:∀ c∈cs,DAt w c) :
  Calls Tryz.prog 121 #[.slice (some ⟨b,off,none⟩) cs.length cap] w fun e w'=>e = .returned (.tuple #[.int .i64 (bF cs).1,.int .i64 (bF cs).2])∧Below w.heap.size w w':=by
 go_enter Tryz.func121,Tryz.ntmps121
 go_wp2
 go_loopw [4] (fun i wr=>aSf w b off cs i wr) (fun i wr=>cs.length-(intOf i).toNat)
 case atStart=>exact⟨0,rfl,by omega,fun m hm=>by omega,hC,Below.refl _ _⟩
 case round =>
  obtain⟨k,rfl,hk,hgood,hI⟩:=hrel
  have Hg:=Lib.hid hgood
  clear hgood
  by_cases hlt:k<cs.length
  ·obtain⟨c,hc⟩:∃ c,cs[k]? = some c:=⟨_,gEz hlt⟩
   have hcm:=mGz hc
   have hdc:=hd c hcm
   have al:=fun W=>aJb c (hok c hcm) (by have:=hdc.1;omega) W
   have ft:∀ W,CI w b off cs W→Calls Tryz.prog 177 #[.agg (aB c).toArray,.slice (some ⟨b,off,none⟩) k cap] W fun e w'=>e = .returned (.bool (eF (cs.take k) c))∧Below W.heap.size W w':=fun W h=>by
    have h1:=aM5 c (some ⟨b,off,none⟩) cap (cs.take k) W (.inr ⟨b,off,rfl,by rw[List.length_take];omega,Nat.lt_of_lt_of_le hb h.bl.size,h.row.take k⟩) (by rw[List.length_take];omega) (fun d hd'=>(hd d (List.mem_of_mem_take hd')).on h.bl)
    rwa [List.length_take,Nat.min_eq_left (by omega)] at h1
   have hacc:okAt cs k=(iC c && eF (cs.take k) c):=by rw[aQe hc,aM3]
   generalize iC c=f at *
   generalize eF (cs.take k) c=g at *
   have Hacc:=Lib.hid hacc
   have kx:∀ W,CI w b off cs W→(aM (.pointer (some ⟨b,off+k*27,none⟩))).run Tryz.prog W = .ok (.agg (aB c).toArray) W∧CI w b off cs W:=fun W h=>⟨h.row.load hc,h⟩
   have Kx:=Lib.hid kx
   have Ft:=Lib.hid ft
   have hx0:=hI.on (Below.refl _ _).drew
   have hkc:(k:Int)≤(cap:Int):=by omega
   clear kx ft hacc hc hcm hdc hI
   cases f with
   |false =>
    have hbad:okAt cs k=false:=by rw[Hacc.out];rfl
    have Hbad:=Lib.hid hbad
    clear hbad
    go_wp2
    refine aP (S:=fun W=>(aM (.pointer (some ⟨b,off+k*27,none⟩))).run Tryz.prog W = .ok (.agg (aB c).toArray) W∧CI w b off cs W) ?_ (fun hHeld => ?_)
    ·first | exact Kx.out _ hx1 | exact Kx.out _ hx0
    iterate 4 ((first | refine aJ ?_ | refine np_q ?_ | refine aL 0 ?_);(try simp only[nSO]))
    first | (refine np_s 4 ?_;(try simp only[nSO])) | (refine np_c 4 (fun K hK => ?_);go_simp;((go_at_call 176;refine (al _).mono ?_;rintro e v8 ⟨rfl,hbc⟩;have hx1:=hHeld.2.on hbc));(try go_wp2_with fail);refine hK.out _ _ ?_ (fun hHeld => ?_);(· (first | exact Kx.out _ hx1 | exact Kx.out _ hx0));clear hK K;(try simp only[nSO]))
    iterate 9 ((first | refine aJ ?_ | refine np_q ?_);(try simp only[nSO]))
    first | (refine np_s 14 ?_;(try simp only[nSO])) | (refine np_c 14 (fun K hK => ?_);go_simp;(fail);(try go_wp2_with fail);refine hK.out _ _ ?_ (fun hHeld => ?_);(· (first | exact Kx.out _ hx1 | exact Kx.out _ hx0));clear hK K;(try simp only[nSO]))
    iterate 2 ((first | refine aJ ?_ | refine np_q ?_);(try simp only[nSO]))
    refine np_z ?_
    have hbl:=hHeld.2.bl
    clear hHeld al
    go_wp2
    go_returns
    exact⟨nK (by rw[jE hlt Hg.out Hbad.out]) (by rw[jE hlt Hg.out Hbad.out]),hbl⟩
   |true =>
    cases g with
    |false =>
     have hbad:okAt cs k=false:=by rw[Hacc.out];rfl
     have Hbad:=Lib.hid hbad
     clear hbad
     go_wp2
     refine aP (S:=fun W=>(aM (.pointer (some ⟨b,off+k*27,none⟩))).run Tryz.prog W = .ok (.agg (aB c).toArray) W∧CI w b off cs W) ?_ (fun hHeld => ?_)
     ·first | exact Kx.out _ hx2 | exact Kx.out _ hx1 | exact Kx.out _ hx0
     iterate 4 ((first | refine aJ ?_ | refine np_q ?_ | refine aL 0 ?_);(try simp only[nSO]))
     first | (refine np_s 4 ?_;(try simp only[nSO])) | (refine np_c 4 (fun K hK => ?_);go_simp;((go_at_call 176;refine (al _).mono ?_;rintro e v8 ⟨rfl,hbc⟩;have hx1:=hHeld.2.on hbc));(try go_wp2_with fail);refine hK.out _ _ ?_ (fun hHeld => ?_);(· (first | exact Kx.out _ hx2 | exact Kx.out _ hx1 | exact Kx.out _ hx0));clear hK K;(try simp only[nSO]))
     iterate 9 ((first | refine aJ ?_ | refine np_q ?_);(try simp only[nSO]))
     first | (refine np_s 14 ?_;(try simp only[nSO])) | (refine np_c 14 (fun K hK => ?_);go_simp;((go_at_call 177;refine (Ft.out _ hHeld.2).mono ?_;rintro e v9 ⟨rfl,hbc⟩;have hx2:=hHeld.2.on hbc));(try go_wp2_with fail);refine hK.out _ _ ?_ (fun hHeld => ?_);(· (first | exact Kx.out _ hx2 | exact Kx.out _ hx1 | exact Kx.out _ hx0));clear hK K;(try simp only[nSO]))
     iterate 2 ((first | refine aJ ?_ | refine np_q ?_);(try simp only[nSO]))
     refine np_z ?_
     have hbl:=hHeld.2.bl
     clear hHeld al
     go_wp2
     go_returns
     exact⟨nK (by rw[jE hlt Hg.out Hbad.out]) (by rw[jE hlt Hg.out Hbad.out]),hbl⟩
    |true =>
     have hgd:okAt cs k=true:=by rw[Hacc.out];rfl
     have Hgd:=Lib.hid hgd
     clear hgd
     go_wp2
     refine aP (S:=fun W=>(aM (.pointer (some ⟨b,off+k*27,none⟩))).run Tryz.prog W = .ok (.agg (aB c).toArray) W∧CI w b off cs W) ?_ (fun hHeld => ?_)
     ·first | exact Kx.out _ hx2 | exact Kx.out _ hx1 | exact Kx.out _ hx0
     iterate 4 ((first | refine aJ ?_ | refine np_q ?_ | refine aL 0 ?_);(try simp only[nSO]))
     first | (refine np_s 4 ?_;(try simp only[nSO])) | (refine np_c 4 (fun K hK => ?_);go_simp;((go_at_call 176;refine (al _).mono ?_;rintro e v8 ⟨rfl,hbc⟩;have hx1:=hHeld.2.on hbc));(try go_wp2_with fail);refine hK.out _ _ ?_ (fun hHeld => ?_);(· (first | exact Kx.out _ hx2 | exact Kx.out _ hx1 | exact Kx.out _ hx0));clear hK K;(try simp only[nSO]))
     iterate 9 ((first | refine aJ ?_ | refine np_q ?_);(try simp only[nSO]))
     first | (refine np_s 14 ?_;(try simp only[nSO])) | (refine np_c 14 (fun K hK => ?_);go_simp;((go_at_call 177;refine (Ft.out _ hHeld.2).mono ?_;rintro e v9 ⟨rfl,hbc⟩;have hx2:=hHeld.2.on hbc));(try go_wp2_with fail);refine hK.out _ _ ?_ (fun hHeld => ?_);(· (first | exact Kx.out _ hx2 | exact Kx.out _ hx1 | exact Kx.out _ hx0));clear hK K;(try simp only[nSO]))
     iterate 2 ((first | refine aJ ?_ | refine np_q ?_);(try simp only[nSO]))
     refine np_z ?_
     have HI:=Lib.hid hHeld.2
     clear hHeld al
     go_wp2
     go_roundw
     case rel=>exact⟨k+1,by go_num,by omega,fun m hm=>by
       by_cases e:m=k
       ·rw[e];exact Hgd.out
       ·exact Hg.out m (by omega),HI.out⟩
     case measure=>simp[intOf];omega
  ·have hkk:k=cs.length:=by omega
   subst hkk
   go_wp2
   go_returns
   exact⟨nK (by rw[oV Hg.out]) (by rw[oV Hg.out]),hI.bl⟩
theorem aAr (w:World):Calls Tryz.prog 121 #[.slice none 0 0] w fun e w'=>e = .returned (.tuple #[.int .i64 (bF []).1,.int .i64 (bF []).2])∧Below w.heap.size w w':=by
 go_enter Tryz.func121,Tryz.ntmps121
 go_wp2
 refine wp_loop_rounds 1 ?_
 rw[rounds_succ]
 go_wp2
 go_returns
 exact⟨rfl,Below.refl _ _⟩
theorem lW (p:Option Addr) (cap:Nat) (cs:List aA) (w:World) (hC:CRow w p cap cs) (hs:cs.length≤1000000) (hok:∀ c∈cs,c.Ok) (hd:∀ c∈cs,DAt w c) :
  Calls Tryz.prog 121 #[.slice p cs.length cap] w fun e w'=>e = .returned (.tuple #[.int .i64 (bF cs).1,.int .i64 (bF cs).2])∧Below w.heap.size w w':=by
 rcases hC with⟨rfl,rfl,rfl⟩ | ⟨b,off,rfl,h1,h2,h3⟩
 ·exact aAr w
 ·exact xG b off cap cs w h1 h2 h3 hs hok hd
end Go.Proofs.YtdeiocppghhfdaaGreat.Hs
