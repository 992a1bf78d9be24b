/- LinearValids: the law returns true for every input, and leaves its arguments as they were. -/
import Derived.Test.YtdeiocppghhfdaaGreatZfbv
import Derived.Test.YtdeiocppghhfdaaGreatZfbw
set_option linter.unusedVariables false
set_option linter.unusedSimpArgs false
set_option maxRecDepth 100000
set_option maxHeartbeats 40000000
namespace Go.Proofs.YtdeiocppghhfdaaGreat.Lin
open Go.RowKit Go.Lib Go.Shelf
open Hs
open KitI (iv IRow own_below kH)
attribute [local go_sem, local simp] Hs.dP
attribute [local go_sem ↓] Hs.aN Hs.aR
attribute [local go_sem] Hs.bX Hs.bB Hs.aX Hs.bH Hs.cK
attribute [local go_sem ↓] aFl
attribute [local go_sem, local simp] vK aP7
attribute [local irreducible] cfgL
theorem aAw (o:List Int) (L:List aA):aQ o (L.map aA.pure)=aQ o L:=by
 have hp:∀ i j,dO o (L.map aA.pure) i j=dO o L i j:=fun i j=>by
  unfold dO
  rw[List.getElem?_map,List.getElem?_map]
  cases L[i]? <;> cases L[j]? <;> rfl
 unfold aQ fV
 rw[wM,List.length_map]
 simp only[hp]
theorem run_pure (L:List aA):∀ (o:List Int) (st:MS),runO (L.map aA.pure) st o=runO L st o
 |[],_=>rfl
 |x::r,st=>by
  show (nx (L.map aA.pure) st x.toNat).bind _=(nx L st x.toNat).bind _
  rw[aGv]
  congr 1
  funext t
  exact run_pure L r t
theorem uM (c:CfgV) (o:List Int) (L:List aA):dI c o (L.map aA.pure)=dI c o L:=by
 have hh:hasAll (L.map aA.pure) o=hasAll L o:=by
  unfold hasAll
  rw[List.length_map]
  congr 1
  funext j
  rw[lC]
  rfl
 unfold dI
 rw[wP,aAw,run_pure,hh]
theorem wS {c:CfgV} {o:List Int} {A B:List aA} (h:A.map aA.pure=B.map aA.pure):dI c o A=dI c o B:=by rw[← uM c o A,h,uM]
def aR0 (w:World) (zs:List Int) (o i:Value) (wr:World):Prop :=
 ∃ k:Nat,i = .int .i64 k∧k≤zs.length∧wr.ownsRow w.heap.size 3 1 o k ((zs.take k).map iv)∧Below w.heap.size w wr
theorem yZ (po:Option Addr) (co n:Nat) (zs:List Int) (w:World) (hn:n=zs.length) (h:IRd w po zs) (hl:zs.length≤1000000):Calls Tryz.prog 27 #[.slice po n co] w fun e w'=>∃ p c,e = .returned (.slice p n c)∧IRd w' p zs∧Below w.heap.size w w':=by
 subst hn
 obtain⟨i0,hi,hz0,hz1,hz2⟩:=info_parts kH
 go_enter Tryz.func27,Tryz.ntmps27
 go_wp2
 go_loopw [3,4] (fun o i wr=>aR0 w zs o i wr) (fun o i wr=>zs.length-(intOf i).toNat)
 case atStart=>exact⟨0,rfl,by omega,World.ownsRow_nil _ _ _ _,Below.refl _ _⟩
 case round =>
  obtain⟨k,rfl,hk,hown,hB⟩:=hrel
  by_cases hlt:k<zs.length
  ·obtain⟨z,hz⟩:∃ z,zs[k]? = some z:=⟨_,gEz hlt⟩
   obtain⟨b,off,rfl,hc⟩:=uI h (by omega)
   have q:=hc wr hB k z hz
   have htk:(zs.take (k+1)).map iv=(zs.take k).map iv++[.int .i64 z]:=by rw[List.take_add_one,hz,Option.toList_some,List.map_append];rfl
   have Htk:=Lib.hid htk
   clear htk hc hz
   go_wp2_with (at_builtin;refine wpList_append_own _ rfl _ _ 28 rfl w.heap.size 3 i0 (.int .i64 0) 1 8 Tryz.underlying28 hi hz0 hz1 hz2 rfl (by decide) _ _ _ rfl (hown.alloc _) ⟨_,0,none⟩ 1 1 [.int .i64 z] rfl rfl (aW _ _ _) (by simp[Value.oneCell']) (by unfold maxLen;omega) (by omega) (by have:=hB.size;simp at *;omega) ?_;intro v' w3 hown' hgrow _)
   have hB3:=(hB.alloc hB.size (.cells #[.int .i64 z] 3)).grown hgrow (by have:=hB.size;simp at *;omega) fun k hk=>(hown.lt k hk).1
   go_roundw
   case rel=>exact⟨k+1,by go_num,by omega,by rw[Htk.out];exact hown',hB3⟩
   case measure=>simp[intOf];omega
  ·have hkk:k=zs.length:=by omega
   subst hkk
   rw[List.take_length] at hown
   obtain⟨a,q,rfl⟩:=aC hown
   have hr:=IRd.of (IRow.own hown rfl)
   clear hown
   go_wp2
   go_returns
   exact⟨a,q,rfl,hr,hB⟩
theorem aR1 (pa pb:Option Addr) (ca cb n:Nat) (zs:List Int) (w:World) (hn:n=zs.length) (ha:IRd w pa zs) (hb:IRd w pb zs) (hs:zs.length≤1000000):Calls Tryz.prog 24 #[.slice pa n ca,.slice pb n cb] w fun e w'=>e = .returned (.bool true)∧Below w.heap.size w w':=by
 subst hn
 by_cases h0:zs=[]
 ·subst h0
  go_enter Tryz.func24,Tryz.ntmps24
  go_wp2
  refine wp_loop_rounds 1 ?_
  rw[rounds_succ]
  go_wp2
  go_returns
  exact⟨rfl,Below.refl _ _⟩
 ·obtain⟨b1,o1,rfl,h1⟩:=ha.resolve_left h0
  obtain⟨b2,o2,rfl,h2⟩:=hb.resolve_left h0
  have:=KitI.aA0 w b1 o1 ca b2 o2 cb zs zs rfl hs h1 h2
  rwa [decide_eq_true rfl] at this
theorem walkLinearValids (c:CfgV) (po:Option Addr) (co:Nat) (o:List Int) (p:Option Addr) (cap:Nat) (cs:List aA) (w:World) (hco:o.length≤co) (hI:ArgI w po o) (hA:nA w p cs) :
  Calls Tryz.prog 4 #[.agg (cfgL c).toArray,.slice po o.length co,.slice p cs.length cap] w fun e w'=>e = .returned (.bool true)∧Below w.heap.size w w':=by
 have hB0:Below w.heap.size w (w.alloc (.cells (cfgL c).toArray tCfg)):=(Below.refl _ _).alloc (Nat.le_refl _) _
 have hz0:=bE w (cfgL c) tCfg
 have hl0:=aM7 hz0
 have hm0:0≤min (o.length:Int) 12:=by omega
 have hm1:min (o.length:Int) 12≤co:=by omega
 have hmn:(min (o.length:Int) 12).toNat=(o.take 12).length:=by rw[List.length_take];omega
 have hIo:=hI.take 12
 go_enter Tryz.func4,Tryz.ntmps4
 go_wp2_with fail
 refine (aJd c _).mono ?_
 rintro e w1 ⟨rfl,hb1⟩
 have hz1:=aU hz0 hb1 (by simp)
 have hs1:=aRo hz1 (by simp[vK]) (pR 100 c)
 have hz2:=setRow_heap _ _ _ (cfgL (pR 100 c)).toArray _ _ hz1
 have hB1:Below w.heap.size w (w1.setRow w.heap.size (cfgL (pR 100 c)).toArray):=bM (hB0.trans (hb1.mono hB0.size)) (Nat.le_refl _) _
 clear hl0 hz0 hb1 hz1
 generalize pR 100 c=C at *
 go_wp2
 generalize w1.setRow w.heap.size (cfgL C).toArray=W0 at *
 have hBd:=hB1.drew
 have hzd:W0.drew.heap[w.heap.size]? = some (.cells (cfgL C).toArray tCfg (0,0)):=hz2
 clear hs1 hz2 hB1
 refine aP (S:=fun _=>True) ?_ (fun hHeld => ?_)
 ·trivial
 ((first | refine np_q ?_ | refine aL 0 ?_);(try simp only[nSO]))
 (refine aL 2 ?_;(try simp only[nSO]))
 iterate 4 ((refine np_q ?_;(try simp only[nSO])))
 (refine np_c 1 (fun K hK => ?_);go_simp;((go_at_call 18;refine (aAm 11 (by omega) p cap cs _ (hA.on hBd)).mono ?_;rintro e w3 ⟨p',cap',hs,rfl,hpure,hrow,-,hb3⟩;have hb3':=hBd.trans (hb3.mono hBd.size)));(try go_wp2_with fail);refine hK.out _ _ ?_ (fun hHeld => ?_);(· (trivial));clear hK K;(try simp only[nSO]))
 (refine np_c 7 (fun K hK => ?_);go_simp;((go_at_call 27;refine (yZ po co _ (o.take 12) _ (by rw[List.length_take]) (hIo.on hb3') (by rw[List.length_take];omega)).mono ?_;rintro e w4 ⟨pv,cv,rfl,hIv,hb4⟩));(try go_wp2_with fail);refine hK.out _ _ ?_ (fun hHeld => ?_);(· (trivial));clear hK K;(try simp only[nSO]))
 iterate 2 ((refine np_q ?_;(try simp only[nSO])))
 refine np_z ?_
 have hL:LawW w w4 C p' cap' hs:=⟨hb3'.trans (hb4.mono hb3'.size),aU (aU hzd hb3 (gAz hzd).1) hb4 (by have:=hb3.size;have:=(gAz hzd).1;omega),hrow.on hb4⟩
 clear hb3 hb4 hrow hb3'
 have hld:=hL.ld
 have hvl:=hL.valid (co:=cv) (n:=min 12 o.length) (by rw[List.length_take]) hIv (by rw[List.length_take];omega)
 have hvr:=fun (hs2:List aA) (h2:hs2.map aA.pure=fewN 11 cs)=>wS (c:=C) (o:=o.take 12) (h2.trans hpure.symm)
 generalize dI C (o.take 12) hs=ve at hvl hvr
 have hee:(ve == ve)=true:=by simp
 go_wp2_with (go_at_call 28;refine hvl.mono ?_;rintro e w5 ⟨rfl,hb5⟩;have hL5:=hL.on hb5;have hIv5:=hIv.on hb5)
 have hLd:=hL5.on (Below.refl _ _).drew
 have hIvd:=hIv5.on (Below.refl _ _).drew
 clear hvl hld hL hIv hb5 hL5 hIv5 hBd hzd
 refine aP (S:=fun W=>(uK (.pointer (some ⟨w.heap.size,0,none⟩))).run Tryz.prog W = .ok (.agg (cfgL C).toArray) W) ?_ (fun hHeld => ?_)
 ·first | exact hL11.ld | exact hL10.ld | exact hL9.ld | exact hL8.ld | exact hL7.ld | exact hL6.ld | exact hLd.ld
 iterate 8 ((first | refine aJ ?_ | refine np_q ?_ | refine aL 0 ?_);(try simp only[nSO]))
 first | (refine np_s 8 ?_;(try simp only[nSO])) | (refine np_c 8 (fun K hK => ?_);go_simp;((go_at_call 18;refine (aAm 11 (by omega) p cap cs _ (hA.on hLd.bl)).mono ?_;rintro e w6 ⟨p6,cap6,hs6,rfl,hpure6,hrow6,-,hb6⟩;have hL6:=hLd.on hb6));(try go_wp2_with fail);refine hK.out _ _ ?_ (fun hHeld => ?_);(· (first | exact hL11.ld | exact hL10.ld | exact hL9.ld | exact hL8.ld | exact hL7.ld | exact hL6.ld | exact hLd.ld));clear hK K;(try simp only[nSO]))
 first | (refine np_s 9 ?_;(try simp only[nSO])) | (refine np_c 9 (fun K hK => ?_);go_simp;((go_at_call 29;refine (aNa C p6 po cap6 co _ hs6 (o.take 12) _ (by rw[List.length_take]) hrow6 (hIo.on hL6.bl) (by rw[List.length_take];omega)).mono ?_;rw[hvr _ hpure6];rintro e w7 ⟨rfl,hb7⟩;have hL7:=hL6.on hb7));(try go_wp2_with fail);refine hK.out _ _ ?_ (fun hHeld => ?_);(· (first | exact hL11.ld | exact hL10.ld | exact hL9.ld | exact hL8.ld | exact hL7.ld | exact hL6.ld | exact hLd.ld));clear hK K;(try simp only[nSO]))
 iterate 4 ((first | refine aJ ?_ | refine np_q ?_);(try simp only[nSO]))
 first | (refine np_s 14 ?_;(try simp only[nSO])) | (refine np_c 14 (fun K hK => ?_);go_simp;((go_at_call 18;refine (aAm 11 (by omega) p cap cs _ (hA.on hL7.bl)).mono ?_;rintro e w8 ⟨p8,cap8,hs8,rfl,hpure8,hrow8,-,hb8⟩;have hL8:=hL7.on hb8));(try go_wp2_with fail);refine hK.out _ _ ?_ (fun hHeld => ?_);(· (first | exact hL11.ld | exact hL10.ld | exact hL9.ld | exact hL8.ld | exact hL7.ld | exact hL6.ld | exact hLd.ld));clear hK K;(try simp only[nSO]))
 first | (refine np_s 15 ?_;(try simp only[nSO])) | (refine np_c 15 (fun K hK => ?_);go_simp;((go_at_call 25;refine (aAp p' p8 cap' cap8 hs hs8 _ (hpure.trans hpure8.symm) (by have:=hL8.row.len;omega) hL8.row.row hrow8.row hL8.row.dat hrow8.dat).mono ?_;rintro e w9 ⟨rfl,hb9⟩;have hL9:=hL8.on hb9;have hIv9:=((((hIvd.on hb6).on hb7).on hb8).on hb9)));(try go_wp2_with fail);refine hK.out _ _ ?_ (fun hHeld => ?_);(· (first | exact hL11.ld | exact hL10.ld | exact hL9.ld | exact hL8.ld | exact hL7.ld | exact hL6.ld | exact hLd.ld));clear hK K;(try simp only[nSO]))
 iterate 8 ((first | refine aJ ?_ | refine np_q ?_);(try simp only[nSO]))
 first | (refine np_s 24 ?_;(try simp only[nSO])) | (refine np_c 24 (fun K hK => ?_);go_simp;((go_at_call 24;refine (aR1 pv po cv co _ (o.take 12) _ (by rw[List.length_take]) hIv9 (hIo.on hL9.bl) (by rw[List.length_take];omega)).mono ?_;rintro e w10 ⟨rfl,hb10⟩;have hL10:=hL9.on hb10));(try go_wp2_with fail);refine hK.out _ _ ?_ (fun hHeld => ?_);(· (first | exact hL11.ld | exact hL10.ld | exact hL9.ld | exact hL8.ld | exact hL7.ld | exact hL6.ld | exact hLd.ld));clear hK K;(try simp only[nSO]))
 iterate 2 ((first | refine aJ ?_ | refine np_q ?_);(try simp only[nSO]))
 first | (refine np_s 27 ?_;(try simp only[nSO])) | (refine np_c 27 (fun K hK => ?_);go_simp;((go_at_call 26;refine (aCx _).mono ?_;rintro e w11 ⟨rfl,hb11⟩;have hL11:=hL10.on hb11));(try go_wp2_with fail);refine hK.out _ _ ?_ (fun hHeld => ?_);(· (first | exact hL11.ld | exact hL10.ld | exact hL9.ld | exact hL8.ld | exact hL7.ld | exact hL6.ld | exact hLd.ld));clear hK K;(try simp only[nSO]))
 iterate 2 ((first | refine aJ ?_ | refine np_q ?_);(try simp only[nSO]))
 refine np_z ?_
 go_wp2
 go_returns
 exact⟨rfl,hL11.bl⟩
end Go.Proofs.YtdeiocppghhfdaaGreat.Lin
namespace Go.Proofs.YtdeiocppghhfdaaGreat.linearValids
open Go.ChangeShapes Go.WideShapes Go.ChangeAt Go.RowKit
open Go.ChangeMaps (open_string shut_string)
open Lin Hs
set_option linter.unusedVariables false
theorem lifted (os : Os) (started : os.Started) (H : Type) (enc : TypeId × Value → H) :
    ReturnsInHanded {} Tryz.checked os 4 .any (Rows.linearValidsSpec.pre6 enc Tryz.prog Tryz.f4 Rows.linearValidsRow.domain false) (Rows.linearValidsSpec.post enc Tryz.prog Tryz.f4 false true false false):=by
  refine returnsInHanded_of_change_sized (C := Tryz.checked) own started (by kernel_rfl) Tryz.func4
    (ChangeSpec.witness6 (enc:=enc) (C := Tryz.checked) false ⟨#[],#[.agg #[.int .i64 0,.int .u64 0,.int .i64 0,.int .i64 0,.int .i64 0,.int .i64 0,.int .i64 0,.string ⟨#[]⟩],.slice none 0 0,.slice none 0 0],[]⟩ 8 (by kernel_rfl) (by kernel_rfl) (by kernel_rfl) (by kernel_rfl)) ?_
  intro W base args ds gs before hval0 hW hcnd hsz0 _
  have hval:∀ (j:Nat) t v,Tryz.f4.params[j]? = some t→args[j]? = some v→Value.okWide Tryz.prog W .any base t v:=hval0
  have hW':=hW
  obtain⟨p,q,hA0,hV,rfl,hfz,hnd⟩:=hW
  have hA:DataW.TrodAll enc Tryz.prog W 0 (fun _=>true) true Tryz.f4.params.toList args.toList ds p:=hA0
  rw[Tryz.params4] at hA hval
  obtain⟨v0,vs0,d0,ds0,p0,q0,hargs,rfl,rfl,h0,r0⟩:=trodAll_cons hA
  obtain⟨v1,vs1,d1,ds1,p1,q1,rfl,rfl,rfl,h1,r1⟩:=trodAll_cons r0
  obtain⟨v2,vs2,d2,ds2,p2,q2,rfl,rfl,rfl,h2,r2⟩:=trodAll_cons r1
  obtain⟨rfl,rfl,rfl⟩:=trodAll_nil r2
  obtain rfl:args = #[v0,v1,v2]:=by cases args;simp_all
  obtain⟨rfl,rfl⟩:=trodVars_none hV
  obtain⟨c0,rfl⟩:=aLk (hval 0 24 v0 rfl rfl) h0
  obtain⟨q1,c1,l1,rfl,u1,w1⟩:=open_ints (hval 1 28 v1 rfl rfl) h1
  obtain⟨q2,c2,l2,rfl,w2⟩:=aEr (hval 2 25 v2 rfl rfl) h2
  clear hA0 hval0
  (try simp only[List.append_nil,List.nil_append] at hW')
  refine (walkLinearValids c0 q1 c1 l1 q2 c2 l2 W u1 w1 w2).mono fun e W' ⟨he,hg⟩ => ?_
  subst he
  have hlt0:∀ x∈p0,x.block<W.heap.size:=fun x hx=>hW'.lt x (by simp[hx])
  have hlt1:∀ x∈p1,x.block<W.heap.size:=fun x hx=>hW'.lt x (by simp[hx])
  have hlt2:∀ x∈p2,x.block<W.heap.size:=fun x hx=>hW'.lt x (by simp[hx])
  exact⟨_,rfl,xJ (pa:=(p0++(p1++(p2++[])))) (pv:=[]) hW' (fun _ _ _=>(trodAll_cons_mk (shut_bool Tryz.underlying4 _) trodAll_mk0)) (fun sp hsp=>(trodAll_cons_mk (WideElems.Trod_stays (by kernel_rfl) (by kernel_rfl) (of_decide_eq_true (by kernel_rfl)) h0 (fun x hx=>hg.same (hlt0 x hx)) (fun x hx=>hsp x (by simp[hx]))) (trodAll_cons_mk (WideElems.Trod_stays (by kernel_rfl) (by kernel_rfl) (of_decide_eq_true (by kernel_rfl)) h1 (fun x hx=>hg.same (hlt1 x hx)) (fun x hx=>hsp x (by simp[hx]))) (trodAll_cons_mk (WideElems.Trod_stays (by kernel_rfl) (by kernel_rfl) (of_decide_eq_true (by kernel_rfl)) h2 (fun x hx=>hg.same (hlt2 x hx)) (fun x hx=>hsp x (by simp[hx]))) trodAll_mk0)))) (fun _ _=>rfl) (by simp)
    hg (ok_one (by kernel_rfl) rfl (okWide_bool_mk Tryz.underlying4 _))⟩
theorem facts:joinedFacts Tryz.prog 4 Tryz.f4 Rows.linearValidsSpec Rows.linearValidsRow=true:=by
  unfold joinedFacts
  simp only[Bool.and_eq_true]
  repeat' apply And.intro
  all_goals (as_aux_lemma=>kernel_rfl)
theorem proved:Rows.LinearValidsSaid :=
  OpenClaim.holds_of_wide 4 Tryz.f4 rfl rfl rfl rfl rfl rfl rfl ⟨rfl,rfl,rfl,rfl,rfl⟩ rfl rfl rfl rfl rfl (by kernel_rfl) Tryz.func4 facts
    (of_decide_eq_true (by kernel_rfl)) (by unfold Func.isWrapper;first | (rw[if_pos (by decide +kernel)];kernel_rfl) | (rw[if_neg (by decide +kernel)];exact⟨rfl,rfl⟩))
    (fun os started H enc _=>lifted os started H enc)
#print axioms proved
end Go.Proofs.YtdeiocppghhfdaaGreat.linearValids
