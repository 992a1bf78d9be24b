/- Texts, one behind another. -/
import Derived.Test.YtdeiocppghhfdaaGreatZfat
set_option linter.unusedVariables false
set_option linter.unusedSimpArgs false
set_option maxRecDepth 100000
set_option maxHeartbeats 40000000
namespace Go.Proofs.YtdeiocppghhfdaaGreat.Hs
open Go.RowKit Go.Lib Go.Shelf
open KitI (own_below)
attribute [local go_sem, local simp] dP
attribute [local go_sem ↓] aN aR
attribute [local go_sem] bX bB aX bH cK
def kZ (v:Value):Sem Value:=Instr.loadAt 94 v
theorem aAo (v:Value):Instr.loadAt 94 v=kZ v:=rfl
theorem aMx {W:World} {b off:Nat} (p:dZ) (h:∀ j u,(gL p)[j]? = some u→W.cell? ⟨b,off+j,none⟩=some u):(kZ (.pointer (some ⟨b,off,none⟩))).run Tryz.prog W = .ok (.agg #[.int .u8 p.kind,.int .i64 p.n,.string p.text]) W :=
 run_loadAt_mid W b off 94 (gL p) _ (fun j v hv=>h j v hv) Tryz.underlying94 rfl (by kernel_rfl)
def PAt (W:World) (p:Option Addr) (ps:List dZ):Prop:=ps=[]∨∃ b off,p=some ⟨b,off,none⟩∧∀ j u,(bO ps)[j]? = some u→W.cell? ⟨b,off+j,none⟩=some u
theorem PAt.on {W W':World} {p:Option Addr} {ps:List dZ} (h:PAt W p ps) (hb:Below W.heap.size W W'):PAt W' p ps:=by
 rcases h with h | ⟨b,off,h1,h2⟩
 ·exact .inl h
 ·exact .inr ⟨b,off,h1,fun j u hj=>by rw[hb.cell (cO (h2 j u hj))];exact h2 j u hj⟩
theorem DAt.pat {W:World} {c:aA} (h:DAt W c):PAt W c.da c.ps:=by
 rcases h.2 with⟨_,h,_⟩ | ⟨b,off,h1,_,h3⟩
 ·exact .inl h
 ·exact .inr ⟨b,off,h1,h3⟩
theorem PAt.load {W:World} {b off:Nat} {ps:List dZ} (h:∀ j u,(bO ps)[j]? = some u→W.cell? ⟨b,off+j,none⟩=some u) {k:Nat} {p:dZ} (hk:ps[k]? = some p):(kZ (.pointer (some ⟨b,off+k*3,none⟩))).run Tryz.prog W = .ok (.agg #[.int .u8 p.kind,.int .i64 p.n,.string p.text]) W :=
 aMx p fun j u hj=>by
  have hlt:=(gLz hj).1
  rw[jH] at hlt
  rw[Nat.add_assoc]
  exact h _ _ (by rw[sJ ps k j p hk hlt];exact hj)
def aQo (w:World) (n:Nat) (i:Value) (wr:World):Prop:=∃ k:Nat,i = .int .i64 k∧k≤n∧Below w.heap.size w wr
attribute [local go_sem ↓] aAo
theorem aMy (p1 p2:Option Addr) (c1 c2:Nat) (ps:List dZ) (w:World) (hs:ps.length≤1000000) (h1:PAt w p1 ps) (h2:PAt w p2 ps) :
  Calls Tryz.prog 221 #[.slice p1 ps.length c1,.slice p2 ps.length c2] w fun e w'=>e = .returned (.bool true)∧Below w.heap.size w w':=by
 go_enter Tryz.func221,Tryz.ntmps221
 go_wp2
 go_loopw [5] (fun i wr=>aQo w ps.length i wr) (fun i wr=>ps.length-(intOf i).toNat)
 case atStart=>exact⟨0,rfl,by omega,Below.refl _ _⟩
 case round =>
  obtain⟨k,rfl,hk,hB⟩:=hrel
  by_cases hlt:k<ps.length
  ·obtain⟨p,hp⟩:∃ p,ps[k]? = some p:=⟨_,gEz hlt⟩
   obtain⟨b1,o1,rfl,g1⟩:∃ b off,p1=some ⟨b,off,none⟩∧∀ j u,(bO ps)[j]? = some u→wr.drew.cell? ⟨b,off+j,none⟩=some u:=by
    rcases h1 with h | ⟨b,off,h,hc⟩
    ·rw[h] at hlt;simp at hlt
    ·exact⟨b,off,h,fun j u hj=>by rw[hB.drew.cell (cO (hc j u hj))];exact hc j u hj⟩
   obtain⟨b2,o2,rfl,g2⟩:∃ b off,p2=some ⟨b,off,none⟩∧∀ j u,(bO ps)[j]? = some u→wr.drew.cell? ⟨b,off+j,none⟩=some u:=by
    rcases h2 with h | ⟨b,off,h,hc⟩
    ·rw[h] at hlt;simp at hlt
    ·exact⟨b,off,h,fun j u hj=>by rw[hB.drew.cell (cO (hc j u hj))];exact hc j u hj⟩
   have q1:=PAt.load g1 hp
   have q2:=PAt.load g2 hp
   have HB:=Lib.hid hB.drew
   clear g1 g2 h1 h2 hp hB
   go_wp2
   refine aP (S:=fun W=>(kZ (.pointer (some ⟨b1,o1+k*3,none⟩))).run Tryz.prog W = .ok (.agg #[.int .u8 p.kind,.int .i64 p.n,.string p.text]) W∧(kZ (.pointer (some ⟨b2,o2+k*3,none⟩))).run Tryz.prog W = .ok (.agg #[.int .u8 p.kind,.int .i64 p.n,.string p.text]) W) ?_ (fun hHeld => ?_)
   ·exact⟨q1,q2⟩
   iterate 9 ((first | refine aJ ?_ | refine np_q ?_ | refine aL 0 ?_);(try simp only[nSO]))
   refine np_z ?_
   go_wp2
   go_roundw
   case rel=>exact⟨k+1,by go_num,by omega,HB.out⟩
   case measure=>simp[intOf];omega
  ·go_wp2
   go_returns
   exact⟨rfl,hB⟩
def oQ (c:aA):List Value:=[.int .u8 c.ik,.int .i64 c.ifrom,.int .i64 c.ito,.slice c.da c.ps.length c.dc]
theorem aCr (c d:aA) (w:World) (h:c.pure=d.pure) (hc:DAt w c) (hd:DAt w d):Calls Tryz.prog 178 #[.agg (oQ c).toArray,.agg (oQ d).toArray] w fun e w'=>e = .returned (.bool true)∧Below w.heap.size w w':=by
 have e1:c.ik=d.ik:=(congrArg aA.ik h:c.pure.ik=d.pure.ik)
 have e2:c.ifrom=d.ifrom:=(congrArg aA.ifrom h:c.pure.ifrom=d.pure.ifrom)
 have e3:c.ito=d.ito:=(congrArg aA.ito h:c.pure.ito=d.pure.ito)
 have e4:c.ps=d.ps:=(congrArg aA.ps h:c.pure.ps=d.pure.ps)
 have hcp:=hc.pat
 have hdp:=hd.pat
 have hl:=hd.1
 unfold oQ
 rw[e1,e2,e3,e4]
 rw[e4] at hcp
 clear e1 e2 e3 e4 hc hd h
 have cl:=fun W hb=>aMy c.da d.da c.dc d.dc d.ps W hl (hcp.on hb) (hdp.on hb)
 have Cl:=Lib.hid cl
 clear cl hcp hdp
 go_enter Tryz.func178,Tryz.ntmps178
 go_wp2_with fail
 have hbb:=lX w (.cells #[.int .u8 d.ik,.int .i64 d.ifrom,.int .i64 d.ito,.slice c.da d.ps.length c.dc] 49) (.cells #[.int .u8 d.ik,.int .i64 d.ifrom,.int .i64 d.ito,.slice d.da d.ps.length d.dc] 49)
 refine (Cl.out _ hbb).mono ?_
 rintro e w3 ⟨rfl,hb⟩
 go_wp2
 go_returns
 exact⟨rfl,hbb.trans (hb.mono (by simp;omega))⟩
def rG (v:Value):Sem Value:=Instr.loadAt 49 v
theorem tF (v:Value):Instr.loadAt 49 v=rG v:=rfl
attribute [local go_sem ↓] tF
theorem uJ {W:World} {b:Nat} (c:aA) {t:TypeId} (h:W.heap[b]? = some (.cells (resL c).toArray t (0,0))):(rG (.pointer (some ⟨b,9,none⟩))).run Tryz.prog W = .ok (.agg (oQ c).toArray) W :=
 run_loadAt_mid W b 9 49 (oQ c) _ (fun j v hv=>by
  rw[aD h]
  have:(oQ c)[j]? = (resL c)[9+j]? := by
   rw[show oQ c=(resL c).drop 9 from rfl,List.getElem?_drop]
  rw[← this]
  exact hv) Tryz.underlying49 rfl (by kernel_rfl)
theorem wL {c d:aA} (h:c.pure=d.pure):∃ a n,c={ d with da:=a,dc:=n }:=by
 refine⟨c.da,c.dc,?_⟩
 cases c;cases d
 simp only[aA.pure,aA.mk.injEq] at h
 simp only[aA.mk.injEq]
 simp[h]
theorem aFh (c d:aA) (w:World) (h:c.pure=d.pure) (hc:DAt w c) (hd:DAt w d):Calls Tryz.prog 124 #[.agg (resL c).toArray,.agg (resL d).toArray] w fun e w'=>e = .returned (.bool true)∧Below w.heap.size w w':=by
 have hbb:=lX w (.cells (resL c).toArray 51) (.cells (resL d).toArray 51)
 have cl:=aCr c d _ h (hc.on hbb) (hd.on hbb)
 have l1:=uJ c (aZ (bE w (resL c) 51) (.cells (resL d).toArray 51))
 have l2:(rG (.pointer (some ⟨w.heap.size+1,9,none⟩))).run Tryz.prog ((w.alloc (.cells (resL c).toArray 51)).alloc (.cells (resL d).toArray 51)) = .ok (.agg (oQ d).toArray) ((w.alloc (.cells (resL c).toArray 51)).alloc (.cells (resL d).toArray 51)) :=
  uJ d (by have:=bE (w.alloc (.cells (resL c).toArray 51)) (resL d) 51;rwa [World.size_alloc] at this)
 obtain⟨a,n,rfl⟩:=wL h
 have Hbb:=Lib.hid hbb
 clear hbb hc hd h
 go_enter Tryz.func124,Tryz.ntmps124
 go_wp2_with fail
 refine cl.mono ?_
 rintro e w3 ⟨rfl,hb⟩
 go_wp2
 go_returns
 exact⟨rfl,Hbb.out.trans (hb.mono (by simp;omega))⟩
theorem aCs (c d:aA) (w:World) (h:c.pure=d.pure) (hc:DAt w c) (hd:DAt w d):Calls Tryz.prog 70 #[.agg (aB c).toArray,.agg (aB d).toArray] w fun e w'=>e = .returned (.bool true)∧Below w.heap.size w w':=by
 have hbb:=lX w (.cells (aB c).toArray 56) (.cells (aB d).toArray 56)
 have cl:=aFh c d _ h (hc.on hbb) (hd.on hbb)
 have l1:=lD c (aZ (bE w (aB c) 56) (.cells (aB d).toArray 56))
 have l2:(uL (.pointer (some ⟨w.heap.size+1,14,none⟩))).run Tryz.prog ((w.alloc (.cells (aB c).toArray 56)).alloc (.cells (aB d).toArray 56)) = .ok (.agg (resL d).toArray) ((w.alloc (.cells (aB c).toArray 56)).alloc (.cells (aB d).toArray 56)) :=
  lD d (by have:=bE (w.alloc (.cells (aB c).toArray 56)) (aB d) 56;rwa [World.size_alloc] at this)
 obtain⟨a,n,rfl⟩:=wL h
 have Hbb:=Lib.hid hbb
 clear hbb hc hd h
 go_enter Tryz.func70,Tryz.ntmps70
 go_wp2_with fail
 refine cl.mono ?_
 rintro e w3 ⟨rfl,hb⟩
 go_wp2
 go_returns
 exact⟨rfl,Hbb.out.trans (hb.mono (by simp;omega))⟩
theorem aAp (p1 p2:Option Addr) (c1 c2:Nat) (l1 l2:List aA) (w:World) (h:l1.map aA.pure=l2.map aA.pure) (hs:l1.length≤1000000) (h1:CRow w p1 c1 l1) (h2:CRow w p2 c2 l2) (hd1:∀ c∈l1,DAt w c) (hd2:∀ c∈l2,DAt w c) :
  Calls Tryz.prog 25 #[.slice p1 l1.length c1,.slice p2 l2.length c2] w fun e w'=>e = .returned (.bool true)∧Below w.heap.size w w':=by
 have hl:l2.length=l1.length:=by have:=congrArg List.length h;simpa using this.symm
 rw[hl]
 go_enter Tryz.func25,Tryz.ntmps25
 go_wp2
 go_loopw [5] (fun i wr=>aQo w l1.length i wr) (fun i wr=>l1.length-(intOf i).toNat)
 case atStart=>exact⟨0,rfl,by omega,Below.refl _ _⟩
 case round =>
  obtain⟨k,rfl,hk,hB⟩:=hrel
  by_cases hlt:k<l1.length
  ·obtain⟨c,hc⟩:∃ c,l1[k]? = some c:=⟨_,gEz hlt⟩
   obtain⟨d,hd⟩:∃ d,l2[k]? = some d:=⟨_,gEz (by omega)⟩
   have hcd:c.pure=d.pure:=by
    have e1:(l1.map aA.pure)[k]? = some c.pure:=by rw[List.getElem?_map,hc];rfl
    rw[h,List.getElem?_map,hd] at e1
    simpa using e1.symm
   obtain⟨b1,o1,rfl,_,_,g1⟩:∃ b off,p1=some ⟨b,off,none⟩∧l1.length≤c1∧b<w.heap.size∧CAt w b off l1:=by
    rcases h1 with⟨_,_,h⟩ | h
    ·rw[h] at hlt;simp at hlt
    ·exact h
   obtain⟨b2,o2,rfl,_,_,g2⟩:∃ b off,p2=some ⟨b,off,none⟩∧l2.length≤c2∧b<w.heap.size∧CAt w b off l2:=by
    rcases h2 with⟨_,_,h⟩ | h
    ·rw[h] at hd;simp at hd
    ·exact h
   have kx:∀ W,Below w.heap.size w W→((aM (.pointer (some ⟨b1,o1+k*27,none⟩))).run Tryz.prog W = .ok (.agg (aB c).toArray) W∧(aM (.pointer (some ⟨b2,o2+k*27,none⟩))).run Tryz.prog W = .ok (.agg (aB d).toArray) W)∧Below w.heap.size w W:=fun W hb=>⟨⟨(g1.on hb).load hc,(g2.on hb).load hd⟩,hb⟩
   have Kx:=Lib.hid kx
   have eqc:=fun W (hb:Below w.heap.size w W)=>aCs c d W hcd ((hd1 c (mGz hc)).on hb) ((hd2 d (mGz hd)).on hb)
   have Eqc:=Lib.hid eqc
   have hx0:=hB.drew
   clear kx eqc g1 g2 h1 h2 hc hd hcd hB
   go_wp2
   refine aP (S:=fun W=>((aM (.pointer (some ⟨b1,o1+k*27,none⟩))).run Tryz.prog W = .ok (.agg (aB c).toArray) W∧(aM (.pointer (some ⟨b2,o2+k*27,none⟩))).run Tryz.prog W = .ok (.agg (aB d).toArray) W)∧Below w.heap.size w W) ?_ (fun hHeld => ?_)
   ·first | exact Kx.out _ hx1 | exact Kx.out _ hx0
   iterate 8 ((first | refine aJ ?_ | refine np_q ?_ | refine aL 0 ?_);(try simp only[nSO]))
   first | (refine np_s 8 ?_;(try simp only[nSO])) | (refine np_c 8 (fun K hK => ?_);go_simp;((go_at_call 70;refine (Eqc.out _ hHeld.2).mono ?_;rintro e w9 ⟨rfl,hbc⟩;have hx1:=hHeld.2.trans (hbc.mono hHeld.2.size)));(try go_wp2_with fail);refine hK.out _ _ ?_ (fun hHeld => ?_);(· (first | exact Kx.out _ hx1 | exact Kx.out _ hx0));clear hK K;(try simp only[nSO]))
   (first | refine aJ ?_ | refine np_q ?_);(try simp only[nSO])
   refine np_z ?_
   have HB:=Lib.hid hHeld.2
   go_wp2
   go_roundw
   case rel=>exact⟨k+1,by go_num,by omega,HB.out⟩
   case measure=>simp[intOf];omega
  ·go_wp2
   go_returns
   exact⟨rfl,hB⟩
end Go.Proofs.YtdeiocppghhfdaaGreat.Hs
namespace Go.Proofs.YtdeiocppghhfdaaGreat.Hs
open Go.RowKit Go.Lib Go.Shelf
open KitI (own_below)
attribute [local go_sem, local simp] dP
attribute [local go_sem ↓] aN aR
attribute [local go_sem] bX bB aX bH cK
attribute [local go_sem ↓] tF
theorem aP6 (p:Option Addr) (n c:Nat) (w:World) (hn:n<9223372036854775808):Calls Tryz.prog 221 #[.slice p n c,.slice none 0 0] w fun e w'=>e = .returned (.bool (decide (n=0)))∧Below w.heap.size w w':=by
 by_cases h:n=0
 ·subst h
  go_enter Tryz.func221,Tryz.ntmps221
  go_wp2
  refine wp_loop_rounds 1 ?_
  rw[rounds_succ]
  go_wp2
  go_returns
  exact⟨rfl,Below.refl _ _⟩
 ·have d1:((n:Int) != 0)=true:=by simpa using h
  have d2:((n:Int) == 0)=false:=by simpa using h
  go_enter Tryz.func221,Tryz.ntmps221
  go_wp2
  go_returns
  exact⟨aO (decide_eq_false h).symm,Below.refl _ _⟩
def aGt (c:aA):Bool:=decide (c.ik=0∧c.ifrom=0∧c.ito=0∧c.ps.length=0)
theorem aCt (c:aA) (w:World) (hl:c.ps.length<9223372036854775808):Calls Tryz.prog 178 #[.agg (oQ c).toArray,.agg #[.int .u8 0,.int .i64 0,.int .i64 0,.slice none 0 0]] w fun e w'=>e = .returned (.bool (aGt c))∧Below w.heap.size w w':=by
 have cl:=fun W=>aP6 c.da c.ps.length c.dc W hl
 have hbb:=fun (o o':Obj)=>lX w o o'
 unfold oQ
 have Cl:=Lib.hid cl
 have Hbb:=Lib.hid hbb
 clear cl hbb
 go_enter Tryz.func178,Tryz.ntmps178
 go_wp2_with (go_at_call 221;refine (Cl.out _).mono ?_;rintro e w3 ⟨rfl,hb⟩)
 all_goals go_returns
 all_goals refine⟨aO ?_,by first | exact Hbb.out _ _ | exact (Hbb.out _ _).trans (hb.mono (by simp;omega))⟩
 all_goals (clear Cl Hbb;(try clear hb);unfold aGt;rw[Bool.eq_iff_iff];simp_all)
def fU:aA:={ thread:=0,index:=0,okind:=0,oslot:=0,oat:=0,on:=0,oid:=0,ograv:=0,otext:=⟨#[]⟩,invoked:=0,took:=0,rank:=0,answered:=0,steps:=0,err:=0,rev:=0,rslot:=0,rat:=0,rgrav:=0,rtext:=⟨#[]⟩,mb:=0,mr:=0,ml:=0,ik:=0,ifrom:=0,ito:=0,ps:=[],da:=none,dc:=0 }
theorem aFi:fU.rtext.toList=[]:=by decide +kernel
theorem aFj (c:aA) (w:World) (hl:c.ps.length<9223372036854775808):Calls Tryz.prog 124 #[.agg (resL c).toArray,.agg (resL fU).toArray] w fun e w'=>e = .returned (.bool (nI c))∧Below w.heap.size w w':=by
 have cl:=fun W=>aCt c W hl
 obtain⟨q,hq⟩:∃ q,aGt c=q:=⟨_,rfl⟩
 rw[hq] at cl
 have hbb:=lX w (.cells (resL c).toArray 51) (.cells (resL fU).toArray 51)
 have l1:=uJ c (aZ (bE w (resL c) 51) (.cells (resL fU).toArray 51))
 have l2:(rG (.pointer (some ⟨w.heap.size+1,9,none⟩))).run Tryz.prog ((w.alloc (.cells (resL c).toArray 51)).alloc (.cells (resL fU).toArray 51)) = .ok (.agg #[.int .u8 0,.int .i64 0,.int .i64 0,.slice none 0 0]) ((w.alloc (.cells (resL c).toArray 51)).alloc (.cells (resL fU).toArray 51)) :=
  uJ fU (by have:=bE (w.alloc (.cells (resL c).toArray 51)) (resL fU) 51;rwa [World.size_alloc] at this)
 have hp:nI c=(decide (c.err=0∧c.rev=0∧c.rslot=0∧c.rat=0∧c.rgrav=0∧c.rtext.toList=[]∧c.mb=0∧c.mr=0∧c.ml=0) && q):=by
  rw[← hq];unfold nI aGt;rw[Bool.eq_iff_iff];simp only[Bool.and_eq_true,decide_eq_true_eq]
  constructor<;>(intro h;simp[h])
 rw[hp]
 have Cl:=Lib.hid cl
 have Hbb:=Lib.hid hbb
 clear cl hbb hp hq
 go_enter Tryz.func124,Tryz.ntmps124
 go_wp2_with (go_at_call 178;refine (Cl.out _).mono ?_;rintro e w3 ⟨rfl,hb⟩)
 all_goals go_returns
 all_goals refine⟨aO ?_,by first | exact Hbb.out | exact Hbb.out.trans (hb.mono (by simp;omega))⟩
 all_goals (clear Cl Hbb;(try clear hb);(try clear l1 l2);simp only[show fU.err=0 from rfl,show fU.rev=0 from rfl,show fU.rslot=0 from rfl,show fU.rat=0 from rfl,show fU.rgrav=0 from rfl,show fU.mb=0 from rfl,show fU.mr=0 from rfl,show fU.ml=0 from rfl,aFi] at *;cases q<;>(rw[Bool.eq_iff_iff];simp_all))
theorem aJb (c:aA) (hc:c.Ok) (hl:c.ps.length<9223372036854775808) (w:World):Calls Tryz.prog 176 #[.agg (aB c).toArray] w fun e w'=>e = .returned (.bool (iC c))∧Below w.heap.size w w':=by
 obtain⟨hi0,hi1,ha0,ha1,hs0,hs1,ht0,ht1,hr0,hr1⟩:=hc
 have cp:=fun W=>aFj c W hl
 have hz:(resL fU).toArray = #[.int .i64 0,.int .i64 0,.int .i64 0,.int .i64 0,.int .u8 0,.string ⟨#[]⟩,.int .i64 0,.int .i64 0,.int .i64 0,.int .u8 0,.int .i64 0,.int .i64 0,.slice none 0 0]:=rfl
 rw[hz] at cp
 obtain⟨p,hp⟩:∃ p,nI c=p:=⟨_,rfl⟩
 rw[hp] at cp
 have Hp:=Lib.hid hp
 clear hp hz
 go_enter Tryz.func176,Tryz.ntmps176
 go_wp2_with (go_at_call 124;refine (cp _).mono ?_;rintro e w1 ⟨rfl,hb1⟩;obtain⟨hcl,hfz⟩:=aQq hb1)
 all_goals go_returns
 all_goals refine⟨aO ?_,by first | exact ((Below.refl _ _).alloc (Nat.le_refl _) _) | exact ((Below.refl _ _).alloc (Nat.le_refl _) _).trans (hb1.mono (by simp))⟩
 all_goals (have hp:=Hp.out;clear Hp cp;unfold iC;rw[hp];clear hp;cases p<;>(rw[Bool.eq_iff_iff];simp at *;try omega))
def jR (s:Int) (c:aA):Bool:=decide (0≤s∧(s=c.invoked∨s=c.answered))
theorem oH (s:Int) (c:aA) (w:World):Calls Tryz.prog 264 #[.int .i64 s,.agg (aB c).toArray] w fun e w'=>e = .returned (.bool (jR s c))∧Below w.heap.size w w':=by
 go_enter Tryz.func264,Tryz.ntmps264
 go_wp2
 all_goals go_returns
 all_goals (refine⟨aO ?_,(Below.refl _ _).alloc (Nat.le_refl _) _⟩;unfold jR;rw[Bool.eq_iff_iff];first | (simp_all;done) | (simp at *;omega))
end Go.Proofs.YtdeiocppghhfdaaGreat.Hs
namespace Go.Proofs.YtdeiocppghhfdaaGreat.Hs
open Go.RowKit Go.Lib Go.Shelf
def thF (t:Int) (cs:List aA):List aA:=cs.filter fun c=>decide (c.thread=t)
theorem sG {t:Int}:∀ (cs:List aA) (k:Nat),(dR t cs k).map (fun i=>cs[i-k]?.getD default)=thF t cs
 |[],k=>rfl
 |c::cs,k=>by
  have ih:=sG (t:=t) cs (k+1)
  have e:(dR t cs (k+1)).map (fun i=>(c::cs)[i-k]?.getD default)=thF t cs:=by
   rw[← ih]
   refine List.map_congr_left fun i hi => ?_
   have:=pX hi
   rw[show i-k=(i-(k+1))+1 from by omega,List.getElem?_cons_succ]
  unfold dR thF
  by_cases h:c.thread=t
  ·rw[if_pos h,List.map_cons,e,Nat.sub_self,List.filter_cons_of_pos (by simpa using h)]
   rfl
  ·rw[if_neg h,e,List.filter_cons_of_neg (by simpa using h)]
   rfl
theorem aRj (t:Int) (cs:List aA):(dR t cs 0).length=(thF t cs).length:=by rw[← sG cs 0,List.length_map]
theorem aMz (t:Int) (cs:List aA):lastOf t cs=(thF t cs).getLast? := by
 unfold lastOf
 rw[← sG cs 0,List.getLast?_map]
 cases h:(dR t cs 0).getLast? with
 |none=>rfl
 |some i =>
  have hm:=List.mem_of_getLast? h
  have:=pX hm
  simp only[Option.bind_some,Option.map_some,Nat.sub_zero]
  rw[gEz (by omega)]
  rfl
theorem aM0 {t:Int} {cs:List aA} {k:Nat} {c:aA} (h:cs[k]? = some c):thF t (cs.take (k+1))=thF t (cs.take k)++if c.thread=t then[c] else[]:=by
 rw[List.take_add_one,h,Option.toList_some]
 unfold thF
 rw[List.filter_append]
 congr 1
 by_cases hq:c.thread=t<;>simp[hq]
open KitI (iv IRow own_below kH)
attribute [local go_sem, local simp] dP
attribute [local go_sem ↓] aN aR
attribute [local go_sem] bX bB aX bH cK
theorem aCu (c d:aA):dF c d=(jR c.invoked d || jR c.answered d || decide (0≤c.took∧c.took=d.took∧c.rank=d.rank) || (decide (c.thread≠d.thread) && (jR c.took d || jR d.took c))):=by
 unfold dF jR
 rw[Bool.eq_iff_iff]
 simp only[Bool.or_eq_true,Bool.and_eq_true,decide_eq_true_eq]
 constructor
 ·rintro (h | h | h | ⟨h1,h | h⟩)
  ·exact .inl (.inl (.inl h))
  ·exact .inl (.inl (.inr h))
  ·exact .inl (.inr h)
  ·exact .inr ⟨h1,.inl h⟩
  ·exact .inr ⟨h1,.inr h⟩
 ·rintro (((h | h) | h) | ⟨h1,h | h⟩)
  ·exact .inl h
  ·exact .inr (.inl h)
  ·exact .inr (.inr (.inl h))
  ·exact .inr (.inr (.inr ⟨h1,.inl h⟩))
  ·exact .inr (.inr (.inr ⟨h1,.inr h⟩))
theorem rH (c d:aA) (w:World):Calls Tryz.prog 220 #[.agg (aB c).toArray,.agg (aB d).toArray] w fun e w'=>e = .returned (.bool (dF c d))∧Below w.heap.size w w':=by
 have M1:=fun W=>oH c.invoked d W
 have M2:=fun W=>oH c.answered d W
 have M3:=fun W=>oH c.took d W
 have M4:=fun W=>oH d.took c W
 have hcl:=aCu c d
 generalize jR c.invoked d=m1 at *
 generalize jR c.answered d=m2 at *
 generalize jR c.took d=m3 at *
 generalize jR d.took c=m4 at *
 obtain⟨d3,hd3⟩:∃ b:Bool,decide (0≤c.took∧c.took=d.took∧c.rank=d.rank)=b:=⟨_,rfl⟩
 rw[hd3] at hcl
 have Hcl:=Lib.hid hcl
 clear hcl
 have hx:=PrI.start w c d
 have q10:=aD hx.b1 10
 have q11:=aD hx.b1 11
 have q12:=aD hx.b1 12
 have q0:=aD hx.b1 0
 have p10:=aD hx.b2 10
 have p11:=aD hx.b2 11
 have p0:=aD hx.b2 0
 rw[iU] at q10 p10
 rw[iV] at q11 p11
 rw[fC] at q12
 rw[fI] at q0 p0
 have l1:=dD c hx.b1
 have l2:=dD d hx.b2
 go_enter Tryz.func220,Tryz.ntmps220
 go_wp2_with fail
 refine (M1 _).mono ?_
 rintro e w1 ⟨rfl,hb⟩
 clear q10 q11 q12 q0 p10 p11 p0 l1 l2
 replace hx:=hx.on hb
 clear hb
 have q10:=aD hx.b1 10
 have q11:=aD hx.b1 11
 have q12:=aD hx.b1 12
 have q0:=aD hx.b1 0
 have p10:=aD hx.b2 10
 have p11:=aD hx.b2 11
 have p0:=aD hx.b2 0
 rw[iU] at q10 p10
 rw[iV] at q11 p11
 rw[fC] at q12
 rw[fI] at q0 p0
 have l1:=dD c hx.b1
 have l2:=dD d hx.b2
 cases m1 with
 |true =>
  go_wp2
  go_returns
  exact⟨aO (by rw[Hcl.out];simp),hx.bl⟩
 |false =>
  go_wp2_with fail
  refine (M2 _).mono ?_
  rintro e w2 ⟨rfl,hb⟩
  clear q10 q11 q12 q0 p10 p11 p0 l1 l2
  replace hx:=hx.on hb
  clear hb
  have q10:=aD hx.b1 10
  have q11:=aD hx.b1 11
  have q12:=aD hx.b1 12
  have q0:=aD hx.b1 0
  have p10:=aD hx.b2 10
  have p11:=aD hx.b2 11
  have p0:=aD hx.b2 0
  rw[iU] at q10 p10
  rw[iV] at q11 p11
  rw[fC] at q12
  rw[fI] at q0 p0
  have l1:=dD c hx.b1
  have l2:=dD d hx.b2
  cases m2 with
  |true =>
   go_wp2
   go_returns
   exact⟨aO (by rw[Hcl.out];simp),hx.bl⟩
  |false =>
   by_cases h1:0≤c.took
   ·have t1:decide (0≤c.took)=true:=decide_eq_true h1
    by_cases h2:c.took=d.took
    ·have t2:(c.took == d.took)=true:=by simpa using h2
     by_cases h3:c.rank=d.rank
     ·have t3:(c.rank == d.rank)=true:=by simpa using h3
      obtain rfl:d3=true:=by rw[← hd3];exact decide_eq_true ⟨h1,h2,h3⟩
      clear h1 h2 h3 hd3
      go_wp2
      go_returns
      exact⟨aO (by rw[Hcl.out];simp),hx.bl⟩
     ·have t3:(c.rank == d.rank)=false:=by simpa using h3
      have D3:=Lib.hid (show d3=false by rw[← hd3];exact decide_eq_false fun h=>h3 h.2.2)
      clear h1 h2 h3 hd3
      by_cases ht:c.thread=d.thread
      ·have e1:(c.thread != d.thread)=false:=by simpa using ht
       have Ht:=Lib.hid ht
       clear ht
       go_wp2
       go_returns
       exact⟨aO (by rw[Hcl.out,D3.out];simp[Ht.out]),hx.bl⟩
      ·have e1:(c.thread != d.thread)=true:=by simpa using ht
       have Ht:=Lib.hid ht
       clear ht
       go_wp2_with fail
       refine (M3 _).mono ?_
       rintro e w3 ⟨rfl,hb⟩
       clear q10 q11 q12 q0 p10 p11 p0 l1 l2
       replace hx:=hx.on hb
       clear hb
       have q10:=aD hx.b1 10
       have q11:=aD hx.b1 11
       have q12:=aD hx.b1 12
       have q0:=aD hx.b1 0
       have p10:=aD hx.b2 10
       have p11:=aD hx.b2 11
       have p0:=aD hx.b2 0
       rw[iU] at q10 p10
       rw[iV] at q11 p11
       rw[fC] at q12
       rw[fI] at q0 p0
       have l1:=dD c hx.b1
       have l2:=dD d hx.b2
       cases m3 with
       |true =>
        go_wp2
        go_returns
        exact⟨aO (by rw[Hcl.out,D3.out];simp[Ht.out]),hx.bl⟩
       |false =>
        go_wp2_with fail
        refine (M4 _).mono ?_
        rintro e w4 ⟨rfl,hb⟩
        clear q10 q11 q12 q0 p10 p11 p0 l1 l2
        replace hx:=hx.on hb
        clear hb
        go_wp2
        go_returns
        exact⟨aO (by rw[Hcl.out,D3.out];simp[Ht.out]),hx.bl⟩
    ·have t2:(c.took == d.took)=false:=by simpa using h2
     have D3:=Lib.hid (show d3=false by rw[← hd3];exact decide_eq_false fun h=>h2 h.2.1)
     clear h1 h2 hd3
     by_cases ht:c.thread=d.thread
     ·have e1:(c.thread != d.thread)=false:=by simpa using ht
      have Ht:=Lib.hid ht
      clear ht
      go_wp2
      go_returns
      exact⟨aO (by rw[Hcl.out,D3.out];simp[Ht.out]),hx.bl⟩
     ·have e1:(c.thread != d.thread)=true:=by simpa using ht
      have Ht:=Lib.hid ht
      clear ht
      go_wp2_with fail
      refine (M3 _).mono ?_
      rintro e w3 ⟨rfl,hb⟩
      clear q10 q11 q12 q0 p10 p11 p0 l1 l2
      replace hx:=hx.on hb
      clear hb
      have q10:=aD hx.b1 10
      have q11:=aD hx.b1 11
      have q12:=aD hx.b1 12
      have q0:=aD hx.b1 0
      have p10:=aD hx.b2 10
      have p11:=aD hx.b2 11
      have p0:=aD hx.b2 0
      rw[iU] at q10 p10
      rw[iV] at q11 p11
      rw[fC] at q12
      rw[fI] at q0 p0
      have l1:=dD c hx.b1
      have l2:=dD d hx.b2
      cases m3 with
      |true =>
       go_wp2
       go_returns
       exact⟨aO (by rw[Hcl.out,D3.out];simp[Ht.out]),hx.bl⟩
      |false =>
       go_wp2_with fail
       refine (M4 _).mono ?_
       rintro e w4 ⟨rfl,hb⟩
       clear q10 q11 q12 q0 p10 p11 p0 l1 l2
       replace hx:=hx.on hb
       clear hb
       go_wp2
       go_returns
       exact⟨aO (by rw[Hcl.out,D3.out];simp[Ht.out]),hx.bl⟩
   ·have t1:decide (0≤c.took)=false:=decide_eq_false h1
    have D3:=Lib.hid (show d3=false by rw[← hd3];exact decide_eq_false fun h=>h1 h.1)
    clear h1 hd3
    by_cases ht:c.thread=d.thread
    ·have e1:(c.thread != d.thread)=false:=by simpa using ht
     have Ht:=Lib.hid ht
     clear ht
     go_wp2
     go_returns
     exact⟨aO (by rw[Hcl.out,D3.out];simp[Ht.out]),hx.bl⟩
    ·have e1:(c.thread != d.thread)=true:=by simpa using ht
     have Ht:=Lib.hid ht
     clear ht
     go_wp2_with fail
     refine (M3 _).mono ?_
     rintro e w3 ⟨rfl,hb⟩
     clear q10 q11 q12 q0 p10 p11 p0 l1 l2
     replace hx:=hx.on hb
     clear hb
     have q10:=aD hx.b1 10
     have q11:=aD hx.b1 11
     have q12:=aD hx.b1 12
     have q0:=aD hx.b1 0
     have p10:=aD hx.b2 10
     have p11:=aD hx.b2 11
     have p0:=aD hx.b2 0
     rw[iU] at q10 p10
     rw[iV] at q11 p11
     rw[fC] at q12
     rw[fI] at q0 p0
     have l1:=dD c hx.b1
     have l2:=dD d hx.b2
     cases m3 with
     |true =>
      go_wp2
      go_returns
      exact⟨aO (by rw[Hcl.out,D3.out];simp[Ht.out]),hx.bl⟩
     |false =>
      go_wp2_with fail
      refine (M4 _).mono ?_
      rintro e w4 ⟨rfl,hb⟩
      clear q10 q11 q12 q0 p10 p11 p0 l1 l2
      replace hx:=hx.on hb
      clear hb
      go_wp2
      go_returns
      exact⟨aO (by rw[Hcl.out,D3.out];simp[Ht.out]),hx.bl⟩
def aSe (w:World) (t:Int) (cs:List aA) (o i:Value) (wr:World):Prop :=
 ∃ k:Nat,i = .int .i64 k∧k≤cs.length∧ORow w w.heap.size wr o ((thF t (cs.take k)).map aA.pure)∧Below w.heap.size w wr
theorem aGu (t:Int) (cs:List aA):(thF t cs).length≤cs.length:=List.length_filter_le _ _
attribute [local go_sem, local simp] gM
theorem aFk (b off cap:Nat) (t:Int) (cs:List aA) (w:World) (hb:b<w.heap.size) (hC:CAt w b off cs) (hs:cs.length≤1000000) (hd:∀ c∈cs,DAt w c) :
  Calls Tryz.prog 219 #[.int .i64 t,.slice (some ⟨b,off,none⟩) cs.length cap] w fun e w'=>∃ v,e = .returned v∧ORow w w.heap.size w' v ((thF t cs).map aA.pure)∧Below w.heap.size w w':=by
 obtain⟨i0,hi,hz0,hz1,hz2⟩:=info_parts aQf
 go_enter Tryz.func219,Tryz.ntmps219
 go_wp2
 go_loopw [5,6] (fun o i wr=>aSe w t cs o i wr) (fun o i wr=>cs.length-(intOf i).toNat)
 case atStart=>exact⟨0,rfl,by omega,ORow.nil _ _ _,Below.refl _ _⟩
 case round =>
  obtain⟨k,rfl,hk,hR,hB⟩:=hrel
  by_cases hlt:k<cs.length
  ·obtain⟨c,hc⟩:∃ c,cs[k]? = some c:=⟨_,gEz hlt⟩
   have hCr:=hC.below hB hb
   have hld:=hCr.load hc
   have q0:=hCr.cell hc 0 (by omega)
   rw[fI,Nat.add_zero] at q0
   have hst:=aM0 (t:=t) hc
   have hle:=aGu t (cs.take k)
   rw[List.length_take,Nat.min_eq_left hk] at hle
   have hdc:=(hd c (mGz hc)).on hB
   generalize thF t (cs.take k)=L at *
   have Hst:=Lib.hid hst
   clear hst hc hCr
   by_cases hq:c.thread=t
   ·have hq1:(c.thread == t)=true:=by simpa using hq
    have cp:=qO c wr (.inr hdc)
    have Hq:=Lib.hid hq
    clear hq hdc
    go_wp2_with fail
    refine cp.mono ?_
    clear cp
    rintro e w2 ⟨c',rfl,hpu,hDc,hB2⟩
    have hsz:w.heap.size≤w2.heap.size:=Nat.le_trans hB.size hB2.size
    have hBw:=hB.trans (hB2.mono hB.size)
    have hDw:=hDc.mono hB.size
    have hR3:=hR.on hB2
    clear hR hB2 hB hDc hld q0
    obtain⟨cs',hm,hown2,hD2⟩:=hR3
    have hlen:cs'.length≤cs.length:=by rw[← List.length_map (f:=aA.pure),hm,List.length_map];omega
    have Hlen:=Lib.hid hlen
    have hl1:=dM c'
    have ho1:=xM c'
    have hn1:=aW w2 (aB c') 56
    clear hlen
    go_wp2_with (at_builtin;(try simp only[gM]);refine wpList_append_own _ rfl _ _ 25 rfl w.heap.size 56 i0 _ 27 240 Tryz.underlying25 hi hz0 hz1 hz2 rfl (by decide) _ _ _ rfl (hown2.alloc _) ⟨_,0,none⟩ 1 1 (aB c') rfl (by rw[hl1]) hn1 ho1 (by have:=Hlen.out;unfold maxLen;omega) (by have:=Hlen.out;omega) (by simp;omega) ?_;intro v' w3 hown' hgrow _)
    have hB3:=(hBw.alloc hsz _).grown hgrow (by simp;omega) fun k hk=>(hown2.lt k hk).1
    go_roundw
    case rel=>exact⟨k+1,by go_num,by omega,⟨cs'++[c'],by rw[List.map_append,hm,Hst.out,if_pos Hq.out,List.map_append,List.map_singleton,List.map_singleton,hpu],by rw[sI,List.length_append];exact hown',fun c hc=>by
      rcases List.mem_append.1 hc with hc | hc
      ·exact ((hD2 c hc).on ((Below.refl _ _).alloc (Nat.le_refl _) _)).grown (hown2.alloc _) hgrow
      ·rw[List.mem_singleton.1 hc];exact (hDw.on ((Below.refl _ _).alloc (Nat.le_refl _) _)).grown (hown2.alloc _) hgrow⟩,hB3⟩
    case measure=>simp[intOf];omega
   ·have hq1:(c.thread == t)=false:=by simpa using hq
    have Hq:=Lib.hid hq
    clear hq
    go_wp2
    go_roundw
    case rel=>exact⟨k+1,by go_num,by omega,by rw[Hst.out,if_neg Hq.out,List.append_nil];exact hR,hB⟩
    case measure=>simp[intOf];omega
  ·have hkk:k=cs.length:=by omega
   subst hkk
   rw[List.take_length] at hR
   go_wp2
   go_returns
   exact⟨_,rfl,hR,hB⟩
theorem kV (p:Option Addr) (cap:Nat) (t:Int) (cs:List aA) (w:World) (hC:CRow w p cap cs) (hs:cs.length≤1000000) (hd:∀ c∈cs,DAt w c) :
  Calls Tryz.prog 219 #[.int .i64 t,.slice p cs.length cap] w fun e w'=>∃ v,e = .returned v∧ORow w w.heap.size w' v ((thF t cs).map aA.pure)∧Below w.heap.size w w':=by
 rcases hC with⟨rfl,rfl,rfl⟩ | ⟨b,off,rfl,h1,h2,h3⟩
 ·go_enter Tryz.func219,Tryz.ntmps219
  go_wp2
  refine wp_loop_rounds 1 ?_
  rw[rounds_succ]
  go_wp2
  go_returns
  exact⟨_,rfl,ORow.nil _ _ _,Below.refl _ _⟩
 ·exact aFk b off cap t cs w h2 h3 hs hd
end Go.Proofs.YtdeiocppghhfdaaGreat.Hs
namespace Go.Proofs.YtdeiocppghhfdaaGreat.Hs
open Go.RowKit Go.Lib Go.Shelf
theorem aM1 (t:Int) (cs:List aA):thF t (cs.map aA.pure)=(thF t cs).map aA.pure:=by
 unfold thF
 rw[List.filter_map]
 rfl
theorem aAq (pre:List aA) (c:aA):accB pre c=(iC c && (match pre.getLast? with | some p=>decide (p.invoked<c.invoked) | none=>true) && decide (c.index=(thF c.thread pre).length) &&
  (match (thF c.thread pre).getLast? with | some d=>befB d c | none=>true) && pre.all fun d => !dF c d):=by
 unfold accB
 rw[aMz,aRj]
 rfl
theorem aM2 (pre:List aA) (c:aA):accB (pre.map aA.pure) c.pure=accB pre c:=by
 rw[aAq,aAq,aM1,List.length_map,List.getLast?_map,List.getLast?_map,List.all_map]
 show (iC c && _ && decide (c.index=((thF c.thread pre).length:Int)) && _ && _)=_
 congr 1
 congr 1
 ·congr 1
  congr 1
  cases pre.getLast? <;> rfl
 ·show (match Option.map aA.pure (thF c.thread pre).getLast? with | some d=>befB d c.pure | none=>true)=_
  cases (thF c.thread pre).getLast? <;> rfl
theorem wM (cs:List aA):bF (cs.map aA.pure)=bF cs:=by
 unfold bF
 rw[List.length_map]
 have e:(fun i => !okAt (cs.map aA.pure) i)=fun i => !okAt cs i:=by
  funext i
  unfold okAt
  rw[List.getElem?_map,← List.map_take]
  cases cs[i]? with
  |none=>rfl
  |some c=>simp only[Option.map_some];rw[aM2]
 rw[e]
def many (s:Int) (cs:List aA):Nat:=(cs.filter fun c=>decide (c.invoked≤s)).length
end Go.Proofs.YtdeiocppghhfdaaGreat.Hs
