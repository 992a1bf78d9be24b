/- Texts, one behind another. -/
import Derived.Test.YtdeiocppghhfdaaGreatZfbi
set_option linter.unusedVariables false
set_option linter.unusedSimpArgs false
set_option maxRecDepth 100000
set_option maxHeartbeats 40000000
namespace Go.Proofs.YtdeiocppghhfdaaGreat
open Go.RowKit Go.Lib Go.Shelf
theorem aMg {id:Int} {l:List MkV} {k:Nat} {m:MkV} (h:l[k]? = some m) (hid:m.id=id) (hno:∀ j x,j<k→l[j]? = some x→x.id≠id):iD id l=some m∧hasM id l=true:=by
 obtain⟨hk,rfl⟩:=gLz h
 constructor
 ·unfold iD
  rw[List.find?_eq_some_iff_getElem]
  refine⟨by simpa using hid,k,hk,rfl,fun j hj => ?_⟩
  have:=hno j l[j] hj (gEz (by omega))
  simpa using this
 ·unfold hasM
  rw[List.any_eq_true]
  exact⟨l[k],List.getElem_mem hk,by simpa using hid⟩
theorem aMh {id:Int} {l:List MkV} (hno:∀ j x,j<l.length→l[j]? = some x→x.id≠id):iD id l=none∧hasM id l=false:=by
 have h:∀ m∈l,(m.id == id)=false:=fun m hm=>by
  obtain⟨j,hj⟩:=List.getElem?_of_mem hm
  simpa using hno j m (gLz hj).1 hj
 exact⟨by unfold iD;rw[List.find?_eq_none];intro m hm;rw[h m hm];simp,by unfold hasM;rw[List.any_eq_false];intro m hm;rw[h m hm];simp⟩
def RqI (w:World) (ad:Option Addr) (l:List MkV) (c:Nat) (id:Int) (a:Act) (wr:World):Prop :=
 ∃ (k:Nat) (u:Nat→Value),a={ tmps := #[.slice ad l.length c,.int .u32 id,u 2,u 3,.pointer (some ⟨w.heap.size,0,none⟩),.bool false,.int .i64 k,u 7,u 8,u 9,u 10,u 11,u 12,u 13,u 14,u 15,u 16,u 17,u 18,u 19,u 20,u 21,u 22,u 23,u 24],defers:=[] }∧k≤l.length∧(∀ j x,j<k→l[j]? = some x→x.id≠id)∧wr=w.alloc (.cells #[.int .u32 0,.int .i64 0,.int .u8 0] 74)
theorem RqI.intro {w:World} {ad:Option Addr} {l:List MkV} {c:Nat} {id:Int} {a:Act} {wr:World} (k:Nat) {uu:Nat→Value} (_:uu=fun i=>a.tmps.getD i undef) (h:a={ tmps := #[.slice ad l.length c,.int .u32 id,uu 2,uu 3,.pointer (some ⟨w.heap.size,0,none⟩),.bool false,.int .i64 k,uu 7,uu 8,uu 9,uu 10,uu 11,uu 12,uu 13,uu 14,uu 15,uu 16,uu 17,uu 18,uu 19,uu 20,uu 21,uu 22,uu 23,uu 24],defers:=[] }) (hk:k≤l.length) (hn:∀ j x,j<k→l[j]? = some x→x.id≠id) (hw:wr=w.alloc (.cells #[.int .u32 0,.int .i64 0,.int .u8 0] 74)):RqI w ad l c id a wr:=⟨k,uu,h,hk,hn,hw⟩
theorem pO (ad:Option Addr) (c:Nat) (l:List MkV) (id:Int) (w:World) (hr:MRow w ad l) (hl:l.length≤64) (hc:l.length≤c):Calls Tryz.prog 227 #[.slice ad l.length c,.int .u32 id] w fun e w'=>e = .returned (fE id l)∧Below w.heap.size w w':=by
 have hB0:=(Below.refl w.heap.size w).alloc (Nat.le_refl _) (.cells #[.int .u32 0,.int .i64 0,.int .u8 0] 74)
 have hres:=heap_alloc_new w (.cells #[.int .u32 0,.int .i64 0,.int .u8 0] 74)
 go_enter Tryz.func227,Tryz.ntmps227
 go_wp2
 refine wp_loop (RqI w ad l c id) (fun a _=>l.length-(intOf (a.tmps.getD 6 undef)).toNat) ?_ ?_
 ·exact RqI.intro 0 rfl rfl (by omega) (fun j x hj=>by omega) rfl
 ·rintro a wr ⟨k,u,rfl,hk,hno,rfl⟩
  have hrw:=hr.on hB0
  have HN:=Lib.hid hno
  clear hno
  obtain⟨W0,hW0⟩:∃ W0,w.alloc (.cells #[.int .u32 0,.int .i64 0,.int .u8 0] 74)=W0:=⟨_,rfl⟩
  rw[hW0] at hB0 hres hrw ⊢
  have HW:=Lib.hid hW0
  clear hW0
  have hlt0:=(gAz hres).1
  by_cases hlt:k<l.length
  ·have hg:=gEz hlt
   generalize l[k]=m at hg
   obtain⟨b,off,rfl,hb⟩:=nZ hr (fun h=>by rw[h] at hlt;simp at hlt)
   obtain⟨c0,c1,c2⟩:=yO (vS hrw) hg
   by_cases e:m.id=id
   ·have d1:(m.id == id)=true:=by simpa using e
    obtain⟨f1,f2⟩:=aMg hg e HN.out
    have hF:fE id l = .tuple #[.agg (mkL m).toArray,.bool true]:=by unfold fE;rw[f1,f2];rfl
    have HF:=Lib.hid hF
    obtain⟨z0,z1,z2⟩:=cZ hres
    obtain⟨y0,y1,y2⟩:=vB hres
    clear e f1 f2 hF hg hr hrw
    go_wp2
    obtain⟨r0,r1,r2⟩:=cZ (set3 (u' := .int .u32 m.id) (v' := .int .i64 m.at_) (x' := .int .u8 m.grav) hres)
    have hBz:=jJ hB0 (Nat.le_refl _) (.int .u32 m.id) (.int .i64 m.at_) (.int .u8 m.grav)
    generalize ((W0.setCell ⟨w.heap.size,0,none⟩ (.int .u32 m.id)).setCell ⟨w.heap.size,1,none⟩ (.int .i64 m.at_)).setCell ⟨w.heap.size,2,none⟩ (.int .u8 m.grav)=W3 at *
    refine bodyPost_ret (v:=fE id l) ?_ rfl ⟨rfl,hBz⟩
    rw[HF.out]
    simp[results,Tryz.f227,go_sem,r0,r1,r2,mkL]
   ·have d1:(m.id == id)=false:=by simpa using e
    have HE:=Lib.hid e
    have HG:=Lib.hid hg
    clear e hg hr hrw
    go_wp2
    exact⟨RqI.intro (k+1) rfl rfl (by omega) (fun j x hj hx=>by
     by_cases ej:j=k
     ·subst ej
      rw[HG.out] at hx;cases hx;exact HE.out
     ·exact HN.out j x (by omega) hx) HW.out.symm,by simp[intOf];omega⟩
  ·obtain rfl:k=l.length:=by omega
   obtain⟨f1,f2⟩:=aMh HN.out
   have hF:fE id l = .tuple #[.agg (mkL iY).toArray,.bool false]:=by unfold fE;rw[f1,f2];rfl
   have HF:=Lib.hid hF
   obtain⟨z0,z1,z2⟩:=cZ hres
   obtain⟨y0,y1,y2⟩:=vB hres
   clear f1 f2 hF hr hrw
   go_wp2
   obtain⟨r0,r1,r2⟩:=cZ (set3 (u' := .int .u32 0) (v' := .int .i64 0) (x' := .int .u8 0) hres)
   have hBz:=jJ hB0 (Nat.le_refl _) (.int .u32 0) (.int .i64 0) (.int .u8 0)
   generalize ((W0.setCell ⟨w.heap.size,0,none⟩ (.int .u32 0)).setCell ⟨w.heap.size,1,none⟩ (.int .i64 0)).setCell ⟨w.heap.size,2,none⟩ (.int .u8 0)=W3 at *
   refine bodyPost_ret (v:=fE id l) ?_ rfl ⟨rfl,hBz⟩
   rw[HF.out]
   simp[results,Tryz.f227,go_sem,r0,r1,r2,mkL,iY]
theorem sW (ad:Option Addr) (c:Nat) (l:List MkV) (id:Int) (w:World) (hr:MRow w ad l) (hok:MkOK bigN l) (hc:l.length≤c) (hs:hasM id l=true):Calls Tryz.prog 232 #[.slice ad l.length c,.int .u32 id] w fun e w'=>∃ v,e = .returned (.tuple #[v,.int .i64 0])∧MOw w' w.heap.size v (bP id l)∧Below w.heap.size w w':=by
 have h64:=hok.1
 have h1:=kY ad c l w hr hok hc
 have h2:=fun W (hW:MRow W ad l)=>pO ad c l id W hW h64 hc
 have h3:=fun W (hW:MRow W ad l)=>kF ad c l id W hW h64 hc
 unfold fE at h2
 rw[hs] at h2
 obtain⟨f,hf⟩:∃ f,(iD id l).getD iY=f:=⟨_,rfl⟩
 rw[hf] at h2
 unfold mkL at h2
 have H1:=Lib.hid h1;have H2:=Lib.hid h2;have H3:=Lib.hid h3
 clear h1 h2 h3 hf hs
 go_enter Tryz.func232,Tryz.ntmps232
 go_wp2_with (first | (go_at_call 274;refine H1.out.mono ?_;rintro e w1 ⟨rfl,hB1⟩) | (go_at_call 227;refine (H2.out _ (hr.on hB1)).mono ?_;rintro e w2 ⟨rfl,hB2⟩;have hB3:=(hB1.trans (hB2.mono hB1.size)).alloc (hB1.trans (hB2.mono hB1.size)).size (.cells #[.int .u32 f.id,.int .i64 f.at_,.int .u8 f.grav] 74)) | (go_at_call 275;refine (H3.out _ (hr.on hB3)).mono ?_;rintro e w4 ⟨v4,rfl,hv4,hB4⟩;obtain⟨a4,c4,rfl⟩:=aC hv4))
 go_returns
 exact⟨_,rfl,aV hB3.size hv4,hB3.trans (hB4.mono hB3.size)⟩
theorem wB (ad:Option Addr) (c:Nat) (l:List MkV) (id:Int) (w:World) (hr:MRow w ad l) (hok:MkOK bigN l) (hc:l.length≤c) (hs:hasM id l=false):Calls Tryz.prog 232 #[.slice ad l.length c,.int .u32 id] w fun e w'=>e = .returned (.tuple #[.slice none 0 0,.int .i64 7])∧Below w.heap.size w w':=by
 have h64:=hok.1
 have h1:=kY ad c l w hr hok hc
 have h2:=fun W (hW:MRow W ad l)=>pO ad c l id W hW h64 hc
 unfold fE at h2
 rw[hs] at h2
 obtain⟨f,hf⟩:∃ f,(iD id l).getD iY=f:=⟨_,rfl⟩
 rw[hf] at h2
 unfold mkL at h2
 have H1:=Lib.hid h1;have H2:=Lib.hid h2
 clear h1 h2 hf hs
 go_enter Tryz.func232,Tryz.ntmps232
 go_wp2_with (first | (go_at_call 274;refine H1.out.mono ?_;rintro e w1 ⟨rfl,hB1⟩) | (go_at_call 227;refine (H2.out _ (hr.on hB1)).mono ?_;rintro e w2 ⟨rfl,hB2⟩;have hB3:=(hB1.trans (hB2.mono hB1.size)).alloc (hB1.trans (hB2.mono hB1.size)).size (.cells #[.int .u32 f.id,.int .i64 f.at_,.int .u8 f.grav] 74)))
 go_returns
 exact⟨rfl,hB3⟩
attribute [local go_sem, local simp] aLb aLc aLd resF bD bS fK fM fO dQ eX eY aF1 aF2 aF3 snF uA zS dB aRc
attribute [local go_sem ↓] aIt
theorem aI0 (b c:Nat) (M:RM) (o:OpV) (w:World) (h:RdAt w b M) (hok:MSok M.st 100000) (hi:OpIn o) (hpo:opP o) (S:SeM) (hS:M.seats[c]? = some S) (hl:S.sl.length=M.readers) (hr8:M.readers≤8) (hcl:M.seats.length≤8) (h1:6≤o.kind) (h2:o.kind≤13) :
  Calls Tryz.prog 182 #[.pointer (some ⟨b,0,none⟩),.int .i64 (c:Int),.agg #[.int .u8 o.kind,.int .i64 o.slot,.int .i64 o.at_,.int .i64 o.n,.int .u32 o.id,.int .u8 o.grav,.string o.text]] w (fP b w (reaS M.st c o) M):=by
 obtain⟨g0,g1,g2,g3,g4,_⟩:=hpo
 have i2:=hi.at_.2
 have i3:=hi.n.2
 have e0:M.st.seat c=S.st:=RM.seat_st hS
 have hmem:=mGz hS
 have hsl:S.st.slots.length=S.sl.length:=List.length_map ..
 obtain⟨K,sl,p,n,id,grav,t⟩:=o
 dsimp only at *
 obtain⟨k,rfl⟩:∃ k:Nat,sl=k:=⟨sl.toNat,by omega⟩
 have hp2:p≤maxLen:=by unfold maxLen;omega
 have hn2:n≤maxLen:=by unfold maxLen;omega
 have hK:K=6∨K=7∨K=8∨K=9∨K=10∨K=11∨K=12∨K=13:=by omega
 obtain⟨Y,hY⟩:∃ Y,reaS M.st c ⟨K,k,p,n,id,grav,t⟩=Y:=⟨_,rfl⟩
 rw[hY]
 obtain⟨tb,t1⟩:∃ x,decide (M.readers≤k)=x:=⟨_,rfl⟩
 obtain⟨gs,cs,g,cp,gb,cb,cur,hD0⟩:=RdS.start w ⟨K,k,p,n,id,grav,t⟩ h hS
 obtain⟨hc,_⟩:=gLz hS
 have hcap:=hD0.hA.cap
 have hrB:w.heap.size≤w.heap.size+1:=by omega
 obtain⟨m1,m7,mr⟩:=hD0.md
 obtain⟨o0,o1,o2,o3,o4,o5,o6⟩:=hD0.hE.o7
 clear h1 h2 g0 g1 hi
 go_enter Tryz.func182,Tryz.ntmps182
 go_wp2
 refine aP (S:=fun W=>W.cell? ⟨b,1,none⟩=some (.int .i64 M.readers)∧W.cell? ⟨w.heap.size,1,none⟩=some (.int .i64 (k:Int))) ?_ (fun hHeld => ?_)
 ·exact⟨m1,o1⟩
 iterate 7 (((first | refine np_q ?_ | refine aL 0 ?_);(try simp only[nSO])))
 refine np_z ?_
 cases tb
 rotate_left
 ·have hDX:=hD0.on (Below.refl _ _).drew
  have hk:M.readers≤k:=by simpa using t1
  have e1:gF (M.st.seat c) ⟨K,k,p,n,id,grav,t⟩=2:=by rw[e0];unfold gF;rw[if_pos (by dsimp only;omega)]
  rw[show reaS M.st c ⟨K,k,p,n,id,grav,t⟩=(aS 2,M.st) by unfold reaS;rw[e1];rfl] at hY
  subst hY
  go_wp2_with (go_at_call 181;refine (bG _ _).mono ?_;rintro e v7 ⟨rfl,hb7⟩;have hD7:=hDX.on hb7;have hst:=aK hD7.hE.res rfl)
  exact⟨rfl,_,results_cell_row rfl _ _ _ _ _ _ _ rfl (setRow_heap _ _ _ _ _ _ hD7.hE.res) Tryz.underlying51 rfl (by kernel_rfl),hD7.closeF _ _⟩
 have hk:k<S.sl.length:=by
  have:¬M.readers≤k:=by simpa using t1
  omega
 have hx:=gEz hk
 generalize S.sl[k]=x at hx
 have hd:S.st.slots.getD k default=x.s:=by
  rw[List.getD_eq_getElem?_getD]
  show ((S.sl.map (fun y:SnM=>y.s))[k]?).getD default=_
  rw[List.getElem?_map,hx];rfl
 have e1:gF (M.st.seat c) ⟨K,k,p,n,id,grav,t⟩=if x.s.held then 0 else 16:=by
  rw[e0];unfold gF;dsimp only;rw[if_neg (by omega),Int.toNat_natCast,hd]
 clear hl
 go_wp2
 refine aP (S:=fun W=>W.cell? ⟨b,7,none⟩=some (.slice (some ⟨gs,0,none⟩) M.seats.length cs)∧W.cell? ⟨gs,c,none⟩=some (.slice (some ⟨g,0,none⟩) S.sl.length cp)∧W.cell? ⟨w.heap.size,1,none⟩=some (.int .i64 (k:Int))) ?_ (fun hHeld => ?_)
 ·exact⟨m7,mr,o1⟩
 iterate 11 (((first | refine np_q ?_ | refine aL 0 ?_);(try simp only[nSO])))
 refine np_z ?_
 have hD:=(hD0.on (Below.refl _ _).drew).on (Below.refl _ _).drew
 clear hD0 m1 m7 mr o0 o1 o2 o3 o4 o5 o6
 generalize hW3:((w.alloc (.cells #[.int .u8 K,.int .i64 (k:Int),.int .i64 p,.int .i64 n,.int .u32 id,.int .u8 grav,.string t] 54)).alloc (.cells (resL {}).toArray 51)).drew.drew=W3 at *
 obtain⟨⟨s0,s1,s2,s3⟩,s4,s5,s6,s7⟩:=hD.sn hx
 cases hh:x.s.held
 ·rw[hh] at s0
  rw[show reaS M.st c ⟨K,k,p,n,id,grav,t⟩=(aS 16,M.st) by unfold reaS;rw[e1,hh];rfl] at hY
  subst hY
  have hDX:=hD
  go_wp2_with (go_at_call 181;refine (bG _ _).mono ?_;rintro e v7 ⟨rfl,hb7⟩;have hD7:=hDX.on hb7;have hst:=aK hD7.hE.res rfl)
  exact⟨rfl,_,results_cell_row rfl _ _ _ _ _ _ _ rfl (setRow_heap _ _ _ _ _ _ hD7.hE.res) Tryz.underlying51 rfl (by kernel_rfl),hD7.closeF _ _⟩
 rw[hh] at s0
 rw[show reaS M.st c ⟨K,k,p,n,id,grav,t⟩=((snpS x.s ⟨K,k,p,n,id,grav,t⟩).1,M.st.putSlot c k (snpS x.s ⟨K,k,p,n,id,grav,t⟩).2) by unfold reaS;rw[e1,hh,e0];dsimp only;rw[Int.toNat_natCast,hd];rfl] at hY
 have hok:SnOK x.s:=(hok.slots S.st (List.mem_map.2 ⟨S,hmem,rfl⟩)).2 x.s (List.mem_map.2 ⟨x,mGz hx,rfl⟩)
 have hsz:=hok.1
 clear e1 hd
 obtain⟨W4,hs4,hg4,hb4⟩:=vJ W3 {}
 have hD4:=hD.on hb4
 obtain⟨⟨s0,s1,s2,s3⟩,s4,s5,s6,s7⟩:=hD4.sn hx
 rw[hh] at s0
 obtain⟨o0,o1,o2,o3,o4,o5,o6⟩:=hD4.hE.o7
 have rf:=kE hg4
 obtain⟨r3,r4,r5,r6,r7,r8⟩:=jX hg4
 rcases hK with rfl | rfl | rfl | rfl | rfl | rfl | rfl | rfl
 ·rw[snp6 rfl] at hY
  subst hY
  clear hok
  go_wp2_with (first | (simp only[hs4]) | (go_at_call 224;refine (kV x.s.text _ (by omega)).mono ?_;rintro e w5 ⟨rfl,hb5⟩;have hD5:=hD4.on hb5;have hz5:=(hb5.block _ (gAz hg4).1).trans hg4;have rf5:=kE hz5;obtain⟨q3,q4,q5,q6,q7,q8⟩:=jX hz5;have g1:=gZ hz5 6 (.int .i64 x.s.text.size) (aF1 {} _);have g2:=gZ g1 7 (.int .i64 (cntB begB x.s.text.data.toList)) (aF2 _ _);have g3:=gZ g2 8 (.int .i64 (cntB bY x.s.text.data.toList)) (aF3 _ _);have hld:=mD _ g3;have hD6:=hD.on (bQ (bQ (bQ (hb4.trans (hb5.mono hb4.size)) W3.heap.size 6 (.int .i64 x.s.text.size) (Nat.le_refl _)) W3.heap.size 7 (.int .i64 (cntB begB x.s.text.data.toList)) (Nat.le_refl _)) W3.heap.size 8 (.int .i64 (cntB bY x.s.text.data.toList)) (Nat.le_refl _));have hst:=aK hD6.hE.res rfl))
  exact⟨rfl,_,results_cell_row rfl _ _ _ _ _ _ _ rfl (setRow_heap _ _ _ _ _ _ hD6.hE.res) Tryz.underlying51 rfl (by kernel_rfl),hD6.close hS hx _ _⟩
 ·rw[snp7 rfl] at hY
  dsimp only at hY
  have hp3:=hp2
  have hn3:=hn2
  unfold maxLen at hp3 hn3
  clear hok
  by_cases h1:(x.s.text.size:Int)<p
  ·rw[if_pos (.inl h1)] at hY
   subst hY
   have d1:decide ((x.s.text.size:Int)<p)=true:=by simpa using h1
   have hDX:=hD4
   go_wp2_with (first | (simp only[hs4]) | go_at_call 181;refine (bG _ _).mono ?_;rintro e v7 ⟨rfl,hb7⟩;have hD7:=hDX.on hb7;have hst:=aK hD7.hE.res rfl)
   exact⟨rfl,_,results_cell_row rfl _ _ _ _ _ _ _ rfl (setRow_heap _ _ _ _ _ _ hD7.hE.res) Tryz.underlying51 rfl (by kernel_rfl),hD7.close hS hx _ _⟩
  have d1:decide ((x.s.text.size:Int)<p)=false:=by simpa using h1
  have hws:IntKind.i64.wrap ((x.s.text.size:Int)-p)=(x.s.text.size:Int)-p:=IntWalk.i64_in _ (by omega)
  by_cases h2:(x.s.text.size:Int)-p<n
  ·rw[if_pos (.inr h2)] at hY
   subst hY
   have d2:decide ((x.s.text.size:Int)-p<n)=true:=by simpa using h2
   have hDX:=hD4
   go_wp2_with (first | (simp only[hs4]) | go_at_call 181;refine (bG _ _).mono ?_;rintro e v7 ⟨rfl,hb7⟩;have hD7:=hDX.on hb7;have hst:=aK hD7.hE.res rfl)
   exact⟨rfl,_,results_cell_row rfl _ _ _ _ _ _ _ rfl (setRow_heap _ _ _ _ _ _ hD7.hE.res) Tryz.underlying51 rfl (by kernel_rfl),hD7.close hS hx _ _⟩
  rw[if_neg (by omega)] at hY
  subst hY
  have d2:decide ((x.s.text.size:Int)-p<n)=false:=by simpa using h2
  have hwr:IntKind.i64.wrap (p+n)=p+n:=IntWalk.i64_in _ (by omega)
  have b1:0≤p+n:=by omega
  have b2:p+n≤(x.s.text.size:Int):=by omega
  have b3:p≤p+n:=by omega
  have f5:=rf 5
  clear h1 h2 hn2 hp2
  have kx:∀ W,Below W3.heap.size W3 W→(W.cell? ⟨g,k*4+1,none⟩=some (.string x.s.text)∧W.cell? ⟨g,k*4+3,none⟩=some (.int .i64 x.s.cursor))∧W.cell? ⟨w.heap.size,2,none⟩=some (.int .i64 p)∧W.cell? ⟨w.heap.size,3,none⟩=some (.int .i64 n)∧W.cell? ⟨w.heap.size,4,none⟩=some (.int .u32 id):=fun W hB=>by
   have hDk:=hD.on hB
   obtain⟨⟨_,a1,_,a3⟩,_⟩:=hDk.sn hx
   obtain⟨_,_,b2,b3,b4,_⟩:=hDk.hE.o7
   exact⟨⟨a1,a3⟩,b2,b3,b4⟩
  have Kx:=Lib.hid kx
  clear kx
  have hq0:Below W3.heap.size W3 W4.drew:=hb4.drew
  go_wp2_with (simp only[hs4])
  refine aP (S:=fun W=>(W.cell? ⟨g,k*4+1,none⟩=some (.string x.s.text)∧W.cell? ⟨g,k*4+3,none⟩=some (.int .i64 x.s.cursor))∧W.cell? ⟨w.heap.size,2,none⟩=some (.int .i64 p)∧W.cell? ⟨w.heap.size,3,none⟩=some (.int .i64 n)∧W.cell? ⟨w.heap.size,4,none⟩=some (.int .u32 id)) ?_ (fun hHeld => ?_)
  ·first | exact Kx.out _ (bQ hq0 _ _ _ (Nat.le_refl _)) | exact Kx.out _ hq0
  iterate 13 (((first | refine np_q ?_ | refine aL 0 ?_);(try simp only[nSO])))
  (refine np_c 13 (fun K hK => ?_);go_simp;(skip);(try go_wp2_with fail);refine hK.out _ _ ?_ (fun hHeld => ?_);(· (first | exact Kx.out _ (bQ hq0 _ _ _ (Nat.le_refl _)) | exact Kx.out _ hq0));clear hK K;(try simp only[nSO]))
  refine np_z ?_
  have hld:=fun t=>mD (W:=(W4.setCell ⟨W3.heap.size,5,none⟩ (.string t)).drew) { text:=t } (gZ (W:=W4) hg4 5 (.string t) (eY {} t))
  have hDV:=fun t=>hD.on (W':=(W4.setCell ⟨W3.heap.size,5,none⟩ (.string t)).drew) (bQ hb4 W3.heap.size 5 (.string t) (Nat.le_refl _)).drew
  have hst:=fun t=>aK (hDV t).hE.res rfl
  go_wp2
  rw[zZ _ _ _ g2 g3]
  exact⟨rfl,_,results_cell_row rfl _ _ _ _ _ _ _ rfl (setRow_heap _ _ _ _ _ _ (hDV _).hE.res) Tryz.underlying51 rfl (by kernel_rfl),(hDV _).close hS hx _ _⟩
 ·rw[snp8 rfl] at hY
  dsimp only at hY
  have hu:=fun (h:(dW x.s.text.data.toList n).2≠0)=>aL6 h
  have hru:=fun W=>xC x.s.text n W (by omega)
  generalize dW x.s.text.data.toList n=uv at hY hu hru
  obtain⟨u,v⟩:=uv
  dsimp only at hY hu hru
  subst hY
  clear hok
  have kx:∀ W,Below W3.heap.size W3 W→(W.cell? ⟨g,k*4+1,none⟩=some (.string x.s.text)∧W.cell? ⟨g,k*4+3,none⟩=some (.int .i64 x.s.cursor))∧W.cell? ⟨w.heap.size,2,none⟩=some (.int .i64 p)∧W.cell? ⟨w.heap.size,3,none⟩=some (.int .i64 n)∧W.cell? ⟨w.heap.size,4,none⟩=some (.int .u32 id):=fun W hB=>by
   have hDk:=hD.on hB
   obtain⟨⟨_,a1,_,a3⟩,_⟩:=hDk.sn hx
   obtain⟨_,_,b2,b3,b4,_⟩:=hDk.hE.o7
   exact⟨⟨a1,a3⟩,b2,b3,b4⟩
  have Kx:=Lib.hid kx
  clear kx
  have hq0:Below W3.heap.size W3 W4.drew:=hb4.drew
  go_wp2_with (simp only[hs4])
  refine aP (S:=fun W=>(W.cell? ⟨g,k*4+1,none⟩=some (.string x.s.text)∧W.cell? ⟨g,k*4+3,none⟩=some (.int .i64 x.s.cursor))∧W.cell? ⟨w.heap.size,2,none⟩=some (.int .i64 p)∧W.cell? ⟨w.heap.size,3,none⟩=some (.int .i64 n)∧W.cell? ⟨w.heap.size,4,none⟩=some (.int .u32 id)) ?_ (fun hHeld => ?_)
  ·first | exact Kx.out _ (bQ hq5 _ _ _ (Nat.le_refl _)) | exact Kx.out _ hq5 | exact Kx.out _ hq0
  iterate 6 (((first | refine np_q ?_ | refine aL 0 ?_);(try simp only[nSO])))
  (refine np_c 6 (fun K hK => ?_);go_simp;((go_at_call 225;refine (hru _).mono ?_;rintro e w5 ⟨rfl,rfl⟩;have hq5:Below W3.heap.size W3 W4.drew:=hq0;have hg5:W4.drew.heap[W3.heap.size]? = some (.cells (resL {}).toArray 51 (0,0)):=hg4;have f53:=kE hg5 3));(try go_wp2_with fail);refine hK.out _ _ ?_ (fun hHeld => ?_);(· (first | exact Kx.out _ (bQ hq5 _ _ _ (Nat.le_refl _)) | exact Kx.out _ hq5 | exact Kx.out _ hq0));clear hK K;(try simp only[nSO]))
  iterate 4 ((refine np_q ?_;(try simp only[nSO])))
  (refine np_c 11 (fun K hK => ?_);go_simp;(skip);(try go_wp2_with fail);refine hK.out _ _ ?_ (fun hHeld => ?_);(· (first | exact Kx.out _ (bQ hq5 _ _ _ (Nat.le_refl _)) | exact Kx.out _ hq5 | exact Kx.out _ hq0));clear hK K;(try simp only[nSO]))
  (refine np_q ?_;(try simp only[nSO]))
  refine np_z ?_
  by_cases hv:v=0
  ·subst hv
   have hld:=fun t=>mD (W:=(W4.setCell ⟨W3.heap.size,3,none⟩ (.int .i64 t)).drew) { at_:=t } (gZ (W:=W4) hg4 3 (.int .i64 t) (dQ {} t))
   have hDV:=fun t=>hD.on (W':=(W4.setCell ⟨W3.heap.size,3,none⟩ (.int .i64 t)).drew) (bQ hb4 W3.heap.size 3 (.int .i64 t) (Nat.le_refl _)).drew
   have hst:=fun t=>aK (hDV t).hE.res rfl
   go_wp2
   exact⟨rfl,_,results_cell_row rfl _ _ _ _ _ _ _ rfl (setRow_heap _ _ _ _ _ _ (hDV _).hE.res) Tryz.underlying51 rfl (by kernel_rfl),(hDV _).close hS hx _ _⟩
  ·obtain rfl:=hu hv
   have hvd:(v == 0)=false:=by simpa using hv
   have hDX:=hD.on (W':=(W4.setCell ⟨W3.heap.size,3,none⟩ (.int .i64 0)).drew) (bQ hb4 W3.heap.size 3 (.int .i64 0) (Nat.le_refl _)).drew
   go_wp2_with (go_at_call 181;refine (bG _ _).mono ?_;rintro e v7 ⟨rfl,hb7⟩;have hD7:=hDX.on hb7;have hst:=aK hD7.hE.res rfl)
   exact⟨rfl,_,results_cell_row rfl _ _ _ _ _ _ _ rfl (setRow_heap _ _ _ _ _ _ hD7.hE.res) Tryz.underlying51 rfl (by kernel_rfl),hD7.close hS hx _ _⟩
 ·rw[snp9 rfl] at hY
  dsimp only at hY
  have hu:=fun (h:(dX x.s.text.data.toList n).2≠0)=>aL7 h
  have hru:=fun W=>aCb x.s.text n W (by omega)
  generalize dX x.s.text.data.toList n=uv at hY hu hru
  obtain⟨u,v⟩:=uv
  dsimp only at hY hu hru
  subst hY
  clear hok
  have kx:∀ W,Below W3.heap.size W3 W→(W.cell? ⟨g,k*4+1,none⟩=some (.string x.s.text)∧W.cell? ⟨g,k*4+3,none⟩=some (.int .i64 x.s.cursor))∧W.cell? ⟨w.heap.size,2,none⟩=some (.int .i64 p)∧W.cell? ⟨w.heap.size,3,none⟩=some (.int .i64 n)∧W.cell? ⟨w.heap.size,4,none⟩=some (.int .u32 id):=fun W hB=>by
   have hDk:=hD.on hB
   obtain⟨⟨_,a1,_,a3⟩,_⟩:=hDk.sn hx
   obtain⟨_,_,b2,b3,b4,_⟩:=hDk.hE.o7
   exact⟨⟨a1,a3⟩,b2,b3,b4⟩
  have Kx:=Lib.hid kx
  clear kx
  have hq0:Below W3.heap.size W3 W4.drew:=hb4.drew
  go_wp2_with (simp only[hs4])
  refine aP (S:=fun W=>(W.cell? ⟨g,k*4+1,none⟩=some (.string x.s.text)∧W.cell? ⟨g,k*4+3,none⟩=some (.int .i64 x.s.cursor))∧W.cell? ⟨w.heap.size,2,none⟩=some (.int .i64 p)∧W.cell? ⟨w.heap.size,3,none⟩=some (.int .i64 n)∧W.cell? ⟨w.heap.size,4,none⟩=some (.int .u32 id)) ?_ (fun hHeld => ?_)
  ·first | exact Kx.out _ (bQ hq5 _ _ _ (Nat.le_refl _)) | exact Kx.out _ hq5 | exact Kx.out _ hq0
  iterate 6 (((first | refine np_q ?_ | refine aL 0 ?_);(try simp only[nSO])))
  (refine np_c 6 (fun K hK => ?_);go_simp;((go_at_call 226;refine (hru _).mono ?_;rintro e w5 ⟨rfl,hb5⟩;have hq5:=hq0.trans (hb5.mono hq0.size);have hg5:=(hb5.block _ (gAz hg4).1).trans hg4;have f53:=kE hg5 3;have q53:=(jX hg5).1));(try go_wp2_with fail);refine hK.out _ _ ?_ (fun hHeld => ?_);(· (first | exact Kx.out _ (bQ hq5 _ _ _ (Nat.le_refl _)) | exact Kx.out _ hq5 | exact Kx.out _ hq0));clear hK K;(try simp only[nSO]))
  iterate 4 ((refine np_q ?_;(try simp only[nSO])))
  (refine np_c 11 (fun K hK => ?_);go_simp;(skip);(try go_wp2_with fail);refine hK.out _ _ ?_ (fun hHeld => ?_);(· (first | exact Kx.out _ (bQ hq5 _ _ _ (Nat.le_refl _)) | exact Kx.out _ hq5 | exact Kx.out _ hq0));clear hK K;(try simp only[nSO]))
  (refine np_q ?_;(try simp only[nSO]))
  refine np_z ?_
  by_cases hv:v=0
  ·subst hv
   have hld:=fun t=>mD (W:=(w5.setCell ⟨W3.heap.size,3,none⟩ (.int .i64 t))) { at_:=t } (gZ (W:=w5) hg5 3 (.int .i64 t) (dQ {} t))
   have hDV:=fun t=>hD.on (W':=(w5.setCell ⟨W3.heap.size,3,none⟩ (.int .i64 t))) (bQ hq5 W3.heap.size 3 (.int .i64 t) (Nat.le_refl _))
   have hst:=fun t=>aK (hDV t).hE.res rfl
   go_wp2
   exact⟨rfl,_,results_cell_row rfl _ _ _ _ _ _ _ rfl (setRow_heap _ _ _ _ _ _ (hDV _).hE.res) Tryz.underlying51 rfl (by kernel_rfl),(hDV _).close hS hx _ _⟩
  ·obtain rfl:=hu hv
   have hvd:(v == 0)=false:=by simpa using hv
   have hDX:=hD.on (W':=(w5.setCell ⟨W3.heap.size,3,none⟩ (.int .i64 0))) (bQ hq5 W3.heap.size 3 (.int .i64 0) (Nat.le_refl _))
   go_wp2_with (go_at_call 181;refine (bG _ _).mono ?_;rintro e v7 ⟨rfl,hb7⟩;have hD7:=hDX.on hb7;have hst:=aK hD7.hE.res rfl)
   exact⟨rfl,_,results_cell_row rfl _ _ _ _ _ _ _ rfl (setRow_heap _ _ _ _ _ _ hD7.hE.res) Tryz.underlying51 rfl (by kernel_rfl),hD7.close hS hx _ _⟩
 ·rw[aQj rfl] at hY
  dsimp only at hY
  obtain⟨fm,hv⟩:∃ f,iD id x.s.marks=f:=⟨_,rfl⟩
  rw[hv] at hY
  obtain⟨bb,mm,hi1,hi2,hy0,hy1⟩:∃ bb mm,fm.isSome=bb∧fm.getD iY=mm∧(bb=false→(aS 7,M.st.putSlot c k x.s)=Y)∧(bb=true→({ at_:=mm.at_,grav:=mm.grav },M.st.putSlot c k x.s)=Y):=by
   cases fm with
   |none=>exact⟨_,_,rfl,rfl,fun _=>hY,fun h=>by cases h⟩
   |some m=>exact⟨_,_,rfl,rfl,(fun h=>by cases h),fun _=>hY⟩
  obtain⟨av,cv,hxv⟩:=aC (hD.hA.sn k x hx).marks
  have hmo:=(hD.hA.sn k x hx).marks
  rw[hxv] at hmo
  rw[hxv] at s2
  obtain⟨hrow,hcpm⟩:=bV rfl hmo
  have hml:=hok.2.1.1
  have fa:=fun W (hB:Below W3.heap.size W3 W)=>pO av cv x.s.marks id W (hrow.on hB) hml hcpm
  unfold fE at fa
  simp only[aB2,hv] at fa
  rw[hi1,hi2] at fa
  have HF:=Lib.hid fa
  have kx:∀ W,Below W3.heap.size W3 W→W.cell? ⟨g,k*4+2,none⟩=some (.slice av x.s.marks.length cv)∧W.cell? ⟨w.heap.size,4,none⟩=some (.int .u32 id):=fun W hB=>by have hDk:=hD.on hB;obtain⟨⟨_,_,a2,_⟩,_⟩:=hDk.sn hx;rw[hxv] at a2;exact⟨a2,hDk.hE.o7.2.2.2.2.1⟩
  have Kx:=Lib.hid kx
  have hbx:Below W3.heap.size W3 (W4.drew.alloc (.cells #[.int .u32 0,.int .i64 0,.int .u8 0] 74)):=hb4.drew.alloc hb4.drew.size _
  have hgx:(W4.drew.alloc (.cells #[.int .u32 0,.int .i64 0,.int .u8 0] 74)).heap[W3.heap.size]? = some (.cells (resL {}).toArray 51 (0,0)):=(heap_alloc_old W4 _ (gAz hg4).1).trans hg4
  have hqx:(W4.drew.alloc (.cells #[.int .u32 0,.int .i64 0,.int .u8 0] 74)).heap[W4.heap.size]? = some (.cells #[.int .u32 0,.int .i64 0,.int .u8 0] 74 (0,0)):=heap_alloc_new W4 _
  have hrq:W3.heap.size≠W4.heap.size:=by have:=(gAz hg4).1;omega
  clear hok fa hv kx hmo hh hY hi1 hi2
  go_wp2_with (simp only[hs4])
  refine aP (S:=fun W=>W.cell? ⟨g,k*4+2,none⟩=some (.slice av x.s.marks.length cv)∧W.cell? ⟨w.heap.size,4,none⟩=some (.int .u32 id)) ?_ (fun hHeld => ?_)
  ·first | exact Kx.out _ hBV | exact Kx.out _ (hBw.alloc hBw.size _) | exact Kx.out _ hBw | exact Kx.out _ hbx | exact Kx.out _ hb4.drew
  iterate 6 ((first | refine np_q ?_ | refine aL 0 ?_);(try simp only[nSO]))
  refine wpAnyH_ready (rs:=[6,10]) (by kernel_rfl) (by simp) (AllReadyH.cons rfl (fun K hK => ?_) (AllReadyH.cons rfl (fun K hK => ?_) AllReadyH.nil))
  ·rw[if_pos (by rfl)];go_simp;((go_at_call 227;refine (HF.out _ hb4.drew).mono ?_;rintro e w1 ⟨rfl,hb1⟩;have hBw:=hb4.drew.trans (hb1.mono hb4.size);have hgw:=(hb1.block _ (gAz hg4).1).trans hg4;obtain⟨V,hsV,hqV,hbV⟩:=aL4 w1 mm;have hBV:=hBw.trans (hbV.mono hBw.size);have hgV:=(hbV.block _ (gAz hgw).1).trans hgw));(try go_wp2_with fail);refine hK.out _ _ ?_ (fun hHeld => ?_);(· (first | exact Kx.out _ hBV | exact Kx.out _ (hBw.alloc hBw.size _) | exact Kx.out _ hBw | exact Kx.out _ hbx | exact Kx.out _ hb4.drew));clear hK K;(try simp only[nSO])
   refine aL 7 ?_;(try simp only[nSO])
   refine aL 8 ?_;(try simp only[nSO])
   refine aL 9 ?_;(try simp only[nSO])
   refine np_c 10 (fun K hK => ?_);go_simp;(skip);(try go_wp2_with fail);refine hK.out _ _ ?_ (fun hHeld => ?_);(· (first | exact Kx.out _ hBV | exact Kx.out _ (hBw.alloc hBw.size _) | exact Kx.out _ hBw | exact Kx.out _ hbx | exact Kx.out _ hb4.drew));clear hK K;(try simp only[nSO])
   refine np_c 11 (fun K hK => ?_);go_simp;(skip);(try go_wp2_with fail);refine hK.out _ _ ?_ (fun hHeld => ?_);(· (first | exact Kx.out _ hBV | exact Kx.out _ (hBw.alloc hBw.size _) | exact Kx.out _ hBw | exact Kx.out _ hbx | exact Kx.out _ hb4.drew));clear hK K;(try simp only[nSO])
   refine aL 12 ?_;(try simp only[nSO])
   refine np_z ?_
   cases bb
   ·obtain rfl:=hy0 rfl
    have hDX:=hD.on hBV
    clear hsV hHeld HF Kx
    go_wp2_with (go_at_call 181;refine (bG _ _).mono ?_;rintro e v7 ⟨rfl,hb7⟩;have hD7:=hDX.on hb7;have hst:=aK hD7.hE.res rfl)
    exact⟨rfl,_,results_cell_row rfl _ _ _ _ _ _ _ rfl (setRow_heap _ _ _ _ _ _ hD7.hE.res) Tryz.underlying51 rfl (by kernel_rfl),hD7.close hS hx _ _⟩
   obtain rfl:=hy1 rfl
   obtain⟨⟨⟨a1,a2⟩,⟨a3,a4⟩,a5,a6⟩,⟨⟨a7,a8⟩,a9⟩,⟨⟨b7,b8⟩,b9⟩,⟨hDV1,hz1⟩,⟨hDV2,hz2⟩⟩:=hD.mk2 hBV hgV (Nat.le_refl _) hqV
   have hl1:=mD _ hz1
   have hl2:=mD _ hz2
   have hst1:=aK hDV1.hE.res rfl
   have hst2:=aK hDV2.hE.res rfl
   clear hsV hHeld HF Kx
   go_wp2
   go_region
   all_goals go_wp2
   all_goals first | exact⟨rfl,_,results_cell_row rfl _ _ _ _ _ _ _ rfl (setRow_heap _ _ _ _ _ _ hDV1.hE.res) Tryz.underlying51 rfl (by kernel_rfl),hDV1.close hS hx _ _⟩ | exact⟨rfl,_,results_cell_row rfl _ _ _ _ _ _ _ rfl (setRow_heap _ _ _ _ _ _ hDV2.hE.res) Tryz.underlying51 rfl (by kernel_rfl),hDV2.close hS hx _ _⟩
  ·rw[if_pos (by rfl)];go_simp;(skip);refine hK.out _ _ ?_ (fun hHeld => ?_);(· (first | exact Kx.out _ hBV | exact Kx.out _ (hBw.alloc hBw.size _) | exact Kx.out _ hBw | exact Kx.out _ hbx | exact Kx.out _ hb4.drew));clear hK K;(try simp only[nSO])
   refine np_c 6 (fun K hK => ?_);go_simp;((go_at_call 227;refine (HF.out _ hbx).mono ?_;rintro e w1 ⟨rfl,hb1⟩;have hBw:=hbx.trans (hb1.mono hbx.size);have hgw:=(hb1.block _ (gAz hgx).1).trans hgx;have hqw:=(hb1.block _ (gAz hqx).1).trans hqx;obtain⟨V,hsV,hqV,hVk,hVB⟩:=aL5 hqw mm;have hBV:=hVB hBw hb4.size;have hgV:=(hVk _ hrq).trans hgw));(try go_wp2_with fail);refine hK.out _ _ ?_ (fun hHeld => ?_);(· (first | exact Kx.out _ hBV | exact Kx.out _ (hBw.alloc hBw.size _) | exact Kx.out _ hBw | exact Kx.out _ hbx | exact Kx.out _ hb4.drew));clear hK K;(try simp only[nSO])
   refine aL 7 ?_;(try simp only[nSO])
   refine aL 8 ?_;(try simp only[nSO])
   refine aL 9 ?_;(try simp only[nSO])
   refine np_c 11 (fun K hK => ?_);go_simp;(skip);(try go_wp2_with fail);refine hK.out _ _ ?_ (fun hHeld => ?_);(· (first | exact Kx.out _ hBV | exact Kx.out _ (hBw.alloc hBw.size _) | exact Kx.out _ hBw | exact Kx.out _ hbx | exact Kx.out _ hb4.drew));clear hK K;(try simp only[nSO])
   refine aL 12 ?_;(try simp only[nSO])
   refine np_z ?_
   cases bb
   ·obtain rfl:=hy0 rfl
    have hDX:=hD.on hBV
    clear hsV hHeld HF Kx
    go_wp2_with (go_at_call 181;refine (bG _ _).mono ?_;rintro e v7 ⟨rfl,hb7⟩;have hD7:=hDX.on hb7;have hst:=aK hD7.hE.res rfl)
    exact⟨rfl,_,results_cell_row rfl _ _ _ _ _ _ _ rfl (setRow_heap _ _ _ _ _ _ hD7.hE.res) Tryz.underlying51 rfl (by kernel_rfl),hD7.close hS hx _ _⟩
   obtain rfl:=hy1 rfl
   obtain⟨⟨⟨a1,a2⟩,⟨a3,a4⟩,a5,a6⟩,⟨⟨a7,a8⟩,a9⟩,⟨⟨b7,b8⟩,b9⟩,⟨hDV1,hz1⟩,⟨hDV2,hz2⟩⟩:=hD.mk2 hBV hgV (Nat.le_refl _) hqV
   have hl1:=mD _ hz1
   have hl2:=mD _ hz2
   have hst1:=aK hDV1.hE.res rfl
   have hst2:=aK hDV2.hE.res rfl
   clear hsV hHeld HF Kx
   go_wp2
   go_region
   all_goals go_wp2
   all_goals first | exact⟨rfl,_,results_cell_row rfl _ _ _ _ _ _ _ rfl (setRow_heap _ _ _ _ _ _ hDV1.hE.res) Tryz.underlying51 rfl (by kernel_rfl),hDV1.close hS hx _ _⟩ | exact⟨rfl,_,results_cell_row rfl _ _ _ _ _ _ _ rfl (setRow_heap _ _ _ _ _ _ hDV2.hE.res) Tryz.underlying51 rfl (by kernel_rfl),hDV2.close hS hx _ _⟩
 ·rw[aQk rfl] at hY
  dsimp only at hY
  clear hok
  by_cases h1:(x.s.text.size:Int)<p
  ·rw[if_pos h1] at hY
   subst hY
   have d1:decide ((x.s.text.size:Int)<p)=true:=by simpa using h1
   have hDX:=hD4
   go_wp2_with (first | (simp only[hs4]) | go_at_call 181;refine (bG _ _).mono ?_;rintro e v7 ⟨rfl,hb7⟩;have hD7:=hDX.on hb7;have hst:=aK hD7.hE.res rfl)
   exact⟨rfl,_,results_cell_row rfl _ _ _ _ _ _ _ rfl (setRow_heap _ _ _ _ _ _ hD7.hE.res) Tryz.underlying51 rfl (by kernel_rfl),hD7.close hS hx _ _⟩
  rw[if_neg h1] at hY
  subst hY
  have d1:decide ((x.s.text.size:Int)<p)=false:=by simpa using h1
  have hN4:=hD4.hA.sn k x hx
  have hgr:g≠W3.heap.size:=jB hN4.blk hg4
  have hgt:w.heap.size+1≠g:=(jB hN4.blk hD4.hE.res).symm
  have hrt:w.heap.size+1≠W3.heap.size:=by have:=(gAz hD.hE.res).1;omega
  have hNA:=hN4.set3 p
  have hzA:=(aG W4 ⟨g,k*4+3,none⟩ (.int .i64 p) W3.heap.size hgr.symm).trans hg4
  have fA:=kE hzA 3
  have cA:=(jX hzA).1
  have hzB:=gZ hg4 3 (.int .i64 p) (dQ {} p)
  have hNB:=qY hN4 hg4 3 (.int .i64 p)
  obtain⟨⟨_,_,_,cB⟩,_,_,_,fB⟩:=hNB.cells
  have f3:=rf 3
  have hzAB:=gZ hzA 3 (.int .i64 p) (dQ {} p)
  have hzBA:=(aG (W4.setCell ⟨W3.heap.size,3,none⟩ (.int .i64 p)) ⟨g,k*4+3,none⟩ (.int .i64 p) W3.heap.size hgr.symm).trans hzB
  have hN1:=qY hNA hzA 3 (.int .i64 p)
  have hN2:=hNB.set3 p
  have hK1:=(vX ((aF.of_below (F:=fun k=>k=g) hb4).trans (aF.set (F:=fun k=>k=g) (a:=⟨g,k*4+3,none⟩) rfl (.int .i64 p))) W3.heap.size 3 (.int .i64 p) (Nat.le_refl _)).drew
  have hK2:=((vX (aF.of_below (F:=fun k=>k=g) hb4) W3.heap.size 3 (.int .i64 p) (Nat.le_refl _)).trans (aF.set (F:=fun k=>k=g) (a:=⟨g,k*4+3,none⟩) rfl (.int .i64 p))).drew
  have hl1:=mD (W:=((W4.setCell ⟨g,k*4+3,none⟩ (.int .i64 p)).setCell ⟨W3.heap.size,3,none⟩ (.int .i64 p)).drew) { at_:=p } hzAB
  have hl2:=mD (W:=((W4.setCell ⟨W3.heap.size,3,none⟩ (.int .i64 p)).setCell ⟨g,k*4+3,none⟩ (.int .i64 p)).drew) { at_:=p } hzBA
  have hz1:=hK1.block (w.heap.size+1) (gAz hD.hE.res).1 hgt |>.trans hD.hE.res
  have hz2:=hK2.block (w.heap.size+1) (gAz hD.hE.res).1 hgt |>.trans hD.hE.res
  have hst1:=aK hz1 rfl
  have hst2:=aK hz2 rfl
  go_wp2_with (simp only[hs4])
  go_region
  all_goals go_wp2
  all_goals first | exact⟨rfl,_,results_cell_row rfl _ _ _ _ _ _ _ rfl (setRow_heap _ _ _ _ _ _ (hz1)) Tryz.underlying51 rfl (by kernel_rfl),hD.close2 hS hx (hN1.drew) (hK1) _ _⟩ | exact⟨rfl,_,results_cell_row rfl _ _ _ _ _ _ _ rfl (setRow_heap _ _ _ _ _ _ (hz2)) Tryz.underlying51 rfl (by kernel_rfl),hD.close2 hS hx (hN2.drew) (hK2) _ _⟩
 ·rw[aQl rfl] at hY
  dsimp only at hY
  obtain⟨_,_,cu0,cu1⟩:=hok
  have hws:IntKind.i64.wrap ((x.s.text.size:Int)-x.s.cursor)=(x.s.text.size:Int)-x.s.cursor:=IntWalk.i64_in _ (by omega)
  obtain⟨m,hm⟩:∃ m,min n ((x.s.text.size:Int)-x.s.cursor)=m:=⟨_,rfl⟩
  have m0:0≤m:=by omega
  have mm1:x.s.cursor+m≤(x.s.text.size:Int):=by omega
  have mm2:0≤x.s.cursor+m:=by omega
  have mm3:x.s.cursor≤x.s.cursor+m:=by omega
  rw[hm] at hY
  have hwr:IntKind.i64.wrap (x.s.cursor+m)=x.s.cursor+m:=IntWalk.i64_in _ (by omega)
  subst hY
  have kx:∀ W,Below W3.heap.size W3 W→(W.cell? ⟨g,k*4+1,none⟩=some (.string x.s.text)∧W.cell? ⟨g,k*4+3,none⟩=some (.int .i64 x.s.cursor))∧W.cell? ⟨w.heap.size,2,none⟩=some (.int .i64 p)∧W.cell? ⟨w.heap.size,3,none⟩=some (.int .i64 n)∧W.cell? ⟨w.heap.size,4,none⟩=some (.int .u32 id):=fun W hB=>by
   have hDk:=hD.on hB
   obtain⟨⟨_,a1,_,a3⟩,_⟩:=hDk.sn hx
   obtain⟨_,_,b2,b3,b4,_⟩:=hDk.hE.o7
   exact⟨⟨a1,a3⟩,b2,b3,b4⟩
  have Kx:=Lib.hid kx
  clear kx
  have hq0:Below W3.heap.size W3 W4.drew:=hb4.drew
  have f5:=rf 5
  have hq0:=hq0.drew
  clear hh
  go_wp2_with (simp only[hs4])
  go_region
  go_wp2
  refine aP (S:=fun W=>(W.cell? ⟨g,k*4+1,none⟩=some (.string x.s.text)∧W.cell? ⟨g,k*4+3,none⟩=some (.int .i64 x.s.cursor))∧W.cell? ⟨w.heap.size,2,none⟩=some (.int .i64 p)∧W.cell? ⟨w.heap.size,3,none⟩=some (.int .i64 n)∧W.cell? ⟨w.heap.size,4,none⟩=some (.int .u32 id)) ?_ (fun hHeld => ?_)
  ·first | exact Kx.out _ (bQ hq0 _ _ _ (Nat.le_refl _)) | exact Kx.out _ hq0
  iterate 16 (((first | refine np_q ?_ | refine aL 0 ?_);(try simp only[nSO])))
  (refine np_c 16 (fun K hK => ?_);go_simp;(skip);(try go_wp2_with fail);refine hK.out _ _ ?_ (fun hHeld => ?_);(· (first | exact Kx.out _ (bQ hq0 _ _ _ (Nat.le_refl _)) | exact Kx.out _ hq0));clear hK K;(try simp only[nSO]))
  refine np_z ?_
  rw[zZ _ _ _ cu0 m0]
  have hN4:=hD4.hA.sn k x hx
  have hgr:g≠W3.heap.size:=jB hN4.blk hg4
  have hgt:w.heap.size+1≠g:=(jB hN4.blk hD4.hE.res).symm
  have hz5:=gZ hg4 5 (.string (cutT x.s.text x.s.cursor m)) (eY {} _)
  have hN5:=qY hN4 hg4 5 (.string (cutT x.s.text x.s.cursor m))
  obtain⟨⟨_,_,_,v3⟩,_,_,_,v7⟩:=hN5.cells
  have hN6:=hN5.set3 (x.s.cursor+m)
  obtain⟨⟨_,_,_,u3⟩,_⟩:=hN6.cells
  have hz6:=(aG (W4.setCell ⟨W3.heap.size,5,none⟩ (.string (cutT x.s.text x.s.cursor m))) ⟨g,k*4+3,none⟩ (.int .i64 (x.s.cursor+m)) W3.heap.size hgr.symm).trans hz5
  have f63:=kE hz6 3
  have q63:=(jX hz6).1
  have hz7:=gZ hz6 3 (.int .i64 (x.s.cursor+m)) (dQ _ _)
  have hld:=mD (W:=(((W4.setCell ⟨W3.heap.size,5,none⟩ (.string (cutT x.s.text x.s.cursor m))).setCell ⟨g,k*4+3,none⟩ (.int .i64 (x.s.cursor+m))).setCell ⟨W3.heap.size,3,none⟩ (.int .i64 (x.s.cursor+m))).drew.drew) _ hz7
  have hN7:=(qY hN6 hz6 3 (.int .i64 (x.s.cursor+m))).drew.drew
  have hK7:=(vX ((aF.of_below (F:=fun k=>k=g) (bQ hb4 W3.heap.size 5 (.string (cutT x.s.text x.s.cursor m)) (Nat.le_refl _))).trans (aF.set (F:=fun k=>k=g) (a:=⟨g,k*4+3,none⟩) rfl (.int .i64 (x.s.cursor+m)))) W3.heap.size 3 (.int .i64 (x.s.cursor+m)) (Nat.le_refl _)).drew.drew
  have hzt:=hK7.block (w.heap.size+1) (gAz hD.hE.res).1 hgt |>.trans hD.hE.res
  have hst:=aK hzt rfl
  go_wp2
  exact⟨rfl,_,results_cell_row rfl _ _ _ _ _ _ _ rfl (setRow_heap _ _ _ _ _ _ (hzt)) Tryz.underlying51 rfl (by kernel_rfl),hD.close2 hS hx (hN7) (hK7) _ _⟩
 ·rw[aQm rfl] at hY
  dsimp only at hY
  subst hY
  clear hok
  have hsn:=(hD4.hA.sn k x hx).stP ⟨⟨false,⟨#[]⟩,[],0⟩,.slice none 0 0⟩ rfl
  have hN4:=hD4.hA.sn k x hx
  have hN:=hN4.put (y:=⟨⟨false,⟨#[]⟩,[],0⟩,.slice none 0 0⟩) (World.ownsRow_nil _ _ _ _)
  have hgr:g≠W3.heap.size:=jB hN4.blk hg4
  have hgt:w.heap.size+1≠g:=(jB hN4.blk hD4.hE.res).symm
  have hzr:=(mZ W4 g (k*4) ⟨⟨false,⟨#[]⟩,[],0⟩,.slice none 0 0⟩ W3.heap.size hgr.symm).trans hg4
  have hld:=mD {} hzr
  have hzt:=(mZ W4 g (k*4) ⟨⟨false,⟨#[]⟩,[],0⟩,.slice none 0 0⟩ (w.heap.size+1) hgt).trans hD4.hE.res
  have hst:=aK hzt rfl
  have hK:=aF.putSn W4 g (k*4) ⟨⟨false,⟨#[]⟩,[],0⟩,.slice none 0 0⟩
  go_wp2_with (simp only[hs4])
  exact⟨rfl,_,results_cell_row rfl _ _ _ _ _ _ _ rfl (setRow_heap _ _ _ _ _ _ (hzt)) Tryz.underlying51 rfl (by kernel_rfl),hD4.close2 hS hx (hN) (hK) _ _⟩
end Go.Proofs.YtdeiocppghhfdaaGreat
