/- Texts, one behind another. -/
import Derived.Test.YtdeiocppghhfdaaGreatZfbk
set_option linter.unusedVariables false
set_option linter.unusedSimpArgs false
set_option maxRecDepth 100000
set_option maxHeartbeats 40000000
namespace Go.Proofs.YtdeiocppghhfdaaGreat
open Go.RowKit Go.Lib Go.Shelf
theorem iA {P:Program} {w:World} {o:Oper} {a:Act} {K:Act→World→Prop} {Q:Exit→Act→World→Prop} (s x:Operand) (t:TypeId)
  (ho:o.op = .call { callee := .builtin .append,args := #[s,x],argTypes := #[t,t] })
  (base:Nat) (e:TypeId) (i:TypeInfo) (size:Nat) (ht:P.underlying t=some (.slice e)) (hi:P.info? e=some i)
  (v:Value) (n:Nat) (xs:List Value) (hs:a.eval s=v) (hown:w.ownsRow base e size v n xs) (hx:a.eval x = .slice none 0 0) (h:K (a.put o.dst v) w):o.wp P a w K Q:=by
 have hrun:=run_append_owned_none (P:=P) (w:=w) base t o.type e i size ht hi v n xs hown
 unfold Oper.wp
 simp[execOp,ho,resolve,invoke,builtin,hs,hx,hrun,Result.andThen]
 exact h
theorem pQ {P:Program} {w:World} {ops:Array Oper} {rest:List Oper} {o:Oper} {a:Act} {Q:Exit→Act→World→Prop} (hgd:o.guard=none) (s x:Operand) (t:TypeId)
  (ho:o.op = .call { callee := .builtin .append,args := #[s,x],argTypes := #[t,t] })
  (base:Nat) (e:TypeId) (i:TypeInfo) (size:Nat) (ht:P.underlying t=some (.slice e)) (hi:P.info? e=some i)
  (v:Value) (n:Nat) (xs:List Value) (hs:a.eval s=v) (hown:w.ownsRow base e size v n xs) (hx:a.eval x = .slice none 0 0) (h:wpList P ops Q rest (a.put o.dst v) w):wpList P ops Q (o::rest) a w:=by
 refine wpList_plain hgd fun K hK => ?_
 exact iA s x t ho base e i size ht hi v n xs hs hown hx (hK _ _ h)
theorem aMi {id:Int} {l:List MkV} (h:l.Pairwise (fun a b=>a.id<b.id)):(∀ k x,k<(loM id l).length→(bP id l)[k]? = some x→x.id<id)∧(∀ x,(bP id l)[(loM id l).length]? = some x→¬ x.id<id)∧(bP id l).take (loM id l).length=loM id l∧(bP id l).drop (loM id l).length=hiM id l:=by
 have e:=tY (id:=id) h
 refine⟨fun k x hk hx => ?_,fun x hx => ?_,by rw[e];exact List.take_left,by rw[e];exact List.drop_left⟩
 ·rw[e,List.getElem?_append_left hk] at hx
  have:=(List.mem_filter.1 (mGz hx)).2
  simpa using this
 ·rw[e,List.getElem?_append_right (Nat.le_refl _)] at hx
  have:=(List.mem_filter.1 (mGz hx)).2
  simp at this;omega
theorem yT {id:Int} {l:List MkV} (h:l.Pairwise (fun a b=>a.id<b.id)):(bP id l).length+(if hasM id l then 1 else 0)=l.length:=by
 obtain⟨h1,h2,h3⟩:=iK id h
 have e:l.length=(loM id l).length+(l.drop (idxM id l)).length:=by rw[← h1,← List.length_append,List.take_append_drop]
 rw[tY h,List.length_append,e,h2]
 cases hs:hasM id l<;>rw[hs] at h3<;>simp at h3 ⊢ <;> omega
def SeR (w0:World) (ad:Option Addr) (l:List MkV) (c g cr bx:Nat) (rest:List MkV) (m:MkV) (lo:List MkV) (a:Act) (wr:World):Prop :=
 ∃ (v:Value) (u:Nat→Value),a={ tmps := #[.slice ad l.length c,u 1,u 2,.pointer (some ⟨bx,0,none⟩),u 4,u 5,.slice (some ⟨g,0,none⟩) rest.length cr,.int .i64 (lo.length:Nat),v,u 9,u 10,u 11,u 12,u 13,u 14,u 15,u 16,u 17,u 18,u 19,u 20,u 21,u 22,u 23,u 24,u 25,u 26,u 27,u 28,u 29,u 30,u 31,u 32,u 33,u 34,u 35,u 36,u 37,u 38,u 39,u 40,u 41,u 42,u 43,u 44,u 45,u 46,u 47,u 48,u 49,u 50,u 51,u 52,u 53],defers:=[] }∧wr.ownsRow w0.heap.size 74 3 v (0+lo.length+1) ([]++mksL lo++mkL m)∧Below w0.heap.size w0 wr
theorem SeR.intro {w0:World} {ad:Option Addr} {l:List MkV} {c g cr bx:Nat} {rest:List MkV} {m:MkV} {lo:List MkV} {a:Act} {wr:World} (v:Value) {uu:Nat→Value} (_:uu=fun i=>a.tmps.getD i undef) (h:a={ tmps := #[.slice ad l.length c,uu 1,uu 2,.pointer (some ⟨bx,0,none⟩),uu 4,uu 5,.slice (some ⟨g,0,none⟩) rest.length cr,.int .i64 (lo.length:Nat),v,uu 9,uu 10,uu 11,uu 12,uu 13,uu 14,uu 15,uu 16,uu 17,uu 18,uu 19,uu 20,uu 21,uu 22,uu 23,uu 24,uu 25,uu 26,uu 27,uu 28,uu 29,uu 30,uu 31,uu 32,uu 33,uu 34,uu 35,uu 36,uu 37,uu 38,uu 39,uu 40,uu 41,uu 42,uu 43,uu 44,uu 45,uu 46,uu 47,uu 48,uu 49,uu 50,uu 51,uu 52,uu 53],defers:=[] }) (hn:wr.ownsRow w0.heap.size 74 3 v (0+lo.length+1) ([]++mksL lo++mkL m)) (hB:Below w0.heap.size w0 wr):SeR w0 ad l c g cr bx rest m lo a wr:=⟨v,uu,h,hn,hB⟩
def SeN (w0:World) (ad:Option Addr) (l:List MkV) (c bx:Nat) (m:MkV) (a:Act) (wr:World):Prop :=
 ∃ (v:Value) (u:Nat→Value),a={ tmps := #[.slice ad l.length c,u 1,u 2,.pointer (some ⟨bx,0,none⟩),u 4,u 5,.slice none 0 0,.int .i64 0,v,u 9,u 10,u 11,u 12,u 13,u 14,u 15,u 16,u 17,u 18,u 19,u 20,u 21,u 22,u 23,u 24,u 25,u 26,u 27,u 28,u 29,u 30,u 31,u 32,u 33,u 34,u 35,u 36,u 37,u 38,u 39,u 40,u 41,u 42,u 43,u 44,u 45,u 46,u 47,u 48,u 49,u 50,u 51,u 52,u 53],defers:=[] }∧wr.ownsRow w0.heap.size 74 3 v 1 (mkL m)∧Below w0.heap.size w0 wr
theorem SeN.intro {w0:World} {ad:Option Addr} {l:List MkV} {c bx:Nat} {m:MkV} {a:Act} {wr:World} (v:Value) {uu:Nat→Value} (_:uu=fun i=>a.tmps.getD i undef) (h:a={ tmps := #[.slice ad l.length c,uu 1,uu 2,.pointer (some ⟨bx,0,none⟩),uu 4,uu 5,.slice none 0 0,.int .i64 0,v,uu 9,uu 10,uu 11,uu 12,uu 13,uu 14,uu 15,uu 16,uu 17,uu 18,uu 19,uu 20,uu 21,uu 22,uu 23,uu 24,uu 25,uu 26,uu 27,uu 28,uu 29,uu 30,uu 31,uu 32,uu 33,uu 34,uu 35,uu 36,uu 37,uu 38,uu 39,uu 40,uu 41,uu 42,uu 43,uu 44,uu 45,uu 46,uu 47,uu 48,uu 49,uu 50,uu 51,uu 52,uu 53],defers:=[] }) (hn:wr.ownsRow w0.heap.size 74 3 v (0+1) ([]++mkL m)) (hB:Below w0.heap.size w0 wr):SeN w0 ad l c bx m a wr:=⟨v,uu,h,hn,hB⟩
structure SeW (w:World) (ar:Option Addr) (cr bx:Nat) (rest:List MkV) (m:MkV) (W:World):Prop where
 own:MOw W 0 (.slice ar rest.length cr) rest
 box:W.heap[bx]? = some (.cells #[.int .u32 m.id,.int .i64 m.at_,.int .u8 m.grav] 74 (0,0))
 bl:Below w.heap.size w W
theorem SeW.on {w:World} {ar:Option Addr} {cr bx:Nat} {rest:List MkV} {m:MkV} {W W':World} (h:SeW w ar cr bx rest m W) (hb:Below W.heap.size W W'):SeW w ar cr bx rest m W' :=
 ⟨aI h.own hb,(hb.block _ (gAz h.box).1).trans h.box,h.bl.trans (hb.mono h.bl.size)⟩
def SeI (w:World) (ad:Option Addr) (l:List MkV) (c:Nat) (ar:Option Addr) (cr bx:Nat) (rest:List MkV) (m:MkV) (lo:Nat) (a:Act) (wr:World):Prop :=
 ∃ (k:Nat) (u:Nat→Value),a={ tmps := #[.slice ad l.length c,u 1,u 2,.pointer (some ⟨bx,0,none⟩),u 4,u 5,.slice ar rest.length cr,.int .i64 k,u 8,u 9,u 10,u 11,u 12,u 13,u 14,u 15,u 16,u 17,u 18,u 19,u 20,u 21,u 22,u 23,u 24,u 25,u 26,u 27,u 28,u 29,u 30,u 31,u 32,u 33,u 34,u 35,u 36,u 37,u 38,u 39,u 40,u 41,u 42,u 43,u 44,u 45,u 46,u 47,u 48,u 49,u 50,u 51,u 52,u 53],defers:=[] }∧k≤lo∧SeW w ar cr bx rest m wr
theorem SeI.intro {w:World} {ad:Option Addr} {l:List MkV} {c:Nat} {ar:Option Addr} {cr bx:Nat} {rest:List MkV} {m:MkV} {lo:Nat} {a:Act} {wr:World} (k:Nat) {uu:Nat→Value} (_:uu=fun i=>a.tmps.getD i undef) (h:a={ tmps := #[.slice ad l.length c,uu 1,uu 2,.pointer (some ⟨bx,0,none⟩),uu 4,uu 5,.slice ar rest.length cr,.int .i64 k,uu 8,uu 9,uu 10,uu 11,uu 12,uu 13,uu 14,uu 15,uu 16,uu 17,uu 18,uu 19,uu 20,uu 21,uu 22,uu 23,uu 24,uu 25,uu 26,uu 27,uu 28,uu 29,uu 30,uu 31,uu 32,uu 33,uu 34,uu 35,uu 36,uu 37,uu 38,uu 39,uu 40,uu 41,uu 42,uu 43,uu 44,uu 45,uu 46,uu 47,uu 48,uu 49,uu 50,uu 51,uu 52,uu 53],defers:=[] }) (hk:k≤lo) (hW:SeW w ar cr bx rest m wr):SeI w ad l c ar cr bx rest m lo a wr:=⟨k,uu,h,hk,hW⟩
theorem wE {W:World} {B n:Nat} {v:Value} {l lo hi:List MkV} {m:MkV} {k:Nat} (hs:setM m l=lo++m::hi) (hl:hi.length=n) (h:W.ownsRow B 74 3 v (0+k+1+n) ([]++mksL lo++mkL m++mksL hi)) (hk:lo.length=k:=by rfl):MOw W B v (setM m l):=by
 show W.ownsRow B 74 3 v (setM m l).length (mksL (setM m l))
 have e1:mksL (setM m l)=[]++mksL lo++mkL m++mksL hi:=by rw[hs,vT,List.nil_append,List.append_assoc];rfl
 have e2:(setM m l).length=0+k+1+n:=by rw[hs,List.length_append,List.length_cons];omega
 rw[e1,e2];exact h
theorem aQn {W:World} {B g c k:Nat} {l:List MkV} {m:MkV} (h:MOw W B (.slice (some ⟨g,0,none⟩) l.length c) l) (hk:l[k]? = some m):W.cell? ⟨g,k*3,none⟩=some (.int .u32 m.id):=by
 have h2:=(bV rfl h).1
 have:=(yO (vS h2) hk).1
 rwa [Nat.zero_add] at this
theorem aI1 (ad:Option Addr) (c:Nat) (l:List MkV) (m:MkV) (w:World) (hr:MRow w ad l) (hok:MkOK bigN l) (hm:MkIn bigN m) (hc:l.length≤c) (hl:hasM m.id l=true∨l.length<64) :
  Calls Tryz.prog 233 #[.slice ad l.length c,.agg #[.int .u32 m.id,.int .i64 m.at_,.int .u8 m.grav]] w fun e w'=>∃ v,e = .returned (.tuple #[v,.int .i64 0])∧MOw w' w.heap.size v (setM m l)∧Below w.heap.size w w':=by
 obtain⟨i0,hi,hz0,hz1,hz2⟩:=info_parts mO
 have h64:=hok.1
 have hpw:=hok.2.1
 obtain⟨hlt1,hlt2,htk,hdr⟩:=aMi (id:=m.id) hpw
 have hln:=yT (id:=m.id) hpw
 have hlen:(bP m.id l).length<64:=by
  rcases hl with h | h
  ·rw[h,if_pos rfl] at hln;omega
  ·omega
 have hset:setM m l=loM m.id l++m::hiM m.id l:=rfl
 have hlo:(loM m.id l).length≤(bP m.id l).length:=by rw[tY hpw,List.length_append];omega
 have hB0:=(Below.refl w.heap.size w).alloc (Nat.le_refl _) (.cells #[.int .u32 m.id,.int .i64 m.at_,.int .u8 m.grav] 74)
 have hbx:=heap_alloc_new w (.cells #[.int .u32 m.id,.int .i64 m.at_,.int .u8 m.grav] 74)
 have h1:=fun W (hW:Below w.heap.size w W)=>kY ad c l W (hr.on hW) hok hc
 have h2:=fun W (a:Option Addr) (hW:MRow W a [m])=>kY a 1 [m] W hW ⟨by simp,by simp,fun x hx=>by rw[List.mem_singleton] at hx;subst hx;exact hm⟩ (Nat.le_refl _)
 have h3:=fun W (hW:Below w.heap.size w W)=>kF ad c l m.id W (hr.on hW) h64 hc
 have H1:=Lib.hid h1;have H2:=Lib.hid h2;have H3:=Lib.hid h3;have HS:=Lib.hid hset
 have HT1:=Lib.hid hlt1;have HT2:=Lib.hid hlt2;have HTK:=Lib.hid htk;have HDR:=Lib.hid hdr
 clear h1 h2 h3 hset hlt1 hlt2 htk hdr hln hl hpw hok hm
 have d64:decide (64≤((bP m.id l).length:Int))=false:=decide_eq_false (by omega)
 have d65:decide (64≤(bP m.id l).length)=false:=decide_eq_false (by omega)
 generalize bP m.id l=rest at *
 generalize loM m.id l=lo at *
 generalize hiM m.id l=hi2 at *
 go_enter Tryz.func233,Tryz.ntmps233
 go_wp2_with (first | (go_at_call 274;refine (H2.out _ (some ⟨_,0,none⟩) (mV w1 m)).mono ?_;rintro e w2 ⟨rfl,hB2⟩;have hb2:=(Below.refl w1.heap.size w1).alloc (Nat.le_refl _) (.cells #[.int .u32 m.id,.int .i64 m.at_,.int .u8 m.grav] 74);have hb3:=hb2.trans (hB2.mono (by simp));have hB3:=hB1.trans (hb3.mono hB1.size);have hbx3:=(hb3.block _ (gAz hbx1).1).trans hbx1;obtain⟨y0,y1,y2⟩:=cZ hbx3) | (go_at_call 274;refine (H1.out _ hB0).mono ?_;rintro e w1 ⟨rfl,hb1⟩;have hB1:=hB0.trans (hb1.mono hB0.size);have hbx1:=(hb1.block _ (by simp)).trans hbx;obtain⟨z0,z1,z2⟩:=cZ hbx1) | (go_at_call 275;refine (H3.out _ hB3).mono ?_;rintro e w4 ⟨v4,rfl,hv4,hb4⟩;have hB4:=hB3.trans (hb4.mono hB3.size);have hbx4:=(hb4.block _ (gAz hbx3).1).trans hbx3;obtain⟨ar,cr,rfl⟩:=aC hv4))
 have hW4:SeW w ar cr w.heap.size rest m w4:=⟨aV (Nat.zero_le _) hv4,hbx4,hB4⟩
 clear hbx hbx1 hbx3 hbx4 hB0 hB1 hB2 hB3 hB4 hb1 hb2 hb3 hb4 hv4 z0 z1 z2 y0 y1 y2 hr
 refine wp_loop (SeI w ad l c ar cr w.heap.size rest m lo.length) (fun a _=>lo.length+1-(intOf (a.tmps.getD 7 undef)).toNat) ?_ ?_
 ·exact SeI.intro 0 rfl rfl (by omega) hW4
 ·clear hW4
  rintro a wr ⟨k,u,rfl,hk,hW⟩
  have hWd:=hW.on (Below.refl _ _).drew
  obtain⟨z0,z1,z2⟩:=cZ hWd.box
  by_cases hlt:k<lo.length
  ·have hg:=gEz (show k<rest.length by omega)
   generalize rest[k]'(by omega)=x at hg
   have hid:=HT1.out k x hlt hg
   obtain⟨g,rfl⟩:=aIr hW.own (by omega)
   have K1:=aQn hWd.own hg
   have d1:decide (k<rest.length)=true:=by simp;omega
   have d1':decide ((k:Int)<rest.length)=true:=by simp;omega
   have d2:decide (x.id<m.id)=true:=by simpa using hid
   have hkr:k<rest.length:=by omega
   clear hg hid
   go_wp2
   refine aP (S:=fun W=>W.cell? ⟨g,k*3,none⟩=some (.int .u32 x.id)∧W.cell? ⟨w.heap.size,0,none⟩=some (.int .u32 m.id)) ?_ (fun hHeld => ?_)
   ·exact⟨K1,z0⟩
   iterate 14 ((first | refine aJ ?_ | refine np_q ?_ | refine aL 0 ?_);(try simp only[nSO]))
   refine np_z ?_
   go_wp2
   exact⟨SeI.intro (k+1) rfl rfl (by omega) hWd,by simp[intOf];omega⟩
  ·obtain rfl:k=lo.length:=by omega
   have hre:rest=lo++hi2:=by have:=List.take_append_drop lo.length rest;rw[HTK.out,HDR.out] at this;exact this.symm
   have HRE:=Lib.hid hre
   have hWe:=hWd.on (Below.refl _ _).drew
   obtain⟨x0,x1,x2⟩:=cZ hWe.box
   rcases aIs hW.own with⟨rfl,hn0,rfl⟩ | ⟨g,rfl,hrc⟩
   ·have hr0:rest=[]:=List.eq_nil_of_length_eq_zero hn0
    have hlo0:lo=[]:=by rw[hr0] at hre;exact (List.append_eq_nil_iff.1 hre.symm).1
    have hhi0:hi2=[]:=by rw[hr0] at hre;exact (List.append_eq_nil_iff.1 hre.symm).2
    subst hr0;subst hlo0;subst hhi0
    clear hre hn0 hlen hlo hlt d64 d65
    go_wp2
    refine aP (S:=fun W=>W.cell? ⟨w.heap.size,0,none⟩=some (.int .u32 m.id)) ?_ (fun hHeld => ?_)
    ·exact z0
    iterate 14 ((first | refine aJ ?_ | refine np_q ?_ | refine aL 0 ?_);(try simp only[nSO]))
    refine np_z ?_
    go_wp2
    have hDz:=hWe.bl.size
    have hwz:w.heap.size≤wr.heap.size:=hW.bl.size
    have hr1:Below wr.heap.size wr (wr.alloc (.cells #[] 74)):=(Below.refl _ wr).alloc (Nat.le_refl _) _
    have hr2:Below wr.heap.size wr ((wr.alloc (.cells #[] 74)).alloc (.cells (mkL m).toArray 74)):=hr1.alloc hr1.size _
    have hr3:Below wr.heap.size wr ((wr.alloc (.cells (mkL m).toArray 74)).alloc (.cells #[] 74)):=((Below.refl _ wr).alloc (Nat.le_refl _) (.cells (mkL m).toArray 74)).alloc (by simp) _
    have hW1:=hW.on hr1
    have hW2:=hW.on hr2
    have hW3:=hW.on hr3
    obtain⟨s0,s1,s2⟩:=cZ hW.box
    obtain⟨t0,t1,t2⟩:=cZ hW1.box
    have e1:=jG wr
    have e2:=(jG wr).alloc (.cells (mkL m).toArray 74)
    have e3:=jG (wr.alloc (.cells (mkL m).toArray 74))
    rw[World.size_alloc] at e3
    replace e3:=aV (Nat.le_succ _) e3
    refine Code.wp_mono (Q:=fun e a' w'=>match e with | .normal=>SeN wr ad l c w.heap.size m a' w' | _=>False) ?_ ?region
    case region =>
     go_region_law (first | (rw[if_pos (by rfl)];refine wp_append_own _ _ _ 65 rfl wr.heap.size 74 i0 _ 3 24 Tryz.underlying65 hi hz0 hz1 hz2 rfl (by decide) _ 0 [] rfl (e3) ⟨_,0,none⟩ 1 1 (mkL m) rfl rfl (aAe ((heap_alloc_old _ _ (by simp)).trans (heap_alloc_new wr _))) (jW m) (by unfold maxLen;omega) (by omega) (by simp;try omega) ?_;intro v6 w6 hn6 hg6 _;have hB6:=hr3.drew.drew.grown hg6 (by simp;try omega) (fun k hk=>(e3.lt k hk).1)) | (rw[if_pos (by rfl)];refine wp_append_own _ _ _ 65 rfl wr.heap.size 74 i0 _ 3 24 Tryz.underlying65 hi hz0 hz1 hz2 rfl (by decide) _ 0 [] rfl (e2) ⟨_,0,none⟩ 1 1 (mkL m) rfl rfl (aAe (vU wr _ _)) (jW m) (by unfold maxLen;omega) (by omega) (by simp;try omega) ?_;intro v6 w6 hn6 hg6 _;have hB6:=hr2.drew.drew.grown hg6 (by simp;try omega) (fun k hk=>(e2.lt k hk).1)) | (rw[if_pos (by rfl)];refine iA _ _ 65 rfl wr.heap.size 74 i0 3 Tryz.underlying65 hi _ 0 [] rfl (e1) rfl ?_;skip) | (rw[if_pos (by rfl)];refine iA _ _ 65 rfl wr.heap.size 74 i0 3 Tryz.underlying65 hi _ 0 [] rfl (e2) rfl ?_;skip) | (rw[if_pos (by rfl)];refine iA _ _ 65 rfl wr.heap.size 74 i0 3 Tryz.underlying65 hi _ 0 [] rfl (e3) rfl ?_;skip))
     all_goals exact SeN.intro _ rfl rfl hn6 hB6
    intro e6 a6 w6 h6
    cases e6<;>first | exact False.elim h6 | skip
    obtain⟨v6,u,rfl,hn6,hB6⟩:=h6
    obtain⟨a6,c6,rfl⟩:=aC hn6
    go_wp2_with (at_builtin;refine pQ rfl _ _ 65 rfl wr.heap.size 74 i0 3 Tryz.underlying65 hi _ _ _ rfl hn6 rfl ?_)
    go_returns
    exact⟨_,rfl,by rw[HS.out];exact aV hwz hn6,hW.bl.trans (hB6.mono hwz)⟩
   ·by_cases hlr:lo.length<rest.length
    focus
     have hg:=gEz hlr
     generalize rest[lo.length]=x at hg
     have hid:=HT2.out x hg
     have K1:=aQn hWd.own hg
     have d1:decide (lo.length<rest.length)=true:=by simpa using hlr
     have d2:decide (x.id<m.id)=false:=by simpa using hid
     clear hg hid hre
     go_wp2
     refine aP (S:=fun W=>W.cell? ⟨g,lo.length*3,none⟩=some (.int .u32 x.id)∧W.cell? ⟨w.heap.size,0,none⟩=some (.int .u32 m.id)) ?_ (fun hHeld => ?_)
     ·exact⟨K1,z0⟩
     iterate 14 ((first | refine aJ ?_ | refine np_q ?_ | refine aL 0 ?_);(try simp only[nSO]))
     refine np_z ?_
    rotate_left
    focus
     have hhe:lo.length=rest.length:=by omega
     have hhi0:hi2=[]:=List.eq_nil_of_length_eq_zero (by have:=congrArg List.length hre;rw[List.length_append] at this;omega)
     have HHI:=Lib.hid hhi0
     have d1:decide (lo.length<rest.length)=false:=by simp;omega
     have HHE:=Lib.hid hhe
     clear hre hhi0 hhe
     go_wp2
     refine aP (S:=fun W=>W.cell? ⟨w.heap.size,0,none⟩=some (.int .u32 m.id)) ?_ (fun hHeld => ?_)
     ·exact z0
     iterate 14 ((first | refine aJ ?_ | refine np_q ?_ | refine aL 0 ?_);(try simp only[nSO]))
     refine np_z ?_
    all_goals
     go_wp2
     have hDz:=hWe.bl.size
     have b1:(lo.length:Int)≤cr:=by omega
     have b2:lo.length≤cr:=by omega
     have b3:(0:Int)≤lo.length:=Int.natCast_nonneg _
     have hwz:w.heap.size≤wr.heap.size:=hW.bl.size
     have hr1:Below wr.heap.size wr (wr.alloc (.cells #[] 74)):=(Below.refl _ wr).alloc (Nat.le_refl _) _
     have hr2:Below wr.heap.size wr ((wr.alloc (.cells #[] 74)).alloc (.cells (mkL m).toArray 74)):=hr1.alloc hr1.size _
     have hr3:Below wr.heap.size wr ((wr.alloc (.cells (mkL m).toArray 74)).alloc (.cells #[] 74)):=((Below.refl _ wr).alloc (Nat.le_refl _) (.cells (mkL m).toArray 74)).alloc (by simp) _
     have hW1:=hW.on hr1
     have hW2:=hW.on hr2
     have hW3:=hW.on hr3
     obtain⟨s0,s1,s2⟩:=cZ hW.box
     obtain⟨t0,t1,t2⟩:=cZ hW1.box
     have e1:=jG wr
     have e2:=(jG wr).alloc (.cells (mkL m).toArray 74)
     have e3:=jG (wr.alloc (.cells (mkL m).toArray 74))
     rw[World.size_alloc] at e3
     replace e3:=aV (Nat.le_succ _) e3
     refine Code.wp_mono (Q:=fun e a' w'=>match e with | .normal=>SeR wr ad l c g cr w.heap.size rest m lo a' w' | _=>False) ?_ ?region
     case region =>
      go_region_law (first | (rw[if_pos (by rfl)];refine wp_append_own _ _ _ 65 rfl wr.heap.size 74 i0 _ 3 24 Tryz.underlying65 hi hz0 hz1 hz2 rfl (by decide) _ _ _ rfl (hn1.alloc _) ⟨_,0,none⟩ 1 1 (mkL m) rfl rfl (aW w5 _ _) (jW m) (by unfold maxLen;omega) (by omega) (by have:=hB5.size;simp at this ⊢;omega) ?_;intro v6 w6 hn6 hg6 _;have hB6:=(hB5.alloc hB5.size (.cells (mkL m).toArray 74)).grown hg6 (by have:=hB5.size;simp at this ⊢;omega) (fun k hk=>(hn1.lt k hk).1)) | (rw[if_pos (by rfl)];refine wp_append_own _ _ _ 65 rfl wr.heap.size 74 i0 _ 3 24 Tryz.underlying65 hi hz0 hz1 hz2 rfl (by decide) _ _ _ rfl (hn2) ⟨_,0,none⟩ 1 1 (mkL m) rfl rfl (aAe hz5) (jW m) (by unfold maxLen;omega) (by omega) (by have:=hB5b.size;simp at this ⊢;omega) ?_;intro v6 w6 hn6 hg6 _;have hB6:=hB5b.grown hg6 hB5b.size (fun k hk=>(hn2.lt k hk).1)) | (rw[if_pos (by rfl)];refine wp_append_own _ _ _ 65 rfl wr.heap.size 74 i0 _ 3 24 Tryz.underlying65 hi hz0 hz1 hz2 rfl (by decide) _ _ _ rfl (hn3) ⟨_,0,none⟩ 1 1 (mkL m) rfl rfl (aAe hz5c) (jW m) (by unfold maxLen;omega) (by omega) (by have:=hB5c.size;simp at this ⊢;omega) ?_;intro v6 w6 hn6 hg6 _;have hB6:=hB5c.grown hg6 hB5c.size (fun k hk=>(hn3.lt k hk).1)) | (rw[if_pos (by rfl)];refine wp_append_own _ _ _ 65 rfl wr.heap.size 74 i0 _ 3 24 Tryz.underlying65 hi hz0 hz1 hz2 rfl (by decide) _ 0 [] rfl (e1) ⟨g,0,none⟩ lo.length cr (mksL lo) rfl (nH lo) (aEz (hW1.own) HRE.out) (oC lo) (by unfold maxLen;omega) (by omega) (by simp) ?_;intro v1 w5 hn1 hg1 _;have hB5:=hr1.drew.drew.grown hg1 (by simp) (fun k hk=>(e1.lt k hk).1);have hW5:=hW.on hB5;obtain⟨x50,x51,x52⟩:=cZ hW5.box) | (rw[if_pos (by rfl)];refine wp_append_own _ _ _ 65 rfl wr.heap.size 74 i0 _ 3 24 Tryz.underlying65 hi hz0 hz1 hz2 rfl (by decide) _ 0 [] rfl (e2) ⟨g,0,none⟩ lo.length cr (mksL lo) rfl (nH lo) (aEz (hW2.own) HRE.out) (oC lo) (by unfold maxLen;omega) (by omega) (by simp;try omega) ?_;intro v1b w5b hn2 hg2 _;have hB5b:=hr2.drew.drew.grown hg2 (by simp;try omega) (fun k hk=>(e2.lt k hk).1);have hz5:w5b.heap[wr.heap.size+1]? = some (.cells (mkL m).toArray 74 (0,0)):=(hg2.block _ (by simp) (show some (wr.heap.size+1)≠some wr.heap.size by simp)).trans (vU wr _ _)) | (rw[if_pos (by rfl)];refine wp_append_own _ _ _ 65 rfl wr.heap.size 74 i0 _ 3 24 Tryz.underlying65 hi hz0 hz1 hz2 rfl (by decide) _ 0 [] rfl (e3) ⟨g,0,none⟩ lo.length cr (mksL lo) rfl (nH lo) (aEz (hW3.own) HRE.out) (oC lo) (by unfold maxLen;omega) (by omega) (by simp;try omega) ?_;intro v1c w5c hn3 hg3 _;have hB5c:=hr3.drew.drew.grown hg3 (by simp;try omega) (fun k hk=>(e3.lt k hk).1);have hz5c:w5c.heap[wr.heap.size]? = some (.cells (mkL m).toArray 74 (0,0)):=(hg3.block _ (by simp;try omega) (show some wr.heap.size≠some (wr.heap.size+1) by simp)).trans ((heap_alloc_old _ _ (by simp)).trans (heap_alloc_new wr _))))
      all_goals exact SeR.intro _ rfl rfl hn6 hB6
     intro e6 a6 w6 h6
     cases e6<;>first | exact False.elim h6 | skip
     obtain⟨v6,u,rfl,hn6,hB6⟩:=h6
     have hW6:=hW.on hB6
     have hhl:hi2.length=rest.length-lo.length:=by have:=congrArg List.length HRE.out;rw[List.length_append] at this;omega
     have HHL:=Lib.hid hhl
     clear hhl
    rotate_left
    ·go_wp2_with (at_builtin;refine wpList_append_own _ rfl _ _ 65 rfl wr.heap.size 74 i0 _ 3 24 Tryz.underlying65 hi hz0 hz1 hz2 rfl (by decide) _ _ _ rfl hn6 _ (rest.length-lo.length) _ (mksL hi2) rfl (by rw[nH,HHL.out]) (aRb hW6.own HRE.out) (oC _) (by unfold maxLen;omega) (by omega) (by have:=hB6.size;omega) ?_;intro v7 w7 hn7 hg7 _;have hB7:Below wr.heap.size w6 w7:=(Below.refl _ w6).grown hg7 hB6.size (fun k hk=>(hn6.lt k hk).1))
     obtain⟨a7,c7,rfl⟩:=aC hn7
     go_returns
     exact⟨_,rfl,aV hwz (wE HS.out HHL.out hn7),(hW.bl.trans (hB6.mono hwz)).trans (hB7.mono hwz)⟩
    by_cases hkc:cr=lo.length
    ·subst hkc
     go_wp2_with (at_builtin;refine wpList_append_own _ rfl _ _ 65 rfl wr.heap.size 74 i0 _ 3 24 Tryz.underlying65 hi hz0 hz1 hz2 rfl (by decide) _ _ _ rfl hn6 _ _ _ (mksL hi2) rfl (by rw[nH,HHL.out];first | rfl | (have:=HHE.out;omega)) (fun j u hj=>by rw[HHI.out] at hj;cases hj) (oC _) (by have:=HHE.out;unfold maxLen;omega) (by have:=HHE.out;omega) (by have:=hB6.size;omega) ?_;intro v7 w7 hn7 hg7 _;have hB7:Below wr.heap.size w6 w7:=(Below.refl _ w6).grown hg7 hB6.size (fun k hk=>(hn6.lt k hk).1))
     obtain⟨a7,c7,rfl⟩:=aC hn7
     go_returns
     exact⟨_,rfl,aV hwz (wE HS.out (by first | exact HHL.out | (rw[HHL.out];have:=HHE.out;omega)) hn7),(hW.bl.trans (hB6.mono hwz)).trans (hB7.mono hwz)⟩
    ·have hkc2:(cr:Int)≠lo.length:=by omega
     go_wp2_with (at_builtin;refine wpList_append_own _ rfl _ _ 65 rfl wr.heap.size 74 i0 _ 3 24 Tryz.underlying65 hi hz0 hz1 hz2 rfl (by decide) _ _ _ rfl hn6 _ (rest.length-lo.length) _ (mksL hi2) rfl (by rw[nH,HHL.out]) (fun j u hj=>by rw[HHI.out] at hj;cases hj) (oC _) (by have:=HHE.out;unfold maxLen;omega) (by have:=HHE.out;omega) (by have:=hB6.size;omega) ?_;intro v7 w7 hn7 hg7 _;have hB7:Below wr.heap.size w6 w7:=(Below.refl _ w6).grown hg7 hB6.size (fun k hk=>(hn6.lt k hk).1))
     obtain⟨a7,c7,rfl⟩:=aC hn7
     go_returns
     exact⟨_,rfl,aV hwz (wE HS.out (by first | exact HHL.out | (rw[HHL.out];have:=HHE.out;omega)) hn7),(hW.bl.trans (hB6.mono hwz)).trans (hB7.mono hwz)⟩
attribute [local go_sem, local simp] resF bD bS fK fM fO dQ eX eY
theorem aAh (b:Nat) (M:RM) (o:OpV) (w:World) (h:RdAt w b M) (hok:MSok M.st 100000) (hk:o.kind=3) (hc:M.closed=false) (hs:o.at_≤M.text.size) (hbd:bndB M.text.data.toList o.at_=true) (hm:MkIn bigN ⟨o.id,o.at_,o.grav⟩) (hl:hasM o.id M.marks=true∨M.marks.length<64) :
  Calls Tryz.prog 184 #[.pointer (some ⟨b,0,none⟩),.agg #[.int .u8 o.kind,.int .i64 o.slot,.int .i64 o.at_,.int .i64 o.n,.int .u32 o.id,.int .u8 o.grav,.string o.text]] w (fP b w (setS M.st o) M):=by
 have hE:=aY w o
 have hM0:=h.below hE.bl
 obtain⟨ao,cp,hmv⟩:=aC h.marks
 have h1:=h.marks
 rw[hmv] at h1
 obtain⟨hrow,hcp⟩:=bV rfl h1
 have hmk:MkOK bigN M.marks:=hok.marks.big (by have:=hok.size;unfold bigN;omega)
 have hrB:w.heap.size≤w.heap.size+1:=by omega
 have hE3:setE M.st o=0:=by
  unfold setE;rw[if_neg (by show ¬ (M.closed=true);simp[hc])];exact (if_neg (by show ¬ ((M.text.size:Int)<o.at_);omega)).trans (if_pos hbd)
 have hS:setS M.st o=lK { M.st with marks:=setM ⟨o.id,o.at_,o.grav⟩ M.marks }:=by unfold setS;rw[hE3,if_neg (by decide)];exact if_pos hl
 have hbw:=(gAz h.blk).1
 have hn0:0≤M.number:=hok.num0
 have hn1:M.number≤100000:=hok.num1
 have hw:IntKind.i64.wrap (M.number+1)=M.number+1:=IntWalk.i64_in _ (by omega)
 have hset:=fun W (hr:MRow W ao M.marks)=>aI1 ao cp M.marks ⟨o.id,o.at_,o.grav⟩ W hr hmk hm hcp hl
 have HSET:=Lib.hid hset
 clear hset
 rw[hS]
 have e4:=hE.o2.2.2.2.1
 have e1:=hM0.c3 hmv
 have t3:(o.kind == 3)=true:=by rw[hk];rfl
 have t4:decide ((M.text.size:Int)<o.at_)=false:=by simp;omega
 have hbo:=fun W=>bU M.text o.at_ W
 rw[hbd] at hbo
 clear hk hok hs hE3 hbd hm hl
 go_enter Tryz.func184,Tryz.ntmps184
 go_wp2
 refine aP (S:=fun W=>W.cell? ⟨b,3,none⟩=some (.slice ao M.marks.length cp)∧W.cell? ⟨w.heap.size,4,none⟩=some (.int .u32 o.id)) ?_ (fun hHeld => ?_)
 ·first | exact⟨hM2.c3 hmv,hE2.o2.2.2.2.1⟩ | exact⟨e1,e4⟩
 iterate 6 ((first | refine aJ ?_ | refine np_q ?_ | refine aL 0 ?_);(try simp only[nSO]))
 first | (refine np_s 6 ?_;(try simp only[nSO])) | (refine np_c 6 (fun K hK => ?_);go_simp;((go_at_call 232;refine (jD ao cp M.marks o.id _ (hrow.on hE.bl.drew) hmk hcp).mono ?_;rintro e w2 ⟨a5,n5,c5,x5,rfl,hb2⟩;have hE2:=hE.drew.on hb2;have hM2:=(hM0.below (Below.refl _ _).drew).below hb2));(try go_wp2_with fail);refine hK.out _ _ ?_ (fun hHeld => ?_);(· (first | exact⟨hM2.c3 hmv,hE2.o2.2.2.2.1⟩ | exact⟨e1,e4⟩));clear hK K;(try simp only[nSO]))
 iterate 5 ((first | refine aJ ?_ | refine np_q ?_);(try simp only[nSO]))
 refine np_z ?_
 have e02:=hE2.kd
 have e2:=hE2.o2.1
 have c2:=hM2.cs.2.2.1
 go_wp2
 refine aP (S:=fun W=>W.cell? ⟨b,2,none⟩=some (.string M.text)∧W.cell? ⟨w.heap.size,2,none⟩=some (.int .i64 o.at_)) ?_ (fun hHeld => ?_)
 ·exact⟨c2,e2⟩
 iterate 8 ((first | refine aJ ?_ | refine np_q ?_ | refine aL 0 ?_);(try simp only[nSO]))
 refine np_z ?_
 have hE3:=hE2.drew.drew
 have hM3:=(hM2.below (Below.refl _ _).drew).below (Below.refl _ _).drew
 go_wp2
 refine aP (S:=fun W=>W.cell? ⟨b,2,none⟩=some (.string M.text)∧W.cell? ⟨w.heap.size,2,none⟩=some (.int .i64 o.at_)) ?_ (fun hHeld => ?_)
 ·exact⟨c2,e2⟩
 iterate 6 ((first | refine aJ ?_ | refine np_q ?_ | refine aL 0 ?_);(try simp only[nSO]))
 first | (refine np_s 6 ?_;(try simp only[nSO])) | (refine np_c 6 (fun K hK => ?_);go_simp;((go_at_call 228;refine (hbo _).mono ?_;rintro e w3 ⟨rfl,rfl⟩));(try go_wp2_with fail);refine hK.out _ _ ?_ (fun hHeld => ?_);(· (exact⟨c2,e2⟩));clear hK K;(try simp only[nSO]))
 (first | refine aJ ?_ | refine np_q ?_);(try simp only[nSO])
 refine np_z ?_
 have e5:=hE3.o2
 have c33:=hM3.c3 hmv
 go_wp2
 refine aP (S:=fun W=>W.cell? ⟨b,3,none⟩=some (.slice ao M.marks.length cp)∧W.cell? ⟨w.heap.size,4,none⟩=some (.int .u32 o.id)∧W.cell? ⟨w.heap.size,2,none⟩=some (.int .i64 o.at_)∧W.cell? ⟨w.heap.size,5,none⟩=some (.int .u8 o.grav)) ?_ (fun hHeld => ?_)
 ·first | exact⟨hM4.c3 hmv,hE4.o2.2.2.2.1,hE4.o2.1,hE4.o2.2.2.2.2⟩ | exact⟨c33,e5.2.2.2.1,e5.1,e5.2.2.2.2⟩
 iterate 11 ((first | refine aJ ?_ | refine np_q ?_ | refine aL 0 ?_);(try simp only[nSO]))
 first | (refine np_s 11 ?_;(try simp only[nSO])) | (refine np_c 11 (fun K hK => ?_);go_simp;((go_at_call 233;refine (HSET.out _ (hrow.on hE3.drew.bl)).mono ?_;rintro e w4 ⟨v,rfl,hov,hb4⟩;obtain⟨av,cv,rfl⟩:=aC hov;have hE4:=hE3.drew.on hb4;have hM4:=(hM3.below (Below.refl _ _).drew).below hb4));(try go_wp2_with fail);refine hK.out _ _ ?_ (fun hHeld => ?_);(· (first | exact⟨hM4.c3 hmv,hE4.o2.2.2.2.1,hE4.o2.1,hE4.o2.2.2.2.2⟩ | exact⟨c33,e5.2.2.2.1,e5.1,e5.2.2.2.2⟩));clear hK K;(try simp only[nSO]))
 iterate 5 ((first | refine aJ ?_ | refine np_q ?_);(try simp only[nSO]))
 refine np_z ?_
 have c34:=hM4.c3 hmv
 have f3:=hM4.f 3
 have hM5:=hM4.setMarks (aV (Nat.zero_le _) hov)
 have c4:=hM5.cs.2.2.2.2.1
 have f4:=hM5.f 4
 have hM6:=hM5.setNum (M.number+1)
 have d4:=hM6.cs.2.2.2.2.1
 have hz4:=(aG (w4.setCell ⟨b,3,none⟩ (.slice av (setM ⟨o.id,o.at_,o.grav⟩ M.marks).length cv)) ⟨b,4,none⟩ (.int .i64 (M.number+1)) (w.heap.size+1) (by show w.heap.size+1≠b;omega)).trans ((aG w4 ⟨b,3,none⟩ (.slice av (setM ⟨o.id,o.at_,o.grav⟩ M.marks).length cv) (w.heap.size+1) (by show w.heap.size+1≠b;omega)).trans hE4.res)
 have hst:=aK hz4 rfl
 go_wp2
 refine⟨rfl,_,results_cell_row rfl _ _ _ _ _ _ _ rfl (setRow_heap _ _ _ _ _ _ hz4) Tryz.underlying51 rfl (by kernel_rfl),rfl,_,hM6.row hz4 _,rfl,(((aF.of_below hE4.bl).trans (aF.set (F:=M.fp b) (a:=⟨b,3,none⟩) (.inl rfl) _)).trans (aF.set (F:=M.fp b) (a:=⟨b,4,none⟩) (.inl rfl) _)).row hrB _,fun k hk => .inl hk⟩
end Go.Proofs.YtdeiocppghhfdaaGreat
namespace Go.Proofs.YtdeiocppghhfdaaGreat
open Go.RowKit Go.Lib Go.Shelf
theorem aCl (ad:Option Addr) (c:Nat) (l:List MkV) (m:MkV) (w:World) (hr:MRow w ad l) (hok:MkOK bigN l) (hm:MkIn bigN m) (hc:l.length≤c) (hl:¬(hasM m.id l=true∨l.length<64)) :
  Calls Tryz.prog 233 #[.slice ad l.length c,.agg #[.int .u32 m.id,.int .i64 m.at_,.int .u8 m.grav]] w fun e w'=>e = .returned (.tuple #[.slice none 0 0,.int .i64 20])∧Below w.heap.size w w':=by
 obtain⟨i0,hi,hz0,hz1,hz2⟩:=info_parts mO
 have h64:=hok.1
 have hpw:=hok.2.1
 have hln:=yT (id:=m.id) hpw
 have hlen:64≤(bP m.id l).length:=by
  rcases Bool.eq_false_or_eq_true (hasM m.id l) with h | h
  ·exact absurd (.inl h) hl
  ·rw[h,if_neg (by simp)] at hln;have:¬ l.length<64:=fun x=>hl (.inr x);omega
 have hB0:=(Below.refl w.heap.size w).alloc (Nat.le_refl _) (.cells #[.int .u32 m.id,.int .i64 m.at_,.int .u8 m.grav] 74)
 have hbx:=heap_alloc_new w (.cells #[.int .u32 m.id,.int .i64 m.at_,.int .u8 m.grav] 74)
 have h1:=fun W (hW:Below w.heap.size w W)=>kY ad c l W (hr.on hW) hok hc
 have h2:=fun W (a:Option Addr) (hW:MRow W a [m])=>kY a 1 [m] W hW ⟨by simp,by simp,fun x hx=>by rw[List.mem_singleton] at hx;subst hx;exact hm⟩ (Nat.le_refl _)
 have h3:=fun W (hW:Below w.heap.size w W)=>kF ad c l m.id W (hr.on hW) h64 hc
 have H1:=Lib.hid h1;have H2:=Lib.hid h2;have H3:=Lib.hid h3
 clear h1 h2 h3 hln hl hpw hok hm
 have d64:decide (64≤((bP m.id l).length:Int))=true:=decide_eq_true (by omega)
 have d65:decide (64≤(bP m.id l).length)=true:=decide_eq_true (by omega)
 generalize bP m.id l=rest at *
 go_enter Tryz.func233,Tryz.ntmps233
 go_wp2_with (first | (go_at_call 274;refine (H2.out _ (some ⟨_,0,none⟩) (mV w1 m)).mono ?_;rintro e w2 ⟨rfl,hB2⟩;have hb2:=(Below.refl w1.heap.size w1).alloc (Nat.le_refl _) (.cells #[.int .u32 m.id,.int .i64 m.at_,.int .u8 m.grav] 74);have hb3:=hb2.trans (hB2.mono (by simp));have hB3:=hB1.trans (hb3.mono hB1.size);have hbx3:=(hb3.block _ (gAz hbx1).1).trans hbx1;obtain⟨y0,y1,y2⟩:=cZ hbx3) | (go_at_call 274;refine (H1.out _ hB0).mono ?_;rintro e w1 ⟨rfl,hb1⟩;have hB1:=hB0.trans (hb1.mono hB0.size);have hbx1:=(hb1.block _ (by simp)).trans hbx;obtain⟨z0,z1,z2⟩:=cZ hbx1) | (go_at_call 275;refine (H3.out _ hB3).mono ?_;rintro e w4 ⟨v4,rfl,hv4,hb4⟩;have hB4:=hB3.trans (hb4.mono hB3.size);have hbx4:=(hb4.block _ (gAz hbx3).1).trans hbx3;obtain⟨ar,cr,rfl⟩:=aC hv4))
 go_returns
 exact⟨rfl,hB4⟩
attribute [local go_sem, local simp] resF bD bS fK fM fO dQ eX eY
theorem wF (b:Nat) (M:RM) (o:OpV) (w:World) (h:RdAt w b M) (hok:MSok M.st 100000) (hk:o.kind=3) (hc:M.closed=false) (hs:o.at_≤M.text.size) (hbd:bndB M.text.data.toList o.at_=true) (hm:MkIn bigN ⟨o.id,o.at_,o.grav⟩) (hl:¬(hasM o.id M.marks=true∨M.marks.length<64)) :
  Calls Tryz.prog 184 #[.pointer (some ⟨b,0,none⟩),.agg #[.int .u8 o.kind,.int .i64 o.slot,.int .i64 o.at_,.int .i64 o.n,.int .u32 o.id,.int .u8 o.grav,.string o.text]] w (fP b w (setS M.st o) M):=by
 have hE:=aY w o
 have hM0:=h.below hE.bl
 obtain⟨ao,cp,hmv⟩:=aC h.marks
 have h1:=h.marks
 rw[hmv] at h1
 obtain⟨hrow,hcp⟩:=bV rfl h1
 have hmk:MkOK bigN M.marks:=hok.marks.big (by have:=hok.size;unfold bigN;omega)
 have hrB:w.heap.size≤w.heap.size+1:=by omega
 have hE3:setE M.st o=0:=by
  unfold setE;rw[if_neg (by show ¬ (M.closed=true);simp[hc])];exact (if_neg (by show ¬ ((M.text.size:Int)<o.at_);omega)).trans (if_pos hbd)
 have hS:setS M.st o=(aS 20,M.st):=by unfold setS;rw[hE3,if_neg (by decide)];exact if_neg hl
 have hbw:=(gAz h.blk).1
 have hn0:0≤M.number:=hok.num0
 have hn1:M.number≤100000:=hok.num1
 have hw:IntKind.i64.wrap (M.number+1)=M.number+1:=IntWalk.i64_in _ (by omega)
 have hset:=fun W (hr:MRow W ao M.marks)=>aCl ao cp M.marks ⟨o.id,o.at_,o.grav⟩ W hr hmk hm hcp hl
 have HSET:=Lib.hid hset
 clear hset
 rw[hS]
 have e4:=hE.o2.2.2.2.1
 have e1:=hM0.c3 hmv
 have t3:(o.kind == 3)=true:=by rw[hk];rfl
 have t4:decide ((M.text.size:Int)<o.at_)=false:=by simp;omega
 have hbo:=fun W=>bU M.text o.at_ W
 rw[hbd] at hbo
 clear hk hok hs hE3 hbd hm hl
 go_enter Tryz.func184,Tryz.ntmps184
 go_wp2
 refine aP (S:=fun W=>W.cell? ⟨b,3,none⟩=some (.slice ao M.marks.length cp)∧W.cell? ⟨w.heap.size,4,none⟩=some (.int .u32 o.id)) ?_ (fun hHeld => ?_)
 ·first | exact⟨hM2.c3 hmv,hE2.o2.2.2.2.1⟩ | exact⟨e1,e4⟩
 iterate 6 ((first | refine aJ ?_ | refine np_q ?_ | refine aL 0 ?_);(try simp only[nSO]))
 first | (refine np_s 6 ?_;(try simp only[nSO])) | (refine np_c 6 (fun K hK => ?_);go_simp;((go_at_call 232;refine (jD ao cp M.marks o.id _ (hrow.on hE.bl.drew) hmk hcp).mono ?_;rintro e w2 ⟨a5,n5,c5,x5,rfl,hb2⟩;have hE2:=hE.drew.on hb2;have hM2:=(hM0.below (Below.refl _ _).drew).below hb2));(try go_wp2_with fail);refine hK.out _ _ ?_ (fun hHeld => ?_);(· (first | exact⟨hM2.c3 hmv,hE2.o2.2.2.2.1⟩ | exact⟨e1,e4⟩));clear hK K;(try simp only[nSO]))
 iterate 5 ((first | refine aJ ?_ | refine np_q ?_);(try simp only[nSO]))
 refine np_z ?_
 have e02:=hE2.kd
 have e2:=hE2.o2.1
 have c2:=hM2.cs.2.2.1
 go_wp2
 refine aP (S:=fun W=>W.cell? ⟨b,2,none⟩=some (.string M.text)∧W.cell? ⟨w.heap.size,2,none⟩=some (.int .i64 o.at_)) ?_ (fun hHeld => ?_)
 ·exact⟨c2,e2⟩
 iterate 8 ((first | refine aJ ?_ | refine np_q ?_ | refine aL 0 ?_);(try simp only[nSO]))
 refine np_z ?_
 have hE3:=hE2.drew.drew
 have hM3:=(hM2.below (Below.refl _ _).drew).below (Below.refl _ _).drew
 go_wp2
 refine aP (S:=fun W=>W.cell? ⟨b,2,none⟩=some (.string M.text)∧W.cell? ⟨w.heap.size,2,none⟩=some (.int .i64 o.at_)) ?_ (fun hHeld => ?_)
 ·exact⟨c2,e2⟩
 iterate 6 ((first | refine aJ ?_ | refine np_q ?_ | refine aL 0 ?_);(try simp only[nSO]))
 first | (refine np_s 6 ?_;(try simp only[nSO])) | (refine np_c 6 (fun K hK => ?_);go_simp;((go_at_call 228;refine (hbo _).mono ?_;rintro e w3 ⟨rfl,rfl⟩));(try go_wp2_with fail);refine hK.out _ _ ?_ (fun hHeld => ?_);(· (exact⟨c2,e2⟩));clear hK K;(try simp only[nSO]))
 (first | refine aJ ?_ | refine np_q ?_);(try simp only[nSO])
 refine np_z ?_
 have e5:=hE3.o2
 have c33:=hM3.c3 hmv
 go_wp2
 refine aP (S:=fun W=>W.cell? ⟨b,3,none⟩=some (.slice ao M.marks.length cp)∧W.cell? ⟨w.heap.size,4,none⟩=some (.int .u32 o.id)∧W.cell? ⟨w.heap.size,2,none⟩=some (.int .i64 o.at_)∧W.cell? ⟨w.heap.size,5,none⟩=some (.int .u8 o.grav)) ?_ (fun hHeld => ?_)
 ·first | exact⟨hM4.c3 hmv,hE4.o2.2.2.2.1,hE4.o2.1,hE4.o2.2.2.2.2⟩ | exact⟨c33,e5.2.2.2.1,e5.1,e5.2.2.2.2⟩
 iterate 11 ((first | refine aJ ?_ | refine np_q ?_ | refine aL 0 ?_);(try simp only[nSO]))
 first | (refine np_s 11 ?_;(try simp only[nSO])) | (refine np_c 11 (fun K hK => ?_);go_simp;((go_at_call 233;refine (HSET.out _ (hrow.on hE3.drew.bl)).mono ?_;rintro e w4 ⟨rfl,hb4⟩;have hE4:=hE3.drew.on hb4;have hM4:=(hM3.below (Below.refl _ _).drew).below hb4));(try go_wp2_with fail);refine hK.out _ _ ?_ (fun hHeld => ?_);(· (first | exact⟨hM4.c3 hmv,hE4.o2.2.2.2.1,hE4.o2.1,hE4.o2.2.2.2.2⟩ | exact⟨c33,e5.2.2.2.1,e5.1,e5.2.2.2.2⟩));clear hK K;(try simp only[nSO]))
 iterate 5 ((first | refine aJ ?_ | refine np_q ?_);(try simp only[nSO]))
 refine np_z ?_
 go_wp2_with (go_at_call 181;refine (bG _ _).mono ?_;rintro e v7 ⟨rfl,hb7⟩;have hE7:=hE4.on hb7;have hst:=aK hE7.res rfl)
 refine⟨rfl,_,results_cell_row rfl _ _ _ _ _ _ _ rfl (setRow_heap _ _ _ _ _ _ hE7.res) Tryz.underlying51 rfl (by kernel_rfl),rfl,M,(hM4.below hb7).row hE7.res _,rfl,(aF.of_below hE7.bl).row hrB _,fun k hk => .inl hk⟩
end Go.Proofs.YtdeiocppghhfdaaGreat
