/- Texts, one behind another. -/
import Derived.Test.YtdeiocppghhfdaaGreatZdar
import Derived.Test.YtdeiocppghhfdaaGreatZdat
set_option linter.unusedVariables false
set_option linter.unusedSimpArgs false
set_option maxRecDepth 100000
set_option maxHeartbeats 8000000
namespace Go.Proofs.YtdeiocppghhfdaaGreat
open Go.RowKit Go.Lib Go.Shelf
def mdC (t:ByteArray) (v:Value) (n:Int) (c:Bool) (r:Int) (s:Value):List Value:=[.string t,v,.int .i64 n,.bool c,.int .i64 r,s]
theorem mdF (t:ByteArray) (v:Value) (n:Int) (c:Bool) (r:Int) (s:Value):Value.agg #[.string t,v,.int .i64 n,.bool c,.int .i64 r,s] = .agg (mdC t v n c r s).toArray:=rfl
theorem yR (t:ByteArray) (v:Value) (n:Int) (c:Bool) (r:Int) (s:Value):(mdC t v n c r s).length=6:=rfl
theorem aDm (t:ByteArray) (v:Value) (n:Int) (c:Bool) (r:Int) (s:Value):mdC t v n c r s≠[]:=by simp[mdC]
attribute [local go_sem, local simp] resF aJ iP mdF yR aDm
theorem kY (W:World) (R:ResV):∃ W4,(storeCells ⟨W.heap.size,0,none⟩ (resL R)).run Tryz.prog (W.alloc (.cells (resL {}).toArray 51)) = .ok () W4∧W4.heap[W.heap.size]? = some (.cells (resL R).toArray 51 (0,0))∧Below W.heap.size W W4:=by
 have hz:=heap_alloc_new W (.cells (resL {}).toArray 51)
 exact⟨_,eX hz rfl R,setRow_heap _ _ _ _ _ _ hz,iE ((Below.refl _ W).alloc (Nat.le_refl _) _) (Nat.le_refl _) _⟩
theorem iW {W:World} {k:Nat} {T:TypeId} {u0 u1 u2 u3 u4 u5 u6 u7 u8 u9 u10 u11 u12:Value} (h:W.heap[k]? = some (.cells #[u0,u1,u2,u3,u4,u5,u6,u7,u8,u9,u10,u11,u12] T (0,0))):W.cell? ⟨k,0,none⟩=some u0∧W.cell? ⟨k,1,none⟩=some u1∧W.cell? ⟨k,2,none⟩=some u2∧W.cell? ⟨k,3,none⟩=some u3∧W.cell? ⟨k,4,none⟩=some u4∧W.cell? ⟨k,5,none⟩=some u5∧W.cell? ⟨k,6,none⟩=some u6∧W.cell? ⟨k,7,none⟩=some u7∧W.cell? ⟨k,8,none⟩=some u8∧W.cell? ⟨k,9,none⟩=some u9∧W.cell? ⟨k,10,none⟩=some u10∧W.cell? ⟨k,11,none⟩=some u11∧W.cell? ⟨k,12,none⟩=some u12:=by
 refine⟨?_,?_,?_,?_,?_,?_,?_,?_,?_,?_,?_,?_,?_⟩<;>simp[World.cell?,h]
theorem blk7 {W:World} {k:Nat} {T:TypeId} {u0 u1 u2 u3 u4 u5 u6:Value} (h:W.heap[k]? = some (.cells #[u0,u1,u2,u3,u4,u5,u6] T (0,0))):W.cell? ⟨k,0,none⟩=some u0∧W.cell? ⟨k,1,none⟩=some u1∧W.cell? ⟨k,2,none⟩=some u2∧W.cell? ⟨k,3,none⟩=some u3∧W.cell? ⟨k,4,none⟩=some u4∧W.cell? ⟨k,5,none⟩=some u5∧W.cell? ⟨k,6,none⟩=some u6:=by
 refine⟨?_,?_,?_,?_,?_,?_,?_⟩<;>simp[World.cell?,h]
theorem MdAt.c4 {W:World} {b:Nat} {M:MM} (h:MdAt W b M):W.cell? ⟨b,4,none⟩=some (.int .i64 M.readers):=by simp[World.cell?,h.blk,mdL]
theorem MdAt.take {W:World} {b b2:Nat} {M N:MM} (h:MdAt W b M) (h2:MdAt W b2 N) {av asn:Option Addr} {cv cs:Nat} (hm:N.mv = .slice av N.marks.length cv) (hs:N.sv = .slice asn N.seats.length cs) :
  (storeCells ⟨b,0,none⟩ (mdC N.text (.slice av N.marks.length cv) N.number N.closed N.readers (.slice asn N.seats.length cs))).run Tryz.prog W = .ok () (W.setRow b (mdC N.text (.slice av N.marks.length cv) N.number N.closed N.readers (.slice asn N.seats.length cs)).toArray) ∧
  MdAt (W.setRow b (mdC N.text (.slice av N.marks.length cv) N.number N.closed N.readers (.slice asn N.seats.length cs)).toArray) b N:=by
 have e:mdC N.text (.slice av N.marks.length cv) N.number N.closed N.readers (.slice asn N.seats.length cs)=mdL N:=by unfold mdC mdL;rw[hm,hs]
 refine⟨zY h.blk rfl _ rfl (by simp[mdC,Value.oneCell']),?_⟩
 rw[e]
 have hk:∀ k,k<W.heap.size→k≠b→(W.setRow b (mdL N).toArray).heap[k]? = W.heap[k]? := fun k _ hk=>setRow_other _ _ _ _ hk
 exact⟨setRow_heap _ _ _ _ _ _ h.blk,dA h2.marks h.blk (by decide) hk,dA h2.seats h.blk (by decide) hk,fun S hS=>dA (h2.slots S hS) h.blk (by decide) hk,fun S hS x hx=>dA (h2.smarks S hS x hx) h.blk (by decide) hk,h2.some_,h2.nodup⟩
structure ItV where
 k:Int:=0
 f:Int:=0
 t:Int:=0
 da:Option Addr:=none
 dn:Nat:=0
 dc:Nat:=0
def gY (r:ResV) (i:ItV) (s:ResV):Bool:=decide (i.dn=0) && (r.err == s.err) && (r.rev == s.rev) && (r.slot == s.slot) && (r.at_ == s.at_) && (r.grav == s.grav) && (r.text.toList == s.text.toList) && (r.m1 == s.m1 && r.m2 == s.m2 && r.m3 == s.m3) && (i.k == 0) && (i.f == 0) && (i.t == 0)
theorem jK (r s:ResV) (i:ItV) (w:World) (hn:i.dn≤maxLen):Calls Tryz.prog 103 #[.agg #[.int .i64 r.err,.int .i64 r.rev,.int .i64 r.slot,.int .i64 r.at_,.int .u8 r.grav,.string r.text,.int .i64 r.m1,.int .i64 r.m2,.int .i64 r.m3,.int .u8 i.k,.int .i64 i.f,.int .i64 i.t,.slice i.da i.dn i.dc],.agg (resL s).toArray] w fun e w'=>e = .returned (.bool (gY r i s))∧Below w.heap.size w w':=aE7 r s i.k i.f i.t i.da i.dn i.dc w hn
theorem aAi (r s:ResV) (w:World):Calls Tryz.prog 103 #[.agg (resL r).toArray,.agg (resL s).toArray] w fun e w'=>e = .returned (.bool (gY r {} s))∧Below w.heap.size w w':=aE7 r s 0 0 0 none 0 0 w (Nat.zero_le _)
def accB (st:MS) (c:Int) (q:OpV) (r:ResV) (i:ItV):Bool :=
 if iG st c q≠0 then false
 else if q.kind=15 then ((doS st c q).1.err == 17) && gY r {} {} && (i.k == 1 || i.k == 2)
 else if q.kind=1∨q.kind=2 then (gY r i (fA 6) && ((doS st c q).1.err == 0)) || (gY r i (fA 14) && !((doS st c q).1.err == 13))
 else if q.kind=3∨q.kind=4 then gY r i (fA 14) && !((doS st c q).1.err == 13)
 else false
def accS (st:MS) (c:Int) (q:OpV) (r:ResV) (i:ItV):Bool × MS:=if gY r i (doS st c q).1 then (true,(doS st c q).2) else (accB st c q r i,st)
def lD (b:Nat) (w:World) (R:Bool × MS) (M:MM) (e:Ending) (w':World):Prop:=e = .returned (.bool R.1)∧∃ M',MdAt w' b M'∧M'.st=R.2∧aC (M.fp b) w w'∧(∀ k,M'.fp b k→M.fp b k∨w.heap.size≤k)
theorem aFt (b:Nat) (c:Int) (M:MM) (q:OpV) (r:ResV) (i:ItV) (w:World) (h:MdAt w b M) (hok:MSok M.st 100000) (hi:OpIn q) (hin:i.dn≤maxLen) (hS:gY r i (doS M.st c q).1=true) :
  Calls Tryz.prog 53 #[.pointer (some ⟨b,0,none⟩),.int .i64 c,.agg #[.int .u8 q.kind,.int .i64 q.slot,.int .i64 q.at_,.int .i64 q.n,.int .u32 q.id,.int .u8 q.grav,.string q.text],.agg #[.int .i64 r.err,.int .i64 r.rev,.int .i64 r.slot,.int .i64 r.at_,.int .u8 r.grav,.string r.text,.int .i64 r.m1,.int .i64 r.m2,.int .i64 r.m3,.int .u8 i.k,.int .i64 i.f,.int .i64 i.t,.slice i.da i.dn i.dc]] w (lD b w (accS M.st c q r i) M):=by
 have hB0:=((Below.refl w.heap.size w).alloc (Nat.le_refl _) (.cells #[.int .u8 q.kind,.int .i64 q.slot,.int .i64 q.at_,.int .i64 q.n,.int .u32 q.id,.int .u8 q.grav,.string q.text] 54)).alloc (by simp) (.cells #[.int .i64 r.err,.int .i64 r.rev,.int .i64 r.slot,.int .i64 r.at_,.int .u8 r.grav,.string r.text,.int .i64 r.m1,.int .i64 r.m2,.int .i64 r.m3,.int .u8 i.k,.int .i64 i.f,.int .i64 i.t,.slice i.da i.dn i.dc] 51)
 have hq0:=(heap_alloc_old (w.alloc (.cells #[.int .u8 q.kind,.int .i64 q.slot,.int .i64 q.at_,.int .i64 q.n,.int .u32 q.id,.int .u8 q.grav,.string q.text] 54)) (.cells #[.int .i64 r.err,.int .i64 r.rev,.int .i64 r.slot,.int .i64 r.at_,.int .u8 r.grav,.string r.text,.int .i64 r.m1,.int .i64 r.m2,.int .i64 r.m3,.int .u8 i.k,.int .i64 i.f,.int .i64 i.t,.slice i.da i.dn i.dc] 51) (show w.heap.size<_ by simp)).trans (heap_alloc_new w _)
 have hr0:=heap_alloc_new (w.alloc (.cells #[.int .u8 q.kind,.int .i64 q.slot,.int .i64 q.at_,.int .i64 q.n,.int .u32 q.id,.int .u8 q.grav,.string q.text] 54)) (.cells #[.int .i64 r.err,.int .i64 r.rev,.int .i64 r.slot,.int .i64 r.at_,.int .u8 r.grav,.string r.text,.int .i64 r.m1,.int .i64 r.m2,.int .i64 r.m3,.int .u8 i.k,.int .i64 i.f,.int .i64 i.t,.slice i.da i.dn i.dc] 51)
 rw[World.size_alloc] at hr0
 have HOK:=Lib.hid hok
 clear hok
 have hM0:=h.below hB0
 obtain⟨R,hR⟩:∃ R,doS M.st c q=R:=⟨_,rfl⟩
 have hcl:M.seats.length≤8:=by have:=HOK.out.clients;have h2:M.st.seats.length=M.seats.length:=List.length_map ..;omega
 rw[hR] at hS
 have hA:accS M.st c q r i=(true,R.2):=by unfold accS;rw[hR,if_pos hS]
 rw[hA]
 go_enter Tryz.func53,Tryz.ntmps53
 go_wp2_with (first | (go_at_call 102;refine (kX b M _ 100000 hM0 HOK.out).mono ?_;rintro e w2 ⟨b2,M2,rfl,hM2,hst2,hb2,hf2⟩;have hq2:=(hb2.block _ (by simp;omega)).trans hq0;have hr2:=(hb2.block _ (by simp)).trans hr0;have hB2:=hB0.trans (hb2.mono (by simp;omega));have hf2':∀ k,M2.fp b2 k→w.heap.size+1+1≤k:=(fun k hk=>by have:=hf2 k hk;simpa using this);obtain⟨y0,y1,y2,y3,y4,y5,y6⟩:=blk7 hq2;have hdo:=pI b2 c M2 q _ hM2 (by rw[hst2];exact HOK.out) hi;rw[hst2,hR] at hdo;clear hf2 hb2) | (go_at_call 50;refine hdo.mono ?_;rintro e w3 ⟨rfl,M3,hM3,hst3,hk3,hf3⟩;have hq3:=(hk3.block _ (Array.getElem?_eq_some_iff.1 hq2).1 (fun hk=>absurd (hf2' _ hk) (by omega))).trans hq2;have hr3:=(hk3.block _ (Array.getElem?_eq_some_iff.1 hr2).1 (fun hk=>absurd (hf2' _ hk) (by omega))).trans hr2;have hB3:Below w.heap.size w w3:=⟨hk3.os.trans hB2.os,hk3.tape.trans hB2.tape,hk3.output.trans hB2.output,Nat.le_trans hB2.size hk3.size,fun k hk=>(hk3.block k (by have:=hB2.size;omega) (fun hf=>absurd (hf2' _ hf) (by omega))).trans (hB2.block k hk)⟩;obtain⟨W4,hs4,hw4,hb4⟩:=kY w3 R.1;have hB4:=hB3.trans (hb4.mono hB3.size);have hq4:=(hb4.block _ (Array.getElem?_eq_some_iff.1 hq3).1).trans hq3;have hr4:=(hb4.block _ (Array.getElem?_eq_some_iff.1 hr3).1).trans hr3;obtain⟨a0,a1,a2,a3,a4,a5,a6,a7,a8,a9,a10,a11,a12⟩:=iW hr4;obtain⟨d0,d1,d2,d3,d4,d5,d6,d7,d8,d9,d10,d11,d12⟩:=iW hw4;have hf3':∀ k,M3.fp b2 k→w.heap.size≤k:=(fun k hk=>(hf3 k hk).elim (fun h=>by have:=hf2' k h;omega) (fun h=>by have:=hB2.size;omega));clear y0 y1 y2 y3 y4 y5 y6 hdo) | (go_at_call 103;refine (jK r R.1 i _ hin).mono ?_;rw[hS];rintro e w5 ⟨rfl,hb5⟩;have hB5:=hB4.trans (hb5.mono hB4.size);clear a0 a1 a2 a3 a4 a5 a6 a7 a8 a9 a10 a11 a12 d0 d1 d2 d3 d4 d5 d6 d7 d8 d9 d10 d11 d12;have hM5:=h.below hB5;have hN5:=(hM3.below hb4).below hb5;obtain⟨av,cv,hmv⟩:=aF hN5.marks;obtain⟨ag,cg,hsv⟩:=aF hN5.seats;have g0:=hN5.c0;have g1:=hN5.c1 hmv;have g2:=hN5.c2;have g3:=hN5.c3;have g4:=hN5.c4;have g5:=hN5.c5 hsv;obtain⟨hst6,hM6⟩:=hM5.take hN5 hmv hsv))
 go_returns
 exact⟨rfl,M3,hM6,hst3,(aC.of_below hB5).trans (aC.mono (F:=fun k=>k=b) ⟨rfl,rfl,rfl,by rw[setRow_size];exact Nat.le_refl _,fun k _ hk=>setRow_other _ _ _ _ hk⟩ (fun k hk => .inl hk)),fun k hk=>hk.elim (fun e => .inl (.inl e)) (fun e => .inr (hf3' k (.inr e)))⟩
theorem aFu (b:Nat) (c:Int) (M:MM) (q:OpV) (r:ResV) (i:ItV) (w:World) (h:MdAt w b M) (hok:MSok M.st 100000) (hi:OpIn q) (hin:i.dn≤maxLen) (hS:gY r i (doS M.st c q).1=false) (hz0:iG M.st c q≠0) :
  Calls Tryz.prog 53 #[.pointer (some ⟨b,0,none⟩),.int .i64 c,.agg #[.int .u8 q.kind,.int .i64 q.slot,.int .i64 q.at_,.int .i64 q.n,.int .u32 q.id,.int .u8 q.grav,.string q.text],.agg #[.int .i64 r.err,.int .i64 r.rev,.int .i64 r.slot,.int .i64 r.at_,.int .u8 r.grav,.string r.text,.int .i64 r.m1,.int .i64 r.m2,.int .i64 r.m3,.int .u8 i.k,.int .i64 i.f,.int .i64 i.t,.slice i.da i.dn i.dc]] w (lD b w (accS M.st c q r i) M):=by
 have hB0:=((Below.refl w.heap.size w).alloc (Nat.le_refl _) (.cells #[.int .u8 q.kind,.int .i64 q.slot,.int .i64 q.at_,.int .i64 q.n,.int .u32 q.id,.int .u8 q.grav,.string q.text] 54)).alloc (by simp) (.cells #[.int .i64 r.err,.int .i64 r.rev,.int .i64 r.slot,.int .i64 r.at_,.int .u8 r.grav,.string r.text,.int .i64 r.m1,.int .i64 r.m2,.int .i64 r.m3,.int .u8 i.k,.int .i64 i.f,.int .i64 i.t,.slice i.da i.dn i.dc] 51)
 have hq0:=(heap_alloc_old (w.alloc (.cells #[.int .u8 q.kind,.int .i64 q.slot,.int .i64 q.at_,.int .i64 q.n,.int .u32 q.id,.int .u8 q.grav,.string q.text] 54)) (.cells #[.int .i64 r.err,.int .i64 r.rev,.int .i64 r.slot,.int .i64 r.at_,.int .u8 r.grav,.string r.text,.int .i64 r.m1,.int .i64 r.m2,.int .i64 r.m3,.int .u8 i.k,.int .i64 i.f,.int .i64 i.t,.slice i.da i.dn i.dc] 51) (show w.heap.size<_ by simp)).trans (heap_alloc_new w _)
 have hr0:=heap_alloc_new (w.alloc (.cells #[.int .u8 q.kind,.int .i64 q.slot,.int .i64 q.at_,.int .i64 q.n,.int .u32 q.id,.int .u8 q.grav,.string q.text] 54)) (.cells #[.int .i64 r.err,.int .i64 r.rev,.int .i64 r.slot,.int .i64 r.at_,.int .u8 r.grav,.string r.text,.int .i64 r.m1,.int .i64 r.m2,.int .i64 r.m3,.int .u8 i.k,.int .i64 i.f,.int .i64 i.t,.slice i.da i.dn i.dc] 51)
 rw[World.size_alloc] at hr0
 have HOK:=Lib.hid hok
 clear hok
 have hM0:=h.below hB0
 obtain⟨R,hR⟩:∃ R,doS M.st c q=R:=⟨_,rfl⟩
 have hcl:M.seats.length≤8:=by have:=HOK.out.clients;have h2:M.st.seats.length=M.seats.length:=List.length_map ..;omega
 rw[hR] at hS
 have hA:accS M.st c q r i=(false,M.st):=by unfold accS accB;rw[hR,if_neg (by simp[hS]),if_pos hz0]
 rw[hA]
 obtain⟨E,hz⟩:∃ E,iG M.st c q=E:=⟨_,rfl⟩
 rw[hz] at hz0
 have hd:(E == 0)=false:=by simpa using hz0
 clear hA
 go_enter Tryz.func53,Tryz.ntmps53
 go_wp2_with (first | (go_at_call 102;refine (kX b M _ 100000 hM0 HOK.out).mono ?_;rintro e w2 ⟨b2,M2,rfl,hM2,hst2,hb2,hf2⟩;have hq2:=(hb2.block _ (by simp;omega)).trans hq0;have hr2:=(hb2.block _ (by simp)).trans hr0;have hB2:=hB0.trans (hb2.mono (by simp;omega));have hf2':∀ k,M2.fp b2 k→w.heap.size+1+1≤k:=(fun k hk=>by have:=hf2 k hk;simpa using this);obtain⟨y0,y1,y2,y3,y4,y5,y6⟩:=blk7 hq2;have hdo:=pI b2 c M2 q _ hM2 (by rw[hst2];exact HOK.out) hi;rw[hst2,hR] at hdo;clear hf2 hb2) | (go_at_call 50;refine hdo.mono ?_;rintro e w3 ⟨rfl,M3,hM3,hst3,hk3,hf3⟩;have hq3:=(hk3.block _ (Array.getElem?_eq_some_iff.1 hq2).1 (fun hk=>absurd (hf2' _ hk) (by omega))).trans hq2;have hr3:=(hk3.block _ (Array.getElem?_eq_some_iff.1 hr2).1 (fun hk=>absurd (hf2' _ hk) (by omega))).trans hr2;have hB3:Below w.heap.size w w3:=⟨hk3.os.trans hB2.os,hk3.tape.trans hB2.tape,hk3.output.trans hB2.output,Nat.le_trans hB2.size hk3.size,fun k hk=>(hk3.block k (by have:=hB2.size;omega) (fun hf=>absurd (hf2' _ hf) (by omega))).trans (hB2.block k hk)⟩;obtain⟨W4,hs4,hw4,hb4⟩:=kY w3 R.1;have hB4:=hB3.trans (hb4.mono hB3.size);have hq4:=(hb4.block _ (Array.getElem?_eq_some_iff.1 hq3).1).trans hq3;have hr4:=(hb4.block _ (Array.getElem?_eq_some_iff.1 hr3).1).trans hr3;obtain⟨a0,a1,a2,a3,a4,a5,a6,a7,a8,a9,a10,a11,a12⟩:=iW hr4;obtain⟨d0,d1,d2,d3,d4,d5,d6,d7,d8,d9,d10,d11,d12⟩:=iW hw4;have hf3':∀ k,M3.fp b2 k→w.heap.size≤k:=(fun k hk=>(hf3 k hk).elim (fun h=>by have:=hf2' k h;omega) (fun h=>by have:=hB2.size;omega));clear y0 y1 y2 y3 y4 y5 y6 hdo) | (go_at_call 103;refine (jK r R.1 i _ hin).mono ?_;rw[hS];rintro e w5 ⟨rfl,hb5⟩;have hB5:=hB4.trans (hb5.mono hB4.size);clear a0 a1 a2 a3 a4 a5 a6 a7 a8 a9 a10 a11 a12 d0 d1 d2 d3 d4 d5 d6 d7 d8 d9 d10 d11 d12;have hq5:=(hb5.block _ (Array.getElem?_eq_some_iff.1 hq4).1).trans hq4;have hr5:=(hb5.block _ (Array.getElem?_eq_some_iff.1 hr4).1).trans hr4;have hw5:=(hb5.block _ (Array.getElem?_eq_some_iff.1 hw4).1).trans hw4;have hM5:=h.below hB5;obtain⟨y0,y1,y2,y3,y4,y5,y6⟩:=blk7 hq5;have hsta:=jI b M c q w5 hM5 hi hcl;rw[hz] at hsta;clear hb4 hs4 hb5 hk3 hM3 hf3 hf3' hf2') | (go_at_call 100;refine hsta.mono ?_;rintro e w6 ⟨rfl,hb6⟩;have hB6:=hB5.trans (hb6.mono hB5.size);have hq6:=(hb6.block _ (Array.getElem?_eq_some_iff.1 hq5).1).trans hq5;have hr6:=(hb6.block _ (Array.getElem?_eq_some_iff.1 hr5).1).trans hr5;have hw6:=(hb6.block _ (Array.getElem?_eq_some_iff.1 hw5).1).trans hw5;have k6:=(blk7 hq6).1;clear y0 y1 y2 y3 y4 y5 y6 hsta))
 go_returns
 exact⟨rfl,M,h.below hB6,rfl,aC.of_below hB6,fun k hk => .inl hk⟩
end Go.Proofs.YtdeiocppghhfdaaGreat
namespace Go.Proofs.YtdeiocppghhfdaaGreat
theorem aI6 {v lo hi:Int} (h:inB v lo hi=true):lo≤v∧v≤hi:=by simpa [inB] using h
theorem aQh {c:CfgV} (h:cfgE c=0):(0≤c.clients∧c.clients≤8)∧(0≤c.readers∧c.readers≤8)∧c.text.size≤65536∧eT c.text.data.toList=true:=by
 unfold cfgE at h
 split at h
 ·rename_i hb
  unfold cfgB at hb
  simp only[Bool.and_eq_true] at hb
  obtain⟨⟨⟨⟨⟨⟨_,_⟩,h1⟩,h2⟩,_⟩,_⟩,_⟩:=hb
  split at h
  ·simp at h
  ·split at h
   ·rename_i h3 h4;exact⟨aI6 h1,aI6 h2,by omega,h4⟩
   ·simp at h
 ·simp at h
theorem aDn {c:CfgV} (h:cfgE c=0):MSok (newS c) 0:=by
 obtain⟨h1,h2,h3,h4⟩:=aQh h
 refine⟨h3,h4,⟨by simp[newS],List.Pairwise.nil,fun m hm=>by simp[newS] at hm⟩,fun m hm=>by simp[newS] at hm,Int.le_refl _,Int.le_refl _,by show c.readers.toNat≤8;omega,by show (List.replicate _ _).length≤8;rw[List.length_replicate];omega,fun s hs => ?_⟩
 obtain⟨_,rfl⟩:=List.mem_replicate.1 hs
 refine⟨List.length_replicate ..,fun x hx => ?_⟩
 obtain⟨_,rfl⟩:=List.mem_replicate.1 hx
 exact aB3
theorem aAj {st:MS} {c:Nat} {s:SeV} (h:c<st.seats.length):(st.put c s).seat c=s:=by
 unfold MS.put MS.seat;rw[List.getD_eq_getElem?_getD,List.getElem?_set_self h,Option.getD_some]
end Go.Proofs.YtdeiocppghhfdaaGreat
namespace Go.Proofs.YtdeiocppghhfdaaGreat
open Go.Lib
theorem aFv {r s:ResV} {i:ItV} (h:gY r i s=true):r=s∧i.dn=0∧i.k=0∧i.f=0∧i.t=0:=by
 unfold gY at h
 simp only[Bool.and_eq_true,decide_eq_true_eq,beq_iff_eq] at h
 obtain⟨⟨⟨⟨⟨⟨⟨⟨⟨⟨h0,h1⟩,h2⟩,h3⟩,h4⟩,h5⟩,h6⟩,⟨h7,h8⟩,h9⟩,h10⟩,h11⟩,h12⟩:=h
 refine⟨?_,h0,h10,h11,h12⟩
 have ht:r.text=s.text:=by
  rw[toList_data,toList_data] at h6
  exact ByteArray.ext (Array.toList_inj.1 h6)
 cases r;cases s
 simp_all
end Go.Proofs.YtdeiocppghhfdaaGreat
