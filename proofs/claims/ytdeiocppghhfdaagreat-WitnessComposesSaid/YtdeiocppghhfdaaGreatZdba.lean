/- Texts, one behind another. -/
import Derived.Test.YtdeiocppghhfdaaGreatZdaz
set_option linter.unusedVariables false
set_option linter.unusedSimpArgs false
set_option maxRecDepth 100000
set_option maxHeartbeats 8000000
namespace Go.Proofs.YtdeiocppghhfdaaGreat
open Go.RowKit Go.Lib Go.Shelf
attribute [local go_sem, local simp] resF aJ iP mdF yR aDm
theorem aDp (b:Nat) (c:Int) (M:MM) (q:OpV) (r:ResV) (i:ItV) (w:World) (h:MdAt w b M) (hok:MSok M.st 100000) (hi:OpIn q) (hin:i.dn≤maxLen) (hS:gY r i (doS M.st c q).1=false) (hz:iG M.st c q=0) (hk:q.kind=15) (hv0:((doS M.st c q).1.err == 17)=false) :
  Calls Tryz.prog 53 #[.pointer (some ⟨b,0,none⟩),.int .i64 c,.agg #[.int .u8 q.kind,.int .i64 q.slot,.int .i64 q.at_,.int .i64 q.n,.int .u32 q.id,.int .u8 q.grav,.string q.text],.agg #[.int .i64 r.err,.int .i64 r.rev,.int .i64 r.slot,.int .i64 r.at_,.int .u8 r.grav,.string r.text,.int .i64 r.m1,.int .i64 r.m2,.int .i64 r.m3,.int .u8 i.k,.int .i64 i.f,.int .i64 i.t,.slice i.da i.dn i.dc]] w (lD b w (accS M.st c q r i) M):=by
 have hB0:=((Below.refl w.heap.size w).alloc (Nat.le_refl _) (.cells #[.int .u8 q.kind,.int .i64 q.slot,.int .i64 q.at_,.int .i64 q.n,.int .u32 q.id,.int .u8 q.grav,.string q.text] 54)).alloc (by simp) (.cells #[.int .i64 r.err,.int .i64 r.rev,.int .i64 r.slot,.int .i64 r.at_,.int .u8 r.grav,.string r.text,.int .i64 r.m1,.int .i64 r.m2,.int .i64 r.m3,.int .u8 i.k,.int .i64 i.f,.int .i64 i.t,.slice i.da i.dn i.dc] 51)
 have hq0:=(heap_alloc_old (w.alloc (.cells #[.int .u8 q.kind,.int .i64 q.slot,.int .i64 q.at_,.int .i64 q.n,.int .u32 q.id,.int .u8 q.grav,.string q.text] 54)) (.cells #[.int .i64 r.err,.int .i64 r.rev,.int .i64 r.slot,.int .i64 r.at_,.int .u8 r.grav,.string r.text,.int .i64 r.m1,.int .i64 r.m2,.int .i64 r.m3,.int .u8 i.k,.int .i64 i.f,.int .i64 i.t,.slice i.da i.dn i.dc] 51) (show w.heap.size<_ by simp)).trans (heap_alloc_new w _)
 have hr0:=heap_alloc_new (w.alloc (.cells #[.int .u8 q.kind,.int .i64 q.slot,.int .i64 q.at_,.int .i64 q.n,.int .u32 q.id,.int .u8 q.grav,.string q.text] 54)) (.cells #[.int .i64 r.err,.int .i64 r.rev,.int .i64 r.slot,.int .i64 r.at_,.int .u8 r.grav,.string r.text,.int .i64 r.m1,.int .i64 r.m2,.int .i64 r.m3,.int .u8 i.k,.int .i64 i.f,.int .i64 i.t,.slice i.da i.dn i.dc] 51)
 rw[World.size_alloc] at hr0
 have HOK:=Lib.hid hok
 clear hok
 have hM0:=h.below hB0
 obtain⟨R,hR⟩:∃ R,doS M.st c q=R:=⟨_,rfl⟩
 have hcl:M.seats.length≤8:=by have:=HOK.out.clients;have h2:M.st.seats.length=M.seats.length:=List.length_map ..;omega
 rw[hR] at hS
 have hA:accS M.st c q r i=((R.1.err == 17) && gY r {} {} && (i.k == 1 || i.k == 2),M.st):=by unfold accS accB;rw[hR,if_neg (by simp[hS]),if_neg (by simpa using hz),if_pos hk]
 rw[hA]
 have t15:(q.kind == 15)=true:=by simp[hk]
 clear hA hk
 obtain⟨s0,h0⟩:∃ x,gY r {} {}=x:=⟨_,rfl⟩
 rw[h0]
 rw[hR] at hv0
 obtain⟨e17,he17⟩:∃ x,(R.1.err == 17)=x:=⟨_,rfl⟩
 obtain⟨k1,hk1⟩:∃ x,(i.k == 1)=x:=⟨_,rfl⟩
 obtain⟨k2,hk2⟩:∃ x,(i.k == 2)=x:=⟨_,rfl⟩
 rw[he17,hk1,hk2]
 obtain rfl:e17=false:=by rw[← he17];exact hv0
 go_enter Tryz.func53,Tryz.ntmps53
 go_wp2_with (first | (go_at_call 102;refine (kX b M _ 100000 hM0 HOK.out).mono ?_;rintro e w2 ⟨b2,M2,rfl,hM2,hst2,hb2,hf2⟩;have hq2:=(hb2.block _ (by simp;omega)).trans hq0;have hr2:=(hb2.block _ (by simp)).trans hr0;have hB2:=hB0.trans (hb2.mono (by simp;omega));have hf2':∀ k,M2.fp b2 k→w.heap.size+1+1≤k:=(fun k hk=>by have:=hf2 k hk;simpa using this);obtain⟨y0,y1,y2,y3,y4,y5,y6⟩:=blk7 hq2;have hdo:=pI b2 c M2 q _ hM2 (by rw[hst2];exact HOK.out) hi;rw[hst2,hR] at hdo;clear hf2 hb2) | (go_at_call 50;refine hdo.mono ?_;rintro e w3 ⟨rfl,M3,hM3,hst3,hk3,hf3⟩;have hq3:=(hk3.block _ (Array.getElem?_eq_some_iff.1 hq2).1 (fun hk=>absurd (hf2' _ hk) (by omega))).trans hq2;have hr3:=(hk3.block _ (Array.getElem?_eq_some_iff.1 hr2).1 (fun hk=>absurd (hf2' _ hk) (by omega))).trans hr2;have hB3:Below w.heap.size w w3:=⟨hk3.os.trans hB2.os,hk3.tape.trans hB2.tape,hk3.output.trans hB2.output,Nat.le_trans hB2.size hk3.size,fun k hk=>(hk3.block k (by have:=hB2.size;omega) (fun hf=>absurd (hf2' _ hf) (by omega))).trans (hB2.block k hk)⟩;obtain⟨W4,hs4,hw4,hb4⟩:=kY w3 R.1;have hB4:=hB3.trans (hb4.mono hB3.size);have hq4:=(hb4.block _ (Array.getElem?_eq_some_iff.1 hq3).1).trans hq3;have hr4:=(hb4.block _ (Array.getElem?_eq_some_iff.1 hr3).1).trans hr3;obtain⟨a0,a1,a2,a3,a4,a5,a6,a7,a8,a9,a10,a11,a12⟩:=iW hr4;obtain⟨d0,d1,d2,d3,d4,d5,d6,d7,d8,d9,d10,d11,d12⟩:=iW hw4;have hf3':∀ k,M3.fp b2 k→w.heap.size≤k:=(fun k hk=>(hf3 k hk).elim (fun h=>by have:=hf2' k h;omega) (fun h=>by have:=hB2.size;omega));clear y0 y1 y2 y3 y4 y5 y6 hdo) | (go_at_call 103;have hs9:=g9;refine (aAi r {} _).mono ?_;rw[h0];rintro e w9 ⟨rfl,hb9⟩;have hB9:=(hB6.alloc hB6.size _).trans (hb9.mono (by rw[World.size_alloc];have:=hB6.size;omega));replace g9:=(hb9.cell (p:=⟨w.heap.size+1,9,none⟩) (by rw[World.size_alloc];have:=(Array.getElem?_eq_some_iff.1 hr6).1;show w.heap.size+1<_;omega)).trans (g9 _)) | (go_at_call 103;refine (jK r R.1 i _ hin).mono ?_;rw[hS];rintro e w5 ⟨rfl,hb5⟩;have hB5:=hB4.trans (hb5.mono hB4.size);clear a0 a1 a2 a3 a4 a5 a6 a7 a8 a9 a10 a11 a12 d0 d1 d2 d3 d4 d5 d6 d7 d8 d9 d10 d11 d12;have hq5:=(hb5.block _ (Array.getElem?_eq_some_iff.1 hq4).1).trans hq4;have hr5:=(hb5.block _ (Array.getElem?_eq_some_iff.1 hr4).1).trans hr4;have hw5:=(hb5.block _ (Array.getElem?_eq_some_iff.1 hw4).1).trans hw4;have hM5:=h.below hB5;obtain⟨y0,y1,y2,y3,y4,y5,y6⟩:=blk7 hq5;have hsta:=jI b M c q w5 hM5 hi hcl;rw[hz] at hsta;clear hb4 hs4 hb5 hk3 hM3 hf3 hf3' hf2') | (go_at_call 100;refine hsta.mono ?_;rintro e w6 ⟨rfl,hb6⟩;have hB6:=hB5.trans (hb6.mono hB5.size);have hq6:=(hb6.block _ (Array.getElem?_eq_some_iff.1 hq5).1).trans hq5;have hr6:=(hb6.block _ (Array.getElem?_eq_some_iff.1 hr5).1).trans hr5;have hw6:=(hb6.block _ (Array.getElem?_eq_some_iff.1 hw5).1).trans hw5;have k6:=(blk7 hq6).1;obtain⟨a0,a1,a2,a3,a4,a5,a6,a7,a8,a9,a10,a11,a12⟩:=iW hr6;have dd:=(iW hw6).1;have d0:=fun o=>Lib.cell?_alloc_some o dd;have g9:=fun o=>Lib.cell?_alloc_some o a9;clear y0 y1 y2 y3 y4 y5 y6 hsta))
 first | (go_returns;exact⟨(by simp),M,h.below (hB6.alloc hB6.size _),rfl,aC.of_below (hB6.alloc hB6.size _),fun k hk => .inl hk⟩) | (go_returns;exact⟨(by simp),M,h.below hB9,rfl,aC.of_below hB9,fun k hk => .inl hk⟩)
theorem aDq (b:Nat) (c:Int) (M:MM) (q:OpV) (r:ResV) (i:ItV) (w:World) (h:MdAt w b M) (hok:MSok M.st 100000) (hi:OpIn q) (hin:i.dn≤maxLen) (hS:gY r i (doS M.st c q).1=false) (hz:iG M.st c q=0) (hk:q.kind=15) (hv0:((doS M.st c q).1.err == 17)=true) (hv1:gY r {} {}=false) :
  Calls Tryz.prog 53 #[.pointer (some ⟨b,0,none⟩),.int .i64 c,.agg #[.int .u8 q.kind,.int .i64 q.slot,.int .i64 q.at_,.int .i64 q.n,.int .u32 q.id,.int .u8 q.grav,.string q.text],.agg #[.int .i64 r.err,.int .i64 r.rev,.int .i64 r.slot,.int .i64 r.at_,.int .u8 r.grav,.string r.text,.int .i64 r.m1,.int .i64 r.m2,.int .i64 r.m3,.int .u8 i.k,.int .i64 i.f,.int .i64 i.t,.slice i.da i.dn i.dc]] w (lD b w (accS M.st c q r i) M):=by
 have hB0:=((Below.refl w.heap.size w).alloc (Nat.le_refl _) (.cells #[.int .u8 q.kind,.int .i64 q.slot,.int .i64 q.at_,.int .i64 q.n,.int .u32 q.id,.int .u8 q.grav,.string q.text] 54)).alloc (by simp) (.cells #[.int .i64 r.err,.int .i64 r.rev,.int .i64 r.slot,.int .i64 r.at_,.int .u8 r.grav,.string r.text,.int .i64 r.m1,.int .i64 r.m2,.int .i64 r.m3,.int .u8 i.k,.int .i64 i.f,.int .i64 i.t,.slice i.da i.dn i.dc] 51)
 have hq0:=(heap_alloc_old (w.alloc (.cells #[.int .u8 q.kind,.int .i64 q.slot,.int .i64 q.at_,.int .i64 q.n,.int .u32 q.id,.int .u8 q.grav,.string q.text] 54)) (.cells #[.int .i64 r.err,.int .i64 r.rev,.int .i64 r.slot,.int .i64 r.at_,.int .u8 r.grav,.string r.text,.int .i64 r.m1,.int .i64 r.m2,.int .i64 r.m3,.int .u8 i.k,.int .i64 i.f,.int .i64 i.t,.slice i.da i.dn i.dc] 51) (show w.heap.size<_ by simp)).trans (heap_alloc_new w _)
 have hr0:=heap_alloc_new (w.alloc (.cells #[.int .u8 q.kind,.int .i64 q.slot,.int .i64 q.at_,.int .i64 q.n,.int .u32 q.id,.int .u8 q.grav,.string q.text] 54)) (.cells #[.int .i64 r.err,.int .i64 r.rev,.int .i64 r.slot,.int .i64 r.at_,.int .u8 r.grav,.string r.text,.int .i64 r.m1,.int .i64 r.m2,.int .i64 r.m3,.int .u8 i.k,.int .i64 i.f,.int .i64 i.t,.slice i.da i.dn i.dc] 51)
 rw[World.size_alloc] at hr0
 have HOK:=Lib.hid hok
 clear hok
 have hM0:=h.below hB0
 obtain⟨R,hR⟩:∃ R,doS M.st c q=R:=⟨_,rfl⟩
 have hcl:M.seats.length≤8:=by have:=HOK.out.clients;have h2:M.st.seats.length=M.seats.length:=List.length_map ..;omega
 rw[hR] at hS
 have hA:accS M.st c q r i=((R.1.err == 17) && gY r {} {} && (i.k == 1 || i.k == 2),M.st):=by unfold accS accB;rw[hR,if_neg (by simp[hS]),if_neg (by simpa using hz),if_pos hk]
 rw[hA]
 have t15:(q.kind == 15)=true:=by simp[hk]
 clear hA hk
 obtain⟨s0,h0⟩:∃ x,gY r {} {}=x:=⟨_,rfl⟩
 rw[h0]
 rw[hR] at hv0
 obtain⟨e17,he17⟩:∃ x,(R.1.err == 17)=x:=⟨_,rfl⟩
 obtain⟨k1,hk1⟩:∃ x,(i.k == 1)=x:=⟨_,rfl⟩
 obtain⟨k2,hk2⟩:∃ x,(i.k == 2)=x:=⟨_,rfl⟩
 rw[he17,hk1,hk2]
 obtain rfl:e17=true:=by rw[← he17];exact hv0
 obtain rfl:s0=false:=by rw[← h0];exact hv1
 go_enter Tryz.func53,Tryz.ntmps53
 go_wp2_with (first | (go_at_call 102;refine (kX b M _ 100000 hM0 HOK.out).mono ?_;rintro e w2 ⟨b2,M2,rfl,hM2,hst2,hb2,hf2⟩;have hq2:=(hb2.block _ (by simp;omega)).trans hq0;have hr2:=(hb2.block _ (by simp)).trans hr0;have hB2:=hB0.trans (hb2.mono (by simp;omega));have hf2':∀ k,M2.fp b2 k→w.heap.size+1+1≤k:=(fun k hk=>by have:=hf2 k hk;simpa using this);obtain⟨y0,y1,y2,y3,y4,y5,y6⟩:=blk7 hq2;have hdo:=pI b2 c M2 q _ hM2 (by rw[hst2];exact HOK.out) hi;rw[hst2,hR] at hdo;clear hf2 hb2) | (go_at_call 50;refine hdo.mono ?_;rintro e w3 ⟨rfl,M3,hM3,hst3,hk3,hf3⟩;have hq3:=(hk3.block _ (Array.getElem?_eq_some_iff.1 hq2).1 (fun hk=>absurd (hf2' _ hk) (by omega))).trans hq2;have hr3:=(hk3.block _ (Array.getElem?_eq_some_iff.1 hr2).1 (fun hk=>absurd (hf2' _ hk) (by omega))).trans hr2;have hB3:Below w.heap.size w w3:=⟨hk3.os.trans hB2.os,hk3.tape.trans hB2.tape,hk3.output.trans hB2.output,Nat.le_trans hB2.size hk3.size,fun k hk=>(hk3.block k (by have:=hB2.size;omega) (fun hf=>absurd (hf2' _ hf) (by omega))).trans (hB2.block k hk)⟩;obtain⟨W4,hs4,hw4,hb4⟩:=kY w3 R.1;have hB4:=hB3.trans (hb4.mono hB3.size);have hq4:=(hb4.block _ (Array.getElem?_eq_some_iff.1 hq3).1).trans hq3;have hr4:=(hb4.block _ (Array.getElem?_eq_some_iff.1 hr3).1).trans hr3;obtain⟨a0,a1,a2,a3,a4,a5,a6,a7,a8,a9,a10,a11,a12⟩:=iW hr4;obtain⟨d0,d1,d2,d3,d4,d5,d6,d7,d8,d9,d10,d11,d12⟩:=iW hw4;have hf3':∀ k,M3.fp b2 k→w.heap.size≤k:=(fun k hk=>(hf3 k hk).elim (fun h=>by have:=hf2' k h;omega) (fun h=>by have:=hB2.size;omega));clear y0 y1 y2 y3 y4 y5 y6 hdo) | (go_at_call 103;have hs9:=g9;refine (aAi r {} _).mono ?_;rw[h0];rintro e w9 ⟨rfl,hb9⟩;have hB9:=(hB6.alloc hB6.size _).trans (hb9.mono (by rw[World.size_alloc];have:=hB6.size;omega));replace g9:=(hb9.cell (p:=⟨w.heap.size+1,9,none⟩) (by rw[World.size_alloc];have:=(Array.getElem?_eq_some_iff.1 hr6).1;show w.heap.size+1<_;omega)).trans (g9 _)) | (go_at_call 103;refine (jK r R.1 i _ hin).mono ?_;rw[hS];rintro e w5 ⟨rfl,hb5⟩;have hB5:=hB4.trans (hb5.mono hB4.size);clear a0 a1 a2 a3 a4 a5 a6 a7 a8 a9 a10 a11 a12 d0 d1 d2 d3 d4 d5 d6 d7 d8 d9 d10 d11 d12;have hq5:=(hb5.block _ (Array.getElem?_eq_some_iff.1 hq4).1).trans hq4;have hr5:=(hb5.block _ (Array.getElem?_eq_some_iff.1 hr4).1).trans hr4;have hw5:=(hb5.block _ (Array.getElem?_eq_some_iff.1 hw4).1).trans hw4;have hM5:=h.below hB5;obtain⟨y0,y1,y2,y3,y4,y5,y6⟩:=blk7 hq5;have hsta:=jI b M c q w5 hM5 hi hcl;rw[hz] at hsta;clear hb4 hs4 hb5 hk3 hM3 hf3 hf3' hf2') | (go_at_call 100;refine hsta.mono ?_;rintro e w6 ⟨rfl,hb6⟩;have hB6:=hB5.trans (hb6.mono hB5.size);have hq6:=(hb6.block _ (Array.getElem?_eq_some_iff.1 hq5).1).trans hq5;have hr6:=(hb6.block _ (Array.getElem?_eq_some_iff.1 hr5).1).trans hr5;have hw6:=(hb6.block _ (Array.getElem?_eq_some_iff.1 hw5).1).trans hw5;have k6:=(blk7 hq6).1;obtain⟨a0,a1,a2,a3,a4,a5,a6,a7,a8,a9,a10,a11,a12⟩:=iW hr6;have dd:=(iW hw6).1;have d0:=fun o=>Lib.cell?_alloc_some o dd;have g9:=fun o=>Lib.cell?_alloc_some o a9;clear y0 y1 y2 y3 y4 y5 y6 hsta))
 first | (go_returns;exact⟨(by simp),M,h.below (hB6.alloc hB6.size _),rfl,aC.of_below (hB6.alloc hB6.size _),fun k hk => .inl hk⟩) | (go_returns;exact⟨(by simp),M,h.below hB9,rfl,aC.of_below hB9,fun k hk => .inl hk⟩)
theorem aDr (b:Nat) (c:Int) (M:MM) (q:OpV) (r:ResV) (i:ItV) (w:World) (h:MdAt w b M) (hok:MSok M.st 100000) (hi:OpIn q) (hin:i.dn≤maxLen) (hS:gY r i (doS M.st c q).1=false) (hz:iG M.st c q=0) (hk:q.kind=15) (hv0:((doS M.st c q).1.err == 17)=true) (hv1:gY r {} {}=true) (hv2:(i.k == 1)=true) :
  Calls Tryz.prog 53 #[.pointer (some ⟨b,0,none⟩),.int .i64 c,.agg #[.int .u8 q.kind,.int .i64 q.slot,.int .i64 q.at_,.int .i64 q.n,.int .u32 q.id,.int .u8 q.grav,.string q.text],.agg #[.int .i64 r.err,.int .i64 r.rev,.int .i64 r.slot,.int .i64 r.at_,.int .u8 r.grav,.string r.text,.int .i64 r.m1,.int .i64 r.m2,.int .i64 r.m3,.int .u8 i.k,.int .i64 i.f,.int .i64 i.t,.slice i.da i.dn i.dc]] w (lD b w (accS M.st c q r i) M):=by
 have hB0:=((Below.refl w.heap.size w).alloc (Nat.le_refl _) (.cells #[.int .u8 q.kind,.int .i64 q.slot,.int .i64 q.at_,.int .i64 q.n,.int .u32 q.id,.int .u8 q.grav,.string q.text] 54)).alloc (by simp) (.cells #[.int .i64 r.err,.int .i64 r.rev,.int .i64 r.slot,.int .i64 r.at_,.int .u8 r.grav,.string r.text,.int .i64 r.m1,.int .i64 r.m2,.int .i64 r.m3,.int .u8 i.k,.int .i64 i.f,.int .i64 i.t,.slice i.da i.dn i.dc] 51)
 have hq0:=(heap_alloc_old (w.alloc (.cells #[.int .u8 q.kind,.int .i64 q.slot,.int .i64 q.at_,.int .i64 q.n,.int .u32 q.id,.int .u8 q.grav,.string q.text] 54)) (.cells #[.int .i64 r.err,.int .i64 r.rev,.int .i64 r.slot,.int .i64 r.at_,.int .u8 r.grav,.string r.text,.int .i64 r.m1,.int .i64 r.m2,.int .i64 r.m3,.int .u8 i.k,.int .i64 i.f,.int .i64 i.t,.slice i.da i.dn i.dc] 51) (show w.heap.size<_ by simp)).trans (heap_alloc_new w _)
 have hr0:=heap_alloc_new (w.alloc (.cells #[.int .u8 q.kind,.int .i64 q.slot,.int .i64 q.at_,.int .i64 q.n,.int .u32 q.id,.int .u8 q.grav,.string q.text] 54)) (.cells #[.int .i64 r.err,.int .i64 r.rev,.int .i64 r.slot,.int .i64 r.at_,.int .u8 r.grav,.string r.text,.int .i64 r.m1,.int .i64 r.m2,.int .i64 r.m3,.int .u8 i.k,.int .i64 i.f,.int .i64 i.t,.slice i.da i.dn i.dc] 51)
 rw[World.size_alloc] at hr0
 have HOK:=Lib.hid hok
 clear hok
 have hM0:=h.below hB0
 obtain⟨R,hR⟩:∃ R,doS M.st c q=R:=⟨_,rfl⟩
 have hcl:M.seats.length≤8:=by have:=HOK.out.clients;have h2:M.st.seats.length=M.seats.length:=List.length_map ..;omega
 rw[hR] at hS
 have hA:accS M.st c q r i=((R.1.err == 17) && gY r {} {} && (i.k == 1 || i.k == 2),M.st):=by unfold accS accB;rw[hR,if_neg (by simp[hS]),if_neg (by simpa using hz),if_pos hk]
 rw[hA]
 have t15:(q.kind == 15)=true:=by simp[hk]
 clear hA hk
 obtain⟨s0,h0⟩:∃ x,gY r {} {}=x:=⟨_,rfl⟩
 rw[h0]
 rw[hR] at hv0
 obtain⟨e17,he17⟩:∃ x,(R.1.err == 17)=x:=⟨_,rfl⟩
 obtain⟨k1,hk1⟩:∃ x,(i.k == 1)=x:=⟨_,rfl⟩
 obtain⟨k2,hk2⟩:∃ x,(i.k == 2)=x:=⟨_,rfl⟩
 rw[he17,hk1,hk2]
 obtain rfl:e17=true:=by rw[← he17];exact hv0
 obtain rfl:s0=true:=by rw[← h0];exact hv1
 obtain rfl:k1=true:=by rw[← hk1];exact hv2
 go_enter Tryz.func53,Tryz.ntmps53
 go_wp2_with (first | (go_at_call 102;refine (kX b M _ 100000 hM0 HOK.out).mono ?_;rintro e w2 ⟨b2,M2,rfl,hM2,hst2,hb2,hf2⟩;have hq2:=(hb2.block _ (by simp;omega)).trans hq0;have hr2:=(hb2.block _ (by simp)).trans hr0;have hB2:=hB0.trans (hb2.mono (by simp;omega));have hf2':∀ k,M2.fp b2 k→w.heap.size+1+1≤k:=(fun k hk=>by have:=hf2 k hk;simpa using this);obtain⟨y0,y1,y2,y3,y4,y5,y6⟩:=blk7 hq2;have hdo:=pI b2 c M2 q _ hM2 (by rw[hst2];exact HOK.out) hi;rw[hst2,hR] at hdo;clear hf2 hb2) | (go_at_call 50;refine hdo.mono ?_;rintro e w3 ⟨rfl,M3,hM3,hst3,hk3,hf3⟩;have hq3:=(hk3.block _ (Array.getElem?_eq_some_iff.1 hq2).1 (fun hk=>absurd (hf2' _ hk) (by omega))).trans hq2;have hr3:=(hk3.block _ (Array.getElem?_eq_some_iff.1 hr2).1 (fun hk=>absurd (hf2' _ hk) (by omega))).trans hr2;have hB3:Below w.heap.size w w3:=⟨hk3.os.trans hB2.os,hk3.tape.trans hB2.tape,hk3.output.trans hB2.output,Nat.le_trans hB2.size hk3.size,fun k hk=>(hk3.block k (by have:=hB2.size;omega) (fun hf=>absurd (hf2' _ hf) (by omega))).trans (hB2.block k hk)⟩;obtain⟨W4,hs4,hw4,hb4⟩:=kY w3 R.1;have hB4:=hB3.trans (hb4.mono hB3.size);have hq4:=(hb4.block _ (Array.getElem?_eq_some_iff.1 hq3).1).trans hq3;have hr4:=(hb4.block _ (Array.getElem?_eq_some_iff.1 hr3).1).trans hr3;obtain⟨a0,a1,a2,a3,a4,a5,a6,a7,a8,a9,a10,a11,a12⟩:=iW hr4;obtain⟨d0,d1,d2,d3,d4,d5,d6,d7,d8,d9,d10,d11,d12⟩:=iW hw4;have hf3':∀ k,M3.fp b2 k→w.heap.size≤k:=(fun k hk=>(hf3 k hk).elim (fun h=>by have:=hf2' k h;omega) (fun h=>by have:=hB2.size;omega));clear y0 y1 y2 y3 y4 y5 y6 hdo) | (go_at_call 103;have hs9:=g9;refine (aAi r {} _).mono ?_;rw[h0];rintro e w9 ⟨rfl,hb9⟩;have hB9:=(hB6.alloc hB6.size _).trans (hb9.mono (by rw[World.size_alloc];have:=hB6.size;omega));replace g9:=(hb9.cell (p:=⟨w.heap.size+1,9,none⟩) (by rw[World.size_alloc];have:=(Array.getElem?_eq_some_iff.1 hr6).1;show w.heap.size+1<_;omega)).trans (g9 _)) | (go_at_call 103;refine (jK r R.1 i _ hin).mono ?_;rw[hS];rintro e w5 ⟨rfl,hb5⟩;have hB5:=hB4.trans (hb5.mono hB4.size);clear a0 a1 a2 a3 a4 a5 a6 a7 a8 a9 a10 a11 a12 d0 d1 d2 d3 d4 d5 d6 d7 d8 d9 d10 d11 d12;have hq5:=(hb5.block _ (Array.getElem?_eq_some_iff.1 hq4).1).trans hq4;have hr5:=(hb5.block _ (Array.getElem?_eq_some_iff.1 hr4).1).trans hr4;have hw5:=(hb5.block _ (Array.getElem?_eq_some_iff.1 hw4).1).trans hw4;have hM5:=h.below hB5;obtain⟨y0,y1,y2,y3,y4,y5,y6⟩:=blk7 hq5;have hsta:=jI b M c q w5 hM5 hi hcl;rw[hz] at hsta;clear hb4 hs4 hb5 hk3 hM3 hf3 hf3' hf2') | (go_at_call 100;refine hsta.mono ?_;rintro e w6 ⟨rfl,hb6⟩;have hB6:=hB5.trans (hb6.mono hB5.size);have hq6:=(hb6.block _ (Array.getElem?_eq_some_iff.1 hq5).1).trans hq5;have hr6:=(hb6.block _ (Array.getElem?_eq_some_iff.1 hr5).1).trans hr5;have hw6:=(hb6.block _ (Array.getElem?_eq_some_iff.1 hw5).1).trans hw5;have k6:=(blk7 hq6).1;obtain⟨a0,a1,a2,a3,a4,a5,a6,a7,a8,a9,a10,a11,a12⟩:=iW hr6;have dd:=(iW hw6).1;have d0:=fun o=>Lib.cell?_alloc_some o dd;have g9:=fun o=>Lib.cell?_alloc_some o a9;clear y0 y1 y2 y3 y4 y5 y6 hsta))
 first | (go_returns;exact⟨(by simp),M,h.below (hB6.alloc hB6.size _),rfl,aC.of_below (hB6.alloc hB6.size _),fun k hk => .inl hk⟩) | (go_returns;exact⟨(by simp),M,h.below hB9,rfl,aC.of_below hB9,fun k hk => .inl hk⟩)
theorem aDs (b:Nat) (c:Int) (M:MM) (q:OpV) (r:ResV) (i:ItV) (w:World) (h:MdAt w b M) (hok:MSok M.st 100000) (hi:OpIn q) (hin:i.dn≤maxLen) (hS:gY r i (doS M.st c q).1=false) (hz:iG M.st c q=0) (hk:q.kind=15) (hv0:((doS M.st c q).1.err == 17)=true) (hv1:gY r {} {}=true) (hv2:(i.k == 1)=false) (hv3:(i.k == 2)=true) :
  Calls Tryz.prog 53 #[.pointer (some ⟨b,0,none⟩),.int .i64 c,.agg #[.int .u8 q.kind,.int .i64 q.slot,.int .i64 q.at_,.int .i64 q.n,.int .u32 q.id,.int .u8 q.grav,.string q.text],.agg #[.int .i64 r.err,.int .i64 r.rev,.int .i64 r.slot,.int .i64 r.at_,.int .u8 r.grav,.string r.text,.int .i64 r.m1,.int .i64 r.m2,.int .i64 r.m3,.int .u8 i.k,.int .i64 i.f,.int .i64 i.t,.slice i.da i.dn i.dc]] w (lD b w (accS M.st c q r i) M):=by
 have hB0:=((Below.refl w.heap.size w).alloc (Nat.le_refl _) (.cells #[.int .u8 q.kind,.int .i64 q.slot,.int .i64 q.at_,.int .i64 q.n,.int .u32 q.id,.int .u8 q.grav,.string q.text] 54)).alloc (by simp) (.cells #[.int .i64 r.err,.int .i64 r.rev,.int .i64 r.slot,.int .i64 r.at_,.int .u8 r.grav,.string r.text,.int .i64 r.m1,.int .i64 r.m2,.int .i64 r.m3,.int .u8 i.k,.int .i64 i.f,.int .i64 i.t,.slice i.da i.dn i.dc] 51)
 have hq0:=(heap_alloc_old (w.alloc (.cells #[.int .u8 q.kind,.int .i64 q.slot,.int .i64 q.at_,.int .i64 q.n,.int .u32 q.id,.int .u8 q.grav,.string q.text] 54)) (.cells #[.int .i64 r.err,.int .i64 r.rev,.int .i64 r.slot,.int .i64 r.at_,.int .u8 r.grav,.string r.text,.int .i64 r.m1,.int .i64 r.m2,.int .i64 r.m3,.int .u8 i.k,.int .i64 i.f,.int .i64 i.t,.slice i.da i.dn i.dc] 51) (show w.heap.size<_ by simp)).trans (heap_alloc_new w _)
 have hr0:=heap_alloc_new (w.alloc (.cells #[.int .u8 q.kind,.int .i64 q.slot,.int .i64 q.at_,.int .i64 q.n,.int .u32 q.id,.int .u8 q.grav,.string q.text] 54)) (.cells #[.int .i64 r.err,.int .i64 r.rev,.int .i64 r.slot,.int .i64 r.at_,.int .u8 r.grav,.string r.text,.int .i64 r.m1,.int .i64 r.m2,.int .i64 r.m3,.int .u8 i.k,.int .i64 i.f,.int .i64 i.t,.slice i.da i.dn i.dc] 51)
 rw[World.size_alloc] at hr0
 have HOK:=Lib.hid hok
 clear hok
 have hM0:=h.below hB0
 obtain⟨R,hR⟩:∃ R,doS M.st c q=R:=⟨_,rfl⟩
 have hcl:M.seats.length≤8:=by have:=HOK.out.clients;have h2:M.st.seats.length=M.seats.length:=List.length_map ..;omega
 rw[hR] at hS
 have hA:accS M.st c q r i=((R.1.err == 17) && gY r {} {} && (i.k == 1 || i.k == 2),M.st):=by unfold accS accB;rw[hR,if_neg (by simp[hS]),if_neg (by simpa using hz),if_pos hk]
 rw[hA]
 have t15:(q.kind == 15)=true:=by simp[hk]
 clear hA hk
 obtain⟨s0,h0⟩:∃ x,gY r {} {}=x:=⟨_,rfl⟩
 rw[h0]
 rw[hR] at hv0
 obtain⟨e17,he17⟩:∃ x,(R.1.err == 17)=x:=⟨_,rfl⟩
 obtain⟨k1,hk1⟩:∃ x,(i.k == 1)=x:=⟨_,rfl⟩
 obtain⟨k2,hk2⟩:∃ x,(i.k == 2)=x:=⟨_,rfl⟩
 rw[he17,hk1,hk2]
 obtain rfl:e17=true:=by rw[← he17];exact hv0
 obtain rfl:s0=true:=by rw[← h0];exact hv1
 obtain rfl:k1=false:=by rw[← hk1];exact hv2
 obtain rfl:k2=true:=by rw[← hk2];exact hv3
 go_enter Tryz.func53,Tryz.ntmps53
 go_wp2_with (first | (go_at_call 102;refine (kX b M _ 100000 hM0 HOK.out).mono ?_;rintro e w2 ⟨b2,M2,rfl,hM2,hst2,hb2,hf2⟩;have hq2:=(hb2.block _ (by simp;omega)).trans hq0;have hr2:=(hb2.block _ (by simp)).trans hr0;have hB2:=hB0.trans (hb2.mono (by simp;omega));have hf2':∀ k,M2.fp b2 k→w.heap.size+1+1≤k:=(fun k hk=>by have:=hf2 k hk;simpa using this);obtain⟨y0,y1,y2,y3,y4,y5,y6⟩:=blk7 hq2;have hdo:=pI b2 c M2 q _ hM2 (by rw[hst2];exact HOK.out) hi;rw[hst2,hR] at hdo;clear hf2 hb2) | (go_at_call 50;refine hdo.mono ?_;rintro e w3 ⟨rfl,M3,hM3,hst3,hk3,hf3⟩;have hq3:=(hk3.block _ (Array.getElem?_eq_some_iff.1 hq2).1 (fun hk=>absurd (hf2' _ hk) (by omega))).trans hq2;have hr3:=(hk3.block _ (Array.getElem?_eq_some_iff.1 hr2).1 (fun hk=>absurd (hf2' _ hk) (by omega))).trans hr2;have hB3:Below w.heap.size w w3:=⟨hk3.os.trans hB2.os,hk3.tape.trans hB2.tape,hk3.output.trans hB2.output,Nat.le_trans hB2.size hk3.size,fun k hk=>(hk3.block k (by have:=hB2.size;omega) (fun hf=>absurd (hf2' _ hf) (by omega))).trans (hB2.block k hk)⟩;obtain⟨W4,hs4,hw4,hb4⟩:=kY w3 R.1;have hB4:=hB3.trans (hb4.mono hB3.size);have hq4:=(hb4.block _ (Array.getElem?_eq_some_iff.1 hq3).1).trans hq3;have hr4:=(hb4.block _ (Array.getElem?_eq_some_iff.1 hr3).1).trans hr3;obtain⟨a0,a1,a2,a3,a4,a5,a6,a7,a8,a9,a10,a11,a12⟩:=iW hr4;obtain⟨d0,d1,d2,d3,d4,d5,d6,d7,d8,d9,d10,d11,d12⟩:=iW hw4;have hf3':∀ k,M3.fp b2 k→w.heap.size≤k:=(fun k hk=>(hf3 k hk).elim (fun h=>by have:=hf2' k h;omega) (fun h=>by have:=hB2.size;omega));clear y0 y1 y2 y3 y4 y5 y6 hdo) | (go_at_call 103;have hs9:=g9;refine (aAi r {} _).mono ?_;rw[h0];rintro e w9 ⟨rfl,hb9⟩;have hB9:=(hB6.alloc hB6.size _).trans (hb9.mono (by rw[World.size_alloc];have:=hB6.size;omega));replace g9:=(hb9.cell (p:=⟨w.heap.size+1,9,none⟩) (by rw[World.size_alloc];have:=(Array.getElem?_eq_some_iff.1 hr6).1;show w.heap.size+1<_;omega)).trans (g9 _)) | (go_at_call 103;refine (jK r R.1 i _ hin).mono ?_;rw[hS];rintro e w5 ⟨rfl,hb5⟩;have hB5:=hB4.trans (hb5.mono hB4.size);clear a0 a1 a2 a3 a4 a5 a6 a7 a8 a9 a10 a11 a12 d0 d1 d2 d3 d4 d5 d6 d7 d8 d9 d10 d11 d12;have hq5:=(hb5.block _ (Array.getElem?_eq_some_iff.1 hq4).1).trans hq4;have hr5:=(hb5.block _ (Array.getElem?_eq_some_iff.1 hr4).1).trans hr4;have hw5:=(hb5.block _ (Array.getElem?_eq_some_iff.1 hw4).1).trans hw4;have hM5:=h.below hB5;obtain⟨y0,y1,y2,y3,y4,y5,y6⟩:=blk7 hq5;have hsta:=jI b M c q w5 hM5 hi hcl;rw[hz] at hsta;clear hb4 hs4 hb5 hk3 hM3 hf3 hf3' hf2') | (go_at_call 100;refine hsta.mono ?_;rintro e w6 ⟨rfl,hb6⟩;have hB6:=hB5.trans (hb6.mono hB5.size);have hq6:=(hb6.block _ (Array.getElem?_eq_some_iff.1 hq5).1).trans hq5;have hr6:=(hb6.block _ (Array.getElem?_eq_some_iff.1 hr5).1).trans hr5;have hw6:=(hb6.block _ (Array.getElem?_eq_some_iff.1 hw5).1).trans hw5;have k6:=(blk7 hq6).1;obtain⟨a0,a1,a2,a3,a4,a5,a6,a7,a8,a9,a10,a11,a12⟩:=iW hr6;have dd:=(iW hw6).1;have d0:=fun o=>Lib.cell?_alloc_some o dd;have g9:=fun o=>Lib.cell?_alloc_some o a9;clear y0 y1 y2 y3 y4 y5 y6 hsta))
 first | (go_returns;exact⟨(by simp),M,h.below (hB6.alloc hB6.size _),rfl,aC.of_below (hB6.alloc hB6.size _),fun k hk => .inl hk⟩) | (go_returns;exact⟨(by simp),M,h.below hB9,rfl,aC.of_below hB9,fun k hk => .inl hk⟩)
theorem aDt (b:Nat) (c:Int) (M:MM) (q:OpV) (r:ResV) (i:ItV) (w:World) (h:MdAt w b M) (hok:MSok M.st 100000) (hi:OpIn q) (hin:i.dn≤maxLen) (hS:gY r i (doS M.st c q).1=false) (hz:iG M.st c q=0) (hk:q.kind=15) (hv0:((doS M.st c q).1.err == 17)=true) (hv1:gY r {} {}=true) (hv2:(i.k == 1)=false) (hv3:(i.k == 2)=false) :
  Calls Tryz.prog 53 #[.pointer (some ⟨b,0,none⟩),.int .i64 c,.agg #[.int .u8 q.kind,.int .i64 q.slot,.int .i64 q.at_,.int .i64 q.n,.int .u32 q.id,.int .u8 q.grav,.string q.text],.agg #[.int .i64 r.err,.int .i64 r.rev,.int .i64 r.slot,.int .i64 r.at_,.int .u8 r.grav,.string r.text,.int .i64 r.m1,.int .i64 r.m2,.int .i64 r.m3,.int .u8 i.k,.int .i64 i.f,.int .i64 i.t,.slice i.da i.dn i.dc]] w (lD b w (accS M.st c q r i) M):=by
 have hB0:=((Below.refl w.heap.size w).alloc (Nat.le_refl _) (.cells #[.int .u8 q.kind,.int .i64 q.slot,.int .i64 q.at_,.int .i64 q.n,.int .u32 q.id,.int .u8 q.grav,.string q.text] 54)).alloc (by simp) (.cells #[.int .i64 r.err,.int .i64 r.rev,.int .i64 r.slot,.int .i64 r.at_,.int .u8 r.grav,.string r.text,.int .i64 r.m1,.int .i64 r.m2,.int .i64 r.m3,.int .u8 i.k,.int .i64 i.f,.int .i64 i.t,.slice i.da i.dn i.dc] 51)
 have hq0:=(heap_alloc_old (w.alloc (.cells #[.int .u8 q.kind,.int .i64 q.slot,.int .i64 q.at_,.int .i64 q.n,.int .u32 q.id,.int .u8 q.grav,.string q.text] 54)) (.cells #[.int .i64 r.err,.int .i64 r.rev,.int .i64 r.slot,.int .i64 r.at_,.int .u8 r.grav,.string r.text,.int .i64 r.m1,.int .i64 r.m2,.int .i64 r.m3,.int .u8 i.k,.int .i64 i.f,.int .i64 i.t,.slice i.da i.dn i.dc] 51) (show w.heap.size<_ by simp)).trans (heap_alloc_new w _)
 have hr0:=heap_alloc_new (w.alloc (.cells #[.int .u8 q.kind,.int .i64 q.slot,.int .i64 q.at_,.int .i64 q.n,.int .u32 q.id,.int .u8 q.grav,.string q.text] 54)) (.cells #[.int .i64 r.err,.int .i64 r.rev,.int .i64 r.slot,.int .i64 r.at_,.int .u8 r.grav,.string r.text,.int .i64 r.m1,.int .i64 r.m2,.int .i64 r.m3,.int .u8 i.k,.int .i64 i.f,.int .i64 i.t,.slice i.da i.dn i.dc] 51)
 rw[World.size_alloc] at hr0
 have HOK:=Lib.hid hok
 clear hok
 have hM0:=h.below hB0
 obtain⟨R,hR⟩:∃ R,doS M.st c q=R:=⟨_,rfl⟩
 have hcl:M.seats.length≤8:=by have:=HOK.out.clients;have h2:M.st.seats.length=M.seats.length:=List.length_map ..;omega
 rw[hR] at hS
 have hA:accS M.st c q r i=((R.1.err == 17) && gY r {} {} && (i.k == 1 || i.k == 2),M.st):=by unfold accS accB;rw[hR,if_neg (by simp[hS]),if_neg (by simpa using hz),if_pos hk]
 rw[hA]
 have t15:(q.kind == 15)=true:=by simp[hk]
 clear hA hk
 obtain⟨s0,h0⟩:∃ x,gY r {} {}=x:=⟨_,rfl⟩
 rw[h0]
 rw[hR] at hv0
 obtain⟨e17,he17⟩:∃ x,(R.1.err == 17)=x:=⟨_,rfl⟩
 obtain⟨k1,hk1⟩:∃ x,(i.k == 1)=x:=⟨_,rfl⟩
 obtain⟨k2,hk2⟩:∃ x,(i.k == 2)=x:=⟨_,rfl⟩
 rw[he17,hk1,hk2]
 obtain rfl:e17=true:=by rw[← he17];exact hv0
 obtain rfl:s0=true:=by rw[← h0];exact hv1
 obtain rfl:k1=false:=by rw[← hk1];exact hv2
 obtain rfl:k2=false:=by rw[← hk2];exact hv3
 go_enter Tryz.func53,Tryz.ntmps53
 go_wp2_with (first | (go_at_call 102;refine (kX b M _ 100000 hM0 HOK.out).mono ?_;rintro e w2 ⟨b2,M2,rfl,hM2,hst2,hb2,hf2⟩;have hq2:=(hb2.block _ (by simp;omega)).trans hq0;have hr2:=(hb2.block _ (by simp)).trans hr0;have hB2:=hB0.trans (hb2.mono (by simp;omega));have hf2':∀ k,M2.fp b2 k→w.heap.size+1+1≤k:=(fun k hk=>by have:=hf2 k hk;simpa using this);obtain⟨y0,y1,y2,y3,y4,y5,y6⟩:=blk7 hq2;have hdo:=pI b2 c M2 q _ hM2 (by rw[hst2];exact HOK.out) hi;rw[hst2,hR] at hdo;clear hf2 hb2) | (go_at_call 50;refine hdo.mono ?_;rintro e w3 ⟨rfl,M3,hM3,hst3,hk3,hf3⟩;have hq3:=(hk3.block _ (Array.getElem?_eq_some_iff.1 hq2).1 (fun hk=>absurd (hf2' _ hk) (by omega))).trans hq2;have hr3:=(hk3.block _ (Array.getElem?_eq_some_iff.1 hr2).1 (fun hk=>absurd (hf2' _ hk) (by omega))).trans hr2;have hB3:Below w.heap.size w w3:=⟨hk3.os.trans hB2.os,hk3.tape.trans hB2.tape,hk3.output.trans hB2.output,Nat.le_trans hB2.size hk3.size,fun k hk=>(hk3.block k (by have:=hB2.size;omega) (fun hf=>absurd (hf2' _ hf) (by omega))).trans (hB2.block k hk)⟩;obtain⟨W4,hs4,hw4,hb4⟩:=kY w3 R.1;have hB4:=hB3.trans (hb4.mono hB3.size);have hq4:=(hb4.block _ (Array.getElem?_eq_some_iff.1 hq3).1).trans hq3;have hr4:=(hb4.block _ (Array.getElem?_eq_some_iff.1 hr3).1).trans hr3;obtain⟨a0,a1,a2,a3,a4,a5,a6,a7,a8,a9,a10,a11,a12⟩:=iW hr4;obtain⟨d0,d1,d2,d3,d4,d5,d6,d7,d8,d9,d10,d11,d12⟩:=iW hw4;have hf3':∀ k,M3.fp b2 k→w.heap.size≤k:=(fun k hk=>(hf3 k hk).elim (fun h=>by have:=hf2' k h;omega) (fun h=>by have:=hB2.size;omega));clear y0 y1 y2 y3 y4 y5 y6 hdo) | (go_at_call 103;have hs9:=g9;refine (aAi r {} _).mono ?_;rw[h0];rintro e w9 ⟨rfl,hb9⟩;have hB9:=(hB6.alloc hB6.size _).trans (hb9.mono (by rw[World.size_alloc];have:=hB6.size;omega));replace g9:=(hb9.cell (p:=⟨w.heap.size+1,9,none⟩) (by rw[World.size_alloc];have:=(Array.getElem?_eq_some_iff.1 hr6).1;show w.heap.size+1<_;omega)).trans (g9 _)) | (go_at_call 103;refine (jK r R.1 i _ hin).mono ?_;rw[hS];rintro e w5 ⟨rfl,hb5⟩;have hB5:=hB4.trans (hb5.mono hB4.size);clear a0 a1 a2 a3 a4 a5 a6 a7 a8 a9 a10 a11 a12 d0 d1 d2 d3 d4 d5 d6 d7 d8 d9 d10 d11 d12;have hq5:=(hb5.block _ (Array.getElem?_eq_some_iff.1 hq4).1).trans hq4;have hr5:=(hb5.block _ (Array.getElem?_eq_some_iff.1 hr4).1).trans hr4;have hw5:=(hb5.block _ (Array.getElem?_eq_some_iff.1 hw4).1).trans hw4;have hM5:=h.below hB5;obtain⟨y0,y1,y2,y3,y4,y5,y6⟩:=blk7 hq5;have hsta:=jI b M c q w5 hM5 hi hcl;rw[hz] at hsta;clear hb4 hs4 hb5 hk3 hM3 hf3 hf3' hf2') | (go_at_call 100;refine hsta.mono ?_;rintro e w6 ⟨rfl,hb6⟩;have hB6:=hB5.trans (hb6.mono hB5.size);have hq6:=(hb6.block _ (Array.getElem?_eq_some_iff.1 hq5).1).trans hq5;have hr6:=(hb6.block _ (Array.getElem?_eq_some_iff.1 hr5).1).trans hr5;have hw6:=(hb6.block _ (Array.getElem?_eq_some_iff.1 hw5).1).trans hw5;have k6:=(blk7 hq6).1;obtain⟨a0,a1,a2,a3,a4,a5,a6,a7,a8,a9,a10,a11,a12⟩:=iW hr6;have dd:=(iW hw6).1;have d0:=fun o=>Lib.cell?_alloc_some o dd;have g9:=fun o=>Lib.cell?_alloc_some o a9;clear y0 y1 y2 y3 y4 y5 y6 hsta))
 first | (go_returns;exact⟨(by simp),M,h.below (hB6.alloc hB6.size _),rfl,aC.of_below (hB6.alloc hB6.size _),fun k hk => .inl hk⟩) | (go_returns;exact⟨(by simp),M,h.below hB9,rfl,aC.of_below hB9,fun k hk => .inl hk⟩)
theorem aFz (b:Nat) (c:Int) (M:MM) (q:OpV) (r:ResV) (i:ItV) (w:World) (h:MdAt w b M) (hok:MSok M.st 100000) (hi:OpIn q) (hin:i.dn≤maxLen) (hS:gY r i (doS M.st c q).1=false) (hz:iG M.st c q=0) (hk:q.kind=15):Calls Tryz.prog 53 #[.pointer (some ⟨b,0,none⟩),.int .i64 c,.agg #[.int .u8 q.kind,.int .i64 q.slot,.int .i64 q.at_,.int .i64 q.n,.int .u32 q.id,.int .u8 q.grav,.string q.text],.agg #[.int .i64 r.err,.int .i64 r.rev,.int .i64 r.slot,.int .i64 r.at_,.int .u8 r.grav,.string r.text,.int .i64 r.m1,.int .i64 r.m2,.int .i64 r.m3,.int .u8 i.k,.int .i64 i.f,.int .i64 i.t,.slice i.da i.dn i.dc]] w (lD b w (accS M.st c q r i) M):=by
 cases h0:((doS M.st c q).1.err == 17) with
 | false=>exact aDp b c M q r i w h hok hi hin hS hz hk h0
 | true =>
  cases h1:gY r {} {} with
  | false=>exact aDq b c M q r i w h hok hi hin hS hz hk h0 h1
  | true =>
   cases h2:(i.k == 1) with
   | true=>exact aDr b c M q r i w h hok hi hin hS hz hk h0 h1 h2
   | false =>
    cases h3:(i.k == 2) with
    | true=>exact aDs b c M q r i w h hok hi hin hS hz hk h0 h1 h2 h3
    | false=>exact aDt b c M q r i w h hok hi hin hS hz hk h0 h1 h2 h3
theorem aAl (b:Nat) (c:Int) (M:MM) (q:OpV) (r:ResV) (i:ItV) (w:World) (h:MdAt w b M) (hok:MSok M.st 100000) (hi:OpIn q) (hin:i.dn≤maxLen):Calls Tryz.prog 53 #[.pointer (some ⟨b,0,none⟩),.int .i64 c,.agg #[.int .u8 q.kind,.int .i64 q.slot,.int .i64 q.at_,.int .i64 q.n,.int .u32 q.id,.int .u8 q.grav,.string q.text],.agg #[.int .i64 r.err,.int .i64 r.rev,.int .i64 r.slot,.int .i64 r.at_,.int .u8 r.grav,.string r.text,.int .i64 r.m1,.int .i64 r.m2,.int .i64 r.m3,.int .u8 i.k,.int .i64 i.f,.int .i64 i.t,.slice i.da i.dn i.dc]] w (lD b w (accS M.st c q r i) M):=by
 cases hS:gY r i (doS M.st c q).1 with
 | true=>exact aFt b c M q r i w h hok hi hin hS
 | false =>
  by_cases hz:iG M.st c q=0
  ·obtain⟨_,_,h3⟩:=tJ hz
   obtain⟨⟨k1,k2,_⟩,_⟩:=uV h3
   by_cases e12:q.kind=1∨q.kind=2
   ·exact aFx b c M q r i w h hok hi hin hS hz e12
   by_cases e34:q.kind=3∨q.kind=4
   ·exact aFy b c M q r i w h hok hi hin hS hz e34
   by_cases e15:q.kind=15
   ·exact aFz b c M q r i w h hok hi hin hS hz e15
   ·exact aDo b c M q r i w h hok hi hin hS hz ⟨by omega,e15⟩
  ·exact aFu b c M q r i w h hok hi hin hS hz
end Go.Proofs.YtdeiocppghhfdaaGreat
