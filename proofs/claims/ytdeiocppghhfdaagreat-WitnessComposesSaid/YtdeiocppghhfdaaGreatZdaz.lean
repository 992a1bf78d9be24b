/- Texts, one behind another. -/
import Derived.Test.YtdeiocppghhfdaaGreatZday
set_option linter.unusedVariables false
set_option linter.unusedSimpArgs false
set_option maxRecDepth 100000
set_option maxHeartbeats 8000000
namespace Go.Proofs.YtdeiocppghhfdaaGreat
open Go.RowKit Go.Lib Go.Shelf
attribute [local go_sem, local simp] resF aJ iP mdF yR aDm
theorem aFy (b:Nat) (c:Int) (M:MM) (q:OpV) (r:ResV) (i:ItV) (w:World) (h:MdAt w b M) (hok:MSok M.st 100000) (hi:OpIn q) (hin:i.dn≤maxLen) (hS:gY r i (doS M.st c q).1=false) (hz:iG M.st c q=0) (hk:q.kind=3∨q.kind=4) :
  Calls Tryz.prog 53 #[.pointer (some ⟨b,0,none⟩),.int .i64 c,.agg #[.int .u8 q.kind,.int .i64 q.slot,.int .i64 q.at_,.int .i64 q.n,.int .u32 q.id,.int .u8 q.grav,.string q.text],.agg #[.int .i64 r.err,.int .i64 r.rev,.int .i64 r.slot,.int .i64 r.at_,.int .u8 r.grav,.string r.text,.int .i64 r.m1,.int .i64 r.m2,.int .i64 r.m3,.int .u8 i.k,.int .i64 i.f,.int .i64 i.t,.slice i.da i.dn i.dc]] w (lD b w (accS M.st c q r i) M):=by
 have hB0:=((Below.refl w.heap.size w).alloc (Nat.le_refl _) (.cells #[.int .u8 q.kind,.int .i64 q.slot,.int .i64 q.at_,.int .i64 q.n,.int .u32 q.id,.int .u8 q.grav,.string q.text] 54)).alloc (by simp) (.cells #[.int .i64 r.err,.int .i64 r.rev,.int .i64 r.slot,.int .i64 r.at_,.int .u8 r.grav,.string r.text,.int .i64 r.m1,.int .i64 r.m2,.int .i64 r.m3,.int .u8 i.k,.int .i64 i.f,.int .i64 i.t,.slice i.da i.dn i.dc] 51)
 have hq0:=(heap_alloc_old (w.alloc (.cells #[.int .u8 q.kind,.int .i64 q.slot,.int .i64 q.at_,.int .i64 q.n,.int .u32 q.id,.int .u8 q.grav,.string q.text] 54)) (.cells #[.int .i64 r.err,.int .i64 r.rev,.int .i64 r.slot,.int .i64 r.at_,.int .u8 r.grav,.string r.text,.int .i64 r.m1,.int .i64 r.m2,.int .i64 r.m3,.int .u8 i.k,.int .i64 i.f,.int .i64 i.t,.slice i.da i.dn i.dc] 51) (show w.heap.size<_ by simp)).trans (heap_alloc_new w _)
 have hr0:=heap_alloc_new (w.alloc (.cells #[.int .u8 q.kind,.int .i64 q.slot,.int .i64 q.at_,.int .i64 q.n,.int .u32 q.id,.int .u8 q.grav,.string q.text] 54)) (.cells #[.int .i64 r.err,.int .i64 r.rev,.int .i64 r.slot,.int .i64 r.at_,.int .u8 r.grav,.string r.text,.int .i64 r.m1,.int .i64 r.m2,.int .i64 r.m3,.int .u8 i.k,.int .i64 i.f,.int .i64 i.t,.slice i.da i.dn i.dc] 51)
 rw[World.size_alloc] at hr0
 have HOK:=Lib.hid hok
 clear hok
 have hM0:=h.below hB0
 obtain⟨R,hR⟩:∃ R,doS M.st c q=R:=⟨_,rfl⟩
 have hcl:M.seats.length≤8:=by have:=HOK.out.clients;have h2:M.st.seats.length=M.seats.length:=List.length_map ..;omega
 rw[hR] at hS
 have hA:accS M.st c q r i=(gY r i (fA 14) && !(R.1.err == 13),M.st):=by unfold accS accB;rw[hR,if_neg (by simp[hS]),if_neg (by simpa using hz),if_neg (by omega),if_neg (by omega),if_pos hk]
 rw[hA]
 have t15:(q.kind == 15)=false:=by simp;omega
 have t1:(q.kind == 1)=false:=by simp;omega
 have t2:(q.kind == 2)=false:=by simp;omega
 have t34:((q.kind == 3)=true)∨((q.kind == 3)=false∧(q.kind == 4)=true):=by rcases hk with hk | hk<;>simp[hk]
 clear hA hk
 obtain⟨s14,h14⟩:∃ x,gY r i (fA 14)=x:=⟨_,rfl⟩
 rw[h14]
 obtain⟨e13,he13⟩:∃ x,(R.1.err == 13)=x:=⟨_,rfl⟩
 rw[he13]
 rcases t34 with t3 | ⟨t3,t4⟩
 all_goals
  go_enter Tryz.func53,Tryz.ntmps53
  go_wp2_with (first | (go_at_call 102;refine (kX b M _ 100000 hM0 HOK.out).mono ?_;rintro e w2 ⟨b2,M2,rfl,hM2,hst2,hb2,hf2⟩;have hq2:=(hb2.block _ (by simp;omega)).trans hq0;have hr2:=(hb2.block _ (by simp)).trans hr0;have hB2:=hB0.trans (hb2.mono (by simp;omega));have hf2':∀ k,M2.fp b2 k→w.heap.size+1+1≤k:=(fun k hk=>by have:=hf2 k hk;simpa using this);obtain⟨y0,y1,y2,y3,y4,y5,y6⟩:=blk7 hq2;have hdo:=pI b2 c M2 q _ hM2 (by rw[hst2];exact HOK.out) hi;rw[hst2,hR] at hdo;clear hf2 hb2) | (go_at_call 50;refine hdo.mono ?_;rintro e w3 ⟨rfl,M3,hM3,hst3,hk3,hf3⟩;have hq3:=(hk3.block _ (Array.getElem?_eq_some_iff.1 hq2).1 (fun hk=>absurd (hf2' _ hk) (by omega))).trans hq2;have hr3:=(hk3.block _ (Array.getElem?_eq_some_iff.1 hr2).1 (fun hk=>absurd (hf2' _ hk) (by omega))).trans hr2;have hB3:Below w.heap.size w w3:=⟨hk3.os.trans hB2.os,hk3.tape.trans hB2.tape,hk3.output.trans hB2.output,Nat.le_trans hB2.size hk3.size,fun k hk=>(hk3.block k (by have:=hB2.size;omega) (fun hf=>absurd (hf2' _ hf) (by omega))).trans (hB2.block k hk)⟩;obtain⟨W4,hs4,hw4,hb4⟩:=kY w3 R.1;have hB4:=hB3.trans (hb4.mono hB3.size);have hq4:=(hb4.block _ (Array.getElem?_eq_some_iff.1 hq3).1).trans hq3;have hr4:=(hb4.block _ (Array.getElem?_eq_some_iff.1 hr3).1).trans hr3;obtain⟨a0,a1,a2,a3,a4,a5,a6,a7,a8,a9,a10,a11,a12⟩:=iW hr4;obtain⟨d0,d1,d2,d3,d4,d5,d6,d7,d8,d9,d10,d11,d12⟩:=iW hw4;have hf3':∀ k,M3.fp b2 k→w.heap.size≤k:=(fun k hk=>(hf3 k hk).elim (fun h=>by have:=hf2' k h;omega) (fun h=>by have:=hB2.size;omega));clear y0 y1 y2 y3 y4 y5 y6 hdo) | (go_at_call 103;refine (jK r R.1 i _ hin).mono ?_;rw[hS];rintro e w5 ⟨rfl,hb5⟩;have hB5:=hB4.trans (hb5.mono hB4.size);clear a0 a1 a2 a3 a4 a5 a6 a7 a8 a9 a10 a11 a12 d0 d1 d2 d3 d4 d5 d6 d7 d8 d9 d10 d11 d12;have hq5:=(hb5.block _ (Array.getElem?_eq_some_iff.1 hq4).1).trans hq4;have hr5:=(hb5.block _ (Array.getElem?_eq_some_iff.1 hr4).1).trans hr4;have hw5:=(hb5.block _ (Array.getElem?_eq_some_iff.1 hw4).1).trans hw4;have hM5:=h.below hB5;obtain⟨y0,y1,y2,y3,y4,y5,y6⟩:=blk7 hq5;have hsta:=jI b M c q w5 hM5 hi hcl;rw[hz] at hsta;clear hb4 hs4 hb5 hk3 hM3 hf3 hf3' hf2') | (go_at_call 100;refine hsta.mono ?_;rintro e w6 ⟨rfl,hb6⟩;have hB6:=hB5.trans (hb6.mono hB5.size);have hq6:=(hb6.block _ (Array.getElem?_eq_some_iff.1 hq5).1).trans hq5;have hr6:=(hb6.block _ (Array.getElem?_eq_some_iff.1 hr5).1).trans hr5;have hw6:=(hb6.block _ (Array.getElem?_eq_some_iff.1 hw5).1).trans hw5;have k6:=(blk7 hq6).1;clear y0 y1 y2 y3 y4 y5 y6 hsta))
  have kx:∀ W,Below w6.heap.size w6 W→W.cell? ⟨w.heap.size+1,0,none⟩=some (.int .i64 r.err)∧W.cell? ⟨w.heap.size+1,1,none⟩=some (.int .i64 r.rev)∧W.cell? ⟨w.heap.size+1,2,none⟩=some (.int .i64 r.slot)∧W.cell? ⟨w.heap.size+1,3,none⟩=some (.int .i64 r.at_)∧W.cell? ⟨w.heap.size+1,4,none⟩=some (.int .u8 r.grav)∧W.cell? ⟨w.heap.size+1,5,none⟩=some (.string r.text)∧W.cell? ⟨w.heap.size+1,6,none⟩=some (.int .i64 r.m1)∧W.cell? ⟨w.heap.size+1,7,none⟩=some (.int .i64 r.m2)∧W.cell? ⟨w.heap.size+1,8,none⟩=some (.int .i64 r.m3)∧W.cell? ⟨w.heap.size+1,9,none⟩=some (.int .u8 i.k)∧W.cell? ⟨w.heap.size+1,10,none⟩=some (.int .i64 i.f)∧W.cell? ⟨w.heap.size+1,11,none⟩=some (.int .i64 i.t)∧W.cell? ⟨w.heap.size+1,12,none⟩=some (.slice i.da i.dn i.dc)∧W.cell? ⟨w3.heap.size,0,none⟩=some (.int .i64 R.1.err):=fun W hW=>by
   have h1:=(hW.block _ (Array.getElem?_eq_some_iff.1 hr6).1).trans hr6
   have h2:=(hW.block _ (Array.getElem?_eq_some_iff.1 hw6).1).trans hw6
   obtain⟨a0,a1,a2,a3,a4,a5,a6,a7,a8,a9,a10,a11,a12⟩:=iW h1
   exact⟨a0,a1,a2,a3,a4,a5,a6,a7,a8,a9,a10,a11,a12,(iW h2).1⟩
  have Kx:=Lib.hid kx
  clear kx
  cases s14 with
  | true =>
   cases e13 with
   | true =>
    have hx90:=(Below.refl w6.heap.size w6).drew
    refine wp_region_noPanic ?_
    refine wp_region_held_drew (S:=fun W=>W.cell? ⟨w.heap.size+1,0,none⟩=some (.int .i64 r.err)∧W.cell? ⟨w.heap.size+1,1,none⟩=some (.int .i64 r.rev)∧W.cell? ⟨w.heap.size+1,2,none⟩=some (.int .i64 r.slot)∧W.cell? ⟨w.heap.size+1,3,none⟩=some (.int .i64 r.at_)∧W.cell? ⟨w.heap.size+1,4,none⟩=some (.int .u8 r.grav)∧W.cell? ⟨w.heap.size+1,5,none⟩=some (.string r.text)∧W.cell? ⟨w.heap.size+1,6,none⟩=some (.int .i64 r.m1)∧W.cell? ⟨w.heap.size+1,7,none⟩=some (.int .i64 r.m2)∧W.cell? ⟨w.heap.size+1,8,none⟩=some (.int .i64 r.m3)∧W.cell? ⟨w.heap.size+1,9,none⟩=some (.int .u8 i.k)∧W.cell? ⟨w.heap.size+1,10,none⟩=some (.int .i64 i.f)∧W.cell? ⟨w.heap.size+1,11,none⟩=some (.int .i64 i.t)∧W.cell? ⟨w.heap.size+1,12,none⟩=some (.slice i.da i.dn i.dc)∧W.cell? ⟨w3.heap.size,0,none⟩=some (.int .i64 R.1.err)) (by kernel_rfl) ?_ (fun hHeld => ?_)
    ·first | exact Kx.out _ hx9 | exact Kx.out _ hx91 | exact Kx.out _ hx90
    first | (refine aL ?_;(try simp only[nSO])) | ((first | refine np_n ?_ ?_ ?_ | refine np_t 0 ?_ ?_ ?_);rotate_left 1;(· (intro w hSw;(try dsimp only at hSw);go_simp;all_goals with_reducible rfl));(try simp only[nSO]))
    first | (refine np_s 1 ?_;(try simp only[nSO])) | (refine aD (i:=1) rfl (by kernel_rfl) (fun K hK => ?_);rw[if_pos (by rfl)];go_simp;((go_at_call 99;refine (eU _ _).mono ?_;rintro e w9a ⟨rfl,hba⟩;have hx91:=hx90.trans (hba.mono hx90.size)));(try go_wp2_with fail);refine hK.out _ _ ?_ (fun hHeld => ?_);(· (first | exact Kx.out _ hx9 | exact Kx.out _ hx91 | exact Kx.out _ hx90));clear hK K;(try simp only[nSO]))
    first | (refine np_s 2 ?_;(try simp only[nSO])) | (refine aD (i:=2) rfl (by kernel_rfl) (fun K hK => ?_);rw[if_pos (by rfl)];go_simp;((go_at_call 103;refine (jK r (fA 14) i _ hin).mono ?_;rw[h14];rintro e w9 ⟨rfl,hbb⟩;have hx9:=hx91.trans (hbb.mono hx91.size)));(try go_wp2_with fail);refine hK.out _ _ ?_ (fun hHeld => ?_);(· (first | exact Kx.out _ hx9 | exact Kx.out _ hx91 | exact Kx.out _ hx90));clear hK K;(try simp only[nSO]))
    iterate 6 (first | (refine aL ?_;(try simp only[nSO])) | (refine np_n ?_ ?_ ?_;rotate_left 1;(· (intro w hSw;(try dsimp only at hSw);go_simp;all_goals with_reducible rfl));(try simp only[nSO])))
    refine wpAnyH_done (by kernel_rfl) ?_ _
    refine NoPanic.normal ?_
    go_wp2
    go_returns
    exact⟨(by first | (simp;done) | (simpa using he13)),M,h.below (hB6.trans (hx9.mono hB6.size)),rfl,aC.of_below (hB6.trans (hx9.mono hB6.size)),fun k hk => .inl hk⟩
   | false =>
    have hx90:=(Below.refl w6.heap.size w6).drew
    refine wp_region_noPanic ?_
    refine wp_region_held_drew (S:=fun W=>W.cell? ⟨w.heap.size+1,0,none⟩=some (.int .i64 r.err)∧W.cell? ⟨w.heap.size+1,1,none⟩=some (.int .i64 r.rev)∧W.cell? ⟨w.heap.size+1,2,none⟩=some (.int .i64 r.slot)∧W.cell? ⟨w.heap.size+1,3,none⟩=some (.int .i64 r.at_)∧W.cell? ⟨w.heap.size+1,4,none⟩=some (.int .u8 r.grav)∧W.cell? ⟨w.heap.size+1,5,none⟩=some (.string r.text)∧W.cell? ⟨w.heap.size+1,6,none⟩=some (.int .i64 r.m1)∧W.cell? ⟨w.heap.size+1,7,none⟩=some (.int .i64 r.m2)∧W.cell? ⟨w.heap.size+1,8,none⟩=some (.int .i64 r.m3)∧W.cell? ⟨w.heap.size+1,9,none⟩=some (.int .u8 i.k)∧W.cell? ⟨w.heap.size+1,10,none⟩=some (.int .i64 i.f)∧W.cell? ⟨w.heap.size+1,11,none⟩=some (.int .i64 i.t)∧W.cell? ⟨w.heap.size+1,12,none⟩=some (.slice i.da i.dn i.dc)∧W.cell? ⟨w3.heap.size,0,none⟩=some (.int .i64 R.1.err)) (by kernel_rfl) ?_ (fun hHeld => ?_)
    ·first | exact Kx.out _ hx9 | exact Kx.out _ hx91 | exact Kx.out _ hx90
    first | (refine aL ?_;(try simp only[nSO])) | ((first | refine np_n ?_ ?_ ?_ | refine np_t 0 ?_ ?_ ?_);rotate_left 1;(· (intro w hSw;(try dsimp only at hSw);go_simp;all_goals with_reducible rfl));(try simp only[nSO]))
    first | (refine np_s 1 ?_;(try simp only[nSO])) | (refine aD (i:=1) rfl (by kernel_rfl) (fun K hK => ?_);rw[if_pos (by rfl)];go_simp;((go_at_call 99;refine (eU _ _).mono ?_;rintro e w9a ⟨rfl,hba⟩;have hx91:=hx90.trans (hba.mono hx90.size)));(try go_wp2_with fail);refine hK.out _ _ ?_ (fun hHeld => ?_);(· (first | exact Kx.out _ hx9 | exact Kx.out _ hx91 | exact Kx.out _ hx90));clear hK K;(try simp only[nSO]))
    first | (refine np_s 2 ?_;(try simp only[nSO])) | (refine aD (i:=2) rfl (by kernel_rfl) (fun K hK => ?_);rw[if_pos (by rfl)];go_simp;((go_at_call 103;refine (jK r (fA 14) i _ hin).mono ?_;rw[h14];rintro e w9 ⟨rfl,hbb⟩;have hx9:=hx91.trans (hbb.mono hx91.size)));(try go_wp2_with fail);refine hK.out _ _ ?_ (fun hHeld => ?_);(· (first | exact Kx.out _ hx9 | exact Kx.out _ hx91 | exact Kx.out _ hx90));clear hK K;(try simp only[nSO]))
    iterate 6 (first | (refine aL ?_;(try simp only[nSO])) | (refine np_n ?_ ?_ ?_;rotate_left 1;(· (intro w hSw;(try dsimp only at hSw);go_simp;all_goals with_reducible rfl));(try simp only[nSO])))
    refine wpAnyH_done (by kernel_rfl) ?_ _
    refine NoPanic.normal ?_
    go_wp2
    go_returns
    exact⟨(by first | (simp;done) | (simpa using he13)),M,h.below (hB6.trans (hx9.mono hB6.size)),rfl,aC.of_below (hB6.trans (hx9.mono hB6.size)),fun k hk => .inl hk⟩
  | false =>
   have hx90:=(Below.refl w6.heap.size w6).drew
   refine wp_region_noPanic ?_
   refine wp_region_held_drew (S:=fun W=>W.cell? ⟨w.heap.size+1,0,none⟩=some (.int .i64 r.err)∧W.cell? ⟨w.heap.size+1,1,none⟩=some (.int .i64 r.rev)∧W.cell? ⟨w.heap.size+1,2,none⟩=some (.int .i64 r.slot)∧W.cell? ⟨w.heap.size+1,3,none⟩=some (.int .i64 r.at_)∧W.cell? ⟨w.heap.size+1,4,none⟩=some (.int .u8 r.grav)∧W.cell? ⟨w.heap.size+1,5,none⟩=some (.string r.text)∧W.cell? ⟨w.heap.size+1,6,none⟩=some (.int .i64 r.m1)∧W.cell? ⟨w.heap.size+1,7,none⟩=some (.int .i64 r.m2)∧W.cell? ⟨w.heap.size+1,8,none⟩=some (.int .i64 r.m3)∧W.cell? ⟨w.heap.size+1,9,none⟩=some (.int .u8 i.k)∧W.cell? ⟨w.heap.size+1,10,none⟩=some (.int .i64 i.f)∧W.cell? ⟨w.heap.size+1,11,none⟩=some (.int .i64 i.t)∧W.cell? ⟨w.heap.size+1,12,none⟩=some (.slice i.da i.dn i.dc)∧W.cell? ⟨w3.heap.size,0,none⟩=some (.int .i64 R.1.err)) (by kernel_rfl) ?_ (fun hHeld => ?_)
   ·first | exact Kx.out _ hx9 | exact Kx.out _ hx91 | exact Kx.out _ hx90
   first | (refine aL ?_;(try simp only[nSO])) | ((first | refine np_n ?_ ?_ ?_ | refine np_t 0 ?_ ?_ ?_);rotate_left 1;(· (intro w hSw;(try dsimp only at hSw);go_simp;all_goals with_reducible rfl));(try simp only[nSO]))
   first | (refine np_s 1 ?_;(try simp only[nSO])) | (refine aD (i:=1) rfl (by kernel_rfl) (fun K hK => ?_);rw[if_pos (by rfl)];go_simp;((go_at_call 99;refine (eU _ _).mono ?_;rintro e w9a ⟨rfl,hba⟩;have hx91:=hx90.trans (hba.mono hx90.size)));(try go_wp2_with fail);refine hK.out _ _ ?_ (fun hHeld => ?_);(· (first | exact Kx.out _ hx9 | exact Kx.out _ hx91 | exact Kx.out _ hx90));clear hK K;(try simp only[nSO]))
   first | (refine np_s 2 ?_;(try simp only[nSO])) | (refine aD (i:=2) rfl (by kernel_rfl) (fun K hK => ?_);rw[if_pos (by rfl)];go_simp;((go_at_call 103;refine (jK r (fA 14) i _ hin).mono ?_;rw[h14];rintro e w9 ⟨rfl,hbb⟩;have hx9:=hx91.trans (hbb.mono hx91.size)));(try go_wp2_with fail);refine hK.out _ _ ?_ (fun hHeld => ?_);(· (first | exact Kx.out _ hx9 | exact Kx.out _ hx91 | exact Kx.out _ hx90));clear hK K;(try simp only[nSO]))
   iterate 6 (first | (refine aL ?_;(try simp only[nSO])) | (refine np_n ?_ ?_ ?_;rotate_left 1;(· (intro w hSw;(try dsimp only at hSw);go_simp;all_goals with_reducible rfl));(try simp only[nSO])))
   refine wpAnyH_done (by kernel_rfl) ?_ _
   refine NoPanic.normal ?_
   go_wp2
   go_returns
   exact⟨(by first | (simp;done) | (simpa using he13)),M,h.below (hB6.trans (hx9.mono hB6.size)),rfl,aC.of_below (hB6.trans (hx9.mono hB6.size)),fun k hk => .inl hk⟩
theorem aDo (b:Nat) (c:Int) (M:MM) (q:OpV) (r:ResV) (i:ItV) (w:World) (h:MdAt w b M) (hok:MSok M.st 100000) (hi:OpIn q) (hin:i.dn≤maxLen) (hS:gY r i (doS M.st c q).1=false) (hz:iG M.st c q=0) (hk:5≤q.kind∧q.kind≠15) :
  Calls Tryz.prog 53 #[.pointer (some ⟨b,0,none⟩),.int .i64 c,.agg #[.int .u8 q.kind,.int .i64 q.slot,.int .i64 q.at_,.int .i64 q.n,.int .u32 q.id,.int .u8 q.grav,.string q.text],.agg #[.int .i64 r.err,.int .i64 r.rev,.int .i64 r.slot,.int .i64 r.at_,.int .u8 r.grav,.string r.text,.int .i64 r.m1,.int .i64 r.m2,.int .i64 r.m3,.int .u8 i.k,.int .i64 i.f,.int .i64 i.t,.slice i.da i.dn i.dc]] w (lD b w (accS M.st c q r i) M):=by
 have hB0:=((Below.refl w.heap.size w).alloc (Nat.le_refl _) (.cells #[.int .u8 q.kind,.int .i64 q.slot,.int .i64 q.at_,.int .i64 q.n,.int .u32 q.id,.int .u8 q.grav,.string q.text] 54)).alloc (by simp) (.cells #[.int .i64 r.err,.int .i64 r.rev,.int .i64 r.slot,.int .i64 r.at_,.int .u8 r.grav,.string r.text,.int .i64 r.m1,.int .i64 r.m2,.int .i64 r.m3,.int .u8 i.k,.int .i64 i.f,.int .i64 i.t,.slice i.da i.dn i.dc] 51)
 have hq0:=(heap_alloc_old (w.alloc (.cells #[.int .u8 q.kind,.int .i64 q.slot,.int .i64 q.at_,.int .i64 q.n,.int .u32 q.id,.int .u8 q.grav,.string q.text] 54)) (.cells #[.int .i64 r.err,.int .i64 r.rev,.int .i64 r.slot,.int .i64 r.at_,.int .u8 r.grav,.string r.text,.int .i64 r.m1,.int .i64 r.m2,.int .i64 r.m3,.int .u8 i.k,.int .i64 i.f,.int .i64 i.t,.slice i.da i.dn i.dc] 51) (show w.heap.size<_ by simp)).trans (heap_alloc_new w _)
 have hr0:=heap_alloc_new (w.alloc (.cells #[.int .u8 q.kind,.int .i64 q.slot,.int .i64 q.at_,.int .i64 q.n,.int .u32 q.id,.int .u8 q.grav,.string q.text] 54)) (.cells #[.int .i64 r.err,.int .i64 r.rev,.int .i64 r.slot,.int .i64 r.at_,.int .u8 r.grav,.string r.text,.int .i64 r.m1,.int .i64 r.m2,.int .i64 r.m3,.int .u8 i.k,.int .i64 i.f,.int .i64 i.t,.slice i.da i.dn i.dc] 51)
 rw[World.size_alloc] at hr0
 have HOK:=Lib.hid hok
 clear hok
 have hM0:=h.below hB0
 obtain⟨R,hR⟩:∃ R,doS M.st c q=R:=⟨_,rfl⟩
 have hcl:M.seats.length≤8:=by have:=HOK.out.clients;have h2:M.st.seats.length=M.seats.length:=List.length_map ..;omega
 rw[hR] at hS
 have hA:accS M.st c q r i=(false,M.st):=by unfold accS accB;rw[hR,if_neg (by simp[hS]),if_neg (by simpa using hz),if_neg (by omega),if_neg (by omega),if_neg (by omega)]
 rw[hA]
 have t15:(q.kind == 15)=false:=by simp;omega
 have t1:(q.kind == 1)=false:=by simp;omega
 have t2:(q.kind == 2)=false:=by simp;omega
 have t3:(q.kind == 3)=false:=by simp;omega
 have t4:(q.kind == 4)=false:=by simp;omega
 clear hA hk
 go_enter Tryz.func53,Tryz.ntmps53
 go_wp2_with (first | (go_at_call 102;refine (kX b M _ 100000 hM0 HOK.out).mono ?_;rintro e w2 ⟨b2,M2,rfl,hM2,hst2,hb2,hf2⟩;have hq2:=(hb2.block _ (by simp;omega)).trans hq0;have hr2:=(hb2.block _ (by simp)).trans hr0;have hB2:=hB0.trans (hb2.mono (by simp;omega));have hf2':∀ k,M2.fp b2 k→w.heap.size+1+1≤k:=(fun k hk=>by have:=hf2 k hk;simpa using this);obtain⟨y0,y1,y2,y3,y4,y5,y6⟩:=blk7 hq2;have hdo:=pI b2 c M2 q _ hM2 (by rw[hst2];exact HOK.out) hi;rw[hst2,hR] at hdo;clear hf2 hb2) | (go_at_call 50;refine hdo.mono ?_;rintro e w3 ⟨rfl,M3,hM3,hst3,hk3,hf3⟩;have hq3:=(hk3.block _ (Array.getElem?_eq_some_iff.1 hq2).1 (fun hk=>absurd (hf2' _ hk) (by omega))).trans hq2;have hr3:=(hk3.block _ (Array.getElem?_eq_some_iff.1 hr2).1 (fun hk=>absurd (hf2' _ hk) (by omega))).trans hr2;have hB3:Below w.heap.size w w3:=⟨hk3.os.trans hB2.os,hk3.tape.trans hB2.tape,hk3.output.trans hB2.output,Nat.le_trans hB2.size hk3.size,fun k hk=>(hk3.block k (by have:=hB2.size;omega) (fun hf=>absurd (hf2' _ hf) (by omega))).trans (hB2.block k hk)⟩;obtain⟨W4,hs4,hw4,hb4⟩:=kY w3 R.1;have hB4:=hB3.trans (hb4.mono hB3.size);have hq4:=(hb4.block _ (Array.getElem?_eq_some_iff.1 hq3).1).trans hq3;have hr4:=(hb4.block _ (Array.getElem?_eq_some_iff.1 hr3).1).trans hr3;obtain⟨a0,a1,a2,a3,a4,a5,a6,a7,a8,a9,a10,a11,a12⟩:=iW hr4;obtain⟨d0,d1,d2,d3,d4,d5,d6,d7,d8,d9,d10,d11,d12⟩:=iW hw4;have hf3':∀ k,M3.fp b2 k→w.heap.size≤k:=(fun k hk=>(hf3 k hk).elim (fun h=>by have:=hf2' k h;omega) (fun h=>by have:=hB2.size;omega));clear y0 y1 y2 y3 y4 y5 y6 hdo) | (go_at_call 103;refine (jK r R.1 i _ hin).mono ?_;rw[hS];rintro e w5 ⟨rfl,hb5⟩;have hB5:=hB4.trans (hb5.mono hB4.size);clear a0 a1 a2 a3 a4 a5 a6 a7 a8 a9 a10 a11 a12 d0 d1 d2 d3 d4 d5 d6 d7 d8 d9 d10 d11 d12;have hq5:=(hb5.block _ (Array.getElem?_eq_some_iff.1 hq4).1).trans hq4;have hr5:=(hb5.block _ (Array.getElem?_eq_some_iff.1 hr4).1).trans hr4;have hw5:=(hb5.block _ (Array.getElem?_eq_some_iff.1 hw4).1).trans hw4;have hM5:=h.below hB5;obtain⟨y0,y1,y2,y3,y4,y5,y6⟩:=blk7 hq5;have hsta:=jI b M c q w5 hM5 hi hcl;rw[hz] at hsta;clear hb4 hs4 hb5 hk3 hM3 hf3 hf3' hf2') | (go_at_call 100;refine hsta.mono ?_;rintro e w6 ⟨rfl,hb6⟩;have hB6:=hB5.trans (hb6.mono hB5.size);have hq6:=(hb6.block _ (Array.getElem?_eq_some_iff.1 hq5).1).trans hq5;have hr6:=(hb6.block _ (Array.getElem?_eq_some_iff.1 hr5).1).trans hr5;have hw6:=(hb6.block _ (Array.getElem?_eq_some_iff.1 hw5).1).trans hw5;have k6:=(blk7 hq6).1;clear y0 y1 y2 y3 y4 y5 y6 hsta))
 go_returns
 exact⟨rfl,M,h.below hB6,rfl,aC.of_below hB6,fun k hk => .inl hk⟩
end Go.Proofs.YtdeiocppghhfdaaGreat
