/- Texts, one behind another. -/
import Derived.Test.YtdeiocppghhfdaaGreatZfar
set_option linter.unusedVariables false
set_option linter.unusedSimpArgs false
set_option maxRecDepth 100000
set_option maxHeartbeats 40000000
namespace Go.Proofs.YtdeiocppghhfdaaGreat
open Go.RowKit Go.Lib Go.Shelf
attribute [local go_sem, local simp] resF bD bS fK fM fO dQ eX eY
theorem MdAt.drew {W:World} {b:Nat} {M:MM} (h:MdAt W b M):MdAt W.drew b M:=⟨h.blk,h.marks,h.seats,h.slots,h.smarks,h.some_,h.nodup⟩
theorem aB1 (b:Nat) (M:MM) (c:Int) (o:OpV) (w:World) (h:MdAt w b M) (hok:MSok M.st 100000) (hat:0≤o.at_) (hn:0<o.n) :
  Calls Tryz.prog 138 #[.pointer (some ⟨b,0,none⟩),.int .i64 c,.agg #[.int .u8 o.kind,.int .i64 o.slot,.int .i64 o.at_,.int .i64 o.n,.int .u32 o.id,.int .u8 o.grav,.string o.text]] w (Post b w (delS M.st o) M):=by
 have hsz:M.text.size≤65536:=hok.size
 have hE:=yC w b o
 have hM0:=h.below hE.bl
 have hbw:=(gAz h.blk).1
 have hrB:w.heap.size≤w.heap.size+1+1:=by omega
 obtain⟨p2,p3,p6,_,_⟩:=hE.o2
 have hf:=aEh b (w.heap.size+1) w.heap.size M o _ (w.heap.size+1+1+1) (by simp) hM0 (by simp) (by simp;omega) p2 p3 hE.c0 (by omega) hat
 clear p2 p3 p6
 have hrE:=aR9 M o
 have hok:=Lib.hid hok
 by_cases hI:oM M o=0
 ·rw[if_pos hI] at hrE
  rw[hI] at hf
  have hf:=Lib.hid hf
  have hcl:M.closed=false∧o.at_≤(M.text.size:Int)∧o.n≤(M.text.size:Int)-o.at_:=by
   have h9:=hI
   unfold oM at h9
   split at h9
   ·cases h9
   ·rename_i hc
    split at h9
    ·cases h9
    ·exact⟨by simpa using hc,by omega,by omega⟩
  obtain⟨_,q1,q2⟩:=hcl
  have hwr:IntKind.i64.wrap (o.at_+o.n)=o.at_+o.n:=IntWalk.i64_in _ (by omega)
  clear hI
  go_enter Tryz.func138,Tryz.ntmps138
  go_wp2_with (first | (go_at_call 188;refine hf.out.mono ?_;rintro e w8 ⟨rfl,hb8⟩;have hE8:=hE.on hb8;have hM8:=hM0.below hb8;clear hf))
  have kx:∀ W,Below w8.heap.size w8 W→(W.cell? ⟨w.heap.size,0,none⟩=some (.pointer (some ⟨b,0,none⟩))∧W.cell? ⟨w.heap.size+1,2,none⟩=some (.int .i64 o.at_)∧W.cell? ⟨w.heap.size+1,3,none⟩=some (.int .i64 o.n))∧Below w8.heap.size w8 W:=fun W hW=>⟨⟨(hE8.on hW).c0,(hE8.on hW).o2.1,(hE8.on hW).o2.2.1⟩,hW⟩
  have Kx:=Lib.hid kx
  clear kx
  have hx0:=(Below.refl w8.heap.size w8).drew
  have hfst:=aEi b M o w8.drew w8.heap.size rfl hM8.drew
  have hxb1:=hx0.trans (qK w8.drew b o.at_ w8.heap.size rfl).1
  have hxb2:=(hxb1.alloc hxb1.size (.cells #[.pointer (some ⟨b,0,none⟩)] 81)).alloc (by rw[World.size_alloc];have:=hxb1.size;omega) (.cells #[.int .i64 (o.at_+o.n)] 3)
  have hxb3:=hxb2.alloc hxb2.size (.cells #[.func (.func 237) #[] #[.pointer (some ⟨w8.heap.size+1,0,none⟩),.pointer (some ⟨w8.heap.size,0,none⟩)],.func (.func 237) #[] #[.pointer (some ⟨w8.heap.size+1+1+1,0,none⟩),.pointer (some ⟨w8.heap.size+1+1,0,none⟩)]] 221)
  refine aP (S:=fun W=>(W.cell? ⟨w.heap.size,0,none⟩=some (.pointer (some ⟨b,0,none⟩))∧W.cell? ⟨w.heap.size+1,2,none⟩=some (.int .i64 o.at_)∧W.cell? ⟨w.heap.size+1,3,none⟩=some (.int .i64 o.n))∧Below w8.heap.size w8 W) ?_ (fun hHeld => ?_)
  ·first | exact Kx.out _ hx3 | exact Kx.out _ hx1 | exact Kx.out _ hx0
  iterate 3 (((first | refine np_q ?_ | refine aL 0 ?_);(try simp only[nSO])))
  (refine aL 4 ?_;(try simp only[nSO]))
  iterate 5 ((refine np_q ?_;(try simp only[nSO])))
  (refine np_c 3 (fun K hK => ?_);go_simp;((go_at_call 190;refine (iG b o.at_ _).mono ?_;rintro e v9 ⟨rfl,rfl⟩;have hx1:=hxb1));(try go_wp2_with fail);refine hK.out _ _ ?_ (fun hHeld => ?_);(· (first | exact Kx.out _ hx3 | exact Kx.out _ hx1 | exact Kx.out _ hx0));clear hK K;(try simp only[nSO]))
  (refine np_c 10 (fun K hK => ?_);go_simp;((go_at_call 190;refine (iG b (o.at_+o.n) _).mono ?_;rintro e v9 ⟨rfl,rfl⟩;have hx1:=hxb2));(try go_wp2_with fail);refine hK.out _ _ ?_ (fun hHeld => ?_);(· (first | exact Kx.out _ hx3 | exact Kx.out _ hx1 | exact Kx.out _ hx0));clear hK K;(try simp only[nSO]))
  (refine np_c 11 (fun K hK => ?_);go_simp;((have hx1:=hxb3));(try go_wp2_with fail);refine hK.out _ _ ?_ (fun hHeld => ?_);(· (first | exact Kx.out _ hx3 | exact Kx.out _ hx1 | exact Kx.out _ hx0));clear hK K;(try simp only[nSO]))
  (refine np_c 12 (fun K hK => ?_);go_simp;((go_at_call 188;refine hfst.mono ?_;rintro e v8 ⟨rfl,hb8⟩;have hx3:=hx0.trans hb8));(try go_wp2_with fail);refine hK.out _ _ ?_ (fun hHeld => ?_);(· (first | exact Kx.out _ hx3 | exact Kx.out _ hx1 | exact Kx.out _ hx0));clear hK K;(try simp only[nSO]))
  (refine np_q ?_;(try simp only[nSO]))
  refine np_z ?_
  have hxv:=hHeld.2
  have hEv:=hE8.on hxv
  obtain⟨e2,e3,e6,_,_⟩:=hEv.o2
  have e0:=hEv.c0
  have hMv:=hM8.below hxv
  clear hHeld hfst hxb1 hxb2 hxb3 Kx hx0
  by_cases hJ:sS M o=0
  ·have hS:delS M.st o=repS M.st o.at_ o.n ⟨#[]⟩:=by unfold delS;rw[if_neg (by rw[hrE];simpa using hJ)]
   have hRep:iP M.text.size o.at_ o.n ⟨#[]⟩:=⟨hat,by omega,by omega,by omega,by decide,.inr ⟨hn,rfl⟩⟩
   rw[hJ]
   rw[hS]
   go_wp2_with (go_at_call 192;refine (qF b M o.at_ o.n ⟨#[]⟩ _ hMv hRep hok.out.marks hok.out.num0 hok.out.num1).mono ?_;rintro e v7 ⟨rfl,⟨mv,hM7⟩,hK7⟩;have hz7:=(hK7.block _ (gAz hEv.res).1 (by omega)).trans hEv.res;have hst:=aK hz7 rfl)
   exact⟨rfl,_,results_cell_row rfl _ _ _ _ _ _ _ rfl (setRow_heap _ _ _ _ _ _ hz7) Tryz.underlying51 rfl (by kernel_rfl),(by first | (rw[hS];done) | (rw[hS];rfl)),_,hM7.row hz7 _,(by rw[hS];rfl),((aF.of_below hEv.bl).trans (hK7.mono (fun k hk => .inl hk))).row hrB _,fun k hk => .inl hk⟩
  ·have hS:delS M.st o=(aS (sS M o),M.st):=by unfold delS;rw[if_pos (by rw[hrE];exact hJ),hrE]
   have hd:(sS M o == 0)=false:=by simpa using hJ
   rw[hS]
   generalize sS M o=E at *
   go_wp2_with (go_at_call 99;refine (bT _ _).mono ?_;rintro e v7 ⟨rfl,hb7⟩;have hE7:=hEv.on hb7;have hst:=aK hE7.res rfl)
   exact⟨rfl,_,results_cell_row rfl _ _ _ _ _ _ _ rfl (setRow_heap _ _ _ _ _ _ hE7.res) Tryz.underlying51 rfl (by kernel_rfl),(by first | (rw[hS];done) | (rw[hS];rfl)),M,(hMv.below hb7).row hE7.res _,(by rw[hS]),(aF.of_below hE7.bl).row hrB _,fun k hk => .inl hk⟩
 ·rw[if_neg hI] at hrE
  have hS:delS M.st o=(aS (oM M o),M.st):=by unfold delS;rw[if_pos (by rw[hrE];exact hI),hrE]
  have hd:(oM M o == 0)=false:=by simpa using hI
  rw[hS]
  clear hrE hS
  generalize oM M o=E at *
  have hf:=Lib.hid hf
  go_enter Tryz.func138,Tryz.ntmps138
  go_wp2_with (first | (go_at_call 188;refine hf.out.mono ?_;rintro e w8 ⟨rfl,hb8⟩;have hE8:=hE.on hb8;have hM8:=hM0.below hb8;clear hf) | (go_at_call 99;refine (bT _ _).mono ?_;rintro e v7 ⟨rfl,hb7⟩;have hE7:=hE8.on hb7;have hst:=aK hE7.res rfl))
  exact⟨rfl,_,results_cell_row rfl _ _ _ _ _ _ _ rfl (setRow_heap _ _ _ _ _ _ hE7.res) Tryz.underlying51 rfl (by kernel_rfl),rfl,M,(hM8.below hb7).row hE7.res _,rfl,(aF.of_below hE7.bl).row hrB _,fun k hk => .inl hk⟩
end Go.Proofs.YtdeiocppghhfdaaGreat
namespace Go.Proofs.YtdeiocppghhfdaaGreat
open Go.RowKit Go.Lib Go.Shelf
attribute [local go_sem, local simp] resF bD bS fK fM fO dQ eX eY aF1 aF2 aF3
theorem aQ0 (g o:Nat) (cur:Array Value) (x:SnM) (q:OpV) (w:World) (h:SnAt w g o cur x) (hok:SnOK x.s) (hk:q.kind=6) :
  Calls Tryz.prog 146 #[.pointer (some ⟨g,o,none⟩),.agg #[.int .u8 q.kind,.int .i64 q.slot,.int .i64 q.at_,.int .i64 q.n,.int .u32 q.id,.int .u8 q.grav,.string q.text]] w (kD g o cur w x (snpS x.s q)):=by
 have hsz:=hok.1
 rw[snp6 hk]
 clear hk
 have hE:=aY w q
 have hN0:=h.below hE.bl
 obtain⟨⟨c0,c1,c2,c3⟩,f0,f1,f2,f3⟩:=hN0.cells
 obtain⟨p2,p3,p6,p4,p5⟩:=hE.o2
 have hrB:w.heap.size≤w.heap.size+1:=by omega
 have om:=fun W=>aN8 x.s.text W (Nat.le_trans hsz (by decide))
 simp only[aBf] at om
 go_enter Tryz.func146,Tryz.ntmps146
 go_wp2_with (go_at_call 199;refine (om _).mono ?_;rintro e w1 ⟨rfl,hb1⟩;have hE2:=hE.on hb1;have hst:=aK hE2.res rfl)
 exact⟨rfl,_,results_cell_row rfl _ _ _ _ _ _ _ rfl (setRow_heap _ _ _ _ _ _ hE2.res) Tryz.underlying51 rfl (by kernel_rfl),rfl,h.post hE2.bl hE2.res hrB _⟩
theorem zZ (t:ByteArray) (a n:Int) (ha:0≤a) (hn:0≤n):t.extract a.toNat (a+n).toNat=cutT t a n:=by
 apply ByteArray.ext
 apply Array.toList_inj.1
 rw[ByteArray.data_extract,Array.toList_extract,List.extract_eq_take_drop]
 unfold cutT
 rw[show (a+n).toNat-a.toNat=n.toNat by omega]
theorem aOy (g o:Nat) (cur:Array Value) (x:SnM) (q:OpV) (w:World) (h:SnAt w g o cur x) (hok:SnOK x.s) (hk:q.kind=7) (ha:0≤q.at_) (ha2:q.at_≤maxLen) (hn:0≤q.n) (hn2:q.n≤maxLen) :
  Calls Tryz.prog 147 #[.pointer (some ⟨g,o,none⟩),.agg #[.int .u8 q.kind,.int .i64 q.slot,.int .i64 q.at_,.int .i64 q.n,.int .u32 q.id,.int .u8 q.grav,.string q.text]] w (kD g o cur w x (snpS x.s q)):=by
 have hsz:=hok.1
 rw[snp7 hk]
 clear hk
 have hE:=aY w q
 have hN0:=h.below hE.bl
 obtain⟨⟨c0,c1,c2,c3⟩,f0,f1,f2,f3⟩:=hN0.cells
 obtain⟨p2,p3,p6,p4,p5⟩:=hE.o2
 have hrB:w.heap.size≤w.heap.size+1:=by omega
 by_cases h1:(x.s.text.size:Int)<q.at_
 ·rw[if_pos (.inl h1)]
  have d:decide ((x.s.text.size:Int)<q.at_)=true:=by simpa using h1
  go_enter Tryz.func147,Tryz.ntmps147
  go_wp2
  go_region
  go_wp2_with (go_at_call 99;refine (bT _ _).mono ?_;rintro e v7 ⟨rfl,hb7⟩;have hE7:=(by first | exact hE.on hb7 | exact hE.drew.on hb7 | exact hE.drew.drew.on hb7:Ed2 w q (w.heap.size+1) v7);have hst:=aK hE7.res rfl)
  exact⟨rfl,_,results_cell_row rfl _ _ _ _ _ _ _ rfl (setRow_heap _ _ _ _ _ _ hE7.res) Tryz.underlying51 rfl (by kernel_rfl),rfl,h.post hE7.bl hE7.res hrB _⟩
 ·have d:decide ((x.s.text.size:Int)<q.at_)=false:=by simpa using h1
  have hws:IntKind.i64.wrap ((x.s.text.size:Int)-q.at_)=(x.s.text.size:Int)-q.at_:=IntWalk.i64_in _ (by omega)
  by_cases h2:(x.s.text.size:Int)-q.at_<q.n
  ·rw[if_pos (.inr h2)]
   have d2:decide ((x.s.text.size:Int)-q.at_<q.n)=true:=by simpa using h2
   go_enter Tryz.func147,Tryz.ntmps147
   go_wp2
   go_region
   go_wp2_with (go_at_call 99;refine (bT _ _).mono ?_;rintro e v7 ⟨rfl,hb7⟩;have hE7:=(by first | exact hE.on hb7 | exact hE.drew.on hb7 | exact hE.drew.drew.on hb7:Ed2 w q (w.heap.size+1) v7);have hst:=aK hE7.res rfl)
   exact⟨rfl,_,results_cell_row rfl _ _ _ _ _ _ _ rfl (setRow_heap _ _ _ _ _ _ hE7.res) Tryz.underlying51 rfl (by kernel_rfl),rfl,h.post hE7.bl hE7.res hrB _⟩
  ·rw[if_neg (by omega)]
   have d2:decide ((x.s.text.size:Int)-q.at_<q.n)=false:=by simpa using h2
   have hwr:IntKind.i64.wrap (q.at_+q.n)=q.at_+q.n:=IntWalk.i64_in _ (by omega)
   have hst:=aK hE.res rfl
   have hst1:=aK hE.drew.res rfl
   have hst2:=aK hE.drew.drew.res rfl
   have b1:0≤q.at_+q.n:=by omega
   have b2:q.at_+q.n≤(x.s.text.size:Int):=by omega
   have b3:q.at_≤q.at_+q.n:=by omega
   go_enter Tryz.func147,Tryz.ntmps147
   go_wp2
   go_region
   go_wp2
   go_region
   go_wp2
   rw[zZ _ _ _ ha hn]
   exact⟨rfl,_,results_cell_row rfl _ _ _ _ _ _ _ rfl (setRow_heap _ _ _ _ _ _ hE.drew.drew.res) Tryz.underlying51 rfl (by kernel_rfl),rfl,h.post hE.drew.drew.bl hE.drew.drew.res hrB _⟩
theorem aOz (g o:Nat) (cur:Array Value) (x:SnM) (q:OpV) (w:World) (h:SnAt w g o cur x) (hok:SnOK x.s) (hk:q.kind=8) (hn2:q.n≤maxLen) :
  Calls Tryz.prog 148 #[.pointer (some ⟨g,o,none⟩),.agg #[.int .u8 q.kind,.int .i64 q.slot,.int .i64 q.at_,.int .i64 q.n,.int .u32 q.id,.int .u8 q.grav,.string q.text]] w (kD g o cur w x (snpS x.s q)):=by
 have hsz:=hok.1
 rw[snp8 hk]
 clear hk
 have hE:=aY w q
 have hN0:=h.below hE.bl
 obtain⟨⟨c0,c1,c2,c3⟩,f0,f1,f2,f3⟩:=hN0.cells
 obtain⟨p2,p3,p6,p4,p5⟩:=hE.o2
 have hrB:w.heap.size≤w.heap.size+1:=by omega
 have om:=fun W=>aHx x.s.text q.n W (Nat.le_trans hsz (by decide)) hn2
 have hst:=aK hE.res rfl
 have hst1:=aK hE.drew.res rfl
 go_enter Tryz.func148,Tryz.ntmps148
 go_wp2
 go_region_with (go_at_call 200;refine (om _).mono ?_;rintro e w1 ⟨rfl,rfl⟩)
 all_goals go_wp2
 all_goals exact⟨rfl,_,results_cell_row rfl _ _ _ _ _ _ _ rfl (setRow_heap _ _ _ _ _ _ hE.drew.res) Tryz.underlying51 rfl (by kernel_rfl),rfl,h.post hE.drew.bl hE.drew.res hrB _⟩
theorem aO0 (g o:Nat) (cur:Array Value) (x:SnM) (q:OpV) (w:World) (h:SnAt w g o cur x) (hok:SnOK x.s) (hk:q.kind=9) (hn2:q.n≤maxLen) :
  Calls Tryz.prog 149 #[.pointer (some ⟨g,o,none⟩),.agg #[.int .u8 q.kind,.int .i64 q.slot,.int .i64 q.at_,.int .i64 q.n,.int .u32 q.id,.int .u8 q.grav,.string q.text]] w (kD g o cur w x (snpS x.s q)):=by
 have hsz:=hok.1
 rw[snp9 hk]
 clear hk
 have hE:=aY w q
 have hN0:=h.below hE.bl
 obtain⟨⟨c0,c1,c2,c3⟩,f0,f1,f2,f3⟩:=hN0.cells
 obtain⟨p2,p3,p6,p4,p5⟩:=hE.o2
 have hrB:w.heap.size≤w.heap.size+1:=by omega
 have om:=fun W=>aHy x.s.text q.n W (Nat.le_trans hsz (by decide)) hn2
 have hst:=aK hE.res rfl
 have hst1:=aK hE.drew.res rfl
 go_enter Tryz.func149,Tryz.ntmps149
 go_wp2
 go_region_with (go_at_call 201;refine (om _).mono ?_;rintro e w1 ⟨rfl,rfl⟩)
 all_goals go_wp2
 all_goals exact⟨rfl,_,results_cell_row rfl _ _ _ _ _ _ _ rfl (setRow_heap _ _ _ _ _ _ hE.drew.res) Tryz.underlying51 rfl (by kernel_rfl),rfl,h.post hE.drew.bl hE.drew.res hrB _⟩
theorem aB2 (id:Int) (l:List MkV):hasM id l=(iD id l).isSome:=by
 unfold hasM iD
 rw[Bool.eq_iff_iff,List.any_eq_true,List.find?_isSome]
theorem aB3 {w W:World} {q:OpV} {r g o:Nat} {cur:Array Value} {x:SnM} (hE:Ed2 w q r W) (hN:SnAt W g o cur x) (hr:r≠g) (p:Int):SnAt (W.setCell ⟨g,o+3,none⟩ (.int .i64 p)) g o (segA cur o (snL ⟨{ x.s with cursor:=p },x.mv⟩)) ⟨{ x.s with cursor:=p },x.mv⟩ ∧
  (W.setCell ⟨g,o+3,none⟩ (.int .i64 p)).heap[r]? = some (.cells (resL {}).toArray 51 (0,0))∧(W.setCell ⟨g,o+3,none⟩ (.int .i64 p)).drew.heap[r]? = some (.cells (resL {}).toArray 51 (0,0))∧(W.setCell ⟨g,o+3,none⟩ (.int .i64 p)).drew.drew.heap[r]? = some (.cells (resL {}).toArray 51 (0,0))∧aF (fun k=>k=g) W (W.setCell ⟨g,o+3,none⟩ (.int .i64 p)):=by
 have hz:=(aG W ⟨g,o+3,none⟩ (.int .i64 p) r hr).trans hE.res
 exact⟨hN.set3 p,hz,hz,hz,aF.set (F:=fun k=>k=g) (a:=⟨g,o+3,none⟩) rfl _⟩
theorem frz3 {w:World} {b:Nat} {u v x:Value} {T:TypeId} (h:w.heap[b]? = some (.cells #[u,v,x] T (0,0))):w.frozen? ⟨b,0,none⟩=false∧w.frozen? ⟨b,1,none⟩=false∧w.frozen? ⟨b,2,none⟩=false:=by
 refine⟨?_,?_,?_⟩<;>simp[World.frozen?,h]
theorem aO1 (g o:Nat) (cur:Array Value) (x:SnM) (q:OpV) (w:World) (h:SnAt w g o cur x) (hok:SnOK x.s) (hk:q.kind=10) :
  Calls Tryz.prog 150 #[.pointer (some ⟨g,o,none⟩),.agg #[.int .u8 q.kind,.int .i64 q.slot,.int .i64 q.at_,.int .i64 q.n,.int .u32 q.id,.int .u8 q.grav,.string q.text]] w (kD g o cur w x (snpS x.s q)):=by
 have hsz:=hok.1
 rw[aQj hk]
 clear hk
 have hE:=aY w q
 have hN0:=h.below hE.bl
 obtain⟨⟨c0,c1,c2,c3⟩,f0,f1,f2,f3⟩:=hN0.cells
 obtain⟨p2,p3,p6,p4,p5⟩:=hE.o2
 have hrB:w.heap.size≤w.heap.size+1:=by omega
 obtain⟨ao,cp,hmv⟩:=aC h.marks
 have h1:=h.marks
 rw[hmv] at h1 c2
 have c2':=fun u=>Lib.cell?_alloc_some u c2
 have p4':=fun u=>Lib.cell?_alloc_some u p4
 obtain⟨hrow,hcp⟩:=bV rfl h1
 have fa:=fun W (hB:Below w.heap.size w W)=>mP ao cp x.s.marks q.id W (hrow.on hB) hok.2.1.2.1 (by have:=hok.2.1.1;omega) hcp
 unfold fE at fa
 simp only[aB2] at fa
 have hEx:=hE.alc (.cells #[.int .u32 0,.int .i64 0,.int .u8 0] 74)
 have hsx:((w.alloc (.cells #[.int .u8 q.kind,.int .i64 q.slot,.int .i64 q.at_,.int .i64 q.n,.int .u32 q.id,.int .u8 q.grav,.string q.text] 54)).alloc (.cells (resL {}).toArray 51)).heap.size=w.heap.size+1+1:=by simp
 have hpx:=heap_alloc_new ((w.alloc (.cells #[.int .u8 q.kind,.int .i64 q.slot,.int .i64 q.at_,.int .i64 q.n,.int .u32 q.id,.int .u8 q.grav,.string q.text] 54)).alloc (.cells (resL {}).toArray 51)) (.cells #[.int .u32 0,.int .i64 0,.int .u8 0] 74)
 rw[hsx] at hpx
 cases hf:iD q.id x.s.marks with
 |none =>
  simp only[hf,Option.isSome,Option.getD,mkL,iY] at fa
  go_enter Tryz.func150,Tryz.ntmps150
  go_wp2
  go_region_with (go_at_call 202;first | (refine (fa _ hE.bl.drew).mono ?_;rintro e w1 ⟨rfl,hb1⟩;have hE1:=hE.drew.on hb1;have hE2:=hE1.alc (.cells #[.int .u32 0,.int .i64 0,.int .u8 0] 74);have hst:=aK hE2.res rfl) | (refine (fa _ hEx.bl.drew).mono ?_;rintro e w1 ⟨rfl,hb1⟩;have hE1:=hEx.drew.on hb1;have hp1:=(hb1.block (w.heap.size+1+1) (by simp)).trans hpx;obtain⟨m0,m1,m2⟩:=cZ hp1;obtain⟨f0,f1,f2⟩:=frz3 hp1;have hE2:=((hE1.set (w.heap.size+1+1) 0 (.int .u32 0) (by omega) (by omega) (by omega)).set (w.heap.size+1+1) 1 (.int .i64 0) (by omega) (by omega) (by omega)).set (w.heap.size+1+1) 2 (.int .u8 0) (by omega) (by omega) (by omega);have hst:=aK hE2.res rfl))
  all_goals go_wp2_with (go_at_call 99;refine (bT _ _).mono ?_;rintro e v7 ⟨rfl,hb7⟩;have hE7:=hE2.on hb7;have hst7:=aK hE7.res rfl)
  all_goals exact⟨rfl,_,results_cell_row rfl _ _ _ _ _ _ _ rfl (setRow_heap _ _ _ _ _ _ hE7.res) Tryz.underlying51 rfl (by kernel_rfl),rfl,h.post hE7.bl hE7.res hrB _⟩
 |some m =>
  simp only[hf,Option.isSome,Option.getD,mkL,iY] at fa
  go_enter Tryz.func150,Tryz.ntmps150
  go_wp2
  go_region_with (go_at_call 202;first | (refine (fa _ hE.bl.drew).mono ?_;rintro e w1 ⟨rfl,hb1⟩;have hE1:=hE.drew.on hb1;have hE2:=hE1.alc (.cells #[.int .u32 m.id,.int .i64 m.at_,.int .u8 m.grav] 74);have hst:=aK hE2.res rfl) | (refine (fa _ hEx.bl.drew).mono ?_;rintro e w1 ⟨rfl,hb1⟩;have hE1:=hEx.drew.on hb1;have hp1:=(hb1.block (w.heap.size+1+1) (by simp)).trans hpx;obtain⟨m0,m1,m2⟩:=cZ hp1;obtain⟨f0,f1,f2⟩:=frz3 hp1;have hE2:=((hE1.set (w.heap.size+1+1) 0 (.int .u32 m.id) (by omega) (by omega) (by omega)).set (w.heap.size+1+1) 1 (.int .i64 m.at_) (by omega) (by omega) (by omega)).set (w.heap.size+1+1) 2 (.int .u8 m.grav) (by omega) (by omega) (by omega);have hst:=aK hE2.res rfl))
  all_goals go_wp2
  all_goals exact⟨rfl,_,results_cell_row rfl _ _ _ _ _ _ _ rfl (setRow_heap _ _ _ _ _ _ hE2.res) Tryz.underlying51 rfl (by kernel_rfl),rfl,h.post hE2.bl hE2.res hrB _⟩
theorem aO2 (g o:Nat) (cur:Array Value) (x:SnM) (q:OpV) (w:World) (h:SnAt w g o cur x) (hok:SnOK x.s) (hk:q.kind=11) (ha:0≤q.at_) (ha2:q.at_≤maxLen) :
  Calls Tryz.prog 151 #[.pointer (some ⟨g,o,none⟩),.agg #[.int .u8 q.kind,.int .i64 q.slot,.int .i64 q.at_,.int .i64 q.n,.int .u32 q.id,.int .u8 q.grav,.string q.text]] w (kD g o cur w x (snpS x.s q)):=by
 have hsz:=hok.1
 rw[aQk hk]
 clear hk
 have hE:=aY w q
 have hN0:=h.below hE.bl
 obtain⟨⟨c0,c1,c2,c3⟩,f0,f1,f2,f3⟩:=hN0.cells
 obtain⟨p2,p3,p6,p4,p5⟩:=hE.o2
 have hrB:w.heap.size≤w.heap.size+1:=by omega
 by_cases h1:(x.s.text.size:Int)<q.at_
 ·rw[if_pos h1]
  have d:decide ((x.s.text.size:Int)<q.at_)=true:=by simpa using h1
  go_enter Tryz.func151,Tryz.ntmps151
  go_wp2
  go_region
  go_wp2_with (go_at_call 99;refine (bT _ _).mono ?_;rintro e v7 ⟨rfl,hb7⟩;have hE7:=(by first | exact hE.on hb7 | exact hE.drew.on hb7 | exact hE.drew.drew.on hb7:Ed2 w q (w.heap.size+1) v7);have hst:=aK hE7.res rfl)
  exact⟨rfl,_,results_cell_row rfl _ _ _ _ _ _ _ rfl (setRow_heap _ _ _ _ _ _ hE7.res) Tryz.underlying51 rfl (by kernel_rfl),rfl,h.post hE7.bl hE7.res hrB _⟩
 ·rw[if_neg h1]
  have d:decide ((x.s.text.size:Int)<q.at_)=false:=by simpa using h1
  have hgr:w.heap.size+1≠g:=by have:=(gAz h.blk).1;omega
  obtain⟨hN3,hz3,hzd,hzdd,hK3⟩:=aB3 hE hN0 hgr q.at_
  have hst:=aK hzd rfl
  go_enter Tryz.func151,Tryz.ntmps151
  go_wp2
  go_region
  go_wp2
  exact⟨rfl,_,results_cell_row rfl _ _ _ _ _ _ _ rfl (setRow_heap _ _ _ _ _ _ hz3) Tryz.underlying51 rfl (by kernel_rfl),rfl,SnAt.post2 (x:=x) ⟨_,rfl,hN3.drew⟩ hE.bl hK3.drew hz3 hrB _⟩
theorem aO3 (g o:Nat) (cur:Array Value) (x:SnM) (q:OpV) (w:World) (h:SnAt w g o cur x) (hok:SnOK x.s) (hk:q.kind=12) (hn:0≤q.n) (hn2:q.n≤maxLen) :
  Calls Tryz.prog 152 #[.pointer (some ⟨g,o,none⟩),.agg #[.int .u8 q.kind,.int .i64 q.slot,.int .i64 q.at_,.int .i64 q.n,.int .u32 q.id,.int .u8 q.grav,.string q.text]] w (kD g o cur w x (snpS x.s q)):=by
 have hsz:=hok.1
 rw[aQl hk]
 clear hk
 have hE:=aY w q
 have hN0:=h.below hE.bl
 obtain⟨⟨c0,c1,c2,c3⟩,f0,f1,f2,f3⟩:=hN0.cells
 obtain⟨p2,p3,p6,p4,p5⟩:=hE.o2
 have hrB:w.heap.size≤w.heap.size+1:=by omega
 obtain⟨_,_,cu0,cu1⟩:=hok
 have hws:IntKind.i64.wrap ((x.s.text.size:Int)-x.s.cursor)=(x.s.text.size:Int)-x.s.cursor:=IntWalk.i64_in _ (by omega)
 obtain⟨m,hm⟩:∃ m,min q.n ((x.s.text.size:Int)-x.s.cursor)=m:=⟨_,rfl⟩
 have m0:0≤m:=by omega
 have m1:x.s.cursor+m≤(x.s.text.size:Int):=by omega
 have m2:0≤x.s.cursor+m:=by omega
 have m3:x.s.cursor≤x.s.cursor+m:=by omega
 rw[hm]
 have hwr:IntKind.i64.wrap (x.s.cursor+m)=x.s.cursor+m:=IntWalk.i64_in _ (by omega)
 have hgr:w.heap.size+1≠g:=by have:=(gAz h.blk).1;omega
 obtain⟨hN3,hz3,hzd,hzdd,hK3⟩:=aB3 hE hN0 hgr (x.s.cursor+m)
 have hst:=aK hzdd rfl
 go_enter Tryz.func152,Tryz.ntmps152
 go_wp2
 go_region
 go_wp2
 go_region
 go_wp2
 rw[zZ _ _ _ cu0 m0]
 exact⟨rfl,_,results_cell_row rfl _ _ _ _ _ _ _ rfl (setRow_heap _ _ _ _ _ _ hz3) Tryz.underlying51 rfl (by kernel_rfl),rfl,SnAt.post2 (x:=x) ⟨_,rfl,hN3.drew.drew⟩ hE.bl hK3.drew.drew hz3 hrB _⟩
end Go.Proofs.YtdeiocppghhfdaaGreat
namespace Go.Proofs.YtdeiocppghhfdaaGreat
open Go.RowKit Go.Lib Go.Shelf
attribute [local go_sem, local simp] resF bD bS fK fM fO dQ eX eY aF1 aF2 aF3 snF uA zS
theorem aO4 {w W:World} {q:OpV} {r g o:Nat} {cur:Array Value} {x:SnM} (hE:Ed2 w q r W) (hN:SnAt W g o cur x) (hr:r≠g):SnAt (putSn W g o ⟨⟨false,⟨#[]⟩,[],0⟩,.slice none 0 0⟩) g o (segA cur o (snL ⟨⟨false,⟨#[]⟩,[],0⟩,.slice none 0 0⟩)) ⟨⟨false,⟨#[]⟩,[],0⟩,.slice none 0 0⟩∧(putSn W g o ⟨⟨false,⟨#[]⟩,[],0⟩,.slice none 0 0⟩).heap[r]? = some (.cells (resL {}).toArray 51 (0,0))∧aF (fun k=>k=g) W (putSn W g o ⟨⟨false,⟨#[]⟩,[],0⟩,.slice none 0 0⟩) :=
 ⟨hN.put ⟨rfl,.inl ⟨rfl,rfl⟩⟩,(mZ _ _ _ _ _ hr).trans hE.res,aF.putSn _ _ _ _⟩
theorem aEo (g o:Nat) (cur:Array Value) (x:SnM) (q:OpV) (w:World) (h:SnAt w g o cur x) (hok:SnOK x.s) (hk:q.kind=13) :
  Calls Tryz.prog 153 #[.pointer (some ⟨g,o,none⟩),.agg #[.int .u8 q.kind,.int .i64 q.slot,.int .i64 q.at_,.int .i64 q.n,.int .u32 q.id,.int .u8 q.grav,.string q.text]] w (kD g o cur w x (snpS x.s q)):=by
 have hsz:=hok.1
 rw[aQm hk]
 clear hk
 have hE:=aY w q
 have hN0:=h.below hE.bl
 obtain⟨⟨c0,c1,c2,c3⟩,f0,f1,f2,f3⟩:=hN0.cells
 obtain⟨p2,p3,p6,p4,p5⟩:=hE.o2
 have hrB:w.heap.size≤w.heap.size+1:=by omega
 have hgr:w.heap.size+1≠g:=by have:=(gAz h.blk).1;omega
 obtain⟨hN3,hz3,hK3⟩:=aO4 hE hN0 hgr
 have hst:=aK hz3 rfl
 have hsn:=hN0.stP ⟨⟨false,⟨#[]⟩,[],0⟩,.slice none 0 0⟩ rfl
 go_enter Tryz.func153,Tryz.ntmps153
 go_wp2
 have hp:=SnAt.post2 (x:=x) ⟨_,rfl,hN3⟩ hE.bl hK3 hz3 hrB (resL {}).toArray
 refine⟨rfl,_,results_cell_row rfl _ _ _ _ _ _ _ rfl (setRow_heap _ _ _ _ _ _ hz3) Tryz.underlying51 rfl (by kernel_rfl),rfl,?_⟩
 exact hp
end Go.Proofs.YtdeiocppghhfdaaGreat
namespace Go.Proofs.YtdeiocppghhfdaaGreat
open Go.RowKit Go.Lib Go.Shelf
attribute [local go_sem, local simp] resF bD bS fK fM fO dQ eX eY
theorem app0 (a b c:Value):(#[a,b,c] ++ #[]:Array Value) = #[a,b,c]:=by simp
theorem app1 (a b c p:Value):(#[a,b,c] ++ #[p]:Array Value) = #[a,b,c,p]:=by simp
theorem do_e (b c:Nat) (M:MM) (q:OpV) (w:World) (h:MdAt w b M) (hok:MSok M.st 100000) (hi:OpIn q) (hc:c<M.seats.length) (hcl:M.seats.length≤8) (hst0:dL M.st c q=0) (f j:Nat) (hent:∀ args W,(callFunc f args).run Tryz.prog W = .ok (.enter f args) W) (hfind:∀ g6 g7 g8 g9 g10 g11 g12 g13,Instr.findNow (.int .u8) (.int .u8 q.kind) (opsE g6 g7 g8 g9 g10 g11 g12 g13).toArray.toList 0=some (some (j,.func (.func f) #[] #[]))) (X:ResV × MS) (hX:opS M.st c q=X) (hcall:∀ W,MdAt W b M→Calls Tryz.prog f #[.pointer (some ⟨b,0,none⟩),.int .i64 (c:Int),.agg #[.int .u8 q.kind,.int .i64 q.slot,.int .i64 q.at_,.int .i64 q.n,.int .u32 q.id,.int .u8 q.grav,.string q.text]] W (Post b W X M)) :
  Calls Tryz.prog 50 #[.pointer (some ⟨b,0,none⟩),.int .i64 (c:Int),.agg #[.int .u8 q.kind,.int .i64 q.slot,.int .i64 q.at_,.int .i64 q.n,.int .u32 q.id,.int .u8 q.grav,.string q.text]] w (Post b w (opS M.st c q) M):=aF9 b c M q w h hi hcl hst0 f j (fun _ _ _ _ _ _ _ _ => #[]) hent hfind (fun W _ _ _ _ _ _ _ _ _ hM _=>by rw[app0,hX];exact hcall W hM)
theorem do_r (b c:Nat) (M:MM) (q:OpV) (w:World) (h:MdAt w b M) (hok:MSok M.st 100000) (hi:OpIn q) (hc:c<M.seats.length) (hcl:M.seats.length≤8) (hst0:dL M.st c q=0) (hk:6≤q.kind∧q.kind≤13) (f j:Nat) (pk:Nat→Nat→Nat→Nat→Nat→Nat→Nat→Nat→Nat) (hent:∀ args W,(callFunc f args).run Tryz.prog W = .ok (.enter f args) W) (hfind:∀ g6 g7 g8 g9 g10 g11 g12 g13,Instr.findNow (.int .u8) (.int .u8 q.kind) (opsE g6 g7 g8 g9 g10 g11 g12 g13).toArray.toList 0=some (some (j,.func (.func 197) #[] #[.pointer (some ⟨pk g6 g7 g8 g9 g10 g11 g12 g13,0,none⟩)]))) (hmem:∀ g6 g7 g8 g9 g10 g11 g12 g13,(pk g6 g7 g8 g9 g10 g11 g12 g13,f)∈boxes g6 g7 g8 g9 g10 g11 g12 g13) (hf:∀ (g o:Nat) (cur:Array Value) (x:SnM) (w:World),SnAt w g o cur x→SnOK x.s→Calls Tryz.prog f #[.pointer (some ⟨g,o,none⟩),.agg #[.int .u8 q.kind,.int .i64 q.slot,.int .i64 q.at_,.int .i64 q.n,.int .u32 q.id,.int .u8 q.grav,.string q.text]] w (kD g o cur w x (snpS x.s q))) :
  Calls Tryz.prog 50 #[.pointer (some ⟨b,0,none⟩),.int .i64 (c:Int),.agg #[.int .u8 q.kind,.int .i64 q.slot,.int .i64 q.at_,.int .i64 q.n,.int .u32 q.id,.int .u8 q.grav,.string q.text]] w (Post b w (opS M.st c q) M):=aF9 b c M q w h hi hcl hst0 197 j (fun g6 g7 g8 g9 g10 g11 g12 g13 => #[.pointer (some ⟨pk g6 g7 g8 g9 g10 g11 g12 g13,0,none⟩)]) (enters_of Tryz.func197 (by kernel_rfl) rfl) hfind (fun W _ a6 a7 a8 a9 a10 a11 a12 a13 hM hX=>by
   rw[app1,show opS M.st c q=reaS M.st c q by unfold opS;repeat rw[if_neg (by omega)]]
   exact zX f q hent hf b c _ M W hM hok hc (hX _ (hmem a6 a7 a8 a9 a10 a11 a12 a13)).2.2)
theorem aLg (b:Nat) (c:Int) (M:MM) (q:OpV) (w:World) (h:MdAt w b M) (hok:MSok M.st 100000) (hi:OpIn q) :
  Calls Tryz.prog 50 #[.pointer (some ⟨b,0,none⟩),.int .i64 c,.agg #[.int .u8 q.kind,.int .i64 q.slot,.int .i64 q.at_,.int .i64 q.n,.int .u32 q.id,.int .u8 q.grav,.string q.text]] w (Post b w (doS M.st c q) M):=by
 have hcl:M.seats.length≤8:=by have:=hok.clients;have h2:M.st.seats.length=M.seats.length:=List.length_map ..;omega
 by_cases hs:dL M.st c q=0
 ·obtain⟨h0,h1,h2⟩:=qH hs
  have hx:=pG h2
  have hlen:M.st.seats.length=M.seats.length:=List.length_map ..
  obtain⟨n,rfl⟩:∃ n:Nat,c=n:=⟨c.toNat,by omega⟩
  have hc:n<M.seats.length:=by omega
  have hR:doS M.st n q=opS M.st n q:=by unfold doS;rw[if_neg (by simpa using hs),Int.toNat_natCast]
  rw[hR]
  have hk:q.kind=1∨q.kind=2∨q.kind=3∨q.kind=4∨q.kind=5∨q.kind=6∨q.kind=7∨q.kind=8∨q.kind=9∨q.kind=10∨q.kind=11∨q.kind=12∨q.kind=13∨q.kind=14∨q.kind=15∨q.kind=16:=by
   have a1:=hx.1.1
   have a2:=hx.1.2.1
   omega
  obtain⟨g0,g1,g2,g3,g4,g5,g6,g7,g8,g9,g10,g11,g12⟩:=hx.1
  have hS:=gEz hc
  generalize M.seats[n]=S at hS
  have hmem:=mGz hS
  have hl:S.sl.length≤8:=by
   have h1:=(hok.slots S.st (List.mem_map.2 ⟨S,hmem,rfl⟩)).1
   have h2:S.st.slots.length=S.sl.length:=List.length_map ..
   have:=hok.readers
   omega
  have hmk:M.marks.length≤64:=hok.marks.1
  rcases hk with hk | hk | hk | hk | hk | hk | hk | hk | hk | hk | hk | hk | hk | hk | hk | hk
  ·exact do_e b n M q w h hok hi hc hcl hs 137 0 (enters_of Tryz.func137 (by kernel_rfl) rfl) (fun _ _ _ _ _ _ _ _=>by rw[hk];rfl) _ (by simp[opS,hk]) (fun W hM=>aBu b M n q W hM hok hx.2.1 (by omega) (by omega))
  ·exact do_e b n M q w h hok hi hc hcl hs 138 1 (enters_of Tryz.func138 (by kernel_rfl) rfl) (fun _ _ _ _ _ _ _ _=>by rw[hk];rfl) _ (by simp[opS,hk]) (fun W hM=>aB1 b M n q W hM hok (by omega) (by omega))
  ·exact do_e b n M q w h hok hi hc hcl hs 139 2 (enters_of Tryz.func139 (by kernel_rfl) rfl) (fun _ _ _ _ _ _ _ _=>by rw[hk];rfl) _ (by simp[opS,hk]) (fun W hM=>zY b M n q W hM hok (by omega) (by have:=hi.id0;omega) hi.id1 (by have:=hi.g0;omega))
  ·exact do_e b n M q w h hok hi hc hcl hs 140 3 (enters_of Tryz.func140 (by kernel_rfl) rfl) (fun _ _ _ _ _ _ _ _=>by rw[hk];rfl) _ (by simp[opS,hk]) (fun W hM=>xB b M n q W hM hok)
  ·exact do_e b n M q w h hok hi hc hcl hs 141 4 (enters_of Tryz.func141 (by kernel_rfl) rfl) (fun _ _ _ _ _ _ _ _=>by rw[hk];rfl) _ (by simp[opS,hk]) (fun W hM=>aBy b n M q W hM S hS hl hcl hmk)
  ·exact do_r b n M q w h hok hi hc hcl hs (by omega) 146 8 (fun x _ _ _ _ _ _ _=>x) (enters_of Tryz.func146 (by kernel_rfl) rfl) (fun _ _ _ _ _ _ _ _=>by rw[hk];rfl) (fun _ _ _ _ _ _ _ _=>by simp[boxes]) (fun g o cur x w h hok=>aQ0 g o cur x q w h hok hk)
  ·exact do_r b n M q w h hok hi hc hcl hs (by omega) 147 9 (fun _ x _ _ _ _ _ _=>x) (enters_of Tryz.func147 (by kernel_rfl) rfl) (fun _ _ _ _ _ _ _ _=>by rw[hk];rfl) (fun _ _ _ _ _ _ _ _=>by simp[boxes]) (fun g o cur x w h hok=>aOy g o cur x q w h hok hk (by omega) (by have:=hi.at_;unfold maxLen;omega) (by omega) (by have:=hi.n;unfold maxLen;omega))
  ·exact do_r b n M q w h hok hi hc hcl hs (by omega) 148 10 (fun _ _ x _ _ _ _ _=>x) (enters_of Tryz.func148 (by kernel_rfl) rfl) (fun _ _ _ _ _ _ _ _=>by rw[hk];rfl) (fun _ _ _ _ _ _ _ _=>by simp[boxes]) (fun g o cur x w h hok=>aOz g o cur x q w h hok hk (by have:=hi.n;unfold maxLen;omega))
  ·exact do_r b n M q w h hok hi hc hcl hs (by omega) 149 11 (fun _ _ _ x _ _ _ _=>x) (enters_of Tryz.func149 (by kernel_rfl) rfl) (fun _ _ _ _ _ _ _ _=>by rw[hk];rfl) (fun _ _ _ _ _ _ _ _=>by simp[boxes]) (fun g o cur x w h hok=>aO0 g o cur x q w h hok hk (by have:=hi.n;unfold maxLen;omega))
  ·exact do_r b n M q w h hok hi hc hcl hs (by omega) 150 12 (fun _ _ _ _ x _ _ _=>x) (enters_of Tryz.func150 (by kernel_rfl) rfl) (fun _ _ _ _ _ _ _ _=>by rw[hk];rfl) (fun _ _ _ _ _ _ _ _=>by simp[boxes]) (fun g o cur x w h hok=>aO1 g o cur x q w h hok hk)
  ·exact do_r b n M q w h hok hi hc hcl hs (by omega) 151 13 (fun _ _ _ _ _ x _ _=>x) (enters_of Tryz.func151 (by kernel_rfl) rfl) (fun _ _ _ _ _ _ _ _=>by rw[hk];rfl) (fun _ _ _ _ _ _ _ _=>by simp[boxes]) (fun g o cur x w h hok=>aO2 g o cur x q w h hok hk (by omega) (by have:=hi.at_;unfold maxLen;omega))
  ·exact do_r b n M q w h hok hi hc hcl hs (by omega) 152 14 (fun _ _ _ _ _ _ x _=>x) (enters_of Tryz.func152 (by kernel_rfl) rfl) (fun _ _ _ _ _ _ _ _=>by rw[hk];rfl) (fun _ _ _ _ _ _ _ _=>by simp[boxes]) (fun g o cur x w h hok=>aO3 g o cur x q w h hok hk (by omega) (by have:=hi.n;unfold maxLen;omega))
  ·exact do_r b n M q w h hok hi hc hcl hs (by omega) 153 15 (fun _ _ _ _ _ _ _ x=>x) (enters_of Tryz.func153 (by kernel_rfl) rfl) (fun _ _ _ _ _ _ _ _=>by rw[hk];rfl) (fun _ _ _ _ _ _ _ _=>by simp[boxes]) (fun g o cur x w h hok=>aEo g o cur x q w h hok hk)
  ·exact do_e b n M q w h hok hi hc hcl hs 142 5 (enters_of Tryz.func142 (by kernel_rfl) rfl) (fun _ _ _ _ _ _ _ _=>by rw[hk];rfl) _ (by simp[opS,hk]) (fun W hM=>xA b n M q W hM S hS hcl)
  ·exact do_e b n M q w h hok hi hc hcl hs 143 6 (enters_of Tryz.func143 (by kernel_rfl) rfl) (fun _ _ _ _ _ _ _ _=>by rw[hk];rfl) _ (by simp[opS,hk]) (fun W hM=>aBv b n M q W hM S hS hcl)
  ·exact do_e b n M q w h hok hi hc hcl hs 144 7 (enters_of Tryz.func144 (by kernel_rfl) rfl) (fun _ _ _ _ _ _ _ _=>by rw[hk];rfl) _ (by simp[opS,hk]) (fun W hM=>aIb b M n q W hM)
 ·have hR:doS M.st c q=(aS (dL M.st c q),M.st):=by unfold doS;rw[if_pos hs]
  have hd:(dL M.st c q == 0)=false:=by simpa using hs
  have hE:=aY w q
  have hM0:=h.below hE.bl
  have hrB:w.heap.size≤w.heap.size+1:=by omega
  have hsta:=pI b M c q _ hM0 hi hcl
  rw[hR]
  clear hR
  generalize dL M.st c q=E at *
  clear hok
  go_enter Tryz.func50,Tryz.ntmps50
  go_wp2_with (first | (go_at_call 100;refine hsta.mono ?_;rintro e w1 ⟨rfl,hb1⟩;have hE1:=hE.on hb1;have hM1:=hM0.below hb1;clear hsta) | (go_at_call 99;refine (bT _ _).mono ?_;rintro e v7 ⟨rfl,hb7⟩;have hE7:=hE1.on hb7;have hst:=aK hE7.res rfl))
  exact⟨rfl,_,results_cell_row rfl _ _ _ _ _ _ _ rfl (setRow_heap _ _ _ _ _ _ hE7.res) Tryz.underlying51 rfl (by kernel_rfl),rfl,M,(hM1.below hb7).row hE7.res _,rfl,(aF.of_below hE7.bl).row hrB _,fun k hk => .inl hk⟩
end Go.Proofs.YtdeiocppghhfdaaGreat
