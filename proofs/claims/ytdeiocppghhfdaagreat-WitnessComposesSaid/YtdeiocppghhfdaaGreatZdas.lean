/- Texts, one behind another. -/
import Derived.Test.YtdeiocppghhfdaaGreatZdap
set_option linter.unusedVariables false
set_option linter.unusedSimpArgs false
set_option maxRecDepth 100000
set_option maxHeartbeats 8000000
namespace Go.Proofs.YtdeiocppghhfdaaGreat
open Go.RowKit Go.Lib Go.Shelf
theorem MkIn.big {n:Int} {m:MkV} (h:MkIn n m) (hn:n≤bigN):MkIn bigN m:=⟨h.1,h.2.1,h.2.2.1,h.2.2.2.1,Int.le_trans h.2.2.2.2 hn⟩
theorem MkOK.big {n:Int} {l:List MkV} (h:MkOK n l) (hn:n≤bigN):MkOK bigN l:=⟨h.1,h.2.1,fun m hm=>(h.2.2 m hm).big hn⟩
theorem aHz (a:Option Addr) (c:Nat) (l:List MkV) (id:Int) (w:World) (hr:MRow w a l) (hok:MkOK bigN l) (hc:l.length≤c) (hs:hasM id l=false) :
  Calls Tryz.prog 196 #[.slice a l.length c,.int .u32 id] w fun e w'=>e = .returned (.tuple #[.slice none 0 0,.int .i64 7])∧Below w.heap.size w w':=by
 have h64:=hok.1
 have hc1:=kR a c bigN l w hr hok pF
 have hr':=fun W (hB:Below w.heap.size w W)=>hr.on hB
 have hpw:=hok.2.1
 have hok:=Lib.hid hok
 clear hr
 go_enter Tryz.func196,Tryz.ntmps196
 go_wp2_with (first | (go_at_call 241;refine hc1.mono ?_;rintro e w1 ⟨rfl,hB1⟩) | (go_at_call 242;refine (qU a c l id _ (hr' _ hB1) hpw (by omega) hc).mono ?_;rw[hs];rintro e w2 ⟨rfl,hB2⟩;have hB3:=hB1.trans (hB2.mono hB1.size)))
 go_returns
 exact⟨rfl,hB3⟩
end Go.Proofs.YtdeiocppghhfdaaGreat
namespace Go.Proofs.YtdeiocppghhfdaaGreat
open Go.RowKit Go.Lib Go.Shelf
attribute [local go_sem, local simp] resF aJ iP mR mU mV mW mX mY
theorem aBk (b:Nat) (M:MM) (c:Int) (o:OpV) (w:World) (h:MdAt w b M) (hok:MSok M.st 100000) :
  Calls Tryz.prog 140 #[.pointer (some ⟨b,0,none⟩),.int .i64 c,.agg #[.int .u8 o.kind,.int .i64 o.slot,.int .i64 o.at_,.int .i64 o.n,.int .u32 o.id,.int .u8 o.grav,.string o.text]] w (Post b w (drpS M.st o) M):=by
 have hE:=iJ w o
 have hM0:=h.below hE.bl
 obtain⟨ao,cp,hmv⟩:=aF h.marks
 have h1:=h.marks
 rw[hmv] at h1
 obtain⟨hrow,hcp⟩:=jU rfl h1
 have hmk:MkOK bigN M.marks:=hok.marks.big (by have:=hok.size;unfold bigN;omega)
 have hrB:w.heap.size≤w.heap.size+1:=by omega
 have hbw:=(Array.getElem?_eq_some_iff.1 h.blk).1
 have ho:=fun W hW=>qY b M W hW
 have hok:=Lib.hid hok
 cases hc:M.closed with
 | true =>
  have hS:drpS M.st o=(fA 13,M.st):=if_pos hc
  simp only[hc,if_true] at ho
  rw[hS]
  go_enter Tryz.func140,Tryz.ntmps140
  go_wp2_with (first | (go_at_call 189;refine (ho _ hM0).mono ?_;rintro e w1 ⟨rfl,rfl⟩) | (go_at_call 99;refine (eU _ _).mono ?_;rintro e v7 ⟨rfl,hb7⟩;have hE7:=hE.on hb7;have hst:=eX hE7.res rfl))
  refine⟨rfl,_,results_cell_row rfl _ _ _ _ _ _ _ rfl (setRow_heap _ _ _ _ _ _ hE7.res) Tryz.underlying51 rfl (by kernel_rfl),rfl,M,(hM0.below hb7).row hE7.res _,rfl,(aC.of_below hE7.bl).row hrB _,fun k hk => .inl hk⟩
 | false =>
  simp only[hc,Bool.false_eq_true,if_false] at ho
  cases hs:hasM o.id M.marks with
  | false =>
   have hS:drpS M.st o=(fA 7,M.st):=by unfold drpS;rw[if_neg (by show ¬ (M.closed=true);simp[hc]),if_neg (by show ¬ (hasM o.id M.marks=true);simp[hs])]
   rw[hS]
   go_enter Tryz.func140,Tryz.ntmps140
   go_wp2_with (go_at_call 189;refine (ho _ hM0).mono ?_;rintro e w1 ⟨rfl,rfl⟩;have e4:=hE.o2.2.2.2.1;have e1:=hM0.c1 hmv)
   go_region_with (go_at_call 196;refine (aHz ao cp M.marks o.id _ (hrow.on hE.bl.drew) hmk hcp hs).mono ?_;rintro e w2 ⟨rfl,hb2⟩;have hE2:=hE.drew.on hb2;have hM2:=(hM0.below (Below.refl _ _).drew).below hb2)
   all_goals go_wp2_with (go_at_call 99;refine (eU _ _).mono ?_;rintro e v7 ⟨rfl,hb7⟩;have hE7:=hE2.on hb7;have hst:=eX hE7.res rfl)
   all_goals refine⟨rfl,_,results_cell_row rfl _ _ _ _ _ _ _ rfl (setRow_heap _ _ _ _ _ _ hE7.res) Tryz.underlying51 rfl (by kernel_rfl),rfl,M,(hM2.below hb7).row hE7.res _,rfl,(aC.of_below hE7.bl).row hrB _,fun k hk => .inl hk⟩
  | true =>
   have hS:drpS M.st o=vQ { M.st with marks:=lU o.id M.marks }:=by unfold drpS;rw[if_neg (by show ¬ (M.closed=true);simp[hc]),if_pos (by exact hs)];rfl
   rw[hS]
   go_enter Tryz.func140,Tryz.ntmps140
   go_wp2_with (go_at_call 189;refine (ho _ hM0).mono ?_;rintro e w1 ⟨rfl,rfl⟩;have e4:=hE.o2.2.2.2.1;have e1:=hM0.c1 hmv)
   go_region_with (go_at_call 196;refine (aKj ao cp M.marks o.id _ (hrow.on hE.bl.drew) hmk hcp hs).mono ?_;rintro e w2 ⟨v,rfl,hov,hb2⟩;obtain⟨av,cv,rfl⟩:=aF hov;have hE2:=hE.drew.on hb2;have hM2:=(hM0.below (Below.refl _ _).drew).below hb2;have f1:=hM2.f 1;have e1b:=hM2.c1 hmv;have hM3:=hM2.setMarks (gP (Nat.zero_le _) hov))
   all_goals go_wp2_with (go_at_call 195;refine (uU b _ _ hM3 hok.out.num0 hok.out.num1).mono ?_;rintro e w4 ⟨rfl,hM4,hK4⟩;have hz4:=(hK4.block _ (by rw[mG];exact (Array.getElem?_eq_some_iff.1 hE2.res).1) (by omega)).trans ((aO _ _ _ _ (by show w.heap.size+1≠b;omega)).trans hE2.res);have hst:=eX hz4 rfl)
   all_goals refine⟨rfl,_,results_cell_row rfl _ _ _ _ _ _ _ rfl (setRow_heap _ _ _ _ _ _ hz4) Tryz.underlying51 rfl (by kernel_rfl),rfl,_,hM4.row hz4 _,rfl,(((aC.of_below hE2.bl).trans (aC.set (F:=M.fp b) (a:=⟨b,1,none⟩) (.inl rfl) _)).trans (hK4.mono fun k hk => .inl hk)).row hrB _,fun k hk => .inl hk⟩
end Go.Proofs.YtdeiocppghhfdaaGreat
namespace Go.Proofs.YtdeiocppghhfdaaGreat
open Go.RowKit Go.Lib Go.Shelf
theorem aKx (a:Option Addr) (c:Nat) (l:List MkV) (m:MkV) (w:World) (hr:MRow w a l) (hok:MkOK bigN l) (hm:MkIn bigN m) (hs:hasM m.id l=false) (hl:l.length=64) :
  Calls Tryz.prog 194 #[.slice a l.length c,.agg #[.int .u32 m.id,.int .i64 m.at_,.int .u8 m.grav]] w fun e w'=>e = .returned (.tuple #[.slice none 0 0,.int .i64 20])∧Below w.heap.size w w':=by
 have hr':=fun W (hB:Below w.heap.size w W)=>hr.on hB
 have hc1:=fun W (hB:Below w.heap.size w W)=>kR a c bigN l W (hr.on hB) hok pF
 have hBa:=(Below.refl w.heap.size w).alloc (Nat.le_refl _) (.cells #[.int .u32 m.id,.int .i64 m.at_,.int .u8 m.grav] 74)
 have hpw:=hok.2.1
 have hok1:MkOK bigN [m]:=⟨by simp,by simp,fun x hx=>by rw[List.mem_singleton.1 hx];exact hm⟩
 have h64:=hok.1
 have hok:=Lib.hid hok;have hm:=Lib.hid hm
 have hd64:((l.length:Int) == 64)=true:=by simp;omega
 clear hl
 clear hr
 go_enter Tryz.func194,Tryz.ntmps194
 go_wp2_with (first | (go_at_call 241;refine (hc1 _ hBa).mono ?_;rintro e w1 ⟨rfl,hB1'⟩;have hB1:=hBa.trans (hB1'.mono hBa.size);have hp1:=(hB1'.block _ (by simp)).trans (heap_alloc_new w (.cells #[.int .u32 m.id,.int .i64 m.at_,.int .u8 m.grav] 74));obtain⟨m0,m1,m2⟩:=iC hp1;clear hc1) | (go_at_call 241;refine (kR (some ⟨_,0,none⟩) 1 bigN [m] _ (aAc _ m) hok1 pF).mono ?_;rintro e w2 ⟨rfl,hB2⟩;obtain⟨hB3,hp2⟩:=aDe hB1 hp1 hB2) | (go_at_call 132;refine (jV a c l _ (hr' _ hB3) (by omega)).mono ?_;rintro e w3 ⟨v,rfl,ho,hB4⟩;have hp3:=(hB4.block _ (Array.getElem?_eq_some_iff.1 hp2).1).trans hp2;obtain⟨n0,n1,n2⟩:=iC hp3;obtain⟨ao,cp,rfl⟩:=aF ho;obtain⟨hrow,hcp⟩:=jU rfl ho;have hB5:=hB3.trans (hB4.mono hB3.size)) | (go_at_call 242;refine (qU ao cp l m.id _ hrow hpw (by omega) hcp).mono ?_;rw[hs];rintro e w4 ⟨rfl,hB6⟩;have hp4:=(hB6.block _ (Array.getElem?_eq_some_iff.1 hp3).1).trans hp3;obtain⟨k0,k1,k2⟩:=iC hp4;have hB7:=hB5.trans (hB6.mono hB5.size)))
 go_returns
 exact⟨rfl,hB7⟩
end Go.Proofs.YtdeiocppghhfdaaGreat
namespace Go.Proofs.YtdeiocppghhfdaaGreat
open Go.RowKit Go.Lib Go.Shelf
attribute [local go_sem, local simp] resF aJ iP mR mU mV mW mX mY
theorem aDk (b:Nat) (M:MM) (c:Int) (o:OpV) (w:World) (h:MdAt w b M) (hok:MSok M.st 100000) (hat:0≤o.at_) (hid:1≤o.id) (hid2:o.id≤4294967295) (hgr:o.grav=0∨o.grav=1) :
  Calls Tryz.prog 139 #[.pointer (some ⟨b,0,none⟩),.int .i64 c,.agg #[.int .u8 o.kind,.int .i64 o.slot,.int .i64 o.at_,.int .i64 o.n,.int .u32 o.id,.int .u8 o.grav,.string o.text]] w (Post b w (setS M.st o) M):=by
 have hE:=iJ w o
 have hM0:=h.below hE.bl
 obtain⟨ao,cp,hmv⟩:=aF h.marks
 have h1:=h.marks
 rw[hmv] at h1
 obtain⟨hrow,hcp⟩:=jU rfl h1
 have hmk:MkOK bigN M.marks:=hok.marks.big (by have:=hok.size;unfold bigN;omega)
 have hrB:w.heap.size≤w.heap.size+1:=by omega
 have hbw:=(Array.getElem?_eq_some_iff.1 h.blk).1
 have hf:=aKq b M o.at_ _ (w.heap.size+1+1) (by simp) hM0
 have hsz:=hok.size
 have hsE:setE M.st o=if M.closed then 13 else bndE M.text o.at_:=rfl
 rw[← hsE] at hf
 have h64:hasM o.id M.marks=false→¬ M.marks.length<64→M.marks.length=64:=by have:=hmk.1;omega
 have hok:=Lib.hid hok
 by_cases hI:setE M.st o=0
 ·have hle:o.at_≤(M.text.size:Int):=by
   have h9:=hI
   rw[hsE] at h9
   unfold bndE at h9
   split at h9
   ·cases h9
   ·split at h9
    ·cases h9
    ·omega
  have hin:MkIn bigN ⟨o.id,o.at_,o.grav⟩:=⟨hid,hid2,hgr,hat,by show o.at_≤bigN;unfold bigN;have:M.text.size≤65536:=hsz;omega⟩
  rw[hI] at hf
  have hf:=Lib.hid hf
  by_cases hl:hasM o.id M.marks=true∨M.marks.length<64
  ·have hS:setS M.st o=vQ { M.st with marks:=setM ⟨o.id,o.at_,o.grav⟩ M.marks }:=by unfold setS;rw[if_neg (by simpa using hI),if_pos (by exact hl)];rfl
   rw[hS]
   go_enter Tryz.func139,Tryz.ntmps139
   go_wp2_with (first | (go_at_call 190;refine (nH b o.at_ _).mono ?_;rintro e v9 ⟨rfl,rfl⟩) | (go_at_call 188;refine hf.out.mono ?_;rintro e w8 ⟨rfl,hb8⟩;have hE8:=hE.on hb8;have hM8:=hM0.below hb8;have e1:=hM8.c1 hmv;obtain⟨e2,e3,e6,e4,e5⟩:=hE8.o2;clear hf))
   have hx0:=(Below.refl w8.heap.size w8).drew
   have kx:∀ W,Below w8.heap.size w8 W→(W.cell? ⟨b,1,none⟩=some (.slice ao M.marks.length cp)∧W.cell? ⟨w.heap.size,4,none⟩=some (.int .u32 o.id)∧W.cell? ⟨w.heap.size,2,none⟩=some (.int .i64 o.at_)∧W.cell? ⟨w.heap.size,5,none⟩=some (.int .u8 o.grav))∧Below w8.heap.size w8 W:=fun W hW=>⟨⟨(hM8.below hW).c1 hmv,(hE8.on hW).o2.2.2.2.1,(hE8.on hW).o2.1,(hE8.on hW).o2.2.2.2.2⟩,hW⟩
   have Kx:=Lib.hid kx
   clear kx e1 e2 e3 e6 e4 e5
   refine wp_region_noPanic ?_
   refine wp_region_held_drew (S:=fun W=>(W.cell? ⟨b,1,none⟩=some (.slice ao M.marks.length cp)∧W.cell? ⟨w.heap.size,4,none⟩=some (.int .u32 o.id)∧W.cell? ⟨w.heap.size,2,none⟩=some (.int .i64 o.at_)∧W.cell? ⟨w.heap.size,5,none⟩=some (.int .u8 o.grav))∧Below w8.heap.size w8 W) (by kernel_rfl) ?_ (fun hHeld => ?_)
   ·first | exact Kx.out _ hx3 | exact Kx.out _ hx0
   iterate 11 (((first | refine np_n ?_ ?_ ?_ | refine np_t 0 ?_ ?_ ?_);rotate_left 1;(· (intro w hSw;(try dsimp only at hSw);go_simp;all_goals with_reducible rfl));(try simp only[nSO])))
   (refine aD (i:=11) rfl (by kernel_rfl) (fun K hK => ?_);rw[if_pos (by rfl)];go_simp;((go_at_call 194;refine (aM2 ao cp M.marks ⟨o.id,o.at_,o.grav⟩ _ (hrow.on hE8.bl.drew) hmk hin hl).mono ?_;rintro e w2 ⟨v,rfl,hov,hb2⟩;obtain⟨av,cv,rfl⟩:=aF hov;have hx3:=hx0.trans hb2;have hE2:=hE8.on hx3;have hM2:=hM8.below hx3;have f1:=hM2.f 1;have e1b:=hM2.c1 hmv;have hM3:=hM2.setMarks (gP (Nat.zero_le _) hov)));(try go_wp2_with fail);refine hK.out _ _ ?_ (fun hHeld => ?_);(· (first | exact Kx.out _ hx3 | exact Kx.out _ hx0));clear hK K;(try simp only[nSO]))
   iterate 5 ((refine np_n ?_ ?_ ?_;rotate_left 1;(· (intro w hSw;(try dsimp only at hSw);go_simp;all_goals with_reducible rfl));(try simp only[nSO])))
   refine wpAnyH_done (by kernel_rfl) ?_ _
   refine NoPanic.normal ?_
   go_wp2_with (go_at_call 195;refine (uU b _ _ hM3 hok.out.num0 hok.out.num1).mono ?_;rintro e w4 ⟨rfl,hM4,hK4⟩;have hz4:=(hK4.block _ (by rw[mG];exact (Array.getElem?_eq_some_iff.1 hE2.res).1) (by omega)).trans ((aO _ _ _ _ (by show w.heap.size+1≠b;omega)).trans hE2.res);have hst:=eX hz4 rfl)
   refine⟨rfl,_,results_cell_row rfl _ _ _ _ _ _ _ rfl (setRow_heap _ _ _ _ _ _ hz4) Tryz.underlying51 rfl (by kernel_rfl),rfl,_,hM4.row hz4 _,rfl,(((aC.of_below hE2.bl).trans (aC.set (F:=M.fp b) (a:=⟨b,1,none⟩) (.inl rfl) _)).trans (hK4.mono fun k hk => .inl hk)).row hrB _,fun k hk => .inl hk⟩
  ·have hS:setS M.st o=(fA 20,M.st):=by unfold setS;rw[if_neg (by simpa using hI),if_neg (by exact hl)]
   have hs:hasM o.id M.marks=false:=by cases hq:hasM o.id M.marks with | false=>rfl | true=>exact absurd (.inl hq) hl
   have hl2:=Lib.hid (h64 hs (fun h=>hl (.inr h)))
   rw[hS]
   go_enter Tryz.func139,Tryz.ntmps139
   go_wp2_with (first | (go_at_call 190;refine (nH b o.at_ _).mono ?_;rintro e v9 ⟨rfl,rfl⟩) | (go_at_call 188;refine hf.out.mono ?_;rintro e w8 ⟨rfl,hb8⟩;have hE8:=hE.on hb8;have hM8:=hM0.below hb8;have e1:=hM8.c1 hmv;obtain⟨e2,e3,e6,e4,e5⟩:=hE8.o2;clear hf))
   have hx0:=(Below.refl w8.heap.size w8).drew
   have kx:∀ W,Below w8.heap.size w8 W→(W.cell? ⟨b,1,none⟩=some (.slice ao M.marks.length cp)∧W.cell? ⟨w.heap.size,4,none⟩=some (.int .u32 o.id)∧W.cell? ⟨w.heap.size,2,none⟩=some (.int .i64 o.at_)∧W.cell? ⟨w.heap.size,5,none⟩=some (.int .u8 o.grav))∧Below w8.heap.size w8 W:=fun W hW=>⟨⟨(hM8.below hW).c1 hmv,(hE8.on hW).o2.2.2.2.1,(hE8.on hW).o2.1,(hE8.on hW).o2.2.2.2.2⟩,hW⟩
   have Kx:=Lib.hid kx
   clear kx e1 e2 e3 e6 e4 e5
   refine wp_region_noPanic ?_
   refine wp_region_held_drew (S:=fun W=>(W.cell? ⟨b,1,none⟩=some (.slice ao M.marks.length cp)∧W.cell? ⟨w.heap.size,4,none⟩=some (.int .u32 o.id)∧W.cell? ⟨w.heap.size,2,none⟩=some (.int .i64 o.at_)∧W.cell? ⟨w.heap.size,5,none⟩=some (.int .u8 o.grav))∧Below w8.heap.size w8 W) (by kernel_rfl) ?_ (fun hHeld => ?_)
   ·first | exact Kx.out _ hx3 | exact Kx.out _ hx0
   iterate 11 (((first | refine np_n ?_ ?_ ?_ | refine np_t 0 ?_ ?_ ?_);rotate_left 1;(· (intro w hSw;(try dsimp only at hSw);go_simp;all_goals with_reducible rfl));(try simp only[nSO])))
   (refine aD (i:=11) rfl (by kernel_rfl) (fun K hK => ?_);rw[if_pos (by rfl)];go_simp;((go_at_call 194;refine (aKx ao cp M.marks ⟨o.id,o.at_,o.grav⟩ _ (hrow.on hE8.bl.drew) hmk hin hs hl2.out).mono ?_;rintro e w2 ⟨rfl,hb2⟩;have hx3:=hx0.trans hb2;have hE2:=hE8.on hx3;have hM2:=hM8.below hx3));(try go_wp2_with fail);refine hK.out _ _ ?_ (fun hHeld => ?_);(· (first | exact Kx.out _ hx3 | exact Kx.out _ hx0));clear hK K;(try simp only[nSO]))
   iterate 5 ((refine np_n ?_ ?_ ?_;rotate_left 1;(· (intro w hSw;(try dsimp only at hSw);go_simp;all_goals with_reducible rfl));(try simp only[nSO])))
   refine wpAnyH_done (by kernel_rfl) ?_ _
   refine NoPanic.normal ?_
   go_wp2_with (go_at_call 99;refine (eU _ _).mono ?_;rintro e v7 ⟨rfl,hb7⟩;have hE7:=hE2.on hb7;have hst:=eX hE7.res rfl)
   refine⟨rfl,_,results_cell_row rfl _ _ _ _ _ _ _ rfl (setRow_heap _ _ _ _ _ _ hE7.res) Tryz.underlying51 rfl (by kernel_rfl),rfl,M,(hM2.below hb7).row hE7.res _,rfl,(aC.of_below hE7.bl).row hrB _,fun k hk => .inl hk⟩
 ·have hS:setS M.st o=(fA (setE M.st o),M.st):=by unfold setS;rw[if_pos hI]
  have hd:(setE M.st o == 0)=false:=by simpa using hI
  rw[hS]
  clear hsE
  generalize setE M.st o=E at *
  have hf:=Lib.hid hf
  go_enter Tryz.func139,Tryz.ntmps139
  go_wp2_with (first | (go_at_call 190;refine (nH b o.at_ _).mono ?_;rintro e v9 ⟨rfl,rfl⟩) | (go_at_call 188;refine hf.out.mono ?_;rintro e w8 ⟨rfl,hb8⟩;have hE8:=hE.on hb8;have hM8:=hM0.below hb8;clear hf) | (go_at_call 99;refine (eU _ _).mono ?_;rintro e v7 ⟨rfl,hb7⟩;have hE7:=hE8.on hb7;have hst:=eX hE7.res rfl))
  refine⟨rfl,_,results_cell_row rfl _ _ _ _ _ _ _ rfl (setRow_heap _ _ _ _ _ _ hE7.res) Tryz.underlying51 rfl (by kernel_rfl),rfl,M,(hM8.below hb7).row hE7.res _,rfl,(aC.of_below hE7.bl).row hrB _,fun k hk => .inl hk⟩
end Go.Proofs.YtdeiocppghhfdaaGreat
namespace Go.Proofs.YtdeiocppghhfdaaGreat
open Go.RowKit Go.Lib Go.Shelf
attribute [local go_sem, local simp] resF aJ iP mR mU mV mW mX mY
theorem MdAt.drew {W:World} {b:Nat} {M:MM} (h:MdAt W b M):MdAt W.drew b M:=⟨h.blk,h.marks,h.seats,h.slots,h.smarks,h.some_,h.nodup⟩
theorem aFn (b:Nat) (M:MM) (c:Int) (o:OpV) (w:World) (h:MdAt w b M) (hok:MSok M.st 100000) (hat:0≤o.at_) (hn:0<o.n) :
  Calls Tryz.prog 138 #[.pointer (some ⟨b,0,none⟩),.int .i64 c,.agg #[.int .u8 o.kind,.int .i64 o.slot,.int .i64 o.at_,.int .i64 o.n,.int .u32 o.id,.int .u8 o.grav,.string o.text]] w (Post b w (delS M.st o) M):=by
 have hsz:M.text.size≤65536:=hok.size
 have hE:=aB6 w b o
 have hM0:=h.below hE.bl
 have hbw:=(Array.getElem?_eq_some_iff.1 h.blk).1
 have hrB:w.heap.size≤w.heap.size+1+1:=by omega
 obtain⟨p2,p3,p6,_,_⟩:=hE.o2
 have hf:=aHu b (w.heap.size+1) w.heap.size M o _ (w.heap.size+1+1+1) (by simp) hM0 (by simp) (by simp;omega) p2 p3 hE.c0 (by omega) hat
 clear p2 p3 p6
 have hrE:=aTb M o
 have hok:=Lib.hid hok
 by_cases hI:uQ M o=0
 ·rw[if_pos hI] at hrE
  rw[hI] at hf
  have hf:=Lib.hid hf
  have hcl:M.closed=false∧o.at_≤(M.text.size:Int)∧o.n≤(M.text.size:Int)-o.at_:=by
   have h9:=hI
   unfold uQ at h9
   split at h9
   ·cases h9
   ·rename_i hc
    split at h9
    ·cases h9
    ·exact⟨by simpa using hc,by omega,by omega⟩
  obtain⟨_,q1,q2⟩:=hcl
  have hwr:IntKind.i64.wrap (o.at_+o.n)=o.at_+o.n:=IntWalk.i64_in _ (by omega)
  clear hI
  go_enter Tryz.func138,Tryz.ntmps138
  go_wp2_with (first | (go_at_call 188;refine hf.out.mono ?_;rintro e w8 ⟨rfl,hb8⟩;have hE8:=hE.on hb8;have hM8:=hM0.below hb8;clear hf))
  have kx:∀ W,Below w8.heap.size w8 W→(W.cell? ⟨w.heap.size,0,none⟩=some (.pointer (some ⟨b,0,none⟩))∧W.cell? ⟨w.heap.size+1,2,none⟩=some (.int .i64 o.at_)∧W.cell? ⟨w.heap.size+1,3,none⟩=some (.int .i64 o.n))∧Below w8.heap.size w8 W:=fun W hW=>⟨⟨(hE8.on hW).c0,(hE8.on hW).o2.1,(hE8.on hW).o2.2.1⟩,hW⟩
  have Kx:=Lib.hid kx
  clear kx
  have hx0:=(Below.refl w8.heap.size w8).drew
  have hfst:=aHv b M o w8.drew w8.heap.size rfl hM8.drew
  have hxb1:=hx0.trans (vW w8.drew b o.at_ w8.heap.size rfl).1
  have hxb2:=(hxb1.alloc hxb1.size (.cells #[.pointer (some ⟨b,0,none⟩)] 81)).alloc (by rw[World.size_alloc];have:=hxb1.size;omega) (.cells #[.int .i64 (o.at_+o.n)] 3)
  have hxb3:=hxb2.alloc hxb2.size (.cells #[.func (.func 237) #[] #[.pointer (some ⟨w8.heap.size+1,0,none⟩),.pointer (some ⟨w8.heap.size,0,none⟩)],.func (.func 237) #[] #[.pointer (some ⟨w8.heap.size+1+1+1,0,none⟩),.pointer (some ⟨w8.heap.size+1+1,0,none⟩)]] 221)
  refine wp_region_noPanic ?_
  refine wp_region_held_drew (S:=fun W=>(W.cell? ⟨w.heap.size,0,none⟩=some (.pointer (some ⟨b,0,none⟩))∧W.cell? ⟨w.heap.size+1,2,none⟩=some (.int .i64 o.at_)∧W.cell? ⟨w.heap.size+1,3,none⟩=some (.int .i64 o.n))∧Below w8.heap.size w8 W) (by kernel_rfl) ?_ (fun hHeld => ?_)
  ·first | exact Kx.out _ hx3 | exact Kx.out _ hx1 | exact Kx.out _ hx0
  iterate 3 (((first | refine np_n ?_ ?_ ?_ | refine np_t 0 ?_ ?_ ?_);rotate_left 1;(· (intro w hSw;(try dsimp only at hSw);go_simp;all_goals with_reducible rfl));(try simp only[nSO])))
  (refine np_t 4 ?_ ?_ ?_;rotate_left 1;(· (intro w hSw;(try dsimp only at hSw);go_simp;all_goals with_reducible rfl));(try simp only[nSO]))
  iterate 5 ((refine np_n ?_ ?_ ?_;rotate_left 1;(· (intro w hSw;(try dsimp only at hSw);go_simp;all_goals with_reducible rfl));(try simp only[nSO])))
  (refine aD (i:=3) rfl (by kernel_rfl) (fun K hK => ?_);rw[if_pos (by rfl)];go_simp;((go_at_call 190;refine (nH b o.at_ _).mono ?_;rintro e v9 ⟨rfl,rfl⟩;have hx1:=hxb1));(try go_wp2_with fail);refine hK.out _ _ ?_ (fun hHeld => ?_);(· (first | exact Kx.out _ hx3 | exact Kx.out _ hx1 | exact Kx.out _ hx0));clear hK K;(try simp only[nSO]))
  (refine aD (i:=10) rfl (by kernel_rfl) (fun K hK => ?_);rw[if_pos (by rfl)];go_simp;((go_at_call 190;refine (nH b (o.at_+o.n) _).mono ?_;rintro e v9 ⟨rfl,rfl⟩;have hx1:=hxb2));(try go_wp2_with fail);refine hK.out _ _ ?_ (fun hHeld => ?_);(· (first | exact Kx.out _ hx3 | exact Kx.out _ hx1 | exact Kx.out _ hx0));clear hK K;(try simp only[nSO]))
  (refine aD (i:=11) rfl (by kernel_rfl) (fun K hK => ?_);rw[if_pos (by rfl)];go_simp;((have hx1:=hxb3));(try go_wp2_with fail);refine hK.out _ _ ?_ (fun hHeld => ?_);(· (first | exact Kx.out _ hx3 | exact Kx.out _ hx1 | exact Kx.out _ hx0));clear hK K;(try simp only[nSO]))
  (refine aD (i:=12) rfl (by kernel_rfl) (fun K hK => ?_);rw[if_pos (by rfl)];go_simp;((go_at_call 188;refine hfst.mono ?_;rintro e v8 ⟨rfl,hb8⟩;have hx3:=hx0.trans hb8));(try go_wp2_with fail);refine hK.out _ _ ?_ (fun hHeld => ?_);(· (first | exact Kx.out _ hx3 | exact Kx.out _ hx1 | exact Kx.out _ hx0));clear hK K;(try simp only[nSO]))
  (refine np_n ?_ ?_ ?_;rotate_left 1;(· (intro w hSw;(try dsimp only at hSw);go_simp;all_goals with_reducible rfl));(try simp only[nSO]))
  refine wpAnyH_done (by kernel_rfl) ?_ _
  refine NoPanic.normal ?_
  have hxv:=hHeld.2
  have hEv:=hE8.on hxv
  obtain⟨e2,e3,e6,_,_⟩:=hEv.o2
  have e0:=hEv.c0
  have hMv:=hM8.below hxv
  clear hHeld hfst hxb1 hxb2 hxb3 Kx hx0
  by_cases hJ:xX M o=0
  ·have hS:delS M.st o=repS M.st o.at_ o.n ⟨#[]⟩:=by unfold delS;rw[if_neg (by rw[hrE];simpa using hJ)]
   have hRep:uP M.text.size o.at_ o.n ⟨#[]⟩:=⟨hat,by omega,by omega,by omega,by decide,.inr ⟨hn,rfl⟩⟩
   rw[hJ]
   rw[hS]
   go_wp2_with (go_at_call 192;refine (vR b M o.at_ o.n ⟨#[]⟩ _ hMv hRep hok.out.marks hok.out.num0 hok.out.num1).mono ?_;rintro e v7 ⟨rfl,⟨mv,hM7⟩,hK7⟩;have hz7:=(hK7.block _ (Array.getElem?_eq_some_iff.1 hEv.res).1 (by omega)).trans hEv.res;have hst:=eX hz7 rfl)
   exact⟨rfl,_,results_cell_row rfl _ _ _ _ _ _ _ rfl (setRow_heap _ _ _ _ _ _ hz7) Tryz.underlying51 rfl (by kernel_rfl),(by first | (rw[hS];done) | (rw[hS];rfl)),_,hM7.row hz7 _,(by rw[hS];rfl),((aC.of_below hEv.bl).trans (hK7.mono (fun k hk => .inl hk))).row hrB _,fun k hk => .inl hk⟩
  ·have hS:delS M.st o=(fA (xX M o),M.st):=by unfold delS;rw[if_pos (by rw[hrE];exact hJ),hrE]
   have hd:(xX M o == 0)=false:=by simpa using hJ
   rw[hS]
   generalize xX M o=E at *
   go_wp2_with (go_at_call 99;refine (eU _ _).mono ?_;rintro e v7 ⟨rfl,hb7⟩;have hE7:=hEv.on hb7;have hst:=eX hE7.res rfl)
   exact⟨rfl,_,results_cell_row rfl _ _ _ _ _ _ _ rfl (setRow_heap _ _ _ _ _ _ hE7.res) Tryz.underlying51 rfl (by kernel_rfl),(by first | (rw[hS];done) | (rw[hS];rfl)),M,(hMv.below hb7).row hE7.res _,(by rw[hS]),(aC.of_below hE7.bl).row hrB _,fun k hk => .inl hk⟩
 ·rw[if_neg hI] at hrE
  have hS:delS M.st o=(fA (uQ M o),M.st):=by unfold delS;rw[if_pos (by rw[hrE];exact hI),hrE]
  have hd:(uQ M o == 0)=false:=by simpa using hI
  rw[hS]
  clear hrE hS
  generalize uQ M o=E at *
  have hf:=Lib.hid hf
  go_enter Tryz.func138,Tryz.ntmps138
  go_wp2_with (first | (go_at_call 188;refine hf.out.mono ?_;rintro e w8 ⟨rfl,hb8⟩;have hE8:=hE.on hb8;have hM8:=hM0.below hb8;clear hf) | (go_at_call 99;refine (eU _ _).mono ?_;rintro e v7 ⟨rfl,hb7⟩;have hE7:=hE8.on hb7;have hst:=eX hE7.res rfl))
  exact⟨rfl,_,results_cell_row rfl _ _ _ _ _ _ _ rfl (setRow_heap _ _ _ _ _ _ hE7.res) Tryz.underlying51 rfl (by kernel_rfl),rfl,M,(hM8.below hb7).row hE7.res _,rfl,(aC.of_below hE7.bl).row hrB _,fun k hk => .inl hk⟩
end Go.Proofs.YtdeiocppghhfdaaGreat
namespace Go.Proofs.YtdeiocppghhfdaaGreat
open Go.RowKit Go.Lib Go.Shelf
attribute [local go_sem, local simp] resF aJ iP mR mU mV mW mX mY aNc aNd aNe
theorem aSa (g o:Nat) (cur:Array Value) (x:SnM) (q:OpV) (w:World) (h:SnAt w g o cur x) (hok:SnOK x.s) (hk:q.kind=6) :
  Calls Tryz.prog 146 #[.pointer (some ⟨g,o,none⟩),.agg #[.int .u8 q.kind,.int .i64 q.slot,.int .i64 q.at_,.int .i64 q.n,.int .u32 q.id,.int .u8 q.grav,.string q.text]] w (rX g o cur w x (snpS x.s q)):=by
 have hsz:=hok.1
 rw[snp6 hk]
 clear hk
 have hE:=iJ w q
 have hN0:=h.below hE.bl
 obtain⟨⟨c0,c1,c2,c3⟩,f0,f1,f2,f3⟩:=hN0.cells
 obtain⟨p2,p3,p6,p4,p5⟩:=hE.o2
 have hrB:w.heap.size≤w.heap.size+1:=by omega
 have om:=fun W=>aPe x.s.text W (Nat.le_trans hsz (by decide))
 simp only[aE1] at om
 go_enter Tryz.func146,Tryz.ntmps146
 go_wp2_with (go_at_call 199;refine (om _).mono ?_;rintro e w1 ⟨rfl,hb1⟩;have hE2:=hE.on hb1;have hst:=eX hE2.res rfl)
 exact⟨rfl,_,results_cell_row rfl _ _ _ _ _ _ _ rfl (setRow_heap _ _ _ _ _ _ hE2.res) Tryz.underlying51 rfl (by kernel_rfl),rfl,h.post hE2.bl hE2.res hrB _⟩
theorem aNr (t:ByteArray) (a n:Int) (ha:0≤a) (hn:0≤n):t.extract a.toNat (a+n).toNat=cutT t a n:=by
 apply ByteArray.ext
 apply Array.toList_inj.1
 rw[ByteArray.data_extract,Array.toList_extract,List.extract_eq_take_drop]
 unfold cutT
 rw[show (a+n).toNat-a.toNat=n.toNat by omega]
theorem aP7 (g o:Nat) (cur:Array Value) (x:SnM) (q:OpV) (w:World) (h:SnAt w g o cur x) (hok:SnOK x.s) (hk:q.kind=7) (ha:0≤q.at_) (ha2:q.at_≤maxLen) (hn:0≤q.n) (hn2:q.n≤maxLen) :
  Calls Tryz.prog 147 #[.pointer (some ⟨g,o,none⟩),.agg #[.int .u8 q.kind,.int .i64 q.slot,.int .i64 q.at_,.int .i64 q.n,.int .u32 q.id,.int .u8 q.grav,.string q.text]] w (rX g o cur w x (snpS x.s q)):=by
 have hsz:=hok.1
 rw[snp7 hk]
 clear hk
 have hE:=iJ w q
 have hN0:=h.below hE.bl
 obtain⟨⟨c0,c1,c2,c3⟩,f0,f1,f2,f3⟩:=hN0.cells
 obtain⟨p2,p3,p6,p4,p5⟩:=hE.o2
 have hrB:w.heap.size≤w.heap.size+1:=by omega
 by_cases h1:(x.s.text.size:Int)<q.at_
 ·rw[if_pos (.inl h1)]
  have d:decide ((x.s.text.size:Int)<q.at_)=true:=by simpa using h1
  go_enter Tryz.func147,Tryz.ntmps147
  go_wp2
  go_region
  go_wp2_with (go_at_call 99;refine (eU _ _).mono ?_;rintro e v7 ⟨rfl,hb7⟩;have hE7:=(by first | exact hE.on hb7 | exact hE.drew.on hb7 | exact hE.drew.drew.on hb7:Ed2 w q (w.heap.size+1) v7);have hst:=eX hE7.res rfl)
  exact⟨rfl,_,results_cell_row rfl _ _ _ _ _ _ _ rfl (setRow_heap _ _ _ _ _ _ hE7.res) Tryz.underlying51 rfl (by kernel_rfl),rfl,h.post hE7.bl hE7.res hrB _⟩
 ·have d:decide ((x.s.text.size:Int)<q.at_)=false:=by simpa using h1
  have hws:IntKind.i64.wrap ((x.s.text.size:Int)-q.at_)=(x.s.text.size:Int)-q.at_:=IntWalk.i64_in _ (by omega)
  by_cases h2:(x.s.text.size:Int)-q.at_<q.n
  ·rw[if_pos (.inr h2)]
   have d2:decide ((x.s.text.size:Int)-q.at_<q.n)=true:=by simpa using h2
   go_enter Tryz.func147,Tryz.ntmps147
   go_wp2
   go_region
   go_wp2_with (go_at_call 99;refine (eU _ _).mono ?_;rintro e v7 ⟨rfl,hb7⟩;have hE7:=(by first | exact hE.on hb7 | exact hE.drew.on hb7 | exact hE.drew.drew.on hb7:Ed2 w q (w.heap.size+1) v7);have hst:=eX hE7.res rfl)
   exact⟨rfl,_,results_cell_row rfl _ _ _ _ _ _ _ rfl (setRow_heap _ _ _ _ _ _ hE7.res) Tryz.underlying51 rfl (by kernel_rfl),rfl,h.post hE7.bl hE7.res hrB _⟩
  ·rw[if_neg (by omega)]
   have d2:decide ((x.s.text.size:Int)-q.at_<q.n)=false:=by simpa using h2
   have hwr:IntKind.i64.wrap (q.at_+q.n)=q.at_+q.n:=IntWalk.i64_in _ (by omega)
   have hst:=eX hE.res rfl
   have hst1:=eX hE.drew.res rfl
   have hst2:=eX hE.drew.drew.res rfl
   have b1:0≤q.at_+q.n:=by omega
   have b2:q.at_+q.n≤(x.s.text.size:Int):=by omega
   have b3:q.at_≤q.at_+q.n:=by omega
   go_enter Tryz.func147,Tryz.ntmps147
   go_wp2
   go_region
   go_wp2
   go_region
   go_wp2
   rw[aNr _ _ _ ha hn]
   exact⟨rfl,_,results_cell_row rfl _ _ _ _ _ _ _ rfl (setRow_heap _ _ _ _ _ _ hE.drew.drew.res) Tryz.underlying51 rfl (by kernel_rfl),rfl,h.post hE.drew.drew.bl hE.drew.drew.res hrB _⟩
theorem aP8 (g o:Nat) (cur:Array Value) (x:SnM) (q:OpV) (w:World) (h:SnAt w g o cur x) (hok:SnOK x.s) (hk:q.kind=8) (hn2:q.n≤maxLen) :
  Calls Tryz.prog 148 #[.pointer (some ⟨g,o,none⟩),.agg #[.int .u8 q.kind,.int .i64 q.slot,.int .i64 q.at_,.int .i64 q.n,.int .u32 q.id,.int .u8 q.grav,.string q.text]] w (rX g o cur w x (snpS x.s q)):=by
 have hsz:=hok.1
 rw[snp8 hk]
 clear hk
 have hE:=iJ w q
 have hN0:=h.below hE.bl
 obtain⟨⟨c0,c1,c2,c3⟩,f0,f1,f2,f3⟩:=hN0.cells
 obtain⟨p2,p3,p6,p4,p5⟩:=hE.o2
 have hrB:w.heap.size≤w.heap.size+1:=by omega
 have om:=fun W=>aKc x.s.text q.n W (Nat.le_trans hsz (by decide)) hn2
 have hst:=eX hE.res rfl
 have hst1:=eX hE.drew.res rfl
 go_enter Tryz.func148,Tryz.ntmps148
 go_wp2
 go_region_with (go_at_call 200;refine (om _).mono ?_;rintro e w1 ⟨rfl,rfl⟩)
 all_goals go_wp2
 all_goals exact⟨rfl,_,results_cell_row rfl _ _ _ _ _ _ _ rfl (setRow_heap _ _ _ _ _ _ hE.drew.res) Tryz.underlying51 rfl (by kernel_rfl),rfl,h.post hE.drew.bl hE.drew.res hrB _⟩
theorem aP9 (g o:Nat) (cur:Array Value) (x:SnM) (q:OpV) (w:World) (h:SnAt w g o cur x) (hok:SnOK x.s) (hk:q.kind=9) (hn2:q.n≤maxLen) :
  Calls Tryz.prog 149 #[.pointer (some ⟨g,o,none⟩),.agg #[.int .u8 q.kind,.int .i64 q.slot,.int .i64 q.at_,.int .i64 q.n,.int .u32 q.id,.int .u8 q.grav,.string q.text]] w (rX g o cur w x (snpS x.s q)):=by
 have hsz:=hok.1
 rw[snp9 hk]
 clear hk
 have hE:=iJ w q
 have hN0:=h.below hE.bl
 obtain⟨⟨c0,c1,c2,c3⟩,f0,f1,f2,f3⟩:=hN0.cells
 obtain⟨p2,p3,p6,p4,p5⟩:=hE.o2
 have hrB:w.heap.size≤w.heap.size+1:=by omega
 have om:=fun W=>aKd x.s.text q.n W (Nat.le_trans hsz (by decide)) hn2
 have hst:=eX hE.res rfl
 have hst1:=eX hE.drew.res rfl
 go_enter Tryz.func149,Tryz.ntmps149
 go_wp2
 go_region_with (go_at_call 201;refine (om _).mono ?_;rintro e w1 ⟨rfl,rfl⟩)
 all_goals go_wp2
 all_goals exact⟨rfl,_,results_cell_row rfl _ _ _ _ _ _ _ rfl (setRow_heap _ _ _ _ _ _ hE.drew.res) Tryz.underlying51 rfl (by kernel_rfl),rfl,h.post hE.drew.bl hE.drew.res hrB _⟩
end Go.Proofs.YtdeiocppghhfdaaGreat
namespace Go.Proofs.YtdeiocppghhfdaaGreat
open Go.RowKit Go.Lib Go.Shelf
attribute [local go_sem, local simp] resF aJ iP mR mU mV mW mX mY aNc aNd aNe
theorem aNs (id:Int) (l:List MkV):hasM id l=(sS id l).isSome:=by
 unfold hasM sS
 rw[Bool.eq_iff_iff,List.any_eq_true,List.find?_isSome]
theorem aFo {w W:World} {q:OpV} {r g o:Nat} {cur:Array Value} {x:SnM} (hE:Ed2 w q r W) (hN:SnAt W g o cur x) (hr:r≠g) (p:Int):SnAt (W.setCell ⟨g,o+3,none⟩ (.int .i64 p)) g o (segA cur o (snL ⟨{ x.s with cursor:=p },x.mv⟩)) ⟨{ x.s with cursor:=p },x.mv⟩ ∧
  (W.setCell ⟨g,o+3,none⟩ (.int .i64 p)).heap[r]? = some (.cells (resL {}).toArray 51 (0,0))∧(W.setCell ⟨g,o+3,none⟩ (.int .i64 p)).drew.heap[r]? = some (.cells (resL {}).toArray 51 (0,0))∧(W.setCell ⟨g,o+3,none⟩ (.int .i64 p)).drew.drew.heap[r]? = some (.cells (resL {}).toArray 51 (0,0))∧aC (fun k=>k=g) W (W.setCell ⟨g,o+3,none⟩ (.int .i64 p)):=by
 have hz:=(aO W ⟨g,o+3,none⟩ (.int .i64 p) r hr).trans hE.res
 exact⟨hN.set3 p,hz,hz,hz,aC.set (F:=fun k=>k=g) (a:=⟨g,o+3,none⟩) rfl _⟩
theorem frz3 {w:World} {b:Nat} {u v x:Value} {T:TypeId} (h:w.heap[b]? = some (.cells #[u,v,x] T (0,0))):w.frozen? ⟨b,0,none⟩=false∧w.frozen? ⟨b,1,none⟩=false∧w.frozen? ⟨b,2,none⟩=false:=by
 refine⟨?_,?_,?_⟩<;>simp[World.frozen?,h]
theorem aQa (g o:Nat) (cur:Array Value) (x:SnM) (q:OpV) (w:World) (h:SnAt w g o cur x) (hok:SnOK x.s) (hk:q.kind=10) :
  Calls Tryz.prog 150 #[.pointer (some ⟨g,o,none⟩),.agg #[.int .u8 q.kind,.int .i64 q.slot,.int .i64 q.at_,.int .i64 q.n,.int .u32 q.id,.int .u8 q.grav,.string q.text]] w (rX g o cur w x (snpS x.s q)):=by
 have hsz:=hok.1
 rw[aS7 hk]
 clear hk
 have hE:=iJ w q
 have hN0:=h.below hE.bl
 obtain⟨⟨c0,c1,c2,c3⟩,f0,f1,f2,f3⟩:=hN0.cells
 obtain⟨p2,p3,p6,p4,p5⟩:=hE.o2
 have hrB:w.heap.size≤w.heap.size+1:=by omega
 obtain⟨ao,cp,hmv⟩:=aF h.marks
 have h1:=h.marks
 rw[hmv] at h1 c2
 have c2':=fun u=>Lib.cell?_alloc_some u c2
 have p4':=fun u=>Lib.cell?_alloc_some u p4
 obtain⟨hrow,hcp⟩:=jU rfl h1
 have fa:=fun W (hB:Below w.heap.size w W)=>aMr ao cp x.s.marks q.id W (hrow.on hB) hok.2.1.2.1 (by have:=hok.2.1.1;omega) hcp
 unfold tC at fa
 simp only[aNs] at fa
 have hEx:=hE.alc (.cells #[.int .u32 0,.int .i64 0,.int .u8 0] 74)
 have hsx:((w.alloc (.cells #[.int .u8 q.kind,.int .i64 q.slot,.int .i64 q.at_,.int .i64 q.n,.int .u32 q.id,.int .u8 q.grav,.string q.text] 54)).alloc (.cells (resL {}).toArray 51)).heap.size=w.heap.size+1+1:=by simp
 have hpx:=heap_alloc_new ((w.alloc (.cells #[.int .u8 q.kind,.int .i64 q.slot,.int .i64 q.at_,.int .i64 q.n,.int .u32 q.id,.int .u8 q.grav,.string q.text] 54)).alloc (.cells (resL {}).toArray 51)) (.cells #[.int .u32 0,.int .i64 0,.int .u8 0] 74)
 rw[hsx] at hpx
 cases hf:sS q.id x.s.marks with
 | none =>
  simp only[hf,Option.isSome,Option.getD,mkL,sW] at fa
  go_enter Tryz.func150,Tryz.ntmps150
  go_wp2
  go_region_with (go_at_call 202;first | (refine (fa _ hE.bl.drew).mono ?_;rintro e w1 ⟨rfl,hb1⟩;have hE1:=hE.drew.on hb1;have hE2:=hE1.alc (.cells #[.int .u32 0,.int .i64 0,.int .u8 0] 74);have hst:=eX hE2.res rfl) | (refine (fa _ hEx.bl.drew).mono ?_;rintro e w1 ⟨rfl,hb1⟩;have hE1:=hEx.drew.on hb1;have hp1:=(hb1.block (w.heap.size+1+1) (by simp)).trans hpx;obtain⟨m0,m1,m2⟩:=iC hp1;obtain⟨f0,f1,f2⟩:=frz3 hp1;have hE2:=((hE1.set (w.heap.size+1+1) 0 (.int .u32 0) (by omega) (by omega) (by omega)).set (w.heap.size+1+1) 1 (.int .i64 0) (by omega) (by omega) (by omega)).set (w.heap.size+1+1) 2 (.int .u8 0) (by omega) (by omega) (by omega);have hst:=eX hE2.res rfl))
  all_goals go_wp2_with (go_at_call 99;refine (eU _ _).mono ?_;rintro e v7 ⟨rfl,hb7⟩;have hE7:=hE2.on hb7;have hst7:=eX hE7.res rfl)
  all_goals exact⟨rfl,_,results_cell_row rfl _ _ _ _ _ _ _ rfl (setRow_heap _ _ _ _ _ _ hE7.res) Tryz.underlying51 rfl (by kernel_rfl),rfl,h.post hE7.bl hE7.res hrB _⟩
 | some m =>
  simp only[hf,Option.isSome,Option.getD,mkL,sW] at fa
  go_enter Tryz.func150,Tryz.ntmps150
  go_wp2
  go_region_with (go_at_call 202;first | (refine (fa _ hE.bl.drew).mono ?_;rintro e w1 ⟨rfl,hb1⟩;have hE1:=hE.drew.on hb1;have hE2:=hE1.alc (.cells #[.int .u32 m.id,.int .i64 m.at_,.int .u8 m.grav] 74);have hst:=eX hE2.res rfl) | (refine (fa _ hEx.bl.drew).mono ?_;rintro e w1 ⟨rfl,hb1⟩;have hE1:=hEx.drew.on hb1;have hp1:=(hb1.block (w.heap.size+1+1) (by simp)).trans hpx;obtain⟨m0,m1,m2⟩:=iC hp1;obtain⟨f0,f1,f2⟩:=frz3 hp1;have hE2:=((hE1.set (w.heap.size+1+1) 0 (.int .u32 m.id) (by omega) (by omega) (by omega)).set (w.heap.size+1+1) 1 (.int .i64 m.at_) (by omega) (by omega) (by omega)).set (w.heap.size+1+1) 2 (.int .u8 m.grav) (by omega) (by omega) (by omega);have hst:=eX hE2.res rfl))
  all_goals go_wp2
  all_goals exact⟨rfl,_,results_cell_row rfl _ _ _ _ _ _ _ rfl (setRow_heap _ _ _ _ _ _ hE2.res) Tryz.underlying51 rfl (by kernel_rfl),rfl,h.post hE2.bl hE2.res hrB _⟩
theorem aQb (g o:Nat) (cur:Array Value) (x:SnM) (q:OpV) (w:World) (h:SnAt w g o cur x) (hok:SnOK x.s) (hk:q.kind=11) (ha:0≤q.at_) (ha2:q.at_≤maxLen) :
  Calls Tryz.prog 151 #[.pointer (some ⟨g,o,none⟩),.agg #[.int .u8 q.kind,.int .i64 q.slot,.int .i64 q.at_,.int .i64 q.n,.int .u32 q.id,.int .u8 q.grav,.string q.text]] w (rX g o cur w x (snpS x.s q)):=by
 have hsz:=hok.1
 rw[aS8 hk]
 clear hk
 have hE:=iJ w q
 have hN0:=h.below hE.bl
 obtain⟨⟨c0,c1,c2,c3⟩,f0,f1,f2,f3⟩:=hN0.cells
 obtain⟨p2,p3,p6,p4,p5⟩:=hE.o2
 have hrB:w.heap.size≤w.heap.size+1:=by omega
 by_cases h1:(x.s.text.size:Int)<q.at_
 ·rw[if_pos h1]
  have d:decide ((x.s.text.size:Int)<q.at_)=true:=by simpa using h1
  go_enter Tryz.func151,Tryz.ntmps151
  go_wp2
  go_region
  go_wp2_with (go_at_call 99;refine (eU _ _).mono ?_;rintro e v7 ⟨rfl,hb7⟩;have hE7:=(by first | exact hE.on hb7 | exact hE.drew.on hb7 | exact hE.drew.drew.on hb7:Ed2 w q (w.heap.size+1) v7);have hst:=eX hE7.res rfl)
  exact⟨rfl,_,results_cell_row rfl _ _ _ _ _ _ _ rfl (setRow_heap _ _ _ _ _ _ hE7.res) Tryz.underlying51 rfl (by kernel_rfl),rfl,h.post hE7.bl hE7.res hrB _⟩
 ·rw[if_neg h1]
  have d:decide ((x.s.text.size:Int)<q.at_)=false:=by simpa using h1
  have hgr:w.heap.size+1≠g:=by have:=(Array.getElem?_eq_some_iff.1 h.blk).1;omega
  obtain⟨hN3,hz3,hzd,hzdd,hK3⟩:=aFo hE hN0 hgr q.at_
  have hst:=eX hzd rfl
  go_enter Tryz.func151,Tryz.ntmps151
  go_wp2
  go_region
  go_wp2
  exact⟨rfl,_,results_cell_row rfl _ _ _ _ _ _ _ rfl (setRow_heap _ _ _ _ _ _ hz3) Tryz.underlying51 rfl (by kernel_rfl),rfl,SnAt.post2 (x:=x) ⟨_,rfl,hN3.drew⟩ hE.bl hK3.drew hz3 hrB _⟩
theorem aQc (g o:Nat) (cur:Array Value) (x:SnM) (q:OpV) (w:World) (h:SnAt w g o cur x) (hok:SnOK x.s) (hk:q.kind=12) (hn:0≤q.n) (hn2:q.n≤maxLen) :
  Calls Tryz.prog 152 #[.pointer (some ⟨g,o,none⟩),.agg #[.int .u8 q.kind,.int .i64 q.slot,.int .i64 q.at_,.int .i64 q.n,.int .u32 q.id,.int .u8 q.grav,.string q.text]] w (rX g o cur w x (snpS x.s q)):=by
 have hsz:=hok.1
 rw[aS9 hk]
 clear hk
 have hE:=iJ w q
 have hN0:=h.below hE.bl
 obtain⟨⟨c0,c1,c2,c3⟩,f0,f1,f2,f3⟩:=hN0.cells
 obtain⟨p2,p3,p6,p4,p5⟩:=hE.o2
 have hrB:w.heap.size≤w.heap.size+1:=by omega
 obtain⟨_,_,cu0,cu1⟩:=hok
 have hws:IntKind.i64.wrap ((x.s.text.size:Int)-x.s.cursor)=(x.s.text.size:Int)-x.s.cursor:=IntWalk.i64_in _ (by omega)
 obtain⟨m,hm⟩:∃ m,min q.n ((x.s.text.size:Int)-x.s.cursor)=m:=⟨_,rfl⟩
 have m0:0≤m:=by omega
 have m1:x.s.cursor+m≤(x.s.text.size:Int):=by omega
 have m2:0≤x.s.cursor+m:=by omega
 have m3:x.s.cursor≤x.s.cursor+m:=by omega
 rw[hm]
 have hwr:IntKind.i64.wrap (x.s.cursor+m)=x.s.cursor+m:=IntWalk.i64_in _ (by omega)
 have hgr:w.heap.size+1≠g:=by have:=(Array.getElem?_eq_some_iff.1 h.blk).1;omega
 obtain⟨hN3,hz3,hzd,hzdd,hK3⟩:=aFo hE hN0 hgr (x.s.cursor+m)
 have hst:=eX hzdd rfl
 go_enter Tryz.func152,Tryz.ntmps152
 go_wp2
 go_region
 go_wp2
 go_region
 go_wp2
 rw[aNr _ _ _ cu0 m0]
 exact⟨rfl,_,results_cell_row rfl _ _ _ _ _ _ _ rfl (setRow_heap _ _ _ _ _ _ hz3) Tryz.underlying51 rfl (by kernel_rfl),rfl,SnAt.post2 (x:=x) ⟨_,rfl,hN3.drew.drew⟩ hE.bl hK3.drew.drew hz3 hrB _⟩
end Go.Proofs.YtdeiocppghhfdaaGreat
