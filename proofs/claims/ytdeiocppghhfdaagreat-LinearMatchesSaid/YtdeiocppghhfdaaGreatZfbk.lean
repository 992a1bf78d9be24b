/- Texts, one behind another. -/
import Derived.Test.YtdeiocppghhfdaaGreatZfbj
set_option linter.unusedVariables false
set_option linter.unusedSimpArgs false
set_option maxRecDepth 100000
set_option maxHeartbeats 40000000
namespace Go.Proofs.YtdeiocppghhfdaaGreat
open Go.RowKit Go.Lib Go.Shelf
attribute [local go_sem, local simp] resF bD bS fK fM fO dQ eX eY
theorem Ed2.kd {w W:World} {r:Nat} {o:OpV} (h:Ed2 w o r W):W.cell? ⟨w.heap.size,0,none⟩=some (.int .u8 o.kind):=by simp[World.cell?,h.op,opL]
theorem RdAt.c3 {W:World} {b:Nat} {M:RM} (h:RdAt W b M) {v:Value} (hv:M.mv=v):W.cell? ⟨b,3,none⟩=some v:=hv ▸ h.cs.2.2.2.1
theorem tN (b:Nat) (M:RM) (o:OpV) (w:World) (h:RdAt w b M) (hok:MSok M.st 100000) (hk:o.kind=4) (hc:M.closed=false) (hs:hasM o.id M.marks=false) :
  Calls Tryz.prog 184 #[.pointer (some ⟨b,0,none⟩),.agg #[.int .u8 o.kind,.int .i64 o.slot,.int .i64 o.at_,.int .i64 o.n,.int .u32 o.id,.int .u8 o.grav,.string o.text]] w (fP b w (drpS M.st o) M):=by
 have hE:=aY w o
 have hM0:=h.below hE.bl
 obtain⟨ao,cp,hmv⟩:=aC h.marks
 have h1:=h.marks
 rw[hmv] at h1
 obtain⟨hrow,hcp⟩:=bV rfl h1
 have hmk:MkOK bigN M.marks:=hok.marks.big (by have:=hok.size;unfold bigN;omega)
 have hrB:w.heap.size≤w.heap.size+1:=by omega
 have hok:=Lib.hid hok
 have hS:drpS M.st o=(aS 7,M.st):=by unfold drpS;rw[if_neg (by show ¬ (M.closed=true);simp[hc]),if_neg (by show ¬ (hasM o.id M.marks=true);simp[hs])]
 rw[hS]
 have e4:=hE.o2.2.2.2.1
 have e0:=hE.kd
 have e1:=hM0.c3 hmv
 have t3:(o.kind == 3)=false:=by rw[hk];rfl
 clear hk
 go_enter Tryz.func184,Tryz.ntmps184
 go_wp2
 refine aP (S:=fun W=>W.cell? ⟨b,3,none⟩=some (.slice ao M.marks.length cp)∧W.cell? ⟨w.heap.size,4,none⟩=some (.int .u32 o.id)) ?_ (fun hHeld => ?_)
 ·first | exact⟨hM2.c3 hmv,hE2.o2.2.2.2.1⟩ | exact⟨e1,e4⟩
 iterate 6 ((first | refine aJ ?_ | refine np_q ?_ | refine aL 0 ?_);(try simp only[nSO]))
 first | (refine np_s 6 ?_;(try simp only[nSO])) | (refine np_c 6 (fun K hK => ?_);go_simp;((go_at_call 232;refine (wB ao cp M.marks o.id _ (hrow.on hE.bl.drew) hmk hcp hs).mono ?_;rintro e w2 ⟨rfl,hb2⟩;have hE2:=hE.drew.on hb2;have hM2:=(hM0.below (Below.refl _ _).drew).below hb2));(try go_wp2_with fail);refine hK.out _ _ ?_ (fun hHeld => ?_);(· (first | exact⟨hM2.c3 hmv,hE2.o2.2.2.2.1⟩ | exact⟨e1,e4⟩));clear hK K;(try simp only[nSO]))
 iterate 5 ((first | refine aJ ?_ | refine np_q ?_);(try simp only[nSO]))
 refine np_z ?_
 have e02:=hE2.kd
 go_wp2_with (go_at_call 181;refine (bG _ _).mono ?_;rintro e v7 ⟨rfl,hb7⟩;have hE7:=hE2.on hb7;have hst:=aK hE7.res rfl)
 refine⟨rfl,_,results_cell_row rfl _ _ _ _ _ _ _ rfl (setRow_heap _ _ _ _ _ _ hE7.res) Tryz.underlying51 rfl (by kernel_rfl),rfl,M,(hM2.below hb7).row hE7.res _,rfl,(aF.of_below hE7.bl).row hrB _,fun k hk => .inl hk⟩
theorem wC (b:Nat) (M:RM) (o:OpV) (w:World) (h:RdAt w b M) (hok:MSok M.st 100000) (hk:o.kind=4) (hc:M.closed=false) (hs:hasM o.id M.marks=true) :
  Calls Tryz.prog 184 #[.pointer (some ⟨b,0,none⟩),.agg #[.int .u8 o.kind,.int .i64 o.slot,.int .i64 o.at_,.int .i64 o.n,.int .u32 o.id,.int .u8 o.grav,.string o.text]] w (fP b w (drpS M.st o) M):=by
 have hE:=aY w o
 have hM0:=h.below hE.bl
 obtain⟨ao,cp,hmv⟩:=aC h.marks
 have h1:=h.marks
 rw[hmv] at h1
 obtain⟨hrow,hcp⟩:=bV rfl h1
 have hmk:MkOK bigN M.marks:=hok.marks.big (by have:=hok.size;unfold bigN;omega)
 have hrB:w.heap.size≤w.heap.size+1:=by omega
 have hbw:=(gAz h.blk).1
 have hn0:0≤M.number:=hok.num0
 have hn1:M.number≤100000:=hok.num1
 have hw:IntKind.i64.wrap (M.number+1)=M.number+1:=IntWalk.i64_in _ (by omega)
 have hS:drpS M.st o=lK { M.st with marks:=bP o.id M.marks }:=by unfold drpS;rw[if_neg (by show ¬ (M.closed=true);simp[hc]),if_pos (by exact hs)];rfl
 rw[hS]
 have e4:=hE.o2.2.2.2.1
 have e1:=hM0.c3 hmv
 have t3:(o.kind == 3)=false:=by rw[hk];rfl
 clear hk hok
 go_enter Tryz.func184,Tryz.ntmps184
 go_wp2
 refine aP (S:=fun W=>W.cell? ⟨b,3,none⟩=some (.slice ao M.marks.length cp)∧W.cell? ⟨w.heap.size,4,none⟩=some (.int .u32 o.id)) ?_ (fun hHeld => ?_)
 ·first | exact⟨hM2.c3 hmv,hE2.o2.2.2.2.1⟩ | exact⟨e1,e4⟩
 iterate 6 ((first | refine aJ ?_ | refine np_q ?_ | refine aL 0 ?_);(try simp only[nSO]))
 first | (refine np_s 6 ?_;(try simp only[nSO])) | (refine np_c 6 (fun K hK => ?_);go_simp;((go_at_call 232;refine (sW ao cp M.marks o.id _ (hrow.on hE.bl.drew) hmk hcp hs).mono ?_;rintro e w2 ⟨v,rfl,hov,hb2⟩;obtain⟨av,cv,rfl⟩:=aC hov;have hE2:=hE.drew.on hb2;have hM2:=(hM0.below (Below.refl _ _).drew).below hb2));(try go_wp2_with fail);refine hK.out _ _ ?_ (fun hHeld => ?_);(· (first | exact⟨hM2.c3 hmv,hE2.o2.2.2.2.1⟩ | exact⟨e1,e4⟩));clear hK K;(try simp only[nSO]))
 iterate 5 ((first | refine aJ ?_ | refine np_q ?_);(try simp only[nSO]))
 refine np_z ?_
 have e02:=hE2.kd
 have c32:=hM2.c3 hmv
 have f3:=hM2.f 3
 have hM3:=hM2.setMarks (aV (Nat.zero_le _) hov)
 have c4:=hM3.cs.2.2.2.2.1
 have f4:=hM3.f 4
 have hM4:=hM3.setNum (M.number+1)
 have d4:=hM4.cs.2.2.2.2.1
 have hz4:=(aG (w2.setCell ⟨b,3,none⟩ (.slice av (bP o.id M.marks).length cv)) ⟨b,4,none⟩ (.int .i64 (M.number+1)) (w.heap.size+1) (by show w.heap.size+1≠b;omega)).trans ((aG w2 ⟨b,3,none⟩ (.slice av (bP o.id M.marks).length cv) (w.heap.size+1) (by show w.heap.size+1≠b;omega)).trans hE2.res)
 have hst:=aK hz4 rfl
 go_wp2
 refine⟨rfl,_,results_cell_row rfl _ _ _ _ _ _ _ rfl (setRow_heap _ _ _ _ _ _ hz4) Tryz.underlying51 rfl (by kernel_rfl),rfl,_,hM4.row hz4 _,rfl,(((aF.of_below hE2.bl).trans (aF.set (F:=M.fp b) (a:=⟨b,3,none⟩) (.inl rfl) _)).trans (aF.set (F:=M.fp b) (a:=⟨b,4,none⟩) (.inl rfl) _)).row hrB _,fun k hk => .inl hk⟩
theorem sZ (b:Nat) (M:RM) (o:OpV) (w:World) (h:RdAt w b M) (hok:MSok M.st 100000) (ha:0≤o.at_∧o.at_≤9223372036854775807) (hs:(M.text.size:Int)<o.at_∨(o.at_≤M.text.size∧(M.text.size:Int)-o.at_<o.n)) :
  Calls Tryz.prog 183 #[.pointer (some ⟨b,0,none⟩),.agg #[.int .u8 o.kind,.int .i64 o.slot,.int .i64 o.at_,.int .i64 o.n,.int .u32 o.id,.int .u8 o.grav,.string o.text]] w (fP b w (aS 3,M.st) M):=by
 have hE:=aY w o
 have hM0:=h.below hE.bl
 have hsz:M.text.size≤65536:=hok.size
 have hrB:w.heap.size≤w.heap.size+1:=by omega
 obtain⟨e2,e3,_⟩:=hE.o2
 have c2:=hM0.cs.2.2.1
 clear hok
 rcases hs with hs | ⟨hs1,hs2⟩
 ·have t4:decide ((M.text.size:Int)<o.at_)=true:=by simpa using hs
  clear hs ha
  go_enter Tryz.func183,Tryz.ntmps183
  go_wp2_with (go_at_call 181;refine (bG _ _).mono ?_;rintro e v7 ⟨rfl,hb7⟩;have hE7:=hE.on hb7;have hst:=aK hE7.res rfl)
  refine⟨rfl,_,results_cell_row rfl _ _ _ _ _ _ _ rfl (setRow_heap _ _ _ _ _ _ hE7.res) Tryz.underlying51 rfl (by kernel_rfl),rfl,M,(hM0.below hb7).row hE7.res _,rfl,(aF.of_below hE7.bl).row hrB _,fun k hk => .inl hk⟩
 ·have t4:decide ((M.text.size:Int)<o.at_)=false:=by simp;omega
  have hw:IntKind.i64.wrap ((M.text.size:Int)-o.at_)=(M.text.size:Int)-o.at_:=IntWalk.i64_in _ (by omega)
  have t5:decide ((M.text.size:Int)-o.at_<o.n)=true:=by simpa using hs2
  clear hs1 hs2 ha
  go_enter Tryz.func183,Tryz.ntmps183
  go_wp2_with (go_at_call 181;refine (bG _ _).mono ?_;rintro e v7 ⟨rfl,hb7⟩;have hE7:=hE.on hb7;have hst:=aK hE7.res rfl)
  refine⟨rfl,_,results_cell_row rfl _ _ _ _ _ _ _ rfl (setRow_heap _ _ _ _ _ _ hE7.res) Tryz.underlying51 rfl (by kernel_rfl),rfl,M,(hM0.below hb7).row hE7.res _,rfl,(aF.of_below hE7.bl).row hrB _,fun k hk => .inl hk⟩
theorem wD (b:Nat) (M:RM) (o:OpV) (w:World) (h:RdAt w b M) (hok:MSok M.st 100000) (ha:0≤o.at_) (hs1:o.at_≤M.text.size) (hs2:o.n≤(M.text.size:Int)-o.at_) (hbd:bndB M.text.data.toList o.at_=false) :
  Calls Tryz.prog 183 #[.pointer (some ⟨b,0,none⟩),.agg #[.int .u8 o.kind,.int .i64 o.slot,.int .i64 o.at_,.int .i64 o.n,.int .u32 o.id,.int .u8 o.grav,.string o.text]] w (fP b w (aS 12,M.st) M):=by
 have hE:=aY w o
 have hM0:=h.below hE.bl
 have hsz:M.text.size≤65536:=hok.size
 have hrB:w.heap.size≤w.heap.size+1:=by omega
 obtain⟨e2,e3,_⟩:=hE.o2
 have c2:=hM0.cs.2.2.1
 have hbo:=fun W=>bU M.text o.at_ W
 rw[hbd] at hbo
 clear hok hbd
 have t4:decide ((M.text.size:Int)<o.at_)=false:=by simp;omega
 have hw:IntKind.i64.wrap ((M.text.size:Int)-o.at_)=(M.text.size:Int)-o.at_:=IntWalk.i64_in _ (by omega)
 have t5:decide ((M.text.size:Int)-o.at_<o.n)=false:=by simp;omega
 clear hs1 hs2 ha
 go_enter Tryz.func183,Tryz.ntmps183
 go_wp2
 refine aP (S:=fun W=>W.cell? ⟨b,2,none⟩=some (.string M.text)∧W.cell? ⟨w.heap.size,2,none⟩=some (.int .i64 o.at_)) ?_ (fun hHeld => ?_)
 ·exact⟨c2,e2⟩
 iterate 6 ((first | refine aJ ?_ | refine np_q ?_ | refine aL 0 ?_);(try simp only[nSO]))
 first | (refine np_s 6 ?_;(try simp only[nSO])) | (refine np_c 6 (fun K hK => ?_);go_simp;((go_at_call 228;refine (hbo _).mono ?_;rintro e w3 ⟨rfl,rfl⟩));(try go_wp2_with fail);refine hK.out _ _ ?_ (fun hHeld => ?_);(· (exact⟨c2,e2⟩));clear hK K;(try simp only[nSO]))
 iterate 11 ((first | refine aJ ?_ | refine np_q ?_);(try simp only[nSO]))
 first | (refine np_s 18 ?_;(try simp only[nSO])) | (refine np_c 18 (fun K hK => ?_);go_simp;((go_at_call 228;refine (hbo _).mono ?_;rintro e w3 ⟨rfl,rfl⟩));(try go_wp2_with fail);refine hK.out _ _ ?_ (fun hHeld => ?_);(· (exact⟨c2,e2⟩));clear hK K;(try simp only[nSO]))
 iterate 3 ((first | refine aJ ?_ | refine np_q ?_);(try simp only[nSO]))
 refine np_z ?_
 have hE3:=hE.drew
 have hM3:=hM0.below (Below.refl _ _).drew
 go_wp2_with (go_at_call 181;refine (bG _ _).mono ?_;rintro e v7 ⟨rfl,hb7⟩;have hE7:=hE3.on hb7;have hst:=aK hE7.res rfl)
 refine⟨rfl,_,results_cell_row rfl _ _ _ _ _ _ _ rfl (setRow_heap _ _ _ _ _ _ hE7.res) Tryz.underlying51 rfl (by kernel_rfl),rfl,M,(hM3.below hb7).row hE7.res _,rfl,(aF.of_below hE7.bl).row hrB _,fun k hk => .inl hk⟩
theorem aE8 (b:Nat) (M:RM) (o:OpV) (w:World) (h:RdAt w b M) (hok:MSok M.st 100000) (ha:0≤o.at_) (hs1:o.at_≤M.text.size) (hn:0≤o.n) (hs2:o.n≤(M.text.size:Int)-o.at_) (hbd:bndB M.text.data.toList o.at_=true) (hbd2:bndB M.text.data.toList (o.at_+o.n)=false) :
  Calls Tryz.prog 183 #[.pointer (some ⟨b,0,none⟩),.agg #[.int .u8 o.kind,.int .i64 o.slot,.int .i64 o.at_,.int .i64 o.n,.int .u32 o.id,.int .u8 o.grav,.string o.text]] w (fP b w (aS 12,M.st) M):=by
 have hE:=aY w o
 have hM0:=h.below hE.bl
 have hsz:M.text.size≤65536:=hok.size
 have hrB:w.heap.size≤w.heap.size+1:=by omega
 obtain⟨e2,e3,_⟩:=hE.o2
 have c2:=hM0.cs.2.2.1
 have hbo:=fun W=>bU M.text o.at_ W
 have hbo2:=fun W=>bU M.text (o.at_+o.n) W
 rw[hbd] at hbo
 rw[hbd2] at hbo2
 have hw2:IntKind.i64.wrap (o.at_+o.n)=o.at_+o.n:=IntWalk.i64_in _ (by omega)
 clear hok hbd hbd2
 have t4:decide ((M.text.size:Int)<o.at_)=false:=by simp;omega
 have hw:IntKind.i64.wrap ((M.text.size:Int)-o.at_)=(M.text.size:Int)-o.at_:=IntWalk.i64_in _ (by omega)
 have t5:decide ((M.text.size:Int)-o.at_<o.n)=false:=by simp;omega
 clear hs1 hs2 ha hn
 go_enter Tryz.func183,Tryz.ntmps183
 go_wp2
 refine aP (S:=fun W=>W.cell? ⟨b,2,none⟩=some (.string M.text)∧W.cell? ⟨w.heap.size,2,none⟩=some (.int .i64 o.at_)∧W.cell? ⟨w.heap.size,3,none⟩=some (.int .i64 o.n)) ?_ (fun hHeld => ?_)
 ·exact⟨c2,e2,e3⟩
 iterate 6 ((first | refine aJ ?_ | refine np_q ?_ | refine aL 0 ?_);(try simp only[nSO]))
 first | (refine np_s 6 ?_;(try simp only[nSO])) | (refine np_c 6 (fun K hK => ?_);go_simp;((go_at_call 228;refine (hbo _).mono ?_;rintro e w3 ⟨rfl,rfl⟩));(try go_wp2_with fail);refine hK.out _ _ ?_ (fun hHeld => ?_);(· (exact⟨c2,e2,e3⟩));clear hK K;(try simp only[nSO]))
 iterate 11 ((first | refine aJ ?_ | refine np_q ?_);(try simp only[nSO]))
 first | (refine np_s 18 ?_;(try simp only[nSO])) | (refine np_c 18 (fun K hK => ?_);go_simp;((go_at_call 228;refine (hbo2 _).mono ?_;rintro e w3 ⟨rfl,rfl⟩));(try go_wp2_with fail);refine hK.out _ _ ?_ (fun hHeld => ?_);(· (exact⟨c2,e2,e3⟩));clear hK K;(try simp only[nSO]))
 iterate 3 ((first | refine aJ ?_ | refine np_q ?_);(try simp only[nSO]))
 refine np_z ?_
 have hE3:=hE.drew
 have hM3:=hM0.below (Below.refl _ _).drew
 go_wp2_with (go_at_call 181;refine (bG _ _).mono ?_;rintro e v7 ⟨rfl,hb7⟩;have hE7:=hE3.on hb7;have hst:=aK hE7.res rfl)
 refine⟨rfl,_,results_cell_row rfl _ _ _ _ _ _ _ rfl (setRow_heap _ _ _ _ _ _ hE7.res) Tryz.underlying51 rfl (by kernel_rfl),rfl,M,(hM3.below hb7).row hE7.res _,rfl,(aF.of_below hE7.bl).row hrB _,fun k hk => .inl hk⟩
theorem aE9 (b:Nat) (M:RM) (o:OpV) (w:World) (h:RdAt w b M) (hok:MSok M.st 100000) (ha:0≤o.at_) (hs1:o.at_≤M.text.size) (hn:0≤o.n) (hs2:o.n≤(M.text.size:Int)-o.at_) (hbd:bndB M.text.data.toList o.at_=true) (hbd2:bndB M.text.data.toList (o.at_+o.n)=true) (htx:o.text.size≤256) (hlong:65536<(M.text.size:Int)-o.n+o.text.size) :
  Calls Tryz.prog 183 #[.pointer (some ⟨b,0,none⟩),.agg #[.int .u8 o.kind,.int .i64 o.slot,.int .i64 o.at_,.int .i64 o.n,.int .u32 o.id,.int .u8 o.grav,.string o.text]] w (fP b w (aS 5,M.st) M):=by
 have hE:=aY w o
 have hM0:=h.below hE.bl
 have hsz:M.text.size≤65536:=hok.size
 have hrB:w.heap.size≤w.heap.size+1:=by omega
 obtain⟨e2,e3,e6,_⟩:=hE.o2
 have hw3:IntKind.i64.wrap ((M.text.size:Int)-o.n)=(M.text.size:Int)-o.n:=IntWalk.i64_in _ (by omega)
 have hw4:IntKind.i64.wrap ((M.text.size:Int)-o.n+o.text.size)=(M.text.size:Int)-o.n+o.text.size:=IntWalk.i64_in _ (by omega)
 have t7:decide (65536<(M.text.size:Int)-o.n+o.text.size)=true:=by simpa using hlong
 have c2:=hM0.cs.2.2.1
 have hbo:=fun W=>bU M.text o.at_ W
 have hbo2:=fun W=>bU M.text (o.at_+o.n) W
 rw[hbd] at hbo
 rw[hbd2] at hbo2
 have hw2:IntKind.i64.wrap (o.at_+o.n)=o.at_+o.n:=IntWalk.i64_in _ (by omega)
 clear hok hbd hbd2
 have t4:decide ((M.text.size:Int)<o.at_)=false:=by simp;omega
 have hw:IntKind.i64.wrap ((M.text.size:Int)-o.at_)=(M.text.size:Int)-o.at_:=IntWalk.i64_in _ (by omega)
 have t5:decide ((M.text.size:Int)-o.at_<o.n)=false:=by simp;omega
 clear hs1 hs2 ha hn hlong
 go_enter Tryz.func183,Tryz.ntmps183
 go_wp2
 refine aP (S:=fun W=>W.cell? ⟨b,2,none⟩=some (.string M.text)∧W.cell? ⟨w.heap.size,2,none⟩=some (.int .i64 o.at_)∧W.cell? ⟨w.heap.size,3,none⟩=some (.int .i64 o.n)) ?_ (fun hHeld => ?_)
 ·exact⟨c2,e2,e3⟩
 iterate 6 ((first | refine aJ ?_ | refine np_q ?_ | refine aL 0 ?_);(try simp only[nSO]))
 first | (refine np_s 6 ?_;(try simp only[nSO])) | (refine np_c 6 (fun K hK => ?_);go_simp;((go_at_call 228;refine (hbo _).mono ?_;rintro e w3 ⟨rfl,rfl⟩));(try go_wp2_with fail);refine hK.out _ _ ?_ (fun hHeld => ?_);(· (exact⟨c2,e2,e3⟩));clear hK K;(try simp only[nSO]))
 iterate 11 ((first | refine aJ ?_ | refine np_q ?_);(try simp only[nSO]))
 first | (refine np_s 18 ?_;(try simp only[nSO])) | (refine np_c 18 (fun K hK => ?_);go_simp;((go_at_call 228;refine (hbo2 _).mono ?_;rintro e w3 ⟨rfl,rfl⟩));(try go_wp2_with fail);refine hK.out _ _ ?_ (fun hHeld => ?_);(· (exact⟨c2,e2,e3⟩));clear hK K;(try simp only[nSO]))
 iterate 3 ((first | refine aJ ?_ | refine np_q ?_);(try simp only[nSO]))
 refine np_z ?_
 have hE3:=hE.drew
 have e3':=hE3.o2.2.1
 have e6':=hE3.o2.2.2.1
 have hM3:=hM0.below (Below.refl _ _).drew
 go_wp2_with (go_at_call 181;refine (bG _ _).mono ?_;rintro e v7 ⟨rfl,hb7⟩;have hE7:=hE3.on hb7;have hst:=aK hE7.res rfl)
 refine⟨rfl,_,results_cell_row rfl _ _ _ _ _ _ _ rfl (setRow_heap _ _ _ _ _ _ hE7.res) Tryz.underlying51 rfl (by kernel_rfl),rfl,M,(hM3.below hb7).row hE7.res _,rfl,(aF.of_below hE7.bl).row hrB _,fun k hk => .inl hk⟩
end Go.Proofs.YtdeiocppghhfdaaGreat
namespace Go.Proofs.YtdeiocppghhfdaaGreat
open Go.RowKit Go.Lib Go.Shelf
def RsH (w:World) (ad dd:Option Addr) (dn dc:Nat) (l:List MkV) (c:Nat) (d:List PcV) (a:Act) (wr:World):Prop :=
 ∃ (k:Nat) (v:Value) (u:Nat→Value),a={ tmps := #[.slice ad l.length c,.slice dd dn dc,u 2,u 3,u 4,u 5,u 6,u 7,u 8,v,.int .i64 k,u 11,u 12,u 13,u 14,u 15,u 16,u 17,u 18,u 19,u 20,u 21,u 22,u 23,u 24,u 25,u 26,u 27,u 28,u 29,u 30,u 31,u 32,u 33,u 34,u 35,u 36,u 37,u 38,u 39,u 40,u 41,u 42,u 43,u 44,u 45,u 46,u 47],defers:=[] }∧k≤l.length∧MOw wr w.heap.size v (bI d (l.take k))∧Below w.heap.size w wr
theorem RsH.intro {w:World} {ad dd:Option Addr} {dn dc:Nat} {l:List MkV} {c:Nat} {d:List PcV} {a:Act} {wr:World} (k:Nat) (v:Value) {uu:Nat→Value} (_:uu=fun i=>a.tmps.getD i undef) (h:a={ tmps := #[.slice ad l.length c,.slice dd dn dc,uu 2,uu 3,uu 4,uu 5,uu 6,uu 7,uu 8,v,.int .i64 k,uu 11,uu 12,uu 13,uu 14,uu 15,uu 16,uu 17,uu 18,uu 19,uu 20,uu 21,uu 22,uu 23,uu 24,uu 25,uu 26,uu 27,uu 28,uu 29,uu 30,uu 31,uu 32,uu 33,uu 34,uu 35,uu 36,uu 37,uu 38,uu 39,uu 40,uu 41,uu 42,uu 43,uu 44,uu 45,uu 46,uu 47],defers:=[] }) (hk:k≤l.length) (hv:MOw wr w.heap.size v (bI d (l.take k))) (hB:Below w.heap.size w wr):RsH w ad dd dn dc l c d a wr:=⟨k,v,uu,h,hk,hv,hB⟩
theorem aFa (W:World) (a:Addr) (x:Value) (L:List Value) (T:TypeId):∀ (j:Nat) (u:Value),L[j]? = some u→((W.setCell a x).alloc (.cells L.toArray T)).cell? ((⟨W.heap.size,0,none⟩:Addr).add j)=some u:=by
 have h:=aW (W.setCell a x) L T
 have e:(W.setCell a x).heap.size=W.heap.size:=by simp[World.setCell]
 rwa [e] at h
theorem aRf {w:World} {b:Nat} {u v x v':Value} {T:TypeId} (h:w.heap[b]? = some (.cells #[u,v,x] T (0,0))):(w.setCell ⟨b,1,none⟩ v').heap[b]? = some (.cells #[u,v',x] T (0,0)):=by
 simp[World.setCell,Array.getElem?_modify,h]
theorem aCj (n a0 k0:Int) (t:ByteArray) (ad dd:Option Addr) (c dc:Nat) (l:List MkV) (w:World) (h:iP n a0 k0 t) (hr:MRow w ad l) (hd:PRow w dd (repD n a0 k0 t)) (hok:MkOK n l) (hc:l.length≤c) (hdc:(repD n a0 k0 t).length≤dc) :
  Calls Tryz.prog 230 #[.slice ad l.length c,.slice dd (repD n a0 k0 t).length dc] w fun e w'=>∃ v,e = .returned (.tuple #[v,.int .i64 0])∧MOw w' w.heap.size v (bI (repD n a0 k0 t) l)∧Below w.heap.size w w':=by
 obtain⟨i0,hi,hz0,hz1,hz2⟩:=info_parts mO
 obtain⟨hdo,hsn,_⟩:=rC h
 have h64:=hok.1
 have hin:=hok.2.2
 have hn0:0≤n:=by have:=h.1;have:=h.2.1;have:=h.2.2.1;omega
 have le:=oO dd dc (repD n a0 k0 t) w hd hdo hdc
 rw[hsn] at le
 have ck:=fun W (hW:MRow W ad l)=>rD n ad c l W hW hok hn0 hc
 have mv:=fun W (p g:Int) (hW:PRow W dd (repD n a0 k0 t)) hp hg=>aE6 n a0 k0 p g t dd dc W h hW hdc hp hg
 have LE:=Lib.hid le;have CK:=Lib.hid ck;have MV:=Lib.hid mv
 clear le ck mv hsn hdo
 generalize repD n a0 k0 t=D at *
 go_enter Tryz.func230,Tryz.ntmps230
 go_wp2_with (first | (go_at_call 269;refine LE.out.mono ?_;rintro e w1 ⟨rfl,hB1⟩) | (go_at_call 270;refine (CK.out _ (hr.on hB1)).mono ?_;rintro e w2 ⟨rfl,hB2⟩;have hB3:=hB1.trans (hB2.mono hB1.size)))
 refine wp_loop (RsH w ad dd D.length dc l c D) (fun a _=>l.length-(intOf (a.tmps.getD 10 undef)).toNat) ?_ ?_
 ·exact RsH.intro 0 (.slice none 0 0) rfl rfl (by omega) (World.ownsRow_nil _ _ _ _) hB3
 ·clear hB1 hB2 hB3
  rintro a wr ⟨k,v,u,rfl,hk,hv,hB⟩
  have hlk:(bI D (l.take k)).length=k:=by unfold bI;rw[List.length_map,List.length_take];omega
  by_cases hlt:k<l.length
  ·have hg:=gEz hlt
   generalize l[k]=m at hg
   obtain⟨g1,g2,g3,g4,g5⟩:=hin m (mGz hg)
   obtain⟨b,off,rfl,hb⟩:=nZ hr (fun h=>by rw[h] at hlt;simp at hlt)
   obtain⟨c0,c1,c2⟩:=yO (vS (hr.on hB)) hg
   have hB1:=hB.alloc hB.size (.cells #[.int .u32 m.id,.int .i64 m.at_,.int .u8 m.grav] 74)
   have hz:=heap_alloc_new wr (.cells #[.int .u32 m.id,.int .i64 m.at_,.int .u8 m.grav] 74)
   have hv1:=hv.alloc (.cells #[.int .u32 m.id,.int .i64 m.at_,.int .u8 m.grav] 74)
   have hBz:=hB.size
   have hst:bI D (l.take (k+1))=bI D (l.take k)++[{ m with at_:=posS D m.at_ m.grav }]:=by
    unfold bI;rw[List.take_add_one,hg,Option.toList_some,List.map_append];rfl
   have mc:=MV.out (wr.alloc (.cells #[.int .u32 m.id,.int .i64 m.at_,.int .u8 m.grav] 74)) m.at_ m.grav (hd.on hB1) ⟨g4,g5⟩ (by omega)
   have HST:=Lib.hid hst;have HLK:=Lib.hid hlk;have MC:=Lib.hid mc
   clear hst hlk hg hr hd mc
   generalize posS D m.at_ m.grav=q at *
   generalize bI D (l.take k)=X at *
   have hne:v.ownBlock≠some wr.heap.size:=fun e=>by have:=aGo hv _ e;omega
   go_wp2_with (first | (go_at_call 271;refine MC.out.mono ?_;rintro e w2 ⟨rfl,hB2⟩;have hzm:=(hB2.block _ (by simp)).trans hz;obtain⟨z0,z1,z2⟩:=cZ hzm;obtain⟨y0,y1,y2⟩:=vB hzm;have hv2:=aI hv1 hB2;have hz3:=aRf (v' := .int .i64 q) hzm;have hB3:=(hB1.trans (hB2.mono hB1.size)).setCell (p:=⟨wr.heap.size,1,none⟩) hBz (.int .i64 q);have hv3:=yQ (w':=w2.setCell ⟨wr.heap.size,1,none⟩ (.int .i64 q)) hv2 (fun k _ hk2=>aG _ _ _ _ (fun e=>hne (by rw[hk2];exact congrArg some e)))) | (at_builtin;refine wpList_append_own _ rfl _ _ 65 rfl w.heap.size 74 i0 _ 3 24 Tryz.underlying65 hi hz0 hz1 hz2 rfl (by decide) _ _ _ rfl (hv3.alloc _) ⟨_,0,none⟩ 1 1 (mkL ⟨m.id,q,m.grav⟩) rfl rfl (aFa _ _ _ _ _) (jW _) (by have:=HLK.out;unfold maxLen;omega) (by have:=HLK.out;omega) (by have:=hB3.size;simp at this ⊢;omega) ?_;intro v4 w4 hw4 hg4 _;have hB4:=(hB3.alloc hB3.size (.cells (mkL ⟨m.id,q,m.grav⟩).toArray 74)).grown hg4 (by have:=hB3.size;simp at this ⊢;omega) (fun k hk=>(hv3.lt k hk).1);have hv4:=MOw.snoc hw4))
   exact⟨RsH.intro (k+1) v4 rfl rfl (by omega) (by rw[HST.out];exact hv4) hB4,by simp[intOf];omega⟩
  ·obtain rfl:k=l.length:=by omega
   rw[List.take_length] at hv
   obtain⟨av,cv,rfl⟩:=aC hv
   go_wp2
   go_returns
   exact⟨_,rfl,hv,hB⟩
attribute [local go_sem, local simp] resF bD bS fK fM fO dQ eX eY
theorem aCk (b:Nat) (M:RM) (o:OpV) (w:World) (h:RdAt w b M) (hok:MSok M.st 100000) (ha:0≤o.at_) (hs1:o.at_≤M.text.size) (hn:0≤o.n) (hs2:o.n≤(M.text.size:Int)-o.at_) (hbd:bndB M.text.data.toList o.at_=true) (hbd2:bndB M.text.data.toList (o.at_+o.n)=true) (htx:o.text.size≤256) (hlong:¬ 65536<(M.text.size:Int)-o.n+o.text.size) (hrep:iP M.text.size o.at_ o.n o.text) :
  Calls Tryz.prog 183 #[.pointer (some ⟨b,0,none⟩),.agg #[.int .u8 o.kind,.int .i64 o.slot,.int .i64 o.at_,.int .i64 o.n,.int .u32 o.id,.int .u8 o.grav,.string o.text]] w (fP b w (repS M.st o.at_ o.n o.text) M):=by
 have hE:=aY w o
 have hM0:=h.below hE.bl
 obtain⟨ao,cp,hmv⟩:=aC h.marks
 have h1:=h.marks
 rw[hmv] at h1
 obtain⟨hrow,hcp⟩:=bV rfl h1
 have hmk:MkOK M.text.size M.marks:=hok.marks
 have hsz:M.text.size≤65536:=hok.size
 have hn0:0≤M.number:=hok.num0
 have hn1:M.number≤100000:=hok.num1
 have hwn:IntKind.i64.wrap (M.number+1)=M.number+1:=IntWalk.i64_in _ (by omega)
 have hbw:=(gAz h.blk).1
 have hrB:w.heap.size≤w.heap.size+1:=by omega
 obtain⟨e2,e3,e6,_⟩:=hE.o2
 have hw3:IntKind.i64.wrap ((M.text.size:Int)-o.n)=(M.text.size:Int)-o.n:=IntWalk.i64_in _ (by omega)
 have hw4:IntKind.i64.wrap ((M.text.size:Int)-o.n+o.text.size)=(M.text.size:Int)-o.n+o.text.size:=IntWalk.i64_in _ (by omega)
 have t7:decide (65536<(M.text.size:Int)-o.n+o.text.size)=false:=by simpa using hlong
 have c2:=hM0.cs.2.2.1
 have hbo:=fun W=>bU M.text o.at_ W
 have hbo2:=fun W=>bU M.text (o.at_+o.n) W
 rw[hbd] at hbo
 rw[hbd2] at hbo2
 have hw2:IntKind.i64.wrap (o.at_+o.n)=o.at_+o.n:=IntWalk.i64_in _ (by omega)
 clear hok hbd hbd2
 have t4:decide ((M.text.size:Int)<o.at_)=false:=by simp;omega
 have hw:IntKind.i64.wrap ((M.text.size:Int)-o.at_)=(M.text.size:Int)-o.at_:=IntWalk.i64_in _ (by omega)
 have t5:decide ((M.text.size:Int)-o.at_<o.n)=false:=by simp;omega
 clear hs1 hs2 ha hn hlong
 have HREP:=Lib.hid hrep
 have HMK:=Lib.hid hmk
 have HHR:=Lib.hid hrow
 have HCP:=Lib.hid hcp
 clear hrep hmk hrow hcp
 go_enter Tryz.func183,Tryz.ntmps183
 go_wp2
 refine aP (S:=fun W=>W.cell? ⟨b,2,none⟩=some (.string M.text)∧W.cell? ⟨w.heap.size,2,none⟩=some (.int .i64 o.at_)∧W.cell? ⟨w.heap.size,3,none⟩=some (.int .i64 o.n)) ?_ (fun hHeld => ?_)
 ·exact⟨c2,e2,e3⟩
 iterate 6 ((first | refine aJ ?_ | refine np_q ?_ | refine aL 0 ?_);(try simp only[nSO]))
 first | (refine np_s 6 ?_;(try simp only[nSO])) | (refine np_c 6 (fun K hK => ?_);go_simp;((go_at_call 228;refine (hbo _).mono ?_;rintro e w3 ⟨rfl,rfl⟩));(try go_wp2_with fail);refine hK.out _ _ ?_ (fun hHeld => ?_);(· (exact⟨c2,e2,e3⟩));clear hK K;(try simp only[nSO]))
 iterate 11 ((first | refine aJ ?_ | refine np_q ?_);(try simp only[nSO]))
 first | (refine np_s 18 ?_;(try simp only[nSO])) | (refine np_c 18 (fun K hK => ?_);go_simp;((go_at_call 228;refine (hbo2 _).mono ?_;rintro e w3 ⟨rfl,rfl⟩));(try go_wp2_with fail);refine hK.out _ _ ?_ (fun hHeld => ?_);(· (exact⟨c2,e2,e3⟩));clear hK K;(try simp only[nSO]))
 iterate 3 ((first | refine aJ ?_ | refine np_q ?_);(try simp only[nSO]))
 refine np_z ?_
 have hE3:=hE.drew
 have e2':=hE3.o2.1
 have e3':=hE3.o2.2.1
 have e6':=hE3.o2.2.2.1
 have hM3:=hM0.below (Below.refl _ _).drew
 have c2':=hM3.cs.2.2.1
 go_wp2_with (first
  |(go_at_call 229;refine (xD M.text.size o.at_ o.n o.text _ HREP.out).mono ?_;rintro e w4 ⟨v4,rfl,hov,hb4⟩;obtain⟨a4,p4,rfl⟩:=aC hov;have hE4:=hE3.on hb4;have hM4:=hM3.below hb4;have HPR:=Lib.hid (kL rfl hov);have c34:=hM4.c3 hmv;have c24:=hM4.cs.2.2.1)
  |(go_at_call 230;refine (aCj M.text.size o.at_ o.n o.text ao a4 cp p4 M.marks _ HREP.out (HHR.out.on hE4.bl) HPR.out.1 HMK.out HCP.out HPR.out.2).mono ?_;rintro e w5 ⟨v5,rfl,hov5,hb5⟩;obtain⟨a5,p5,rfl⟩:=aC hov5;have hE5:=hE4.on hb5;have hM5:=hM4.below hb5;have f53:=hM5.f 3;have c53:=hM5.c3 hmv;have hM6:=hM5.setMarks (aV (Nat.zero_le _) hov5);have c26:=hM6.cs.2.2.1;have hov6:=aH (aI hov hb5) hM5.blk (by decide) (fun k _ hk=>aG w5 ⟨b,3,none⟩ (.slice a5 (bI (repD M.text.size o.at_ o.n o.text) M.marks).length p5) k hk);have HP6:=Lib.hid (kL rfl hov6);have hz5:=hE5.res;have hz6:=(aG w5 ⟨b,3,none⟩ (.slice a5 (bI (repD M.text.size o.at_ o.n o.text) M.marks).length p5) (w.heap.size+1) (by show w.heap.size+1≠b;omega)).trans hz5)
  |(go_at_call 231;refine (aCe M.text o.at_ o.n o.text a4 p4 _ HREP.out HP6.out.1 HP6.out.2).mono ?_;rintro e w7 ⟨rfl,hb7⟩;have hM7:=hM6.below hb7;have f72:=hM7.f 2;have c72:=hM7.cs.2.2.1;have hM8:=hM7.setText (repT M.text o.at_ o.n o.text);have c48:=hM8.cs.2.2.2.2.1;have f84:=hM8.f 4;have hM9:=hM8.setNum (M.number+1);have c49:=hM9.cs.2.2.2.2.1;have hz7:=(hb7.block (w.heap.size+1) (gAz hz6).1).trans hz6;have hz9:=(aG (w7.setCell ⟨b,2,none⟩ (.string (repT M.text o.at_ o.n o.text))) ⟨b,4,none⟩ (.int .i64 (M.number+1)) (w.heap.size+1) (by show w.heap.size+1≠b;omega)).trans ((aG w7 ⟨b,2,none⟩ (.string (repT M.text o.at_ o.n o.text)) (w.heap.size+1) (by show w.heap.size+1≠b;omega)).trans hz7);have hst:=aK hz9 rfl))
 exact⟨rfl,_,results_cell_row rfl _ _ _ _ _ _ _ rfl (setRow_heap _ _ _ _ _ _ hz9) Tryz.underlying51 rfl (by kernel_rfl),rfl,_,hM9.row hz9 _,rfl,(((((aF.of_below hE5.bl).trans (aF.set (F:=M.fp b) (a:=⟨b,3,none⟩) (.inl rfl) _)).trans (aF.of_below hb7)).trans (aF.set (F:=M.fp b) (a:=⟨b,2,none⟩) (.inl rfl) _)).trans (aF.set (F:=M.fp b) (a:=⟨b,4,none⟩) (.inl rfl) _)).row hrB _,fun k hk => .inl hk⟩
theorem jD (ad:Option Addr) (c:Nat) (l:List MkV) (id:Int) (w:World) (hr:MRow w ad l) (hok:MkOK bigN l) (hc:l.length≤c):Calls Tryz.prog 232 #[.slice ad l.length c,.int .u32 id] w fun e w'=>∃ a n c x,e = .returned (.tuple #[.slice a n c,.int .i64 x])∧Below w.heap.size w w':=by
 cases hs:hasM id l with
 |true =>
  refine (sW ad c l id w hr hok hc hs).mono ?_
  rintro e w' ⟨v,h1,h2,h3⟩
  obtain⟨av,cv,rfl⟩:=aC h2
  exact⟨_,_,_,_,h1,h3⟩
 |false =>
  refine (wB ad c l id w hr hok hc hs).mono ?_
  rintro e w' ⟨h1,h3⟩
  exact⟨_,_,_,_,h1,h3⟩
theorem tO (b:Nat) (M:RM) (o:OpV) (w:World) (h:RdAt w b M) (hok:MSok M.st 100000) (hk:o.kind=3) (hc:M.closed=false) (hs:(M.text.size:Int)<o.at_) :
  Calls Tryz.prog 184 #[.pointer (some ⟨b,0,none⟩),.agg #[.int .u8 o.kind,.int .i64 o.slot,.int .i64 o.at_,.int .i64 o.n,.int .u32 o.id,.int .u8 o.grav,.string o.text]] w (fP b w (setS M.st o) M):=by
 have hE:=aY w o
 have hM0:=h.below hE.bl
 obtain⟨ao,cp,hmv⟩:=aC h.marks
 have h1:=h.marks
 rw[hmv] at h1
 obtain⟨hrow,hcp⟩:=bV rfl h1
 have hmk:MkOK bigN M.marks:=hok.marks.big (by have:=hok.size;unfold bigN;omega)
 have hrB:w.heap.size≤w.heap.size+1:=by omega
 have hE3:setE M.st o=3:=by
  unfold setE;rw[if_neg (by show ¬ (M.closed=true);simp[hc])];exact if_pos hs
 have hS:setS M.st o=(aS 3,M.st):=by unfold setS;rw[hE3,if_pos (by decide)]
 rw[hS]
 have e4:=hE.o2.2.2.2.1
 have e1:=hM0.c3 hmv
 have t3:(o.kind == 3)=true:=by rw[hk];rfl
 have t4:decide ((M.text.size:Int)<o.at_)=true:=by simpa using hs
 clear hk hok hs hE3
 go_enter Tryz.func184,Tryz.ntmps184
 go_wp2
 refine aP (S:=fun W=>W.cell? ⟨b,3,none⟩=some (.slice ao M.marks.length cp)∧W.cell? ⟨w.heap.size,4,none⟩=some (.int .u32 o.id)) ?_ (fun hHeld => ?_)
 ·first | exact⟨hM2.c3 hmv,hE2.o2.2.2.2.1⟩ | exact⟨e1,e4⟩
 iterate 6 ((first | refine aJ ?_ | refine np_q ?_ | refine aL 0 ?_);(try simp only[nSO]))
 first | (refine np_s 6 ?_;(try simp only[nSO])) | (refine np_c 6 (fun K hK => ?_);go_simp;((go_at_call 232;refine (jD ao cp M.marks o.id _ (hrow.on hE.bl.drew) hmk hcp).mono ?_;rintro e w2 ⟨a5,n5,c5,x5,rfl,hb2⟩;have hE2:=hE.drew.on hb2;have hM2:=(hM0.below (Below.refl _ _).drew).below hb2));(try go_wp2_with fail);refine hK.out _ _ ?_ (fun hHeld => ?_);(· (first | exact⟨hM2.c3 hmv,hE2.o2.2.2.2.1⟩ | exact⟨e1,e4⟩));clear hK K;(try simp only[nSO]))
 iterate 5 ((first | refine aJ ?_ | refine np_q ?_);(try simp only[nSO]))
 refine np_z ?_
 have e02:=hE2.kd
 have e2:=hE2.o2.1
 have c2:=hM2.cs.2.2.1
 go_wp2
 refine aP (S:=fun W=>W.cell? ⟨b,2,none⟩=some (.string M.text)∧W.cell? ⟨w.heap.size,2,none⟩=some (.int .i64 o.at_)) ?_ (fun hHeld => ?_)
 ·exact⟨c2,e2⟩
 iterate 8 ((first | refine aJ ?_ | refine np_q ?_ | refine aL 0 ?_);(try simp only[nSO]))
 refine np_z ?_
 have hE3:=hE2.drew
 have hM3:=hM2.below (Below.refl _ _).drew
 go_wp2_with (go_at_call 181;refine (bG _ _).mono ?_;rintro e v7 ⟨rfl,hb7⟩;have hE7:=hE3.on hb7;have hst:=aK hE7.res rfl)
 refine⟨rfl,_,results_cell_row rfl _ _ _ _ _ _ _ rfl (setRow_heap _ _ _ _ _ _ hE7.res) Tryz.underlying51 rfl (by kernel_rfl),rfl,M,(hM3.below hb7).row hE7.res _,rfl,(aF.of_below hE7.bl).row hrB _,fun k hk => .inl hk⟩
theorem xE (b:Nat) (M:RM) (o:OpV) (w:World) (h:RdAt w b M) (hok:MSok M.st 100000) (hk:o.kind=3) (hc:M.closed=false) (hs:o.at_≤M.text.size) (hbd:bndB M.text.data.toList o.at_=false) :
  Calls Tryz.prog 184 #[.pointer (some ⟨b,0,none⟩),.agg #[.int .u8 o.kind,.int .i64 o.slot,.int .i64 o.at_,.int .i64 o.n,.int .u32 o.id,.int .u8 o.grav,.string o.text]] w (fP b w (setS M.st o) M):=by
 have hE:=aY w o
 have hM0:=h.below hE.bl
 obtain⟨ao,cp,hmv⟩:=aC h.marks
 have h1:=h.marks
 rw[hmv] at h1
 obtain⟨hrow,hcp⟩:=bV rfl h1
 have hmk:MkOK bigN M.marks:=hok.marks.big (by have:=hok.size;unfold bigN;omega)
 have hrB:w.heap.size≤w.heap.size+1:=by omega
 have hE3:setE M.st o=12:=by
  unfold setE;rw[if_neg (by show ¬ (M.closed=true);simp[hc])];exact (if_neg (by show ¬ ((M.text.size:Int)<o.at_);omega)).trans (if_neg (by show ¬ (bndB M.text.data.toList o.at_=true);rw[hbd];simp))
 have hS:setS M.st o=(aS 12,M.st):=by unfold setS;rw[hE3,if_pos (by decide)]
 rw[hS]
 have e4:=hE.o2.2.2.2.1
 have e1:=hM0.c3 hmv
 have t3:(o.kind == 3)=true:=by rw[hk];rfl
 have t4:decide ((M.text.size:Int)<o.at_)=false:=by simp;omega
 have hbo:=fun W=>bU M.text o.at_ W
 rw[hbd] at hbo
 clear hk hok hs hE3 hbd
 go_enter Tryz.func184,Tryz.ntmps184
 go_wp2
 refine aP (S:=fun W=>W.cell? ⟨b,3,none⟩=some (.slice ao M.marks.length cp)∧W.cell? ⟨w.heap.size,4,none⟩=some (.int .u32 o.id)) ?_ (fun hHeld => ?_)
 ·first | exact⟨hM2.c3 hmv,hE2.o2.2.2.2.1⟩ | exact⟨e1,e4⟩
 iterate 6 ((first | refine aJ ?_ | refine np_q ?_ | refine aL 0 ?_);(try simp only[nSO]))
 first | (refine np_s 6 ?_;(try simp only[nSO])) | (refine np_c 6 (fun K hK => ?_);go_simp;((go_at_call 232;refine (jD ao cp M.marks o.id _ (hrow.on hE.bl.drew) hmk hcp).mono ?_;rintro e w2 ⟨a5,n5,c5,x5,rfl,hb2⟩;have hE2:=hE.drew.on hb2;have hM2:=(hM0.below (Below.refl _ _).drew).below hb2));(try go_wp2_with fail);refine hK.out _ _ ?_ (fun hHeld => ?_);(· (first | exact⟨hM2.c3 hmv,hE2.o2.2.2.2.1⟩ | exact⟨e1,e4⟩));clear hK K;(try simp only[nSO]))
 iterate 5 ((first | refine aJ ?_ | refine np_q ?_);(try simp only[nSO]))
 refine np_z ?_
 have e02:=hE2.kd
 have e2:=hE2.o2.1
 have c2:=hM2.cs.2.2.1
 go_wp2
 refine aP (S:=fun W=>W.cell? ⟨b,2,none⟩=some (.string M.text)∧W.cell? ⟨w.heap.size,2,none⟩=some (.int .i64 o.at_)) ?_ (fun hHeld => ?_)
 ·exact⟨c2,e2⟩
 iterate 8 ((first | refine aJ ?_ | refine np_q ?_ | refine aL 0 ?_);(try simp only[nSO]))
 refine np_z ?_
 have hE3:=hE2.drew.drew
 have hM3:=(hM2.below (Below.refl _ _).drew).below (Below.refl _ _).drew
 go_wp2
 refine aP (S:=fun W=>W.cell? ⟨b,2,none⟩=some (.string M.text)∧W.cell? ⟨w.heap.size,2,none⟩=some (.int .i64 o.at_)) ?_ (fun hHeld => ?_)
 ·exact⟨c2,e2⟩
 iterate 6 ((first | refine aJ ?_ | refine np_q ?_ | refine aL 0 ?_);(try simp only[nSO]))
 first | (refine np_s 6 ?_;(try simp only[nSO])) | (refine np_c 6 (fun K hK => ?_);go_simp;((go_at_call 228;refine (hbo _).mono ?_;rintro e w3 ⟨rfl,rfl⟩));(try go_wp2_with fail);refine hK.out _ _ ?_ (fun hHeld => ?_);(· (exact⟨c2,e2⟩));clear hK K;(try simp only[nSO]))
 (first | refine aJ ?_ | refine np_q ?_);(try simp only[nSO])
 refine np_z ?_
 go_wp2_with (go_at_call 181;refine (bG _ _).mono ?_;rintro e v7 ⟨rfl,hb7⟩;have hE7:=hE3.on hb7;have hst:=aK hE7.res rfl)
 refine⟨rfl,_,results_cell_row rfl _ _ _ _ _ _ _ rfl (setRow_heap _ _ _ _ _ _ hE7.res) Tryz.underlying51 rfl (by kernel_rfl),rfl,M,(hM3.below hb7).row hE7.res _,rfl,(aF.of_below hE7.bl).row hrB _,fun k hk => .inl hk⟩
end Go.Proofs.YtdeiocppghhfdaaGreat
