/- Texts, one behind another. -/
import Derived.Test.YtdeiocppghhfdaaGreatZfbm
set_option linter.unusedVariables false
set_option linter.unusedSimpArgs false
set_option maxRecDepth 100000
set_option maxHeartbeats 40000000
namespace Go.Proofs.YtdeiocppghhfdaaGreat
open Go.RowKit Go.Lib Go.Shelf
theorem aI3 (b:Nat) (M:RM) (w:World) (h:RdAt w b M) {K:Int} (hok:MSok M.st K):Calls Tryz.prog 122 #[.pointer (some ⟨b,0,none⟩)] w fun e w'=>∃ b2 N,e = .returned (.pointer (some ⟨b2,0,none⟩))∧RdAt w' b2 N∧N.st=M.st∧Below w.heap.size w w'∧∀ k,N.fp b2 k→w.heap.size≤k:=by
 obtain⟨i0,hi,iz0,iz1,iz2⟩:=info_parts aMk
 obtain⟨j0,hj,jz0,jz1,jz2⟩:=info_parts aGq
 obtain⟨k0,hk0,kz0,kz1,kz2⟩:=info_parts aMj
 have hcl:M.seats.length≤8:=by have:=hok.clients;have h2:M.st.seats.length=M.seats.length:=List.length_map ..;omega
 have hr8:M.readers≤8:=hok.readers
 have hsl:∀ S∈M.seats,S.sl.length≤8:=fun S hS=>by
  have h1:=(hok.slots S.st (List.mem_map.2 ⟨S,hS,rfl⟩)).1
  have h2:S.st.slots.length=S.sl.length:=List.length_map ..
  have h3:M.st.readers=M.readers:=rfl
  omega
 have HSL:=Lib.hid hsl
 clear hsl
 obtain⟨am,cm,hmv⟩:=aC h.marks
 obtain⟨asv,csv,hsv⟩:=aC h.snaps
 obtain⟨gb,cb,hbv⟩:∃ gb cb,M.bv = .slice (some ⟨gb,0,none⟩) M.seats.length cb:=by
  rcases h.subs.2 with⟨e1,_⟩ | ⟨g,cap,cur,e1,_⟩
  ·exact absurd (by rw[e1];rfl) h.some_.1
  ·exact⟨g,cap,e1⟩
 obtain⟨c0,c1,c2,c3,c4,c5,c6,c7⟩:=h.cs
 rw[hmv] at c3
 rw[hbv] at c6
 rw[hsv] at c7
 have c6':=fun o1 o2=>Lib.cell?_alloc_some o2 (Lib.cell?_alloc_some o1 c6)
 have hB1:=(Below.refl w.heap.size w).alloc (Nat.le_refl _) (.cells #[.int .i64 M.seats.length,.int .i64 M.readers,.string M.text,.slice am M.marks.length cm,.int .i64 M.number,.bool M.closed,.slice (some ⟨gb,0,none⟩) M.seats.length cb,.slice asv M.seats.length csv] 178)
 have hz1:=heap_alloc_new w (.cells #[.int .i64 M.seats.length,.int .i64 M.readers,.string M.text,.slice am M.marks.length cm,.int .i64 M.number,.bool M.closed,.slice (some ⟨gb,0,none⟩) M.seats.length cb,.slice asv M.seats.length csv] 178)
 obtain⟨W1,hW1⟩:∃ W1,w.alloc (.cells #[.int .i64 M.seats.length,.int .i64 M.readers,.string M.text,.slice am M.marks.length cm,.int .i64 M.number,.bool M.closed,.slice (some ⟨gb,0,none⟩) M.seats.length cb,.slice asv M.seats.length csv] 178)=W1:=⟨_,rfl⟩
 have hs1:W1.heap.size=w.heap.size+1:=by rw[← hW1];simp
 rw[hW1] at hB1 hz1
 have c6W:W1.cell? ⟨b,6,none⟩=some (.slice (some ⟨gb,0,none⟩) M.seats.length cb):=by rw[← hW1];exact Lib.cell?_alloc_some _ c6
 have c6V:=fun o=>Lib.cell?_alloc_some o c6W
 have hB2:=hB1.alloc hB1.size (.cells #[] 4)
 have e1:=wI W1 4 1
 rw[hs1] at e1
 have hsb:=(aI h.subs hB2)
 rw[hbv] at hsb
 have hsrc:∀ (j:Nat) (u:Value),(subL M.seats)[j]? = some u→(W1.alloc (.cells #[] 4)).cell? ((⟨gb,0,none⟩:Addr).add j)=some u:=fun j u hj=>hsb.cells (g:=gb) rfl j u hj
 have HS:=Lib.hid hsrc
 have H:=Lib.hid h
 clear hsrc hsb h
 go_enter Tryz.func122,Tryz.ntmps122
 go_wp2_with (first | (simp only[hW1]) | (at_builtin;refine wpList_append_own _ rfl _ _ 90 rfl (w.heap.size+1) 4 k0 _ 1 1 Tryz.underlying90 hk0 kz0 kz1 kz2 rfl (by decide) _ 0 [] rfl e1 ⟨gb,0,none⟩ M.seats.length cb (subL M.seats) rfl (by rw[aMp,Nat.mul_one]) HS.out (aI2 M.seats) (by unfold maxLen;omega) (by omega) (by rw[World.size_alloc];omega) ?_;intro v4 w4 hn4 hg4 hnil4;rw[Nat.zero_add,List.nil_append] at hn4;obtain⟨a4,c4',rfl⟩:=aC hn4;have hz4:w4.heap[w.heap.size]? = some (.cells #[.int .i64 M.seats.length,.int .i64 M.readers,.string M.text,.slice am M.marks.length cm,.int .i64 M.number,.bool M.closed,.slice (some ⟨gb,0,none⟩) M.seats.length cb,.slice asv M.seats.length csv] 178 (0,0)):=(hg4.block w.heap.size (by rw[World.size_alloc];omega) (fun hc=>by injection hc with hc;have hc2:w.heap.size=w.heap.size+1:=hc;omega)).trans ((heap_alloc_old W1 _ (by omega)).trans hz1);have c64:w4.cell? ⟨w.heap.size,6,none⟩=some (.slice (some ⟨gb,0,none⟩) M.seats.length cb):=(by simp[World.cell?,hz4]);have f64:w4.frozen? ⟨w.heap.size,6,none⟩=false:=(by simp[World.frozen?,hz4]);have hz5:(w4.setCell ⟨w.heap.size,6,none⟩ (.slice a4 M.seats.length c4')).heap[w.heap.size]? = some (.cells #[.int .i64 M.seats.length,.int .i64 M.readers,.string M.text,.slice am M.marks.length cm,.int .i64 M.number,.bool M.closed,.slice a4 M.seats.length c4',.slice asv M.seats.length csv] 178 (0,0)):=(by have:=bZ (L:=[.int .i64 M.seats.length,.int .i64 M.readers,.string M.text,.slice am M.marks.length cm,.int .i64 M.number,.bool M.closed,.slice (some ⟨gb,0,none⟩) M.seats.length cb,.slice asv M.seats.length csv]) hz4 6 (.slice a4 M.seats.length c4');exact this);have c75:(w4.setCell ⟨w.heap.size,6,none⟩ (.slice a4 M.seats.length c4')).cell? ⟨w.heap.size,7,none⟩=some (.slice asv M.seats.length csv):=(by simp[World.cell?,hz5]);have f75:(w4.setCell ⟨w.heap.size,6,none⟩ (.slice a4 M.seats.length c4')).frozen? ⟨w.heap.size,7,none⟩=false:=(by simp[World.frozen?,hz5])))
 have hne4:Value.slice a4 M.seats.length c4' ≠ .slice none 0 0:=fun e=>by have:=(hnil4.1 e).1;injection this with this;cases this
 obtain⟨R0,hR0⟩:∃ R0:RM,R0=⟨M.text,.slice am M.marks.length cm,M.marks,M.number,M.closed,M.readers,.slice a4 M.seats.length c4',.slice none 0 0,[]⟩:=⟨_,rfl⟩
 have hz6:((w4.setCell ⟨w.heap.size,6,none⟩ (.slice a4 M.seats.length c4')).setCell ⟨w.heap.size,7,none⟩ (.slice none 0 0)).heap[w.heap.size]? = some (.cells #[.int .i64 M.seats.length,.int .i64 M.readers,.string M.text,.slice am M.marks.length cm,.int .i64 M.number,.bool M.closed,.slice a4 M.seats.length c4',.slice none 0 0] 178 (0,0)):=by
  have:=bZ (L:=[.int .i64 M.seats.length,.int .i64 M.readers,.string M.text,.slice am M.marks.length cm,.int .i64 M.number,.bool M.closed,.slice a4 M.seats.length c4',.slice asv M.seats.length csv]) hz5 7 (.slice none 0 0);exact this
 have hB6:Below w.heap.size w ((w4.setCell ⟨w.heap.size,6,none⟩ (.slice a4 M.seats.length c4')).setCell ⟨w.heap.size,7,none⟩ (.slice none 0 0)) :=
  ((hB2.grown hg4 (by simp;omega) (fun q hq=>by injection hq with hq;have hq2:w.heap.size+1=q:=hq;omega)).setCell (p:=⟨w.heap.size,6,none⟩) (Nat.le_refl _) _).setCell (p:=⟨w.heap.size,7,none⟩) (Nat.le_refl _) _
 have hRC:RCp w.heap.size ((w4.setCell ⟨w.heap.size,6,none⟩ (.slice a4 M.seats.length c4')).setCell ⟨w.heap.size,7,none⟩ (.slice none 0 0)) w.heap.size M.seats.length (subL M.seats) R0:=by
  subst hR0
  refine⟨hz6,?_,aV (by omega) (aH (aH hn4 hz4 (by decide) (fun k _ hk=>aG _ _ _ _ hk)) hz5 (by decide) (fun k _ hk=>aG _ _ _ _ hk)),World.ownsRow_nil _ _ _ _,(fun S hS=>by cases hS),(fun S hS=>by cases hS),⟨tC hn4 hne4,fun S hS=>by cases hS⟩,by simp⟩
  have:=aI H.out.marks hB6
  rw[hmv] at this;exact this
 have hsd:R0.seats=[]:=by rw[hR0]
 have hsq:R0.sv = .slice none 0 0:=by rw[hR0]
 have HR0:=Lib.hid hR0
 have HSV:=Lib.hid hsv
 have HN4:=Lib.hid hn4
 clear hz1 hz4 hz5 hz6 c64 f64 c75 f75 hn4 hg4 hnil4 hne4 e1 HS c0 c1 c2 c3 c4 c5 c6 c7 c6' c6W c6V hR0 hB1 hB2 hsv
 generalize (w4.setCell ⟨w.heap.size,6,none⟩ (.slice a4 M.seats.length c4')).setCell ⟨w.heap.size,7,none⟩ (.slice none 0 0)=W6 at *
 go_loopw [4,18,19,20,21,22,23,24,25,26,27,28,29,30,31,32,33,34,35,36,37,38,39,40] (fun i x18 x19 x20 x21 x22 x23 x24 x25 x26 x27 x28 x29 x30 x31 x32 x33 x34 x35 x36 x37 x38 x39 x40 wr=>∃ (k:Nat) (sv:Value) (D:List SeM),i = .int .i64 k∧k≤M.seats.length∧D.length=k∧D.map (·.st)=(M.seats.take k).map (·.st)∧RCp w.heap.size wr w.heap.size M.seats.length (subL M.seats) { R0 with sv:=sv,seats:=D }∧Below w.heap.size w wr) (fun i x18 x19 x20 x21 x22 x23 x24 x25 x26 x27 x28 x29 x30 x31 x32 x33 x34 x35 x36 x37 x38 x39 x40 wr=>M.seats.length-(intOf i).toNat)
 case atStart=>exact⟨0,.slice none 0 0,[],rfl,by omega,rfl,rfl,by rw[← hsd,← hsq];exact hRC,hB6⟩
 case round =>
  obtain⟨k,sv,D,rfl,hk,hD,hDs,hBd,hBV⟩:=hrel
  subst hD
  have hDs':=Lib.hid hDs
  clear hDs
  have hMr:=H.out.below hBV
  have z7:=hMr.c7 HSV.out
  by_cases hlt:D.length<M.seats.length
  ·have hS:=gEz hlt
   generalize M.seats[D.length]=S at hS
   have hmem:=mGz hS
   obtain⟨gs,cs,g,cp,gb2,cb2,cur,hSA⟩:=hMr.seatAt hS
   have hss:=HSV.out.symm.trans hSA.sv
   injection hss with hs1' _ hs3'
   subst hs1'
   subst hs3'
   have zr:=hSA.c1
   have hcap:=hSA.cap
   have hl8:=HSL.out S hmem
   have z7':=fun o=>Lib.cell?_alloc_some o z7
   have zr':=fun o=>Lib.cell?_alloc_some o zr
   have hxV:Below wr.heap.size wr (wr.drew.alloc (.cells #[] 253)):=((Below.refl wr.heap.size wr).drew).alloc (Nat.le_refl _) _
   have hE:=wI wr.drew 253 4
   have hsr:=aI (hMr.slots S hmem) hxV
   rw[hSA.v] at hsr
   have hsrc:∀ (j:Nat) (u:Value),(slL S.sl)[j]? = some u→(wr.drew.alloc (.cells #[] 253)).cell? ((⟨g,0,none⟩:Addr).add j)=some u:=fun j u hj=>hsr.cells (g:=g) rfl j u hj
   have hone:=aBz S.sl (fun x hx=>by obtain⟨a,c,e⟩:=aC (hMr.smarks S hmem x hx);rw[e];rfl)
   have hsm:=hMr.smarks S hmem
   have HSM:=Lib.hid hsm
   have HE:=Lib.hid hE
   have HSRC:=Lib.hid hsrc
   have HONE:=Lib.hid hone
   have HBd:=Lib.hid hBd
   have c7:=(rcp7 hBd.blk).1
   have c7':=fun o=>Lib.cell?_alloc_some o c7
   have hwr:=hBV.size
   clear hsr hSA hE hsrc hone hsm hMr hBd
   go_wp2
   go_region_law (first | (rw[if_pos (by rfl)];refine wp_append_own _ _ _ 213 rfl wr.heap.size 253 j0 _ 4 56 Tryz.underlying213 hj jz0 jz1 jz2 rfl (by decide) _ 0 [] rfl HE.out ⟨g,0,none⟩ S.sl.length cp (slL S.sl) rfl (gX S.sl) HSRC.out HONE.out (by unfold maxLen;omega) (by omega) (by simp) ?_;intro v6 w6 hn6 hg6 hnil6;rw[Nat.zero_add,List.nil_append] at hn6;obtain⟨a6,cc6,rfl⟩:=aC hn6;have hb6:=hxV.grown hg6 (by simp) (fun q hq=>by injection hq with hq;have hq2:wr.heap.size=q:=hq;omega);have HBd6:=Lib.hid (HBd.out.below hb6);have c76:=(rcp7 HBd6.out.blk).1;have c76':=fun o=>Lib.cell?_alloc_some o c76;have Hown:=Lib.hid (HBd6.out.snaps.alloc (.cells #[.slice a6 S.sl.length cc6] 213));have Hnew:=Lib.hid (aW w6 [.slice a6 S.sl.length cc6] 213);have HN6:=Lib.hid hn6;have hb6s:=hb6.size;clear hn6) | (rw[if_pos (by rfl)];refine wp_append_own _ _ _ 176 rfl w.heap.size 213 i0 (.slice none 0 0) 1 24 Tryz.underlying176 hi iz0 iz1 iz2 rfl (by decide) sv D.length (rowL D) rfl Hown.out _ _ _ [.slice a6 S.sl.length cc6] rfl rfl Hnew.out (by simp[Value.oneCell']) (by unfold maxLen;omega) (by omega) (by simp;omega) ?_;intro v7 w7 hn7 hg7 _;obtain⟨a7,cc7,rfl⟩:=aC hn7;obtain⟨c77,f77⟩:=rcp7 (HBd6.out.keep6 hg7 (by decide) HBd6.out.blk)))
   all_goals
    have hne6:Value.slice a6 S.sl.length cc6 ≠ .slice none 0 0:=fun e=>by have:=(hnil6.1 e).1;injection this with this;cases this
    have hB7:=((((hBV.trans (hb6.mono hBV.size)).alloc (by omega) (.cells #[.slice a6 S.sl.length cc6] 213)).grown hg7 (by simp;omega) (fun q hq=>(Hown.out.lt q hq).1)).setCell (p:=⟨w.heap.size,7,none⟩) (Nat.le_refl _) (.slice a7 (D.length+1) cc7))
    have hBd7:RCp w.heap.size (w7.setCell ⟨w.heap.size,7,none⟩ (.slice a7 (D.length+1) cc7)) w.heap.size M.seats.length (subL M.seats) { R0 with sv := .slice a7 (D.length+1) cc7,seats:=D++[⟨S.sub,.slice a6 S.sl.length cc6,S.sl⟩] }:=HBd6.out.push (z:=wr.heap.size) ⟨S.sub,.slice a6 S.sl.length cc6,S.sl⟩ _ _ hwr hg7 hn7 HN6.out (fun S' hS' g hg=>lN (HBd.out.slots S' hS') hg) (tC HN6.out hne6) (fun x hx=>aI (HSM.out x hx) hb6)
    go_wp2
    go_roundw
    case rel=>exact⟨D.length+1,_,_,by go_num,by omega,by rw[List.length_append];rfl,by rw[List.map_append,hDs'.out,List.take_add_one,hS,List.map_append];rfl,hBd7,hB7⟩
    case measure=>simp[intOf];omega
  ·have hkn:D.length=M.seats.length:=by omega
   have hDm:=hDs'.out
   rw[hkn,List.take_length] at hDm
   have hX:subL M.seats=subL D:=by
    have h1:∀ l:List SeM,subL l=(l.map (·.st)).map (fun s=>Value.bool s.sub):=fun l=>by unfold subL;rw[List.map_map];rfl
    rw[h1,h1,hDm]
   have HX:=Lib.hid hX
   have HDM:=Lib.hid hDm
   have HKN:=Lib.hid hkn
   clear hX hDm hkn
   go_wp2
   go_returns
   refine⟨_,rfl,_,hBd.rdAt HKN.out HX.out,?_,hBV,?_⟩
   ·rw[HR0.out];unfold RM.st;dsimp only;rw[HDM.out]
   ·rintro j (h | h | ⟨S,hS,h⟩)
    ·omega
    ·rw[HR0.out] at h;have:=(World.ownsRow.lt HN4.out j h).1;omega
    ·exact (World.ownsRow.lt (hBd.slots S hS) j h).1
theorem aFb (a:Option Addr) (n c:Nat) (w:World):Calls Tryz.prog 265 #[.slice a n c,.slice none 0 0] w fun e w'=>e = .returned (.bool (decide (n=0)))∧Below w.heap.size w w':=by
 by_cases h:n=0
 ·subst h
  go_enter Tryz.func265,Tryz.ntmps265
  go_wp2
  refine wp_loop_rounds 1 ?_
  rw[rounds_succ]
  go_wp2
  go_returns
  exact⟨rfl,Below.refl _ _⟩
 ·have d:((n:Int) == 0)=false:=by simp[h]
  have d2:decide (n=0)=false:=by simp[h]
  have d3:(n == 0)=false:=by simp[h]
  have d4:((n:Int) != 0)=true:=by simp[h]
  rw[d2]
  go_enter Tryz.func265,Tryz.ntmps265
  go_wp2
  go_returns
  exact⟨rfl,Below.refl _ _⟩
theorem aI4 (i:ItV) (w:World):Calls Tryz.prog 222 #[.agg #[.int .u8 i.k,.int .i64 i.f,.int .i64 i.t,.slice i.da i.dn i.dc],.agg #[.int .u8 0,.int .i64 0,.int .i64 0,.slice none 0 0]] w fun e w'=>e = .returned (.bool (decide (i.dn=0) && (i.k == 0) && (i.f == 0) && (i.t == 0)))∧Below w.heap.size w w':=by
 have hB0:=((Below.refl w.heap.size w).alloc (Nat.le_refl _) (.cells #[.int .u8 i.k,.int .i64 i.f,.int .i64 i.t,.slice i.da i.dn i.dc] 49)).alloc (by simp) (.cells #[.int .u8 0,.int .i64 0,.int .i64 0,.slice none 0 0] 49)
 cases h1:(i.k == 0) with
 |false =>
  go_enter Tryz.func222,Tryz.ntmps222
  go_wp2
  go_returns
  exact⟨by simp[*],hB0⟩
 |true =>
  cases h2:(i.f == 0) with
  |false =>
   go_enter Tryz.func222,Tryz.ntmps222
   go_wp2
   go_returns
   exact⟨by simp[*],hB0⟩
  |true =>
   cases h3:(i.t == 0) with
   |false =>
    go_enter Tryz.func222,Tryz.ntmps222
    go_wp2
    go_returns
    exact⟨by simp[*],hB0⟩
   |true =>
    go_enter Tryz.func222,Tryz.ntmps222
    go_wp2_with (go_at_call 265;refine (aFb _ _ _ _).mono ?_;rintro e w1 ⟨rfl,hb1⟩)
    go_returns
    exact⟨by simp[*],hB0.trans (hb1.mono hB0.size)⟩
theorem oF (r s:ResV) (i:ItV) (w:World):Calls Tryz.prog 179 #[.agg #[.int .i64 r.err,.int .i64 r.rev,.int .i64 r.slot,.int .i64 r.at_,.int .u8 r.grav,.string r.text,.int .i64 r.m1,.int .i64 r.m2,.int .i64 r.m3,.int .u8 i.k,.int .i64 i.f,.int .i64 i.t,.slice i.da i.dn i.dc],.agg #[.int .i64 s.err,.int .i64 s.rev,.int .i64 s.slot,.int .i64 s.at_,.int .u8 s.grav,.string s.text,.int .i64 s.m1,.int .i64 s.m2,.int .i64 s.m3,.int .u8 0,.int .i64 0,.int .i64 0,.slice none 0 0]] w fun e w'=>e = .returned (.bool (dE r i s))∧Below w.heap.size w w':=by
 have hB0:=((Below.refl w.heap.size w).alloc (Nat.le_refl _) (.cells #[.int .i64 r.err,.int .i64 r.rev,.int .i64 r.slot,.int .i64 r.at_,.int .u8 r.grav,.string r.text,.int .i64 r.m1,.int .i64 r.m2,.int .i64 r.m3,.int .u8 i.k,.int .i64 i.f,.int .i64 i.t,.slice i.da i.dn i.dc] 51)).alloc (by simp) (.cells #[.int .i64 s.err,.int .i64 s.rev,.int .i64 s.slot,.int .i64 s.at_,.int .u8 s.grav,.string s.text,.int .i64 s.m1,.int .i64 s.m2,.int .i64 s.m3,.int .u8 0,.int .i64 0,.int .i64 0,.slice none 0 0] 51)
 cases h0:(r.err == s.err) with
 |false =>
  go_enter Tryz.func179,Tryz.ntmps179
  go_wp2
  go_returns
  exact⟨by simp[dE, *],hB0⟩
 |true =>
  cases h1:(r.rev == s.rev) with
  |false =>
   go_enter Tryz.func179,Tryz.ntmps179
   go_wp2
   go_returns
   exact⟨by simp[dE, *],hB0⟩
  |true =>
   cases h2:(r.slot == s.slot) with
   |false =>
    go_enter Tryz.func179,Tryz.ntmps179
    go_wp2
    go_returns
    exact⟨by simp[dE, *],hB0⟩
   |true =>
    cases h3:(r.at_ == s.at_) with
    |false =>
     go_enter Tryz.func179,Tryz.ntmps179
     go_wp2
     go_returns
     exact⟨by simp[dE, *],hB0⟩
    |true =>
     cases h4:(r.grav == s.grav) with
     |false =>
      go_enter Tryz.func179,Tryz.ntmps179
      go_wp2
      go_returns
      exact⟨by simp[dE, *],hB0⟩
     |true =>
      cases h5:(r.text.toList == s.text.toList) with
      |false =>
       go_enter Tryz.func179,Tryz.ntmps179
       go_wp2
       go_returns
       exact⟨by simp[dE, *],hB0⟩
      |true =>
       cases h6:(r.m1 == s.m1) with
       |false =>
        go_enter Tryz.func179,Tryz.ntmps179
        go_wp2
        go_returns
        exact⟨by simp[dE, *],hB0⟩
       |true =>
        cases h7:(r.m2 == s.m2) with
        |false =>
         go_enter Tryz.func179,Tryz.ntmps179
         go_wp2
         go_returns
         exact⟨by simp[dE, *],hB0⟩
        |true =>
         cases h8:(r.m3 == s.m3) with
         |false =>
          go_enter Tryz.func179,Tryz.ntmps179
          go_wp2
          go_returns
          exact⟨by simp[dE, *],hB0⟩
         |true =>
          go_enter Tryz.func179,Tryz.ntmps179
          go_wp2_with (go_at_call 222;refine (aI4 i _).mono ?_;rintro e w1 ⟨rfl,hb1⟩)
          go_returns
          exact⟨by simp[dE, *],hB0.trans (hb1.mono hB0.size)⟩
def aMq (b:Nat) (w:World) (R:Bool × MS) (M:RM) (e:Ending) (w':World):Prop:=e = .returned (.bool R.1)∧∃ M',RdAt w' b M'∧M'.st=R.2∧aF (M.fp b) w w'∧(∀ k,M'.fp b k→M.fp b k∨w.heap.size≤k)
def rdB (n r:Int) (t:ByteArray) (v:Value) (m:Int) (c:Bool) (x y:Value):List Value:=[.int .i64 n,.int .i64 r,.string t,v,.int .i64 m,.bool c,x,y]
theorem rdF (n r:Int) (t:ByteArray) (v:Value) (m:Int) (c:Bool) (x y:Value):Value.agg #[.int .i64 n,.int .i64 r,.string t,v,.int .i64 m,.bool c,x,y] = .agg (rdB n r t v m c x y).toArray:=rfl
theorem aP4 (n r:Int) (t:ByteArray) (v:Value) (m:Int) (c:Bool) (x y:Value):(rdB n r t v m c x y).length=8:=rfl
theorem aRh (n r:Int) (t:ByteArray) (v:Value) (m:Int) (c:Bool) (x y:Value):rdB n r t v m c x y≠[]:=by simp[rdB]
theorem RdAt.take {W:World} {b b2:Nat} {M N:RM} (h:RdAt W b M) (h2:RdAt W b2 N) {am ab as':Option Addr} {cm cb cs:Nat} (hm:N.mv = .slice am N.marks.length cm) (hb:N.bv = .slice ab N.seats.length cb) (hs:N.sv = .slice as' N.seats.length cs) :
  (storeCells ⟨b,0,none⟩ (rdB N.seats.length N.readers N.text (.slice am N.marks.length cm) N.number N.closed (.slice ab N.seats.length cb) (.slice as' N.seats.length cs))).run Tryz.prog W = .ok () (W.setRow b (rdB N.seats.length N.readers N.text (.slice am N.marks.length cm) N.number N.closed (.slice ab N.seats.length cb) (.slice as' N.seats.length cs)).toArray) ∧
  RdAt (W.setRow b (rdB N.seats.length N.readers N.text (.slice am N.marks.length cm) N.number N.closed (.slice ab N.seats.length cb) (.slice as' N.seats.length cs)).toArray) b N:=by
 have e:rdB N.seats.length N.readers N.text (.slice am N.marks.length cm) N.number N.closed (.slice ab N.seats.length cb) (.slice as' N.seats.length cs)=rdL N:=by unfold rdB rdL;rw[hm,hb,hs]
 refine⟨mQ h.blk rfl _ rfl (by simp[rdB,Value.oneCell']),?_⟩
 rw[e]
 have hk:∀ k,k<W.heap.size→k≠b→(W.setRow b (rdL N).toArray).heap[k]? = W.heap[k]? := fun k _ hk=>setRow_other _ _ _ _ hk
 exact⟨setRow_heap _ _ _ _ _ _ h.blk,aH h2.marks h.blk (by decide) hk,aH h2.subs h.blk (by decide) hk,aH h2.snaps h.blk (by decide) hk,fun S hS=>aH (h2.slots S hS) h.blk (by decide) hk,fun S hS x hx=>aH (h2.smarks S hS x hx) h.blk (by decide) hk,h2.some_,h2.nodup⟩
attribute [local go_sem, local simp] resF bD bS rdF aP4 aRh
theorem aMr (st:MS) (c:Int) (q:OpV) (r:ResV) (i:ItV) :
  accS st c q r i=if dE r i (doS st c q).1 then (true,(doS st c q).2) else ((dL st c q == 0) && !((doS st c q).1.err == 13) && (if (q.kind == 15) then ((doS st c q).1.err == 17) && dE r {} {} && ((i.k == 1) || (i.k == 2)) else decide (q.kind≤4) && dE r i (aS 14) || decide (q.kind≤2) && ((doS st c q).1.err == 0) && dE r i (aS 6)),st):=by
 unfold accS accB
 cases hS:dE r i (doS st c q).1 with
 |true=>rfl
 |false =>
  by_cases a:dL st c q=0
  ·have k1:=(pG (qH a).2.2).1.1
   have hk:q.kind=15∨q.kind=1∨q.kind=2∨q.kind=3∨q.kind=4∨(5≤q.kind∧q.kind≠15):=by omega
   rcases hk with hk | hk | hk | hk | hk | ⟨h5,h15⟩
   all_goals by_cases b:(doS st c q).1.err=13
   all_goals first | (rw[if_neg (by simp),if_neg (by simpa using a),if_neg h15,if_neg (by omega),if_neg (by omega)];simp[a,h15];omega) | (simp[a,b,hk];done) | (simp[a,b,hk];cases dE r i (aS 14)<;>cases dE r i (aS 6)<;>simp<;>(intro h;omega))
  ·simp[a]
theorem aCn (b:Nat) (c:Int) (M:RM) (q:OpV) (r:ResV) (i:ItV) (w:World) (h:RdAt w b M) (hok:MSok M.st 100000) (hi:OpIn q) :
  Calls Tryz.prog 127 #[.pointer (some ⟨b,0,none⟩),.int .i64 c,.agg #[.int .u8 q.kind,.int .i64 q.slot,.int .i64 q.at_,.int .i64 q.n,.int .u32 q.id,.int .u8 q.grav,.string q.text],.agg #[.int .i64 r.err,.int .i64 r.rev,.int .i64 r.slot,.int .i64 r.at_,.int .u8 r.grav,.string r.text,.int .i64 r.m1,.int .i64 r.m2,.int .i64 r.m3,.int .u8 i.k,.int .i64 i.f,.int .i64 i.t,.slice i.da i.dn i.dc]] w (aMq b w (accS M.st c q r i) M):=by
 have hB0:=((Below.refl w.heap.size w).alloc (Nat.le_refl _) (.cells #[.int .u8 q.kind,.int .i64 q.slot,.int .i64 q.at_,.int .i64 q.n,.int .u32 q.id,.int .u8 q.grav,.string q.text] 54)).alloc (by simp) (.cells #[.int .i64 r.err,.int .i64 r.rev,.int .i64 r.slot,.int .i64 r.at_,.int .u8 r.grav,.string r.text,.int .i64 r.m1,.int .i64 r.m2,.int .i64 r.m3,.int .u8 i.k,.int .i64 i.f,.int .i64 i.t,.slice i.da i.dn i.dc] 51)
 have hq0:=(heap_alloc_old (w.alloc (.cells #[.int .u8 q.kind,.int .i64 q.slot,.int .i64 q.at_,.int .i64 q.n,.int .u32 q.id,.int .u8 q.grav,.string q.text] 54)) (.cells #[.int .i64 r.err,.int .i64 r.rev,.int .i64 r.slot,.int .i64 r.at_,.int .u8 r.grav,.string r.text,.int .i64 r.m1,.int .i64 r.m2,.int .i64 r.m3,.int .u8 i.k,.int .i64 i.f,.int .i64 i.t,.slice i.da i.dn i.dc] 51) (show w.heap.size<_ by simp)).trans (heap_alloc_new w _)
 have hr0:=heap_alloc_new (w.alloc (.cells #[.int .u8 q.kind,.int .i64 q.slot,.int .i64 q.at_,.int .i64 q.n,.int .u32 q.id,.int .u8 q.grav,.string q.text] 54)) (.cells #[.int .i64 r.err,.int .i64 r.rev,.int .i64 r.slot,.int .i64 r.at_,.int .u8 r.grav,.string r.text,.int .i64 r.m1,.int .i64 r.m2,.int .i64 r.m3,.int .u8 i.k,.int .i64 i.f,.int .i64 i.t,.slice i.da i.dn i.dc] 51)
 rw[World.size_alloc] at hr0
 have HOK:=Lib.hid hok
 clear hok
 have Hm:=h
 have hM0:=h.below hB0
 have hv0:=aMr M.st c q r i
 generalize accS M.st c q r i=V at hv0 ⊢
 obtain⟨R,hR⟩:∃ x,doS M.st c q=x:=⟨_,rfl⟩
 obtain⟨S,hS⟩:∃ x,dE r i R.1=x:=⟨_,rfl⟩
 obtain⟨E,hz⟩:∃ x,dL M.st c q=x:=⟨_,rfl⟩
 obtain⟨z,hd⟩:∃ x,(E == 0)=x:=⟨_,rfl⟩
 obtain⟨t15,h15⟩:∃ x,(q.kind == 15)=x:=⟨_,rfl⟩
 obtain⟨x4,hx4⟩:∃ x,decide (q.kind≤4)=x:=⟨_,rfl⟩
 obtain⟨x2,hx2⟩:∃ x,decide (q.kind≤2)=x:=⟨_,rfl⟩
 obtain⟨e17,he17⟩:∃ x,(R.1.err == 17)=x:=⟨_,rfl⟩
 obtain⟨s0,h0⟩:∃ x,dE r {} {}=x:=⟨_,rfl⟩
 obtain⟨k1,hk1⟩:∃ x,(i.k == 1)=x:=⟨_,rfl⟩
 obtain⟨k2,hk2⟩:∃ x,(i.k == 2)=x:=⟨_,rfl⟩
 obtain⟨s6,h6⟩:∃ x,dE r i (aS 6)=x:=⟨_,rfl⟩
 obtain⟨s14,h14⟩:∃ x,dE r i (aS 14)=x:=⟨_,rfl⟩
 obtain⟨ez,hez⟩:∃ x,(R.1.err == 0)=x:=⟨_,rfl⟩
 obtain⟨e13,he13⟩:∃ x,(R.1.err == 13)=x:=⟨_,rfl⟩
 rw[hR,hS,hz,hd,h15,hx4,hx2,he17,h0,hk1,hk2,h6,h14,hez,he13] at hv0
 have HV:=Lib.hid hv0
 have hx:x4=false→x2=false:=fun h=>by rw[h] at hx4;rw[← hx2];have:=of_decide_eq_false hx4;simp;omega
 have HX:=Lib.hid hx
 have HS:=Lib.hid hS
 have HZ:=Lib.hid hz
 have H14:=Lib.hid h14
 have H6:=Lib.hid h6
 have H0:=Lib.hid h0
 clear hS hz h14 h6 h0 hv0 hx
 go_enter Tryz.func127,Tryz.ntmps127
 go_wp2_with (first | (go_at_call 122;refine (aI3 b M _ hM0 HOK.out).mono ?_;rintro e w2 ⟨b2,M2,rfl,hM2,hst2,hb2,hf2⟩;have hq2:=(hb2.block _ (by simp;omega)).trans hq0;have hr2:=(hb2.block _ (by simp)).trans hr0;have hB2:=hB0.trans (hb2.mono (by simp;omega));have hf2':∀ k,M2.fp b2 k→w.heap.size+1+1≤k:=(fun k hk=>by have:=hf2 k hk;simpa using this);obtain⟨y0,y1,y2,y3,y4,y5,y6⟩:=blk7 hq2;have hdo:=aGp b2 c M2 q _ hM2 (by rw[hst2];exact HOK.out) hi;rw[hst2,hR] at hdo;clear hf2 hb2) | (go_at_call 128;refine hdo.mono ?_;rintro e w3 ⟨rfl,M3,hM3,hst3,hk3,hf3⟩;have hq3:=(hk3.block _ (gAz hq2).1 (fun hk=>absurd (hf2' _ hk) (by omega))).trans hq2;have hr3:=(hk3.block _ (gAz hr2).1 (fun hk=>absurd (hf2' _ hk) (by omega))).trans hr2;have hB3:Below w.heap.size w w3:=⟨hk3.os.trans hB2.os,hk3.tape.trans hB2.tape,hk3.output.trans hB2.output,Nat.le_trans hB2.size hk3.size,fun k hk=>(hk3.block k (by have:=hB2.size;omega) (fun hf=>absurd (hf2' _ hf) (by omega))).trans (hB2.block k hk)⟩;obtain⟨W4,hs4,hw4,hb4⟩:=vJ w3 R.1;have hB4:=hB3.trans (hb4.mono hB3.size);have hq4:=(hb4.block _ (gAz hq3).1).trans hq3;have hr4:=(hb4.block _ (gAz hr3).1).trans hr3;have hM4:=hM3.below hb4;obtain⟨a0,a1,a2,a3,a4,a5,a6,a7,a8,a9,a10,a11,a12⟩:=lY hr4;obtain⟨d0,d1,d2,d3,d4,d5,d6,d7,d8,d9,d10,d11,d12⟩:=lY hw4;have hf3':∀ k,M3.fp b2 k→w.heap.size≤k:=(fun k hk=>(hf3 k hk).elim (fun h=>by have:=hf2' k h;omega) (fun h=>by have:=hB2.size;omega));clear y0 y1 y2 y3 y4 y5 y6 hdo hf3 hM3))
 (go_at_call 179;refine (oF r R.1 i _).mono ?_;rw[HS.out];rintro e w5 ⟨rfl,hb5⟩;have hB5:=hB4.trans (hb5.mono hB4.size);have hM5:=hM4.below hb5)
 cases S
 rotate_left
 ·obtain⟨am,cm,hmv⟩:=aC hM5.marks;obtain⟨as',cs,hsv⟩:=aC hM5.snaps;obtain⟨ab,cb,hbv⟩:=aC hM5.subs;have hMb:=(Hm.below hB5);obtain⟨hrun,hM6⟩:=hMb.take hM5 hmv hbv hsv;obtain⟨e0,e1,e2,e3,e4,e5,e6,e7⟩:=hM5.cs;rw[hmv] at e3;rw[hbv] at e6;rw[hsv] at e7
  go_wp2
  go_returns
  have hv:=HV.out;simp at hv;subst hv;exact⟨rfl,M3,hM6,hst3,(aF.of_below hB5).trans (aF.mono (F:=fun k=>k=b) ⟨rfl,rfl,rfl,by rw[setRow_size];exact Nat.le_refl _,fun k _ hk=>setRow_other _ _ _ _ hk⟩ (fun k hk => .inl hk)),fun k hk=>hk.elim (fun e => .inl (.inl e)) (fun e => .inr (hf3' k (.inr e)))⟩
 have hq5:=(hb5.block _ (gAz hq4).1).trans hq4;have hr5:=(hb5.block _ (gAz hr4).1).trans hr4;have hw5:=(hb5.block _ (gAz hw4).1).trans hw4;obtain⟨p0,p1,p2,p3,p4,p5,p6⟩:=blk7 hq5;have hsta:=rZ b M c q _ (Hm.below hB5);rw[HZ.out] at hsta;unfold OpV.v at hsta;obtain⟨g0,_⟩:=lY hw5;clear a0 a1 a2 a3 a4 a5 a6 a7 a8 a9 a10 a11 a12 d0 d1 d2 d3 d4 d5 d6 d7 d8 d9 d10 d11 d12;obtain⟨a0,a1,a2,a3,a4,a5,a6,a7,a8,a9,a10,a11,a12⟩:=lY hr5
 go_wp2_with fail
 (go_at_call 180;refine hsta.mono ?_;rintro e w6 ⟨rfl,hb6⟩;have hB6:=hB5.trans (hb6.mono hB5.size);have hq6:=(hb6.block _ (gAz hq5).1).trans hq5;have hr6:=(hb6.block _ (gAz hr5).1).trans hr5;have hw6:=(hb6.block _ (gAz hw5).1).trans hw5;obtain⟨k0,_⟩:=blk7 hq6;obtain⟨v0,_⟩:=lY hw6;obtain⟨u0,u1,u2,u3,u4,u5,u6,u7,u8,u9,u10,u11,u12⟩:=lY hr6;clear p0 p1 p2 p3 p4 p5 p6 g0 a0 a1 a2 a3 a4 a5 a6 a7 a8 a9 a10 a11 a12;have k0':=(fun o=>Lib.cell?_alloc_some o k0);have v0':=(fun o=>Lib.cell?_alloc_some o v0))
 cases z
 ·have hd2:(E=0)=False:=by simpa using hd
  go_wp2
  go_returns
  (have hv:=HV.out;simp at hv;subst hv;exact⟨(by first | rfl | (simp;done)),M,Hm.below (hB6),rfl,aF.of_below (hB6),fun k hk => .inl hk⟩)
 obtain rfl:E=0:=by simpa using hd
 cases e13
 rotate_left
 ·go_wp2
  go_returns
  (have hv:=HV.out;simp at hv;subst hv;exact⟨(by first | rfl | (simp;done)),M,Hm.below (hB6),rfl,aF.of_below (hB6),fun k hk => .inl hk⟩)
 have e13':(R.1.err=13)=False:=by simpa using he13
 cases t15
 rotate_left
 ·have uk:=(fun o=>Lib.cell?_alloc_some o u9)
  cases e17
  rotate_left
  cases s0
  rotate_left
  cases k1
  all_goals
   go_wp2_with (go_at_call 179;have hx:=hB6;refine (oF r {} {} _).mono ?_;rw[H0.out];rintro e w8 ⟨rfl,hb8⟩;have u9b:=cell_below (uk _) hb8)
   go_returns
   first | (have hv:=HV.out;simp at hv;subst hv;exact⟨(by first | rfl | (simp;done)),M,Hm.below (((hB6.alloc hB6.size _).trans (hb8.mono (hB6.alloc hB6.size _).size))),rfl,aF.of_below (((hB6.alloc hB6.size _).trans (hb8.mono (hB6.alloc hB6.size _).size))),fun k hk => .inl hk⟩) | (have hv:=HV.out;simp at hv;subst hv;exact⟨(by first | rfl | (simp;done)),M,Hm.below (hB6.alloc hB6.size _),rfl,aF.of_below (hB6.alloc hB6.size _),fun k hk => .inl hk⟩)
 have kx:∀ (o:Obj) W,Below (w6.alloc o).heap.size (w6.alloc o) W→(W.cell? ⟨w.heap.size,0,none⟩=some (.int .u8 q.kind)∧W.cell? ⟨w3.heap.size,0,none⟩=some (.int .i64 R.1.err))∧W.cell? ⟨w.heap.size+1,0,none⟩=some (.int .i64 r.err)∧W.cell? ⟨w.heap.size+1,1,none⟩=some (.int .i64 r.rev)∧W.cell? ⟨w.heap.size+1,2,none⟩=some (.int .i64 r.slot)∧W.cell? ⟨w.heap.size+1,3,none⟩=some (.int .i64 r.at_)∧W.cell? ⟨w.heap.size+1,4,none⟩=some (.int .u8 r.grav)∧W.cell? ⟨w.heap.size+1,5,none⟩=some (.string r.text)∧W.cell? ⟨w.heap.size+1,6,none⟩=some (.int .i64 r.m1)∧W.cell? ⟨w.heap.size+1,7,none⟩=some (.int .i64 r.m2)∧W.cell? ⟨w.heap.size+1,8,none⟩=some (.int .i64 r.m3)∧W.cell? ⟨w.heap.size+1,9,none⟩=some (.int .u8 i.k)∧W.cell? ⟨w.heap.size+1,10,none⟩=some (.int .i64 i.f)∧W.cell? ⟨w.heap.size+1,11,none⟩=some (.int .i64 i.t)∧W.cell? ⟨w.heap.size+1,12,none⟩=some (.slice i.da i.dn i.dc):=(fun o W hW=>⟨⟨cell_below (k0' o) hW,cell_below (v0' o) hW⟩,cell_below (Lib.cell?_alloc_some o u0) hW,cell_below (Lib.cell?_alloc_some o u1) hW,cell_below (Lib.cell?_alloc_some o u2) hW,cell_below (Lib.cell?_alloc_some o u3) hW,cell_below (Lib.cell?_alloc_some o u4) hW,cell_below (Lib.cell?_alloc_some o u5) hW,cell_below (Lib.cell?_alloc_some o u6) hW,cell_below (Lib.cell?_alloc_some o u7) hW,cell_below (Lib.cell?_alloc_some o u8) hW,cell_below (Lib.cell?_alloc_some o u9) hW,cell_below (Lib.cell?_alloc_some o u10) hW,cell_below (Lib.cell?_alloc_some o u11) hW,cell_below (Lib.cell?_alloc_some o u12) hW⟩);have Kx:=Lib.hid kx;clear kx
 cases x4
 obtain rfl:=HX.out rfl
 rotate_left
 cases s14
 cases x2
 rotate_left
 cases ez
 all_goals
  go_wp2
  refine aP (S:=fun W=>(W.cell? ⟨w.heap.size,0,none⟩=some (.int .u8 q.kind)∧W.cell? ⟨w3.heap.size,0,none⟩=some (.int .i64 R.1.err))∧W.cell? ⟨w.heap.size+1,0,none⟩=some (.int .i64 r.err)∧W.cell? ⟨w.heap.size+1,1,none⟩=some (.int .i64 r.rev)∧W.cell? ⟨w.heap.size+1,2,none⟩=some (.int .i64 r.slot)∧W.cell? ⟨w.heap.size+1,3,none⟩=some (.int .i64 r.at_)∧W.cell? ⟨w.heap.size+1,4,none⟩=some (.int .u8 r.grav)∧W.cell? ⟨w.heap.size+1,5,none⟩=some (.string r.text)∧W.cell? ⟨w.heap.size+1,6,none⟩=some (.int .i64 r.m1)∧W.cell? ⟨w.heap.size+1,7,none⟩=some (.int .i64 r.m2)∧W.cell? ⟨w.heap.size+1,8,none⟩=some (.int .i64 r.m3)∧W.cell? ⟨w.heap.size+1,9,none⟩=some (.int .u8 i.k)∧W.cell? ⟨w.heap.size+1,10,none⟩=some (.int .i64 i.f)∧W.cell? ⟨w.heap.size+1,11,none⟩=some (.int .i64 i.t)∧W.cell? ⟨w.heap.size+1,12,none⟩=some (.slice i.da i.dn i.dc)) ?_ (fun hHeld => ?_)
  ·first | exact Kx.out _ _ hb11' | exact Kx.out _ _ hb10' | exact Kx.out _ _ hb9'.drew | exact Kx.out _ _ hb9' | exact Kx.out _ _ hb8' | exact Kx.out _ _ (Below.refl _ _).drew.drew | exact Kx.out _ _ (Below.refl _ _).drew
  iterate 5 ((first | refine aJ ?_ | refine np_q ?_ | refine aL 0 ?_);(try simp only[nSO]))
  first | (refine np_s 5 ?_;(try simp only[nSO])) | (refine np_c 5 (fun K hK => ?_);go_simp;((go_at_call 181;refine (bG _ _).mono ?_;rintro e w8 ⟨rfl,hb8⟩;have hb8':=Below.trans (Below.drew (Below.refl _ _)) hb8));(try go_wp2_with fail);refine hK.out _ _ ?_ (fun hHeld => ?_);(· (first | exact Kx.out _ _ hb11' | exact Kx.out _ _ hb10' | exact Kx.out _ _ hb9'.drew | exact Kx.out _ _ hb9' | exact Kx.out _ _ hb8' | exact Kx.out _ _ (Below.refl _ _).drew.drew | exact Kx.out _ _ (Below.refl _ _).drew));clear hK K;(try simp only[nSO]))
  first | (refine np_s 6 ?_;(try simp only[nSO])) | (refine np_c 6 (fun K hK => ?_);go_simp;((go_at_call 179;refine (oF r (aS 14) i _).mono ?_;rw[H14.out];rintro e w9 ⟨rfl,hb9⟩;have hb9':=hb8'.trans (hb9.mono hb8'.size)));(try go_wp2_with fail);refine hK.out _ _ ?_ (fun hHeld => ?_);(· (first | exact Kx.out _ _ hb11' | exact Kx.out _ _ hb10' | exact Kx.out _ _ hb9'.drew | exact Kx.out _ _ hb9' | exact Kx.out _ _ hb8' | exact Kx.out _ _ (Below.refl _ _).drew.drew | exact Kx.out _ _ (Below.refl _ _).drew));clear hK K;(try simp only[nSO]))
  (first | refine aJ ?_ | refine np_q ?_);(try simp only[nSO])
  refine np_z ?_
  go_wp2
  try (go_returns;(have hv:=HV.out;simp at hv;subst hv;exact⟨(by first | rfl | (simp;done)),M,Hm.below ((hB6.alloc hB6.size _).trans (hb9'.mono (hB6.alloc hB6.size _).size)),rfl,aF.of_below ((hB6.alloc hB6.size _).trans (hb9'.mono (hB6.alloc hB6.size _).size)),fun k hk => .inl hk⟩))
 all_goals
  refine aP (S:=fun W=>(W.cell? ⟨w.heap.size,0,none⟩=some (.int .u8 q.kind)∧W.cell? ⟨w3.heap.size,0,none⟩=some (.int .i64 R.1.err))∧W.cell? ⟨w.heap.size+1,0,none⟩=some (.int .i64 r.err)∧W.cell? ⟨w.heap.size+1,1,none⟩=some (.int .i64 r.rev)∧W.cell? ⟨w.heap.size+1,2,none⟩=some (.int .i64 r.slot)∧W.cell? ⟨w.heap.size+1,3,none⟩=some (.int .i64 r.at_)∧W.cell? ⟨w.heap.size+1,4,none⟩=some (.int .u8 r.grav)∧W.cell? ⟨w.heap.size+1,5,none⟩=some (.string r.text)∧W.cell? ⟨w.heap.size+1,6,none⟩=some (.int .i64 r.m1)∧W.cell? ⟨w.heap.size+1,7,none⟩=some (.int .i64 r.m2)∧W.cell? ⟨w.heap.size+1,8,none⟩=some (.int .i64 r.m3)∧W.cell? ⟨w.heap.size+1,9,none⟩=some (.int .u8 i.k)∧W.cell? ⟨w.heap.size+1,10,none⟩=some (.int .i64 i.f)∧W.cell? ⟨w.heap.size+1,11,none⟩=some (.int .i64 i.t)∧W.cell? ⟨w.heap.size+1,12,none⟩=some (.slice i.da i.dn i.dc)) ?_ (fun hHeld => ?_)
  ·first | exact Kx.out _ _ hb11' | exact Kx.out _ _ hb10' | exact Kx.out _ _ hb9'.drew | exact Kx.out _ _ hb9' | exact Kx.out _ _ hb8' | exact Kx.out _ _ (Below.refl _ _).drew.drew | exact Kx.out _ _ (Below.refl _ _).drew
  iterate 10 ((first | refine aJ ?_ | refine np_q ?_ | refine aL 0 ?_);(try simp only[nSO]))
  first | (refine np_s 10 ?_;(try simp only[nSO])) | (refine np_c 10 (fun K hK => ?_);go_simp;((go_at_call 181;refine (bG _ _).mono ?_;rintro e w10 ⟨rfl,hb10⟩;have hb10':=hb9'.drew.trans (hb10.mono hb9'.drew.size)));(try go_wp2_with fail);refine hK.out _ _ ?_ (fun hHeld => ?_);(· (first | exact Kx.out _ _ hb11' | exact Kx.out _ _ hb10' | exact Kx.out _ _ hb9'.drew | exact Kx.out _ _ hb9' | exact Kx.out _ _ hb8' | exact Kx.out _ _ (Below.refl _ _).drew.drew | exact Kx.out _ _ (Below.refl _ _).drew));clear hK K;(try simp only[nSO]))
  first | (refine np_s 11 ?_;(try simp only[nSO])) | (refine np_c 11 (fun K hK => ?_);go_simp;((go_at_call 179;refine (oF r (aS 6) i _).mono ?_;(try rw[H6.out]);rintro e w11 ⟨rfl,hb11⟩;have hb11':=hb10'.trans (hb11.mono hb10'.size)));(try go_wp2_with fail);refine hK.out _ _ ?_ (fun hHeld => ?_);(· (first | exact Kx.out _ _ hb11' | exact Kx.out _ _ hb10' | exact Kx.out _ _ hb9'.drew | exact Kx.out _ _ hb9' | exact Kx.out _ _ hb8' | exact Kx.out _ _ (Below.refl _ _).drew.drew | exact Kx.out _ _ (Below.refl _ _).drew));clear hK K;(try simp only[nSO]))
  iterate 2 ((first | refine aJ ?_ | refine np_q ?_);(try simp only[nSO]))
  refine np_z ?_
  go_wp2
  go_returns
  first | (have hv:=HV.out;simp at hv;subst hv;exact⟨(by first | rfl | (simp;done)),M,Hm.below ((hB6.alloc hB6.size _).trans (hb11'.mono (hB6.alloc hB6.size _).size)),rfl,aF.of_below ((hB6.alloc hB6.size _).trans (hb11'.mono (hB6.alloc hB6.size _).size)),fun k hk => .inl hk⟩) | (have hv:=HV.out;simp at hv;subst hv;exact⟨(by first | rfl | (simp;done)),M,Hm.below ((hB6.alloc hB6.size _).trans (hb9'.drew.mono (hB6.alloc hB6.size _).size)),rfl,aF.of_below ((hB6.alloc hB6.size _).trans (hb9'.drew.mono (hB6.alloc hB6.size _).size)),fun k hk => .inl hk⟩) | (have hv:=HV.out;simp at hv;subst hv;exact⟨(by first | rfl | (simp;done)),M,Hm.below (((hB6.alloc hB6.size _).drew).drew),rfl,aF.of_below (((hB6.alloc hB6.size _).drew).drew),fun k hk => .inl hk⟩)
end Go.Proofs.YtdeiocppghhfdaaGreat
