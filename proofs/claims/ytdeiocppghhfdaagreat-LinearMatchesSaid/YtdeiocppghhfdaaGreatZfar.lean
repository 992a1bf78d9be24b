/- Texts, one behind another. -/
import Derived.Test.YtdeiocppghhfdaaGreatZfaq
set_option linter.unusedVariables false
set_option linter.unusedSimpArgs false
set_option maxRecDepth 100000
set_option maxHeartbeats 40000000
namespace Go.Proofs.YtdeiocppghhfdaaGreat
open Go.RowKit Go.Lib Go.Shelf
theorem aIg {w:World} {B s n:Nat} {e:TypeId} {v:Value} {xs:List Value} (h:w.ownsRow B e s v n xs) (hv:v.ownBlock≠none):∃ g c,v = .slice (some ⟨g,0,none⟩) n c:=by
 rcases h.2 with⟨e1,_⟩ | ⟨g,cap,cur,e1,_⟩
 ·rw[e1] at hv;exact absurd rfl hv
 ·exact⟨g,cap,e1⟩
theorem aLf {α:Type} {l:List α} {j:Nat} {x:α} (h:l[j]? = some x):l.set j x=l:=by
 obtain⟨hj,hx⟩:=gLz h
 refine List.ext_getElem? fun i => ?_
 rw[List.getElem?_set]
 split
 ·rename_i e;subst e;exact h.symm
 ·rfl
theorem aB0 (b:Nat) (M:MM) (w:World) (K:Int) (h:MdAt w b M) (hok:MSok M.st K):Calls Tryz.prog 102 #[.pointer (some ⟨b,0,none⟩)] w fun e w'=>∃ b' M',e = .returned (.pointer (some ⟨b',0,none⟩))∧MdAt w' b' M'∧M'.st=M.st∧Below w.heap.size w w'∧∀ k,M'.fp b' k→w.heap.size≤k:=by
 have hcl:M.seats.length≤8:=by have:=hok.clients;have h2:M.st.seats.length=M.seats.length:=List.length_map ..;omega
 have hmk:M.marks.length≤64:=hok.marks.1
 have hsl:∀ S∈M.seats,S.sl.length≤8∧∀ x∈S.sl,x.s.marks.length≤64:=fun S hS=>by
  have:=hok.slots S.st (List.mem_map.2 ⟨S,hS,rfl⟩)
  refine⟨?_,fun x hx=>(this.2 x.s (List.mem_map.2 ⟨x,hx,rfl⟩)).2.1.1⟩
  have h1:=this.1
  have h2:S.st.slots.length=S.sl.length:=List.length_map ..
  have:=hok.readers
  omega
 have HSL:=Lib.hid hsl
 clear hok hsl
 obtain⟨am,cm,hmv⟩:=aC h.marks
 have h1:=h.marks
 rw[hmv] at h1
 obtain⟨hrow,hcpm⟩:=bV rfl h1
 obtain⟨ag,cs,hsv⟩:=aC h.seats
 have kx:∀ W,Below w.heap.size w W→W.cell? ⟨b,0,none⟩=some (.string M.text)∧W.cell? ⟨b,1,none⟩=some (.slice am M.marks.length cm)∧W.cell? ⟨b,2,none⟩=some (.int .i64 M.number)∧W.cell? ⟨b,3,none⟩=some (.bool M.closed)∧W.cell? ⟨b,4,none⟩=some (.int .i64 M.readers)∧W.cell? ⟨b,5,none⟩=some (.slice ag M.seats.length cs):=fun W hW=>by
  have hW:=h.below hW
  exact⟨hW.c0,hW.c1 hmv,hW.c2,hW.c3,by simp[World.cell?,hW.blk,mdL],hW.c5 hsv⟩
 have Kx:=Lib.hid kx
 clear kx h1
 have hx0:=(Below.refl w.heap.size w).drew
 go_enter Tryz.func102,Tryz.ntmps102
 go_wp2
 refine aP (S:=fun W=>W.cell? ⟨b,0,none⟩=some (.string M.text)∧W.cell? ⟨b,1,none⟩=some (.slice am M.marks.length cm)∧W.cell? ⟨b,2,none⟩=some (.int .i64 M.number)∧W.cell? ⟨b,3,none⟩=some (.bool M.closed)∧W.cell? ⟨b,4,none⟩=some (.int .i64 M.readers)∧W.cell? ⟨b,5,none⟩=some (.slice ag M.seats.length cs)) ?_ (fun hHeld => ?_)
 ·exact Kx.out _ hx0
 iterate 8 (((first | refine np_q ?_ | refine aL 0 ?_);(try simp only[nSO])))
 (refine aL 9 ?_;(try simp only[nSO]))
 iterate 16 ((refine np_q ?_;(try simp only[nSO])))
 refine wpAnyH_ready (rs:=[8,26]) (by kernel_rfl) (by simp) (AllReadyH.cons rfl (fun K hK => ?_) (AllReadyH.cons rfl (fun K hK => ?_) AllReadyH.nil))
 focus
  rw[if_pos (by rfl)]
  go_simp
  (go_at_call 132;refine (fZ am cm M.marks _ (hrow.on (Below.refl _ _).drew) (by omega)).mono ?_;rintro e w1 ⟨v1,rfl,hov,hb1⟩;obtain⟨an,cn,rfl⟩:=aC hov;have hw1:Below w.heap.size w w1:=(Below.refl _ _).drew.trans hb1;obtain⟨V1,hmk,hs1,hg1,hbV⟩:=pK w1 M.seats.length (by omega);have hV1:Below w.heap.size w V1:=hw1.trans (hbV.mono hw1.size))
  (try go_wp2_with fail)
  refine hK.out _ _ ?_ (fun hHeld => ?_)
  ·exact Kx.out _ hw1
  clear hK K
  (try simp only[nSO])
  (refine np_c 26 (fun K hK => ?_);go_simp;((have hx26:=hV1));(try go_wp2_with fail);refine hK.out _ _ ?_ (fun hHeld => ?_);(· (first | exact Kx.out _ hx28 | exact Kx.out _ hx26));clear hK K;(try simp only[nSO]))
  (refine np_q ?_;(try simp only[nSO]))
  (refine np_c 28 (fun K hK => ?_);go_simp;((have hx28:=hV1.alloc hV1.size (.cells (mdL { M with mv := .slice an M.marks.length cn,sv := .slice (some ⟨w1.heap.size,0,none⟩) M.seats.length M.seats.length,seats:=[] }).toArray 136)));(try go_wp2_with fail);refine hK.out _ _ ?_ (fun hHeld => ?_);(· (first | exact Kx.out _ hx28 | exact Kx.out _ hx26));clear hK K;(try simp only[nSO]))
  (refine np_q ?_;(try simp only[nSO]))
  refine np_z ?_
  have hx28:=hV1.alloc hV1.size (.cells (mdL { M with mv := .slice an M.marks.length cn,sv := .slice (some ⟨w1.heap.size,0,none⟩) M.seats.length M.seats.length,seats:=[] }).toArray 136)
  have hBd:Bld w.heap.size (V1.alloc (.cells #[.string M.text,.slice an M.marks.length cn,.int .i64 M.number,.bool M.closed,.int .i64 M.readers,.slice (some ⟨w1.heap.size,0,none⟩) M.seats.length M.seats.length] 136)) (w1.heap.size+1) w1.heap.size M.seats.length { M with mv := .slice an M.marks.length cn,sv := .slice (some ⟨w1.heap.size,0,none⟩) M.seats.length M.seats.length,seats:=[] } []:=by
   refine⟨by rw[← hs1];exact heap_alloc_new V1 _,rfl,?_,?_,Nat.zero_le _,(fun S hS=>by cases hS),(fun S hS=>by cases hS),(fun S hS=>by cases hS),by simp⟩
   ·exact aI (aI (aV (Nat.zero_le _) hov) hbV) ((Below.refl _ V1).alloc (Nat.le_refl _) _)
   ·exact (heap_alloc_old _ _ (gAz hg1).1).trans hg1
  have hBV:Below w.heap.size w (V1.alloc (.cells #[.string M.text,.slice an M.marks.length cn,.int .i64 M.number,.bool M.closed,.int .i64 M.readers,.slice (some ⟨w1.heap.size,0,none⟩) M.seats.length M.seats.length] 136)):=hx28
  have hgw:w.heap.size≤w1.heap.size:=hw1.size
  have hbw:w.heap.size≤w1.heap.size+1:=by omega
  clear hHeld hx28 hmk hs1 hg1 hbV hV1 hw1 hb1 hov
  generalize V1.alloc (.cells #[.string M.text,.slice an M.marks.length cn,.int .i64 M.number,.bool M.closed,.int .i64 M.readers,.slice (some ⟨w1.heap.size,0,none⟩) M.seats.length M.seats.length] 136)=V at *
  generalize w1.heap.size+1=b' at *
  generalize w1.heap.size=gs at *
 rotate_left
 focus
  obtain⟨V1,hmk,hs1,hg1,hbV⟩:=pK w.drew M.seats.length (by omega)
  have hV1:Below w.heap.size w V1:=(Below.refl _ _).drew.trans hbV
  have hs1':V1.heap.size=w.heap.size+1:=hs1
  clear hs1
  rw[if_pos (by rfl)]
  go_simp
  (try go_wp2_with fail)
  refine hK.out _ _ ?_ (fun hHeld => ?_)
  ·exact Kx.out _ hV1
  clear hK K
  (try simp only[nSO])
  (refine np_c 8 (fun K hK => ?_);go_simp;((go_at_call 132;refine (fZ am cm M.marks _ (hrow.on hV1) (by omega)).mono ?_;rintro e w1 ⟨v1,rfl,hov,hb1⟩;obtain⟨an,cn,rfl⟩:=aC hov;have hw1:Below w.heap.size w w1:=hV1.trans (hb1.mono hV1.size)));(try go_wp2_with fail);refine hK.out _ _ ?_ (fun hHeld => ?_);(· (first | exact Kx.out _ hx28 | exact Kx.out _ hw1));clear hK K;(try simp only[nSO]))
  (refine aL 27 ?_;(try simp only[nSO]))
  (refine np_c 28 (fun K hK => ?_);go_simp;((have hx28:=hw1.alloc hw1.size (.cells (mdL { M with mv := .slice an M.marks.length cn,sv := .slice (some ⟨w.heap.size,0,none⟩) M.seats.length M.seats.length,seats:=[] }).toArray 136)));(try go_wp2_with fail);refine hK.out _ _ ?_ (fun hHeld => ?_);(· (first | exact Kx.out _ hx28 | exact Kx.out _ hw1));clear hK K;(try simp only[nSO]))
  (refine np_q ?_;(try simp only[nSO]))
  refine np_z ?_
  have hx28:=hw1.alloc hw1.size (.cells (mdL { M with mv := .slice an M.marks.length cn,sv := .slice (some ⟨w.heap.size,0,none⟩) M.seats.length M.seats.length,seats:=[] }).toArray 136)
  have hBd:Bld w.heap.size (w1.alloc (.cells #[.string M.text,.slice an M.marks.length cn,.int .i64 M.number,.bool M.closed,.int .i64 M.readers,.slice (some ⟨w.heap.size,0,none⟩) M.seats.length M.seats.length] 136)) w1.heap.size w.heap.size M.seats.length { M with mv := .slice an M.marks.length cn,sv := .slice (some ⟨w.heap.size,0,none⟩) M.seats.length M.seats.length,seats:=[] } []:=by
   refine⟨heap_alloc_new w1 _,rfl,?_,?_,Nat.zero_le _,(fun S hS=>by cases hS),(fun S hS=>by cases hS),(fun S hS=>by cases hS),by simp⟩
   ·exact aI (aV (Nat.zero_le _) hov) ((Below.refl _ w1).alloc (Nat.le_refl _) _)
   ·have hg2:=(hb1.block w.heap.size (by rw[hs1'];omega)).trans hg1
    exact (heap_alloc_old _ _ (gAz hg2).1).trans hg2
  have hBV:Below w.heap.size w (w1.alloc (.cells #[.string M.text,.slice an M.marks.length cn,.int .i64 M.number,.bool M.closed,.int .i64 M.readers,.slice (some ⟨w.heap.size,0,none⟩) M.seats.length M.seats.length] 136)):=hx28
  have hbw:w.heap.size≤w1.heap.size:=hw1.size
  clear hHeld hx28 hmk hg1 hbV hV1 hw1 hb1 hov hs1'
  obtain⟨gs,hgsE⟩:∃ gs,gs=w.heap.size:=⟨_,rfl⟩
  have hgw:w.heap.size≤gs:=by omega
  have hBd':Bld w.heap.size (w1.alloc (.cells #[.string M.text,.slice an M.marks.length cn,.int .i64 M.number,.bool M.closed,.int .i64 M.readers,.slice (some ⟨gs,0,none⟩) M.seats.length M.seats.length] 136)) w1.heap.size gs M.seats.length { M with mv := .slice an M.marks.length cn,sv := .slice (some ⟨gs,0,none⟩) M.seats.length M.seats.length,seats:=[] } []:=by rw[hgsE];exact hBd
  have hBV':Below w.heap.size w (w1.alloc (.cells #[.string M.text,.slice an M.marks.length cn,.int .i64 M.number,.bool M.closed,.int .i64 M.readers,.slice (some ⟨gs,0,none⟩) M.seats.length M.seats.length] 136)):=by rw[hgsE];exact hBV
  rw[← hgsE]
  clear hBd hBV hgsE
  have hBd:=hBd'
  have hBV:=hBV'
  clear hBd' hBV'
  generalize w1.alloc (.cells #[.string M.text,.slice an M.marks.length cn,.int .i64 M.number,.bool M.closed,.int .i64 M.readers,.slice (some ⟨gs,0,none⟩) M.seats.length M.seats.length] 136)=V at *
  generalize w1.heap.size=b' at *
 all_goals
  obtain⟨M1,hM1⟩:∃ M1:MM,M1={ M with mv := .slice an M.marks.length cn,sv := .slice (some ⟨gs,0,none⟩) M.seats.length M.seats.length,seats:=[] }:=⟨_,rfl⟩
  rw[← hM1] at hBd
  have c5:∀ W D,Bld w.heap.size W b' gs M.seats.length M1 D→W.cell? ⟨b',5,none⟩=some (.slice (some ⟨gs,0,none⟩) M.seats.length M.seats.length):=fun W D h=>by rw[← h.sv];simp[World.cell?,h.blk,mdL]
  have C5:=Lib.hid c5
  clear c5
  have s5:=(Kx.out _ hBV).2.2.2.2.2
  have hgb:b'<V.heap.size∧gs<V.heap.size:=⟨(gAz hBd.blk).1,(gAz hBd.seats).1⟩
  go_wp2
  go_loopw [4,5,6,43,44,45,46,47,48,49,50,51,52,53,54,55,56,57,58,59,60,61,62,63,64,65,66,67,68,69,70,71,72,73,74,75,76,77,78,79,80,81,82,83,84,85,86,87,88,89,90,91] (fun x4 x5 x6 i x44 x45 x46 x47 x48 x49 x50 x51 x52 x53 x54 x55 x56 x57 x58 x59 x60 x61 x62 x63 x64 x65 x66 x67 x68 x69 x70 x71 x72 x73 x74 x75 x76 x77 x78 x79 x80 x81 x82 x83 x84 x85 x86 x87 x88 x89 x90 x91 wr=>∃ k:Nat,i = .int .i64 k∧k≤M.seats.length∧∃ D:List SeM,D.length=k∧D.map (·.st)=(M.seats.take k).map (·.st)∧Bld w.heap.size wr b' gs M.seats.length M1 D∧Below w.heap.size w wr) (fun x4 x5 x6 i x44 x45 x46 x47 x48 x49 x50 x51 x52 x53 x54 x55 x56 x57 x58 x59 x60 x61 x62 x63 x64 x65 x66 x67 x68 x69 x70 x71 x72 x73 x74 x75 x76 x77 x78 x79 x80 x81 x82 x83 x84 x85 x86 x87 x88 x89 x90 x91 wr=>M.seats.length-(intOf i).toNat)
  case atStart=>exact⟨0,rfl,by omega,[],rfl,rfl,hBd,hBV⟩
  case round =>
   obtain⟨k,rfl,hk,D,hD,hDs,hBd,hBV⟩:=hrel
   obtain⟨wo,rfl⟩:∃ wo,wo=wr:=⟨wr,rfl⟩
   by_cases hlt:k<M.seats.length
   ·have hS:=gEz hlt
    generalize hSg:M.seats[k]=S at hS
    obtain⟨hl8,hm64⟩:=HSL.out S (mGz hS)
    obtain⟨gs0,cs0,g0,cp0,cur0,hA0⟩:=h.seatAt hS
    have hag:ag=some ⟨gs0,0,none⟩∧cs=cs0:=by
     have:=hsv.symm.trans hA0.sv
     injection this with e1 _ e3
     exact⟨e1,e3⟩
    have hA:=hA0.below hBV
    have hMr:=h.below hBV
    obtain⟨a0,a1⟩:=And.intro hA.c0 hA.c1
    obtain⟨hag1,hag2⟩:=hag
    subst hag1
    subst hag2
    have hk6:Below wo.heap.size wo (wo.alloc (.cells #[.bool S.sub,.slice (some ⟨g0,0,none⟩) S.sl.length cp0] 139)):=(Below.refl _ wo).alloc (Nat.le_refl _) _
    have hz6:=heap_alloc_new wo (.cells #[.bool S.sub,.slice (some ⟨g0,0,none⟩) S.sl.length cp0] 139)
    have hs6:(wo.alloc (.cells #[.bool S.sub,.slice (some ⟨g0,0,none⟩) S.sl.length cp0] 139)).heap.size=wo.heap.size+1:=World.size_alloc ..
    have hgl:b'<wo.heap.size∧gs<wo.heap.size:=⟨(gAz hBd.blk).1,(gAz hBd.seats).1⟩
    have hbgs:b'≠gs:=fun e=>by subst e;have:=hBd.blk;rw[hBd.seats] at this;injection this with this;injection this with _ h2 _;exact absurd h2 (by decide)
    have hg0w:g0<w.heap.size:=(gAz hA0.blk).1
    have r5:=C5.out _ _ hBd
    go_wp2
    generalize wo.alloc (.cells #[.bool S.sub,.slice (some ⟨g0,0,none⟩) S.sl.length cp0] 139)=W6 at *
    have hBd6:=hBd.below hk6
    have hBV6:=hBV.trans (hk6.mono hBV.size)
    have kx7:∀ W,Below W6.heap.size W6 W→W.cell? ⟨b',5,none⟩=some (.slice (some ⟨gs,0,none⟩) M.seats.length M.seats.length)∧W.cell? ⟨wo.heap.size,0,none⟩=some (.bool S.sub)∧W.cell? ⟨wo.heap.size,1,none⟩=some (.slice (some ⟨g0,0,none⟩) S.sl.length cp0):=fun W hW=>by
     have h6:=(hW.block wo.heap.size (by omega)).trans hz6
     exact⟨C5.out _ _ (hBd6.below hW),by simp[World.cell?,h6],by simp[World.cell?,h6]⟩
    have Kx7:=Lib.hid kx7
    clear kx7
    have hx7:=(Below.refl W6.heap.size W6).drew
    have hrc:=h.slots S (mGz hS)
    rw[hA0.v] at hrc
    refine aP (S:=fun W=>W.cell? ⟨b',5,none⟩=some (.slice (some ⟨gs,0,none⟩) M.seats.length M.seats.length)∧W.cell? ⟨wo.heap.size,0,none⟩=some (.bool S.sub)∧W.cell? ⟨wo.heap.size,1,none⟩=some (.slice (some ⟨g0,0,none⟩) S.sl.length cp0)) ?_ (fun hHeld => ?_)
    ·first | exact hx12' | exact Kx7.out _ hx9 | exact Kx7.out _ hx7
    iterate 9 (((first | refine np_q ?_ | refine aL 0 ?_);(try simp only[nSO])))
    (refine np_c 9 (fun K hK => ?_);go_simp;((go_at_call 154;refine (aEm g0 cp0 S.sl _ (by omega) hA0.cap (fun j u hj=>cell_below (kT hrc j u hj).1 hBV6.drew) (fun x hx=>(by obtain⟨_,_,e⟩:=aC (h.smarks S (mGz hS) x hx);rw[e];rfl))).mono ?_;rintro e w7 ⟨v,rfl,hov,hne,hb7⟩;obtain⟨g',cv,rfl⟩:=aIg hov hne;have hx9:Below W6.heap.size W6 w7:=hx7.trans hb7;have hBd7:=hBd6.below hx9;obtain⟨p0,p1,pf⟩:=hBd7.cell (show (D++List.replicate (M.seats.length-D.length) zSe)[k]? = some zSe from (by rw[nV M.seats.length D.length (by omega),List.getElem?_append_right (by omega),← hD,Nat.sub_self];rfl));have p0':w7.cell? ⟨gs,k*2,none⟩=some (.bool false):=p0;have p1':w7.cell? ⟨gs,k*2+1,none⟩=some (.slice none 0 0):=p1;have pf0:=pf (k*2);have pf1:=pf (k*2+1);have hk8:aF (fun j=>j=gs) w7 ((w7.setCell ⟨gs,k*2,none⟩ (.bool S.sub)).setCell ⟨gs,k*2+1,none⟩ (.slice (some ⟨g',0,none⟩) S.sl.length cv)):=(aF.set (F:=fun j=>j=gs) (a:=⟨gs,k*2,none⟩) rfl _).trans (aF.set (F:=fun j=>j=gs) (a:=⟨gs,k*2+1,none⟩) rfl _);have hx12:=And.intro (hk8.cell hbgs (Kx7.out _ hx9).1) (And.intro (hk8.cell (show ¬ (wo.heap.size=gs) by omega) (Kx7.out _ hx9).2.1) (hk8.cell (show ¬ (wo.heap.size=gs) by omega) (Kx7.out _ hx9).2.2));clear p0 p1 pf));(try go_wp2_with fail);refine hK.out _ _ ?_ (fun hHeld => ?_);(· (first | exact hx12' | exact Kx7.out _ hx9 | exact Kx7.out _ hx7));clear hK K;(try simp only[nSO]))
    iterate 2 ((refine np_q ?_;(try simp only[nSO])))
    (refine np_c 12 (fun K hK => ?_);go_simp;((have hx12':=hx12));(try go_wp2_with fail);refine hK.out _ _ ?_ (fun hHeld => ?_);(· (first | exact hx12' | exact Kx7.out _ hx9 | exact Kx7.out _ hx7));clear hK K;(try simp only[nSO]))
    refine np_z ?_
    have hbl:=hBd7.blk
    have hsz7:=hx9.size
    have hov':w7.ownsRow wo.heap.size 168 4 (.slice (some ⟨g',0,none⟩) S.sl.length cv) S.sl.length (slL S.sl):=aV (by show wo.heap.size≤W6.heap.size;omega) hov
    have hg':wo.heap.size+1≤g':=by have:=(World.ownsRow.lt hov g' rfl).1;have e:W6.drew.heap.size=W6.heap.size:=rfl;omega
    have hkk8:∀ j,j<w7.heap.size→j≠gs→((w7.setCell ⟨gs,k*2,none⟩ (.bool S.sub)).setCell ⟨gs,k*2+1,none⟩ (.slice (some ⟨g',0,none⟩) S.sl.length cv)).heap[j]? = w7.heap[j]? := fun j _ hn=>(aG _ _ _ _ hn).trans (aG _ _ _ _ hn)
    have hBd8:=hBd.push (W':=((w7.setCell ⟨gs,k*2,none⟩ (.bool S.sub)).setCell ⟨gs,k*2+1,none⟩ (.slice (some ⟨g',0,none⟩) S.sl.length cv))) ⟨S.sub,.slice (some ⟨g',0,none⟩) S.sl.length cv,S.sl⟩ (by omega) (by
      have h1:=hBd7.seats
      rw[nV M.seats.length D.length (by omega)] at h1
      have h2:=bZ (bZ h1 (k*2) (.bool S.sub)) (k*2+1) (.slice (some ⟨g',0,none⟩) S.sl.length cv)
      rw[← hD,aK7 D zSe _ S.sub,aBw D _ _ _ S.sl] at h2
      rw[← hD]
      exact h2) (fun j hj hn=>(hkk8 j (by omega) hn).trans ((hx9.block j (by omega)).trans (hk6.block j hj))) hBV.size
      (aH hov' hBd7.seats (by decide) hkk8) (by simp[Value.ownBlock]) (fun x hx=>aH (aI (aI ((h.below hBV).smarks S (mGz hS) x hx) hk6) hx9) hBd7.seats (by decide) hkk8)
    have hBV7:=hBV6.trans (hx9.mono hBV6.size)
    have hB8:Below w.heap.size w ((w7.setCell ⟨gs,k*2,none⟩ (.bool S.sub)).setCell ⟨gs,k*2+1,none⟩ (.slice (some ⟨g',0,none⟩) S.sl.length cv)) :=
     ⟨hk8.os.trans hBV7.os,hk8.tape.trans hBV7.tape,hk8.output.trans hBV7.output,Nat.le_trans hBV7.size hk8.size,fun j hj=>(hkk8 j (by have:=hBV7.size;omega) (by omega)).trans (hBV7.block j hj)⟩
    have hx1:=hx12.2.2
    have hv8:((w7.setCell ⟨gs,k*2,none⟩ (.bool S.sub)).setCell ⟨gs,k*2+1,none⟩ (.slice (some ⟨g',0,none⟩) S.sl.length cv)).cell? ⟨gs,k*2+1,none⟩=some (.slice (some ⟨g',0,none⟩) S.sl.length cv):=by
     have h1:=hBd7.seats
     have h2:=bZ (bZ h1 (k*2) (.bool S.sub)) (k*2+1) (.slice (some ⟨g',0,none⟩) S.sl.length cv)
     have:=(hBd8.cell (show (D++[(⟨S.sub,.slice (some ⟨g',0,none⟩) S.sl.length cv,S.sl⟩:SeM)]++List.replicate (M.seats.length-(D++[(⟨S.sub,.slice (some ⟨g',0,none⟩) S.sl.length cv,S.sl⟩:SeM)]).length) zSe)[k]? = some ⟨S.sub,.slice (some ⟨g',0,none⟩) S.sl.length cv,S.sl⟩ from (by rw[List.append_assoc,List.getElem?_append_right (by omega),← hD,Nat.sub_self];rfl))).2.1
     exact this
    have hb8:=hx12.1
    clear hHeld Kx7 hx7 hx9 hx12 hk8 hov hne hb7 hbl hsz7 hov' hkk8 hBd7 p0' p1' pf0 pf1 hrc hBV7 hBd6 hz6 hs6 hk6 hBV6
    generalize ((w7.setCell ⟨gs,k*2,none⟩ (.bool S.sub)).setCell ⟨gs,k*2+1,none⟩ (.slice (some ⟨g',0,none⟩) S.sl.length cv))=W8 at *
    go_wp2
    go_loopw [6,69,70,71,72,73,74,75,76,77,78,79,80,81,82,83,84,85,86,87,88,89,90] (fun z6 i2 z70 z71 z72 z73 z74 z75 z76 z77 z78 z79 z80 z81 z82 z83 z84 z85 z86 z87 z88 z89 z90 wq=>∃ j:Nat,i2 = .int .i64 j∧j≤S.sl.length∧∃ L:List SnM,L.map (·.s)=S.sl.map (·.s)∧Bld w.heap.size wq b' gs M.seats.length M1 (D++[⟨S.sub,.slice (some ⟨g',0,none⟩) S.sl.length cv,L⟩])∧Below w.heap.size w wq∧wq.cell? ⟨wo.heap.size,1,none⟩=some (.slice (some ⟨g0,0,none⟩) S.sl.length cp0)) (fun z6 i2 z70 z71 z72 z73 z74 z75 z76 z77 z78 z79 z80 z81 z82 z83 z84 z85 z86 z87 z88 z89 z90 wq=>S.sl.length-(intOf i2).toNat)
    case atStart=>exact⟨0,rfl,by omega,S.sl,rfl,hBd8,hB8,hx1⟩
    case round =>
     obtain⟨j,rfl,hj,L,hL,hBq,hBVq,hxq⟩:=hrel
     have hLl:L.length=S.sl.length:=by have:=congrArg List.length hL;simpa using this
     have kv:∀ W L,L.length=S.sl.length→Bld w.heap.size W b' gs M.seats.length M1 (D++[⟨S.sub,.slice (some ⟨g',0,none⟩) S.sl.length cv,L⟩])→W.cell? ⟨gs,k*2+1,none⟩=some (.slice (some ⟨g',0,none⟩) S.sl.length cv):=fun W L _ hb =>
      (hb.cell (show (D++[(⟨S.sub,.slice (some ⟨g',0,none⟩) S.sl.length cv,L⟩:SeM)]++List.replicate (M.seats.length-(D++[(⟨S.sub,.slice (some ⟨g',0,none⟩) S.sl.length cv,L⟩:SeM)]).length) zSe)[k]? = some ⟨S.sub,.slice (some ⟨g',0,none⟩) S.sl.length cv,L⟩ from (by rw[List.append_assoc,List.getElem?_append_right (by omega),← hD,Nat.sub_self];rfl))).2.1
     have Kv:=Lib.hid kv
     clear kv
     by_cases hlj:j<S.sl.length
     ·have hx:=gEz hlj
      generalize hxg:S.sl[j]=x at hx
      have hy:=gEz (show j<L.length by omega)
      generalize hyg:L[j]=y at hy
      have hys:y.s=x.s:=by
       have h1:(L.map (·.s))[j]? = (S.sl.map (·.s))[j]? := by rw[hL]
       rw[List.getElem?_map,List.getElem?_map,hx,hy] at h1
       injection h1
      have hAq:=hA0.below hBVq
      have hsn:=hAq.sn j x hx
      obtain⟨ax,cx,hxv⟩:=aC hsn.marks
      have hxm:=hsn.marks
      rw[hxv] at hxm
      obtain⟨hxrow,hxc⟩:=bV rfl hxm
      have hm6:=hm64 x (mGz hx)
      have s2:=hsn.cells.1.2.2.1
      rw[hxv] at s2
      have kx11:∀ W,aF (fun i=>i=g') wr W→W.cell? ⟨b',5,none⟩=some (.slice (some ⟨gs,0,none⟩) M.seats.length M.seats.length)∧W.cell? ⟨gs,k*2+1,none⟩=some (.slice (some ⟨g',0,none⟩) S.sl.length cv)∧W.cell? ⟨wo.heap.size,1,none⟩=some (.slice (some ⟨g0,0,none⟩) S.sl.length cp0)∧W.cell? ⟨g0,j*4+2,none⟩=some (.slice ax x.s.marks.length cx):=fun W hW =>
       ⟨hW.cell (show ¬ (b'=g') by omega) (C5.out _ _ hBq),hW.cell (show ¬ (gs=g') by omega) (Kv.out _ _ hLl hBq),hW.cell (show ¬ (wo.heap.size=g') by omega) hxq,hW.cell (show ¬ (g0=g') by have:=hBV.size;omega) s2⟩
      have Kx11:=Lib.hid kx11
      clear kx11
      have hx11:aF (fun i=>i=g') wr wr.drew:=(aF.refl _ _).drew
      go_wp2
      refine aP (S:=fun W=>W.cell? ⟨b',5,none⟩=some (.slice (some ⟨gs,0,none⟩) M.seats.length M.seats.length)∧W.cell? ⟨gs,k*2+1,none⟩=some (.slice (some ⟨g',0,none⟩) S.sl.length cv)∧W.cell? ⟨wo.heap.size,1,none⟩=some (.slice (some ⟨g0,0,none⟩) S.sl.length cp0)∧W.cell? ⟨g0,j*4+2,none⟩=some (.slice ax x.s.marks.length cx)) ?_ (fun hHeld => ?_)
      ·first | exact hx18' | exact Kx11.out _ hx15 | exact Kx11.out _ hx11
      iterate 15 (((first | refine np_q ?_ | refine aL 0 ?_);(try simp only[nSO])))
      (refine np_c 15 (fun K hK => ?_);go_simp;((go_at_call 132;refine (fZ ax cx x.s.marks _ (hxrow.on (Below.refl _ _).drew) (by omega)).mono ?_;rintro e w9 ⟨v9,rfl,hov9,hb9⟩;obtain⟨a9,c9,rfl⟩:=aC hov9;have hb9':Below wr.heap.size wr w9:=(Below.refl _ _).drew.trans hb9;have hx15:aF (fun i=>i=g') wr w9:=aF.of_below hb9';have hB9:=hBq.below hb9';obtain⟨hB10,hk10,_⟩:=hB9.setMv (g:=g') (cp:=cv) (mv := .slice a9 x.s.marks.length c9) (by rw[hLl]) hy (by rw[hys];exact aV (Nat.zero_le _) hov9);have hq9:=kT (hB9.slots ⟨S.sub,.slice (some ⟨g',0,none⟩) S.sl.length cv,L⟩ (by simp)) (j*4+2) y.mv (by have:=zT L j y hy;have h2:(((slL L).drop (j*4)).take 4)[2]? = some y.mv:=(by rw[this];rfl);rwa [List.getElem?_take,if_pos (by omega),List.getElem?_drop] at h2);obtain⟨q1,q2⟩:=hq9;have hx18:=Kx11.out _ (hx15.trans hk10)));(try go_wp2_with fail);refine hK.out _ _ ?_ (fun hHeld => ?_);(· (first | exact hx18' | exact Kx11.out _ hx15 | exact Kx11.out _ hx11));clear hK K;(try simp only[nSO]))
      iterate 2 ((refine np_q ?_;(try simp only[nSO])))
      (refine np_c 18 (fun K hK => ?_);go_simp;((have hx18':=hx18));(try go_wp2_with fail);refine hK.out _ _ ?_ (fun hHeld => ?_);(· (first | exact hx18' | exact Kx11.out _ hx15 | exact Kx11.out _ hx11));clear hK K;(try simp only[nSO]))
      refine np_z ?_
      have hBV10:Below w.heap.size w (w9.setCell ⟨g',j*4+2,none⟩ (.slice a9 x.s.marks.length c9)):=by
       have h1:=hBVq.trans (hb9'.mono hBVq.size)
       have h2:=hBV.size
       exact⟨hk10.os.trans h1.os,hk10.tape.trans h1.tape,hk10.output.trans h1.output,Nat.le_trans h1.size hk10.size,fun i hi=>(aG _ _ _ _ (show i≠g' by omega)).trans (h1.block i hi)⟩
      clear hHeld Kx11
      go_wp2
      go_roundw
      case rel=>exact⟨j+1,by go_num,by omega,_,by rw[List.map_set,hL];show (S.sl.map (fun y:SnM=>y.s)).set j y.s=_;rw[hys];exact aLf (by rw[List.getElem?_map,hx];rfl),hB10,hBV10,hx18.2.2.1⟩
      case measure=>simp[intOf];omega
     ·go_wp2
      go_roundw
      case rel=>exact⟨k+1,by go_num,by omega,_,by rw[List.length_append,hD];rfl,by rw[List.map_append,hDs,List.take_add_one,hS,List.map_append];congr 1;show [SeM.st ⟨S.sub,_,L⟩]=[S.st];simp only[SeM.st,hL],hBq,hBVq⟩
      case measure=>simp[intOf];omega
   ·go_wp2
    go_returns
    have hkn:k=M.seats.length:=by omega
    have hDn:D.length=M.seats.length:=by omega
    rw[hkn,List.take_length] at hDs
    refine⟨_,rfl,_,hBd.mdAt hDn (by unfold maxLen;omega),?_,hBV,?_⟩
    ·rw[hM1];show (⟨M.text,M.marks,M.number,M.closed,M.readers,D.map (·.st)⟩:MS)=_;rw[hDs];rfl
    ·rintro j (hj | hj | ⟨S,hS,hj⟩)
     ·omega
     ·have h2:M1.sv.ownBlock=some j:=hj
      rw[hBd.sv] at h2
      injection h2 with h2
      have h3:gs=j:=h2
      omega
     ·exact (World.ownsRow.lt (hBd.slots S hS) j hj).1
theorem MkIn.big {n:Int} {m:MkV} (h:MkIn n m) (hn:n≤bigN):MkIn bigN m:=⟨h.1,h.2.1,h.2.2.1,h.2.2.2.1,Int.le_trans h.2.2.2.2 hn⟩
theorem MkOK.big {n:Int} {l:List MkV} (h:MkOK n l) (hn:n≤bigN):MkOK bigN l:=⟨h.1,h.2.1,fun m hm=>(h.2.2 m hm).big hn⟩
theorem aEn (a:Option Addr) (c:Nat) (l:List MkV) (id:Int) (w:World) (hr:MRow w a l) (hok:MkOK bigN l) (hc:l.length≤c) (hs:hasM id l=false) :
  Calls Tryz.prog 196 #[.slice a l.length c,.int .u32 id] w fun e w'=>e = .returned (.tuple #[.slice none 0 0,.int .i64 7])∧Below w.heap.size w w':=by
 have h64:=hok.1
 have hc1:=fJ a c bigN l w hr hok jM
 have hr':=fun W (hB:Below w.heap.size w W)=>hr.on hB
 have hpw:=hok.2.1
 have hok:=Lib.hid hok
 clear hr
 go_enter Tryz.func196,Tryz.ntmps196
 go_wp2_with (first | (go_at_call 241;refine hc1.mono ?_;rintro e w1 ⟨rfl,hB1⟩) | (go_at_call 242;refine (kM a c l id _ (hr' _ hB1) hpw (by omega) hc).mono ?_;rw[hs];rintro e w2 ⟨rfl,hB2⟩;have hB3:=hB1.trans (hB2.mono hB1.size)))
 go_returns
 exact⟨rfl,hB3⟩
attribute [local go_sem, local simp] resF bD bS fK fM fO dQ eX eY
theorem xB (b:Nat) (M:MM) (c:Int) (o:OpV) (w:World) (h:MdAt w b M) (hok:MSok M.st 100000) :
  Calls Tryz.prog 140 #[.pointer (some ⟨b,0,none⟩),.int .i64 c,.agg #[.int .u8 o.kind,.int .i64 o.slot,.int .i64 o.at_,.int .i64 o.n,.int .u32 o.id,.int .u8 o.grav,.string o.text]] w (Post b w (drpS M.st o) M):=by
 have hE:=aY w o
 have hM0:=h.below hE.bl
 obtain⟨ao,cp,hmv⟩:=aC h.marks
 have h1:=h.marks
 rw[hmv] at h1
 obtain⟨hrow,hcp⟩:=bV rfl h1
 have hmk:MkOK bigN M.marks:=hok.marks.big (by have:=hok.size;unfold bigN;omega)
 have hrB:w.heap.size≤w.heap.size+1:=by omega
 have hbw:=(gAz h.blk).1
 have ho:=fun W hW=>kS b M W hW
 have hok:=Lib.hid hok
 cases hc:M.closed with
 |true =>
  have hS:drpS M.st o=(aS 13,M.st):=if_pos hc
  simp only[hc,if_true] at ho
  rw[hS]
  go_enter Tryz.func140,Tryz.ntmps140
  go_wp2_with (first | (go_at_call 189;refine (ho _ hM0).mono ?_;rintro e w1 ⟨rfl,rfl⟩) | (go_at_call 99;refine (bT _ _).mono ?_;rintro e v7 ⟨rfl,hb7⟩;have hE7:=hE.on hb7;have hst:=aK hE7.res rfl))
  refine⟨rfl,_,results_cell_row rfl _ _ _ _ _ _ _ rfl (setRow_heap _ _ _ _ _ _ hE7.res) Tryz.underlying51 rfl (by kernel_rfl),rfl,M,(hM0.below hb7).row hE7.res _,rfl,(aF.of_below hE7.bl).row hrB _,fun k hk => .inl hk⟩
 |false =>
  simp only[hc,Bool.false_eq_true,if_false] at ho
  cases hs:hasM o.id M.marks with
  |false =>
   have hS:drpS M.st o=(aS 7,M.st):=by unfold drpS;rw[if_neg (by show ¬ (M.closed=true);simp[hc]),if_neg (by show ¬ (hasM o.id M.marks=true);simp[hs])]
   rw[hS]
   go_enter Tryz.func140,Tryz.ntmps140
   go_wp2_with (go_at_call 189;refine (ho _ hM0).mono ?_;rintro e w1 ⟨rfl,rfl⟩;have e4:=hE.o2.2.2.2.1;have e1:=hM0.c1 hmv)
   go_region_with (go_at_call 196;refine (aEn ao cp M.marks o.id _ (hrow.on hE.bl.drew) hmk hcp hs).mono ?_;rintro e w2 ⟨rfl,hb2⟩;have hE2:=hE.drew.on hb2;have hM2:=(hM0.below (Below.refl _ _).drew).below hb2)
   all_goals go_wp2_with (go_at_call 99;refine (bT _ _).mono ?_;rintro e v7 ⟨rfl,hb7⟩;have hE7:=hE2.on hb7;have hst:=aK hE7.res rfl)
   all_goals refine⟨rfl,_,results_cell_row rfl _ _ _ _ _ _ _ rfl (setRow_heap _ _ _ _ _ _ hE7.res) Tryz.underlying51 rfl (by kernel_rfl),rfl,M,(hM2.below hb7).row hE7.res _,rfl,(aF.of_below hE7.bl).row hrB _,fun k hk => .inl hk⟩
  |true =>
   have hS:drpS M.st o=lK { M.st with marks:=bP o.id M.marks }:=by unfold drpS;rw[if_neg (by show ¬ (M.closed=true);simp[hc]),if_pos (by exact hs)];rfl
   rw[hS]
   go_enter Tryz.func140,Tryz.ntmps140
   go_wp2_with (go_at_call 189;refine (ho _ hM0).mono ?_;rintro e w1 ⟨rfl,rfl⟩;have e4:=hE.o2.2.2.2.1;have e1:=hM0.c1 hmv)
   go_region_with (go_at_call 196;refine (aH4 ao cp M.marks o.id _ (hrow.on hE.bl.drew) hmk hcp hs).mono ?_;rintro e w2 ⟨v,rfl,hov,hb2⟩;obtain⟨av,cv,rfl⟩:=aC hov;have hE2:=hE.drew.on hb2;have hM2:=(hM0.below (Below.refl _ _).drew).below hb2;have f1:=hM2.f 1;have e1b:=hM2.c1 hmv;have hM3:=hM2.setMarks (aV (Nat.zero_le _) hov))
   all_goals go_wp2_with (go_at_call 195;refine (pF b _ _ hM3 hok.out.num0 hok.out.num1).mono ?_;rintro e w4 ⟨rfl,hM4,hK4⟩;have hz4:=(hK4.block _ (by rw[eQ];exact (gAz hE2.res).1) (by omega)).trans ((aG _ _ _ _ (by show w.heap.size+1≠b;omega)).trans hE2.res);have hst:=aK hz4 rfl)
   all_goals refine⟨rfl,_,results_cell_row rfl _ _ _ _ _ _ _ rfl (setRow_heap _ _ _ _ _ _ hz4) Tryz.underlying51 rfl (by kernel_rfl),rfl,_,hM4.row hz4 _,rfl,(((aF.of_below hE2.bl).trans (aF.set (F:=M.fp b) (a:=⟨b,1,none⟩) (.inl rfl) _)).trans (hK4.mono fun k hk => .inl hk)).row hrB _,fun k hk => .inl hk⟩
end Go.Proofs.YtdeiocppghhfdaaGreat
namespace Go.Proofs.YtdeiocppghhfdaaGreat
open Go.RowKit Go.Lib Go.Shelf
theorem aIh (a:Option Addr) (c:Nat) (l:List MkV) (m:MkV) (w:World) (hr:MRow w a l) (hok:MkOK bigN l) (hm:MkIn bigN m) (hs:hasM m.id l=false) (hl:l.length=64) :
  Calls Tryz.prog 194 #[.slice a l.length c,.agg #[.int .u32 m.id,.int .i64 m.at_,.int .u8 m.grav]] w fun e w'=>e = .returned (.tuple #[.slice none 0 0,.int .i64 20])∧Below w.heap.size w w':=by
 have hr':=fun W (hB:Below w.heap.size w W)=>hr.on hB
 have hc1:=fun W (hB:Below w.heap.size w W)=>fJ a c bigN l W (hr.on hB) hok jM
 have hBa:=(Below.refl w.heap.size w).alloc (Nat.le_refl _) (.cells #[.int .u32 m.id,.int .i64 m.at_,.int .u8 m.grav] 74)
 have hpw:=hok.2.1
 have hok1:MkOK bigN [m]:=⟨by simp,by simp,fun x hx=>by rw[List.mem_singleton.1 hx];exact hm⟩
 have h64:=hok.1
 have hok:=Lib.hid hok;have hm:=Lib.hid hm
 have hd64:((l.length:Int) == 64)=true:=by simp;omega
 clear hl
 clear hr
 go_enter Tryz.func194,Tryz.ntmps194
 go_wp2_with (first | (go_at_call 241;refine (hc1 _ hBa).mono ?_;rintro e w1 ⟨rfl,hB1'⟩;have hB1:=hBa.trans (hB1'.mono hBa.size);have hp1:=(hB1'.block _ (by simp)).trans (heap_alloc_new w (.cells #[.int .u32 m.id,.int .i64 m.at_,.int .u8 m.grav] 74));obtain⟨m0,m1,m2⟩:=cZ hp1;clear hc1) | (go_at_call 241;refine (fJ (some ⟨_,0,none⟩) 1 bigN [m] _ (mV _ m) hok1 jM).mono ?_;rintro e w2 ⟨rfl,hB2⟩;obtain⟨hB3,hp2⟩:=zQ hB1 hp1 hB2) | (go_at_call 132;refine (fZ a c l _ (hr' _ hB3) (by omega)).mono ?_;rintro e w3 ⟨v,rfl,ho,hB4⟩;have hp3:=(hB4.block _ (gAz hp2).1).trans hp2;obtain⟨n0,n1,n2⟩:=cZ hp3;obtain⟨ao,cp,rfl⟩:=aC ho;obtain⟨hrow,hcp⟩:=bV rfl ho;have hB5:=hB3.trans (hB4.mono hB3.size)) | (go_at_call 242;refine (kM ao cp l m.id _ hrow hpw (by omega) hcp).mono ?_;rw[hs];rintro e w4 ⟨rfl,hB6⟩;have hp4:=(hB6.block _ (gAz hp3).1).trans hp3;obtain⟨k0,k1,k2⟩:=cZ hp4;have hB7:=hB5.trans (hB6.mono hB5.size)))
 go_returns
 exact⟨rfl,hB7⟩
attribute [local go_sem, local simp] resF bD bS fK fM fO dQ eX eY
theorem zY (b:Nat) (M:MM) (c:Int) (o:OpV) (w:World) (h:MdAt w b M) (hok:MSok M.st 100000) (hat:0≤o.at_) (hid:1≤o.id) (hid2:o.id≤4294967295) (hgr:o.grav=0∨o.grav=1) :
  Calls Tryz.prog 139 #[.pointer (some ⟨b,0,none⟩),.int .i64 c,.agg #[.int .u8 o.kind,.int .i64 o.slot,.int .i64 o.at_,.int .i64 o.n,.int .u32 o.id,.int .u8 o.grav,.string o.text]] w (Post b w (setS M.st o) M):=by
 have hE:=aY w o
 have hM0:=h.below hE.bl
 obtain⟨ao,cp,hmv⟩:=aC h.marks
 have h1:=h.marks
 rw[hmv] at h1
 obtain⟨hrow,hcp⟩:=bV rfl h1
 have hmk:MkOK bigN M.marks:=hok.marks.big (by have:=hok.size;unfold bigN;omega)
 have hrB:w.heap.size≤w.heap.size+1:=by omega
 have hbw:=(gAz h.blk).1
 have hf:=aIa b M o.at_ _ (w.heap.size+1+1) (by simp) hM0
 have hsz:=hok.size
 have hsE:setE M.st o=if M.closed then 13 else bndE M.text o.at_:=rfl
 rw[← hsE] at hf
 have h64:hasM o.id M.marks=false→¬ M.marks.length<64→M.marks.length=64:=by have:=hmk.1;omega
 have hok:=Lib.hid hok
 by_cases hI:setE M.st o=0
 ·have hle:o.at_≤(M.text.size:Int):=by
   have h9:=hI
   rw[hsE] at h9
   unfold bndE at h9
   split at h9
   ·cases h9
   ·split at h9
    ·cases h9
    ·omega
  have hin:MkIn bigN ⟨o.id,o.at_,o.grav⟩:=⟨hid,hid2,hgr,hat,by show o.at_≤bigN;unfold bigN;have:M.text.size≤65536:=hsz;omega⟩
  rw[hI] at hf
  have hf:=Lib.hid hf
  by_cases hl:hasM o.id M.marks=true∨M.marks.length<64
  ·have hS:setS M.st o=lK { M.st with marks:=setM ⟨o.id,o.at_,o.grav⟩ M.marks }:=by unfold setS;rw[if_neg (by simpa using hI),if_pos (by exact hl)];rfl
   rw[hS]
   go_enter Tryz.func139,Tryz.ntmps139
   go_wp2_with (first | (go_at_call 190;refine (iG b o.at_ _).mono ?_;rintro e v9 ⟨rfl,rfl⟩) | (go_at_call 188;refine hf.out.mono ?_;rintro e w8 ⟨rfl,hb8⟩;have hE8:=hE.on hb8;have hM8:=hM0.below hb8;have e1:=hM8.c1 hmv;obtain⟨e2,e3,e6,e4,e5⟩:=hE8.o2;clear hf))
   have hx0:=(Below.refl w8.heap.size w8).drew
   have kx:∀ W,Below w8.heap.size w8 W→(W.cell? ⟨b,1,none⟩=some (.slice ao M.marks.length cp)∧W.cell? ⟨w.heap.size,4,none⟩=some (.int .u32 o.id)∧W.cell? ⟨w.heap.size,2,none⟩=some (.int .i64 o.at_)∧W.cell? ⟨w.heap.size,5,none⟩=some (.int .u8 o.grav))∧Below w8.heap.size w8 W:=fun W hW=>⟨⟨(hM8.below hW).c1 hmv,(hE8.on hW).o2.2.2.2.1,(hE8.on hW).o2.1,(hE8.on hW).o2.2.2.2.2⟩,hW⟩
   have Kx:=Lib.hid kx
   clear kx e1 e2 e3 e6 e4 e5
   refine aP (S:=fun W=>(W.cell? ⟨b,1,none⟩=some (.slice ao M.marks.length cp)∧W.cell? ⟨w.heap.size,4,none⟩=some (.int .u32 o.id)∧W.cell? ⟨w.heap.size,2,none⟩=some (.int .i64 o.at_)∧W.cell? ⟨w.heap.size,5,none⟩=some (.int .u8 o.grav))∧Below w8.heap.size w8 W) ?_ (fun hHeld => ?_)
   ·first | exact Kx.out _ hx3 | exact Kx.out _ hx0
   iterate 11 (((first | refine np_q ?_ | refine aL 0 ?_);(try simp only[nSO])))
   (refine np_c 11 (fun K hK => ?_);go_simp;((go_at_call 194;refine (aKv ao cp M.marks ⟨o.id,o.at_,o.grav⟩ _ (hrow.on hE8.bl.drew) hmk hin hl).mono ?_;rintro e w2 ⟨v,rfl,hov,hb2⟩;obtain⟨av,cv,rfl⟩:=aC hov;have hx3:=hx0.trans hb2;have hE2:=hE8.on hx3;have hM2:=hM8.below hx3;have f1:=hM2.f 1;have e1b:=hM2.c1 hmv;have hM3:=hM2.setMarks (aV (Nat.zero_le _) hov)));(try go_wp2_with fail);refine hK.out _ _ ?_ (fun hHeld => ?_);(· (first | exact Kx.out _ hx3 | exact Kx.out _ hx0));clear hK K;(try simp only[nSO]))
   iterate 5 ((refine np_q ?_;(try simp only[nSO])))
   refine np_z ?_
   go_wp2_with (go_at_call 195;refine (pF b _ _ hM3 hok.out.num0 hok.out.num1).mono ?_;rintro e w4 ⟨rfl,hM4,hK4⟩;have hz4:=(hK4.block _ (by rw[eQ];exact (gAz hE2.res).1) (by omega)).trans ((aG _ _ _ _ (by show w.heap.size+1≠b;omega)).trans hE2.res);have hst:=aK hz4 rfl)
   refine⟨rfl,_,results_cell_row rfl _ _ _ _ _ _ _ rfl (setRow_heap _ _ _ _ _ _ hz4) Tryz.underlying51 rfl (by kernel_rfl),rfl,_,hM4.row hz4 _,rfl,(((aF.of_below hE2.bl).trans (aF.set (F:=M.fp b) (a:=⟨b,1,none⟩) (.inl rfl) _)).trans (hK4.mono fun k hk => .inl hk)).row hrB _,fun k hk => .inl hk⟩
  ·have hS:setS M.st o=(aS 20,M.st):=by unfold setS;rw[if_neg (by simpa using hI),if_neg (by exact hl)]
   have hs:hasM o.id M.marks=false:=by cases hq:hasM o.id M.marks with | false=>rfl | true=>exact absurd (.inl hq) hl
   have hl2:=Lib.hid (h64 hs (fun h=>hl (.inr h)))
   rw[hS]
   go_enter Tryz.func139,Tryz.ntmps139
   go_wp2_with (first | (go_at_call 190;refine (iG b o.at_ _).mono ?_;rintro e v9 ⟨rfl,rfl⟩) | (go_at_call 188;refine hf.out.mono ?_;rintro e w8 ⟨rfl,hb8⟩;have hE8:=hE.on hb8;have hM8:=hM0.below hb8;have e1:=hM8.c1 hmv;obtain⟨e2,e3,e6,e4,e5⟩:=hE8.o2;clear hf))
   have hx0:=(Below.refl w8.heap.size w8).drew
   have kx:∀ W,Below w8.heap.size w8 W→(W.cell? ⟨b,1,none⟩=some (.slice ao M.marks.length cp)∧W.cell? ⟨w.heap.size,4,none⟩=some (.int .u32 o.id)∧W.cell? ⟨w.heap.size,2,none⟩=some (.int .i64 o.at_)∧W.cell? ⟨w.heap.size,5,none⟩=some (.int .u8 o.grav))∧Below w8.heap.size w8 W:=fun W hW=>⟨⟨(hM8.below hW).c1 hmv,(hE8.on hW).o2.2.2.2.1,(hE8.on hW).o2.1,(hE8.on hW).o2.2.2.2.2⟩,hW⟩
   have Kx:=Lib.hid kx
   clear kx e1 e2 e3 e6 e4 e5
   refine aP (S:=fun W=>(W.cell? ⟨b,1,none⟩=some (.slice ao M.marks.length cp)∧W.cell? ⟨w.heap.size,4,none⟩=some (.int .u32 o.id)∧W.cell? ⟨w.heap.size,2,none⟩=some (.int .i64 o.at_)∧W.cell? ⟨w.heap.size,5,none⟩=some (.int .u8 o.grav))∧Below w8.heap.size w8 W) ?_ (fun hHeld => ?_)
   ·first | exact Kx.out _ hx3 | exact Kx.out _ hx0
   iterate 11 (((first | refine np_q ?_ | refine aL 0 ?_);(try simp only[nSO])))
   (refine np_c 11 (fun K hK => ?_);go_simp;((go_at_call 194;refine (aIh ao cp M.marks ⟨o.id,o.at_,o.grav⟩ _ (hrow.on hE8.bl.drew) hmk hin hs hl2.out).mono ?_;rintro e w2 ⟨rfl,hb2⟩;have hx3:=hx0.trans hb2;have hE2:=hE8.on hx3;have hM2:=hM8.below hx3));(try go_wp2_with fail);refine hK.out _ _ ?_ (fun hHeld => ?_);(· (first | exact Kx.out _ hx3 | exact Kx.out _ hx0));clear hK K;(try simp only[nSO]))
   iterate 5 ((refine np_q ?_;(try simp only[nSO])))
   refine np_z ?_
   go_wp2_with (go_at_call 99;refine (bT _ _).mono ?_;rintro e v7 ⟨rfl,hb7⟩;have hE7:=hE2.on hb7;have hst:=aK hE7.res rfl)
   refine⟨rfl,_,results_cell_row rfl _ _ _ _ _ _ _ rfl (setRow_heap _ _ _ _ _ _ hE7.res) Tryz.underlying51 rfl (by kernel_rfl),rfl,M,(hM2.below hb7).row hE7.res _,rfl,(aF.of_below hE7.bl).row hrB _,fun k hk => .inl hk⟩
 ·have hS:setS M.st o=(aS (setE M.st o),M.st):=by unfold setS;rw[if_pos hI]
  have hd:(setE M.st o == 0)=false:=by simpa using hI
  rw[hS]
  clear hsE
  generalize setE M.st o=E at *
  have hf:=Lib.hid hf
  go_enter Tryz.func139,Tryz.ntmps139
  go_wp2_with (first | (go_at_call 190;refine (iG b o.at_ _).mono ?_;rintro e v9 ⟨rfl,rfl⟩) | (go_at_call 188;refine hf.out.mono ?_;rintro e w8 ⟨rfl,hb8⟩;have hE8:=hE.on hb8;have hM8:=hM0.below hb8;clear hf) | (go_at_call 99;refine (bT _ _).mono ?_;rintro e v7 ⟨rfl,hb7⟩;have hE7:=hE8.on hb7;have hst:=aK hE7.res rfl))
  refine⟨rfl,_,results_cell_row rfl _ _ _ _ _ _ _ rfl (setRow_heap _ _ _ _ _ _ hE7.res) Tryz.underlying51 rfl (by kernel_rfl),rfl,M,(hM8.below hb7).row hE7.res _,rfl,(aF.of_below hE7.bl).row hrB _,fun k hk => .inl hk⟩
end Go.Proofs.YtdeiocppghhfdaaGreat
