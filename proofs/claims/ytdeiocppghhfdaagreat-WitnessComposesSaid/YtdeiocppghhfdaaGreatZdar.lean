/- Texts, one behind another. -/
import Derived.Test.YtdeiocppghhfdaaGreatZdaq
set_option linter.unusedVariables false
set_option linter.unusedSimpArgs false
set_option maxRecDepth 100000
set_option maxHeartbeats 8000000
namespace Go.Proofs.YtdeiocppghhfdaaGreat
open Go.RowKit Go.Lib Go.Shelf
theorem aB9 {w:World} {B s n:Nat} {e:TypeId} {v:Value} {xs:List Value} (h:w.ownsRow B e s v n xs) (hv:v.ownBlock≠none):∃ g c,v = .slice (some ⟨g,0,none⟩) n c:=by
 rcases h.2 with⟨e1,_⟩ | ⟨g,cap,cur,e1,_⟩
 ·rw[e1] at hv;exact absurd rfl hv
 ·exact⟨g,cap,e1⟩
theorem aFm {α:Type} {l:List α} {j:Nat} {x:α} (h:l[j]? = some x):l.set j x=l:=by
 obtain⟨hj,hx⟩:=List.getElem?_eq_some_iff.1 h
 refine List.ext_getElem? fun i => ?_
 rw[List.getElem?_set]
 split
 ·rename_i e;subst e;exact h.symm
 ·rfl
theorem kX (b:Nat) (M:MM) (w:World) (K:Int) (h:MdAt w b M) (hok:MSok M.st K):Calls Tryz.prog 102 #[.pointer (some ⟨b,0,none⟩)] w fun e w'=>∃ b' M',e = .returned (.pointer (some ⟨b',0,none⟩))∧MdAt w' b' M'∧M'.st=M.st∧Below w.heap.size w w'∧∀ k,M'.fp b' k→w.heap.size≤k:=by
 have hcl:M.seats.length≤8:=by have:=hok.clients;have h2:M.st.seats.length=M.seats.length:=List.length_map ..;omega
 have hmk:M.marks.length≤64:=hok.marks.1
 have hsl:∀ S∈M.seats,S.sl.length≤8∧∀ x∈S.sl,x.s.marks.length≤64:=fun S hS=>by
  have:=hok.slots S.st (List.mem_map.2 ⟨S,hS,rfl⟩)
  refine⟨?_,fun x hx=>(this.2 x.s (List.mem_map.2 ⟨x,hx,rfl⟩)).2.1.1⟩
  have h1:=this.1
  have h2:S.st.slots.length=S.sl.length:=List.length_map ..
  have:=hok.readers
  omega
 have HSL:=Lib.hid hsl
 clear hok hsl
 obtain⟨am,cm,hmv⟩:=aF h.marks
 have h1:=h.marks
 rw[hmv] at h1
 obtain⟨hrow,hcpm⟩:=jU rfl h1
 obtain⟨ag,cs,hsv⟩:=aF h.seats
 have kx:∀ W,Below w.heap.size w W→W.cell? ⟨b,0,none⟩=some (.string M.text)∧W.cell? ⟨b,1,none⟩=some (.slice am M.marks.length cm)∧W.cell? ⟨b,2,none⟩=some (.int .i64 M.number)∧W.cell? ⟨b,3,none⟩=some (.bool M.closed)∧W.cell? ⟨b,4,none⟩=some (.int .i64 M.readers)∧W.cell? ⟨b,5,none⟩=some (.slice ag M.seats.length cs):=fun W hW=>by
  have hW:=h.below hW
  exact⟨hW.c0,hW.c1 hmv,hW.c2,hW.c3,by simp[World.cell?,hW.blk,mdL],hW.c5 hsv⟩
 have Kx:=Lib.hid kx
 clear kx h1
 have hx0:=(Below.refl w.heap.size w).drew
 go_enter Tryz.func102,Tryz.ntmps102
 go_wp2
 refine wp_region_noPanic ?_
 refine wp_region_held_drew (S:=fun W=>W.cell? ⟨b,0,none⟩=some (.string M.text)∧W.cell? ⟨b,1,none⟩=some (.slice am M.marks.length cm)∧W.cell? ⟨b,2,none⟩=some (.int .i64 M.number)∧W.cell? ⟨b,3,none⟩=some (.bool M.closed)∧W.cell? ⟨b,4,none⟩=some (.int .i64 M.readers)∧W.cell? ⟨b,5,none⟩=some (.slice ag M.seats.length cs)) (by kernel_rfl) ?_ (fun hHeld => ?_)
 ·exact Kx.out _ hx0
 iterate 8 (((first | refine np_n ?_ ?_ ?_ | refine np_t 0 ?_ ?_ ?_);rotate_left 1;(· (intro w hSw;(try dsimp only at hSw);go_simp;all_goals with_reducible rfl));(try simp only[nSO])))
 (refine np_t 9 ?_ ?_ ?_;rotate_left 1;(· (intro w hSw;(try dsimp only at hSw);go_simp;all_goals with_reducible rfl));(try simp only[nSO]))
 iterate 16 ((refine np_n ?_ ?_ ?_;rotate_left 1;(· (intro w hSw;(try dsimp only at hSw);go_simp;all_goals with_reducible rfl));(try simp only[nSO])))
 refine wpAnyH_ready (rs:=[8,26]) (by kernel_rfl) (by simp) (AllReadyH.cons rfl (fun K hK => ?_) (AllReadyH.cons rfl (fun K hK => ?_) AllReadyH.nil))
 ·rw[if_pos (by rfl)]
  go_simp
  (go_at_call 132;refine (jV am cm M.marks _ (hrow.on (Below.refl _ _).drew) (by omega)).mono ?_;rintro e w1 ⟨v1,rfl,hov,hb1⟩;obtain⟨an,cn,rfl⟩:=aF hov;have hw1:Below w.heap.size w w1:=(Below.refl _ _).drew.trans hb1;obtain⟨V1,hmk,hs1,hg1,hbV⟩:=uX w1 M.seats.length (by omega);have hV1:Below w.heap.size w V1:=hw1.trans (hbV.mono hw1.size))
  (try go_wp2_with fail)
  refine hK.out _ _ ?_ (fun hHeld => ?_)
  ·exact Kx.out _ hw1
  clear hK K
  (try simp only[nSO])
  (refine aD (i:=26) rfl (by kernel_rfl) (fun K hK => ?_);rw[if_pos (by rfl)];go_simp;((have hx26:=hV1));(try go_wp2_with fail);refine hK.out _ _ ?_ (fun hHeld => ?_);(· (first | exact Kx.out _ hx28 | exact Kx.out _ hx26));clear hK K;(try simp only[nSO]))
  (refine np_n ?_ ?_ ?_;rotate_left 1;(· (intro w hSw;(try dsimp only at hSw);go_simp;all_goals with_reducible rfl));(try simp only[nSO]))
  (refine aD (i:=28) rfl (by kernel_rfl) (fun K hK => ?_);rw[if_pos (by rfl)];go_simp;((have hx28:=hV1.alloc hV1.size (.cells (mdL { M with mv := .slice an M.marks.length cn,sv := .slice (some ⟨w1.heap.size,0,none⟩) M.seats.length M.seats.length,seats:=[] }).toArray 136)));(try go_wp2_with fail);refine hK.out _ _ ?_ (fun hHeld => ?_);(· (first | exact Kx.out _ hx28 | exact Kx.out _ hx26));clear hK K;(try simp only[nSO]))
  (refine np_n ?_ ?_ ?_;rotate_left 1;(· (intro w hSw;(try dsimp only at hSw);go_simp;all_goals with_reducible rfl));(try simp only[nSO]))
  refine wpAnyH_done (by kernel_rfl) ?_ _
  refine NoPanic.normal ?_
  have hx28:=hV1.alloc hV1.size (.cells (mdL { M with mv := .slice an M.marks.length cn,sv := .slice (some ⟨w1.heap.size,0,none⟩) M.seats.length M.seats.length,seats:=[] }).toArray 136)
  have hBd:Bld w.heap.size (V1.alloc (.cells #[.string M.text,.slice an M.marks.length cn,.int .i64 M.number,.bool M.closed,.int .i64 M.readers,.slice (some ⟨w1.heap.size,0,none⟩) M.seats.length M.seats.length] 136)) (w1.heap.size+1) w1.heap.size M.seats.length { M with mv := .slice an M.marks.length cn,sv := .slice (some ⟨w1.heap.size,0,none⟩) M.seats.length M.seats.length,seats:=[] } []:=by
   refine⟨by rw[← hs1];exact heap_alloc_new V1 _,rfl,?_,?_,Nat.zero_le _,(fun S hS=>by cases hS),(fun S hS=>by cases hS),(fun S hS=>by cases hS),by simp⟩
   ·exact gW (gW (gP (Nat.zero_le _) hov) hbV) ((Below.refl _ V1).alloc (Nat.le_refl _) _)
   ·exact (heap_alloc_old _ _ (Array.getElem?_eq_some_iff.1 hg1).1).trans hg1
  have hBV:Below w.heap.size w (V1.alloc (.cells #[.string M.text,.slice an M.marks.length cn,.int .i64 M.number,.bool M.closed,.int .i64 M.readers,.slice (some ⟨w1.heap.size,0,none⟩) M.seats.length M.seats.length] 136)):=hx28
  have hgw:w.heap.size≤w1.heap.size:=hw1.size
  have hbw:w.heap.size≤w1.heap.size+1:=by omega
  clear hHeld hx28 hmk hs1 hg1 hbV hV1 hw1 hb1 hov
  generalize V1.alloc (.cells #[.string M.text,.slice an M.marks.length cn,.int .i64 M.number,.bool M.closed,.int .i64 M.readers,.slice (some ⟨w1.heap.size,0,none⟩) M.seats.length M.seats.length] 136)=V at *
  generalize w1.heap.size+1=b' at *
  generalize w1.heap.size=gs at *
  obtain⟨M1,hM1⟩:∃ M1:MM,M1={ M with mv := .slice an M.marks.length cn,sv := .slice (some ⟨gs,0,none⟩) M.seats.length M.seats.length,seats:=[] }:=⟨_,rfl⟩
  rw[← hM1] at hBd
  have c5:∀ W D,Bld w.heap.size W b' gs M.seats.length M1 D→W.cell? ⟨b',5,none⟩=some (.slice (some ⟨gs,0,none⟩) M.seats.length M.seats.length):=fun W D h=>by rw[← h.sv];simp[World.cell?,h.blk,mdL]
  have C5:=Lib.hid c5
  clear c5
  have s5:=(Kx.out _ hBV).2.2.2.2.2
  have hgb:b'<V.heap.size∧gs<V.heap.size:=⟨(Array.getElem?_eq_some_iff.1 hBd.blk).1,(Array.getElem?_eq_some_iff.1 hBd.seats).1⟩
  go_wp2
  go_loopw [4,5,6,43,44,45,46,47,48,49,50,51,52,53,54,55,56,57,58,59,60,61,62,63,64,65,66,67,68,69,70,71,72,73,74,75,76,77,78,79,80,81,82,83,84,85,86,87,88,89,90,91] (fun x4 x5 x6 i x44 x45 x46 x47 x48 x49 x50 x51 x52 x53 x54 x55 x56 x57 x58 x59 x60 x61 x62 x63 x64 x65 x66 x67 x68 x69 x70 x71 x72 x73 x74 x75 x76 x77 x78 x79 x80 x81 x82 x83 x84 x85 x86 x87 x88 x89 x90 x91 wr=>∃ k:Nat,i = .int .i64 k∧k≤M.seats.length∧∃ D:List SeM,D.length=k∧D.map (·.st)=(M.seats.take k).map (·.st)∧Bld w.heap.size wr b' gs M.seats.length M1 D∧Below w.heap.size w wr) (fun x4 x5 x6 i x44 x45 x46 x47 x48 x49 x50 x51 x52 x53 x54 x55 x56 x57 x58 x59 x60 x61 x62 x63 x64 x65 x66 x67 x68 x69 x70 x71 x72 x73 x74 x75 x76 x77 x78 x79 x80 x81 x82 x83 x84 x85 x86 x87 x88 x89 x90 x91 wr=>M.seats.length-(intOf i).toNat)
  case atStart=>exact⟨0,rfl,by omega,[],rfl,rfl,hBd,hBV⟩
  case round =>
   obtain⟨k,rfl,hk,D,hD,hDs,hBd,hBV⟩:=hrel
   obtain⟨wo,rfl⟩:∃ wo,wo=wr:=⟨wr,rfl⟩
   by_cases hlt:k<M.seats.length
   ·have hS:=List.getElem?_eq_getElem hlt
    generalize hSg:M.seats[k]=S at hS
    obtain⟨hl8,hm64⟩:=HSL.out S (List.mem_of_getElem? hS)
    obtain⟨gs0,cs0,g0,cp0,cur0,hA0⟩:=h.seatAt hS
    have hag:ag=some ⟨gs0,0,none⟩∧cs=cs0:=by
     have:=hsv.symm.trans hA0.sv
     injection this with e1 _ e3
     exact⟨e1,e3⟩
    have hA:=hA0.below hBV
    have hMr:=h.below hBV
    obtain⟨a0,a1⟩:=And.intro hA.c0 hA.c1
    obtain⟨hag1,hag2⟩:=hag
    subst hag1
    subst hag2
    have hk6:Below wo.heap.size wo (wo.alloc (.cells #[.bool S.sub,.slice (some ⟨g0,0,none⟩) S.sl.length cp0] 139)):=(Below.refl _ wo).alloc (Nat.le_refl _) _
    have hz6:=heap_alloc_new wo (.cells #[.bool S.sub,.slice (some ⟨g0,0,none⟩) S.sl.length cp0] 139)
    have hs6:(wo.alloc (.cells #[.bool S.sub,.slice (some ⟨g0,0,none⟩) S.sl.length cp0] 139)).heap.size=wo.heap.size+1:=World.size_alloc ..
    have hgl:b'<wo.heap.size∧gs<wo.heap.size:=⟨(Array.getElem?_eq_some_iff.1 hBd.blk).1,(Array.getElem?_eq_some_iff.1 hBd.seats).1⟩
    have hbgs:b'≠gs:=fun e=>by subst e;have:=hBd.blk;rw[hBd.seats] at this;injection this with this;injection this with _ h2 _;exact absurd h2 (by decide)
    have hg0w:g0<w.heap.size:=(Array.getElem?_eq_some_iff.1 hA0.blk).1
    have r5:=C5.out _ _ hBd
    go_wp2
    generalize wo.alloc (.cells #[.bool S.sub,.slice (some ⟨g0,0,none⟩) S.sl.length cp0] 139)=W6 at *
    have hBd6:=hBd.below hk6
    have hBV6:=hBV.trans (hk6.mono hBV.size)
    have kx7:∀ W,Below W6.heap.size W6 W→W.cell? ⟨b',5,none⟩=some (.slice (some ⟨gs,0,none⟩) M.seats.length M.seats.length)∧W.cell? ⟨wo.heap.size,0,none⟩=some (.bool S.sub)∧W.cell? ⟨wo.heap.size,1,none⟩=some (.slice (some ⟨g0,0,none⟩) S.sl.length cp0):=fun W hW=>by
     have h6:=(hW.block wo.heap.size (by omega)).trans hz6
     exact⟨C5.out _ _ (hBd6.below hW),by simp[World.cell?,h6],by simp[World.cell?,h6]⟩
    have Kx7:=Lib.hid kx7
    clear kx7
    have hx7:=(Below.refl W6.heap.size W6).drew
    have hrc:=h.slots S (List.mem_of_getElem? hS)
    rw[hA0.v] at hrc
    refine wp_region_noPanic ?_
    refine wp_region_held_drew (S:=fun W=>W.cell? ⟨b',5,none⟩=some (.slice (some ⟨gs,0,none⟩) M.seats.length M.seats.length)∧W.cell? ⟨wo.heap.size,0,none⟩=some (.bool S.sub)∧W.cell? ⟨wo.heap.size,1,none⟩=some (.slice (some ⟨g0,0,none⟩) S.sl.length cp0)) (by kernel_rfl) ?_ (fun hHeld => ?_)
    ·first | exact hx12' | exact Kx7.out _ hx9 | exact Kx7.out _ hx7
    iterate 9 (((first | refine np_n ?_ ?_ ?_ | refine np_t 0 ?_ ?_ ?_);rotate_left 1;(· (intro w hSw;(try dsimp only at hSw);go_simp;all_goals with_reducible rfl));(try simp only[nSO])))
    (refine aD (i:=9) rfl (by kernel_rfl) (fun K hK => ?_);rw[if_pos (by rfl)];go_simp;((go_at_call 154;refine (aAg g0 cp0 S.sl _ (by omega) hA0.cap (fun j u hj=>cell_below (rA hrc j u hj).1 hBV6.drew) (fun x hx=>(by obtain⟨_,_,e⟩:=aF (h.smarks S (List.mem_of_getElem? hS) x hx);rw[e];rfl))).mono ?_;rintro e w7 ⟨v,rfl,hov,hne,hb7⟩;obtain⟨g',cv,rfl⟩:=aB9 hov hne;have hx9:Below W6.heap.size W6 w7:=hx7.trans hb7;have hBd7:=hBd6.below hx9;obtain⟨p0,p1,pf⟩:=hBd7.cell (show (D++List.replicate (M.seats.length-D.length) zSe)[k]? = some zSe from (by rw[oK M.seats.length D.length (by omega),List.getElem?_append_right (by omega),← hD,Nat.sub_self];rfl));have p0':w7.cell? ⟨gs,k*2,none⟩=some (.bool false):=p0;have p1':w7.cell? ⟨gs,k*2+1,none⟩=some (.slice none 0 0):=p1;have pf0:=pf (k*2);have pf1:=pf (k*2+1);have hk8:aC (fun j=>j=gs) w7 ((w7.setCell ⟨gs,k*2,none⟩ (.bool S.sub)).setCell ⟨gs,k*2+1,none⟩ (.slice (some ⟨g',0,none⟩) S.sl.length cv)):=(aC.set (F:=fun j=>j=gs) (a:=⟨gs,k*2,none⟩) rfl _).trans (aC.set (F:=fun j=>j=gs) (a:=⟨gs,k*2+1,none⟩) rfl _);have hx12:=And.intro (hk8.cell hbgs (Kx7.out _ hx9).1) (And.intro (hk8.cell (show ¬ (wo.heap.size=gs) by omega) (Kx7.out _ hx9).2.1) (hk8.cell (show ¬ (wo.heap.size=gs) by omega) (Kx7.out _ hx9).2.2));clear p0 p1 pf));(try go_wp2_with fail);refine hK.out _ _ ?_ (fun hHeld => ?_);(· (first | exact hx12' | exact Kx7.out _ hx9 | exact Kx7.out _ hx7));clear hK K;(try simp only[nSO]))
    iterate 2 ((refine np_n ?_ ?_ ?_;rotate_left 1;(· (intro w hSw;(try dsimp only at hSw);go_simp;all_goals with_reducible rfl));(try simp only[nSO])))
    (refine aD (i:=12) rfl (by kernel_rfl) (fun K hK => ?_);rw[if_pos (by rfl)];go_simp;((have hx12':=hx12));(try go_wp2_with fail);refine hK.out _ _ ?_ (fun hHeld => ?_);(· (first | exact hx12' | exact Kx7.out _ hx9 | exact Kx7.out _ hx7));clear hK K;(try simp only[nSO]))
    refine wpAnyH_done (by kernel_rfl) ?_ _
    refine NoPanic.normal ?_
    have hbl:=hBd7.blk
    have hsz7:=hx9.size
    have hov':w7.ownsRow wo.heap.size 168 4 (.slice (some ⟨g',0,none⟩) S.sl.length cv) S.sl.length (slL S.sl):=gP (by show wo.heap.size≤W6.heap.size;omega) hov
    have hg':wo.heap.size+1≤g':=by have:=(World.ownsRow.lt hov g' rfl).1;have e:W6.drew.heap.size=W6.heap.size:=rfl;omega
    have hkk8:∀ j,j<w7.heap.size→j≠gs→((w7.setCell ⟨gs,k*2,none⟩ (.bool S.sub)).setCell ⟨gs,k*2+1,none⟩ (.slice (some ⟨g',0,none⟩) S.sl.length cv)).heap[j]? = w7.heap[j]? := fun j _ hn=>(aO _ _ _ _ hn).trans (aO _ _ _ _ hn)
    have hBd8:=hBd.push (W':=((w7.setCell ⟨gs,k*2,none⟩ (.bool S.sub)).setCell ⟨gs,k*2+1,none⟩ (.slice (some ⟨g',0,none⟩) S.sl.length cv))) ⟨S.sub,.slice (some ⟨g',0,none⟩) S.sl.length cv,S.sl⟩ (by omega) (by
      have h1:=hBd7.seats
      rw[oK M.seats.length D.length (by omega)] at h1
      have h2:=jM (jM h1 (k*2) (.bool S.sub)) (k*2+1) (.slice (some ⟨g',0,none⟩) S.sl.length cv)
      rw[← hD,aFi D zSe _ S.sub,aAf D _ _ _ S.sl] at h2
      rw[← hD]
      exact h2) (fun j hj hn=>(hkk8 j (by omega) hn).trans ((hx9.block j (by omega)).trans (hk6.block j hj))) hBV.size
      (dA hov' hBd7.seats (by decide) hkk8) (by simp[Value.ownBlock]) (fun x hx=>dA (gW (gW ((h.below hBV).smarks S (List.mem_of_getElem? hS) x hx) hk6) hx9) hBd7.seats (by decide) hkk8)
    have hBV7:=hBV6.trans (hx9.mono hBV6.size)
    have hB8:Below w.heap.size w ((w7.setCell ⟨gs,k*2,none⟩ (.bool S.sub)).setCell ⟨gs,k*2+1,none⟩ (.slice (some ⟨g',0,none⟩) S.sl.length cv)) :=
     ⟨hk8.os.trans hBV7.os,hk8.tape.trans hBV7.tape,hk8.output.trans hBV7.output,Nat.le_trans hBV7.size hk8.size,fun j hj=>(hkk8 j (by have:=hBV7.size;omega) (by omega)).trans (hBV7.block j hj)⟩
    have hx1:=hx12.2.2
    have hv8:((w7.setCell ⟨gs,k*2,none⟩ (.bool S.sub)).setCell ⟨gs,k*2+1,none⟩ (.slice (some ⟨g',0,none⟩) S.sl.length cv)).cell? ⟨gs,k*2+1,none⟩=some (.slice (some ⟨g',0,none⟩) S.sl.length cv):=by
     have h1:=hBd7.seats
     have h2:=jM (jM h1 (k*2) (.bool S.sub)) (k*2+1) (.slice (some ⟨g',0,none⟩) S.sl.length cv)
     have:=(hBd8.cell (show (D++[(⟨S.sub,.slice (some ⟨g',0,none⟩) S.sl.length cv,S.sl⟩:SeM)]++List.replicate (M.seats.length-(D++[(⟨S.sub,.slice (some ⟨g',0,none⟩) S.sl.length cv,S.sl⟩:SeM)]).length) zSe)[k]? = some ⟨S.sub,.slice (some ⟨g',0,none⟩) S.sl.length cv,S.sl⟩ from (by rw[List.append_assoc,List.getElem?_append_right (by omega),← hD,Nat.sub_self];rfl))).2.1
     exact this
    have hb8:=hx12.1
    clear hHeld Kx7 hx7 hx9 hx12 hk8 hov hne hb7 hbl hsz7 hov' hkk8 hBd7 p0' p1' pf0 pf1 hrc hBV7 hBd6 hz6 hs6 hk6 hBV6
    generalize ((w7.setCell ⟨gs,k*2,none⟩ (.bool S.sub)).setCell ⟨gs,k*2+1,none⟩ (.slice (some ⟨g',0,none⟩) S.sl.length cv))=W8 at *
    go_wp2
    go_loopw [6,69,70,71,72,73,74,75,76,77,78,79,80,81,82,83,84,85,86,87,88,89,90] (fun z6 i2 z70 z71 z72 z73 z74 z75 z76 z77 z78 z79 z80 z81 z82 z83 z84 z85 z86 z87 z88 z89 z90 wq=>∃ j:Nat,i2 = .int .i64 j∧j≤S.sl.length∧∃ L:List SnM,L.map (·.s)=S.sl.map (·.s)∧Bld w.heap.size wq b' gs M.seats.length M1 (D++[⟨S.sub,.slice (some ⟨g',0,none⟩) S.sl.length cv,L⟩])∧Below w.heap.size w wq∧wq.cell? ⟨wo.heap.size,1,none⟩=some (.slice (some ⟨g0,0,none⟩) S.sl.length cp0)) (fun z6 i2 z70 z71 z72 z73 z74 z75 z76 z77 z78 z79 z80 z81 z82 z83 z84 z85 z86 z87 z88 z89 z90 wq=>S.sl.length-(intOf i2).toNat)
    case atStart=>exact⟨0,rfl,by omega,S.sl,rfl,hBd8,hB8,hx1⟩
    case round =>
     obtain⟨j,rfl,hj,L,hL,hBq,hBVq,hxq⟩:=hrel
     have hLl:L.length=S.sl.length:=by have:=congrArg List.length hL;simpa using this
     have kv:∀ W L,L.length=S.sl.length→Bld w.heap.size W b' gs M.seats.length M1 (D++[⟨S.sub,.slice (some ⟨g',0,none⟩) S.sl.length cv,L⟩])→W.cell? ⟨gs,k*2+1,none⟩=some (.slice (some ⟨g',0,none⟩) S.sl.length cv):=fun W L _ hb =>
      (hb.cell (show (D++[(⟨S.sub,.slice (some ⟨g',0,none⟩) S.sl.length cv,L⟩:SeM)]++List.replicate (M.seats.length-(D++[(⟨S.sub,.slice (some ⟨g',0,none⟩) S.sl.length cv,L⟩:SeM)]).length) zSe)[k]? = some ⟨S.sub,.slice (some ⟨g',0,none⟩) S.sl.length cv,L⟩ from (by rw[List.append_assoc,List.getElem?_append_right (by omega),← hD,Nat.sub_self];rfl))).2.1
     have Kv:=Lib.hid kv
     clear kv
     by_cases hlj:j<S.sl.length
     ·have hx:=List.getElem?_eq_getElem hlj
      generalize hxg:S.sl[j]=x at hx
      have hy:=List.getElem?_eq_getElem (show j<L.length by omega)
      generalize hyg:L[j]=y at hy
      have hys:y.s=x.s:=by
       have h1:(L.map (·.s))[j]? = (S.sl.map (·.s))[j]? := by rw[hL]
       rw[List.getElem?_map,List.getElem?_map,hx,hy] at h1
       injection h1
      have hAq:=hA0.below hBVq
      have hsn:=hAq.sn j x hx
      obtain⟨ax,cx,hxv⟩:=aF hsn.marks
      have hxm:=hsn.marks
      rw[hxv] at hxm
      obtain⟨hxrow,hxc⟩:=jU rfl hxm
      have hm6:=hm64 x (List.mem_of_getElem? hx)
      have s2:=hsn.cells.1.2.2.1
      rw[hxv] at s2
      have kx11:∀ W,aC (fun i=>i=g') wr W→W.cell? ⟨b',5,none⟩=some (.slice (some ⟨gs,0,none⟩) M.seats.length M.seats.length)∧W.cell? ⟨gs,k*2+1,none⟩=some (.slice (some ⟨g',0,none⟩) S.sl.length cv)∧W.cell? ⟨wo.heap.size,1,none⟩=some (.slice (some ⟨g0,0,none⟩) S.sl.length cp0)∧W.cell? ⟨g0,j*4+2,none⟩=some (.slice ax x.s.marks.length cx):=fun W hW =>
       ⟨hW.cell (show ¬ (b'=g') by omega) (C5.out _ _ hBq),hW.cell (show ¬ (gs=g') by omega) (Kv.out _ _ hLl hBq),hW.cell (show ¬ (wo.heap.size=g') by omega) hxq,hW.cell (show ¬ (g0=g') by have:=hBV.size;omega) s2⟩
      have Kx11:=Lib.hid kx11
      clear kx11
      have hx11:aC (fun i=>i=g') wr wr.drew:=(aC.refl _ _).drew
      go_wp2
      refine wp_region_noPanic ?_
      refine wp_region_held_drew (S:=fun W=>W.cell? ⟨b',5,none⟩=some (.slice (some ⟨gs,0,none⟩) M.seats.length M.seats.length)∧W.cell? ⟨gs,k*2+1,none⟩=some (.slice (some ⟨g',0,none⟩) S.sl.length cv)∧W.cell? ⟨wo.heap.size,1,none⟩=some (.slice (some ⟨g0,0,none⟩) S.sl.length cp0)∧W.cell? ⟨g0,j*4+2,none⟩=some (.slice ax x.s.marks.length cx)) (by kernel_rfl) ?_ (fun hHeld => ?_)
      ·first | exact hx18' | exact Kx11.out _ hx15 | exact Kx11.out _ hx11
      iterate 15 (((first | refine np_n ?_ ?_ ?_ | refine np_t 0 ?_ ?_ ?_);rotate_left 1;(· (intro w hSw;(try dsimp only at hSw);go_simp;all_goals with_reducible rfl));(try simp only[nSO])))
      (refine aD (i:=15) rfl (by kernel_rfl) (fun K hK => ?_);rw[if_pos (by rfl)];go_simp;((go_at_call 132;refine (jV ax cx x.s.marks _ (hxrow.on (Below.refl _ _).drew) (by omega)).mono ?_;rintro e w9 ⟨v9,rfl,hov9,hb9⟩;obtain⟨a9,c9,rfl⟩:=aF hov9;have hb9':Below wr.heap.size wr w9:=(Below.refl _ _).drew.trans hb9;have hx15:aC (fun i=>i=g') wr w9:=aC.of_below hb9';have hB9:=hBq.below hb9';obtain⟨hB10,hk10,_⟩:=hB9.setMv (g:=g') (cp:=cv) (mv := .slice a9 x.s.marks.length c9) (by rw[hLl]) hy (by rw[hys];exact gP (Nat.zero_le _) hov9);have hq9:=rA (hB9.slots ⟨S.sub,.slice (some ⟨g',0,none⟩) S.sl.length cv,L⟩ (by simp)) (j*4+2) y.mv (by have:=aDf L j y hy;have h2:(((slL L).drop (j*4)).take 4)[2]? = some y.mv:=(by rw[this];rfl);rwa [List.getElem?_take,if_pos (by omega),List.getElem?_drop] at h2);obtain⟨q1,q2⟩:=hq9;have hx18:=Kx11.out _ (hx15.trans hk10)));(try go_wp2_with fail);refine hK.out _ _ ?_ (fun hHeld => ?_);(· (first | exact hx18' | exact Kx11.out _ hx15 | exact Kx11.out _ hx11));clear hK K;(try simp only[nSO]))
      iterate 2 ((refine np_n ?_ ?_ ?_;rotate_left 1;(· (intro w hSw;(try dsimp only at hSw);go_simp;all_goals with_reducible rfl));(try simp only[nSO])))
      (refine aD (i:=18) rfl (by kernel_rfl) (fun K hK => ?_);rw[if_pos (by rfl)];go_simp;((have hx18':=hx18));(try go_wp2_with fail);refine hK.out _ _ ?_ (fun hHeld => ?_);(· (first | exact hx18' | exact Kx11.out _ hx15 | exact Kx11.out _ hx11));clear hK K;(try simp only[nSO]))
      refine wpAnyH_done (by kernel_rfl) ?_ _
      refine NoPanic.normal ?_
      have hBV10:Below w.heap.size w (w9.setCell ⟨g',j*4+2,none⟩ (.slice a9 x.s.marks.length c9)):=by
       have h1:=hBVq.trans (hb9'.mono hBVq.size)
       have h2:=hBV.size
       exact⟨hk10.os.trans h1.os,hk10.tape.trans h1.tape,hk10.output.trans h1.output,Nat.le_trans h1.size hk10.size,fun i hi=>(aO _ _ _ _ (show i≠g' by omega)).trans (h1.block i hi)⟩
      clear hHeld Kx11
      go_wp2
      go_roundw
      case rel=>exact⟨j+1,by go_num,by omega,_,by rw[List.map_set,hL];show (S.sl.map (fun y:SnM=>y.s)).set j y.s=_;rw[hys];exact aFm (by rw[List.getElem?_map,hx];rfl),hB10,hBV10,hx18.2.2.1⟩
      case measure=>simp[intOf];omega
     ·go_wp2
      go_roundw
      case rel=>exact⟨k+1,by go_num,by omega,_,by rw[List.length_append,hD];rfl,by rw[List.map_append,hDs,List.take_add_one,hS,List.map_append];congr 1;show [SeM.st ⟨S.sub,_,L⟩]=[S.st];simp only[SeM.st,hL],hBq,hBVq⟩
      case measure=>simp[intOf];omega
   ·go_wp2
    go_returns
    have hkn:k=M.seats.length:=by omega
    have hDn:D.length=M.seats.length:=by omega
    rw[hkn,List.take_length] at hDs
    refine⟨_,rfl,_,hBd.mdAt hDn (by unfold maxLen;omega),?_,hBV,?_⟩
    ·rw[hM1];show (⟨M.text,M.marks,M.number,M.closed,M.readers,D.map (·.st)⟩:MS)=_;rw[hDs];rfl
    ·rintro j (hj | hj | ⟨S,hS,hj⟩)
     ·omega
     ·have h2:M1.sv.ownBlock=some j:=hj
      rw[hBd.sv] at h2
      injection h2 with h2
      have h3:gs=j:=h2
      omega
     ·exact (World.ownsRow.lt (hBd.slots S hS) j hj).1
 ·obtain⟨V1,hmk,hs1,hg1,hbV⟩:=uX w.drew M.seats.length (by omega)
  have hV1:Below w.heap.size w V1:=(Below.refl _ _).drew.trans hbV
  have hs1':V1.heap.size=w.heap.size+1:=hs1
  clear hs1
  rw[if_pos (by rfl)]
  go_simp
  (try go_wp2_with fail)
  refine hK.out _ _ ?_ (fun hHeld => ?_)
  ·exact Kx.out _ hV1
  clear hK K
  (try simp only[nSO])
  (refine aD (i:=8) rfl (by kernel_rfl) (fun K hK => ?_);rw[if_pos (by rfl)];go_simp;((go_at_call 132;refine (jV am cm M.marks _ (hrow.on hV1) (by omega)).mono ?_;rintro e w1 ⟨v1,rfl,hov,hb1⟩;obtain⟨an,cn,rfl⟩:=aF hov;have hw1:Below w.heap.size w w1:=hV1.trans (hb1.mono hV1.size)));(try go_wp2_with fail);refine hK.out _ _ ?_ (fun hHeld => ?_);(· (first | exact Kx.out _ hx28 | exact Kx.out _ hw1));clear hK K;(try simp only[nSO]))
  (refine np_t 27 ?_ ?_ ?_;rotate_left 1;(· (intro w hSw;(try dsimp only at hSw);go_simp;all_goals with_reducible rfl));(try simp only[nSO]))
  (refine aD (i:=28) rfl (by kernel_rfl) (fun K hK => ?_);rw[if_pos (by rfl)];go_simp;((have hx28:=hw1.alloc hw1.size (.cells (mdL { M with mv := .slice an M.marks.length cn,sv := .slice (some ⟨w.heap.size,0,none⟩) M.seats.length M.seats.length,seats:=[] }).toArray 136)));(try go_wp2_with fail);refine hK.out _ _ ?_ (fun hHeld => ?_);(· (first | exact Kx.out _ hx28 | exact Kx.out _ hw1));clear hK K;(try simp only[nSO]))
  (refine np_n ?_ ?_ ?_;rotate_left 1;(· (intro w hSw;(try dsimp only at hSw);go_simp;all_goals with_reducible rfl));(try simp only[nSO]))
  refine wpAnyH_done (by kernel_rfl) ?_ _
  refine NoPanic.normal ?_
  have hx28:=hw1.alloc hw1.size (.cells (mdL { M with mv := .slice an M.marks.length cn,sv := .slice (some ⟨w.heap.size,0,none⟩) M.seats.length M.seats.length,seats:=[] }).toArray 136)
  have hBd:Bld w.heap.size (w1.alloc (.cells #[.string M.text,.slice an M.marks.length cn,.int .i64 M.number,.bool M.closed,.int .i64 M.readers,.slice (some ⟨w.heap.size,0,none⟩) M.seats.length M.seats.length] 136)) w1.heap.size w.heap.size M.seats.length { M with mv := .slice an M.marks.length cn,sv := .slice (some ⟨w.heap.size,0,none⟩) M.seats.length M.seats.length,seats:=[] } []:=by
   refine⟨heap_alloc_new w1 _,rfl,?_,?_,Nat.zero_le _,(fun S hS=>by cases hS),(fun S hS=>by cases hS),(fun S hS=>by cases hS),by simp⟩
   ·exact gW (gP (Nat.zero_le _) hov) ((Below.refl _ w1).alloc (Nat.le_refl _) _)
   ·have hg2:=(hb1.block w.heap.size (by rw[hs1'];omega)).trans hg1
    exact (heap_alloc_old _ _ (Array.getElem?_eq_some_iff.1 hg2).1).trans hg2
  have hBV:Below w.heap.size w (w1.alloc (.cells #[.string M.text,.slice an M.marks.length cn,.int .i64 M.number,.bool M.closed,.int .i64 M.readers,.slice (some ⟨w.heap.size,0,none⟩) M.seats.length M.seats.length] 136)):=hx28
  have hbw:w.heap.size≤w1.heap.size:=hw1.size
  clear hHeld hx28 hmk hg1 hbV hV1 hw1 hb1 hov hs1'
  obtain⟨gs,hgsE⟩:∃ gs,gs=w.heap.size:=⟨_,rfl⟩
  have hgw:w.heap.size≤gs:=by omega
  have hBd':Bld w.heap.size (w1.alloc (.cells #[.string M.text,.slice an M.marks.length cn,.int .i64 M.number,.bool M.closed,.int .i64 M.readers,.slice (some ⟨gs,0,none⟩) M.seats.length M.seats.length] 136)) w1.heap.size gs M.seats.length { M with mv := .slice an M.marks.length cn,sv := .slice (some ⟨gs,0,none⟩) M.seats.length M.seats.length,seats:=[] } []:=by rw[hgsE];exact hBd
  have hBV':Below w.heap.size w (w1.alloc (.cells #[.string M.text,.slice an M.marks.length cn,.int .i64 M.number,.bool M.closed,.int .i64 M.readers,.slice (some ⟨gs,0,none⟩) M.seats.length M.seats.length] 136)):=by rw[hgsE];exact hBV
  rw[← hgsE]
  clear hBd hBV hgsE
  have hBd:=hBd'
  have hBV:=hBV'
  clear hBd' hBV'
  generalize w1.alloc (.cells #[.string M.text,.slice an M.marks.length cn,.int .i64 M.number,.bool M.closed,.int .i64 M.readers,.slice (some ⟨gs,0,none⟩) M.seats.length M.seats.length] 136)=V at *
  generalize w1.heap.size=b' at *
  obtain⟨M1,hM1⟩:∃ M1:MM,M1={ M with mv := .slice an M.marks.length cn,sv := .slice (some ⟨gs,0,none⟩) M.seats.length M.seats.length,seats:=[] }:=⟨_,rfl⟩
  rw[← hM1] at hBd
  have c5:∀ W D,Bld w.heap.size W b' gs M.seats.length M1 D→W.cell? ⟨b',5,none⟩=some (.slice (some ⟨gs,0,none⟩) M.seats.length M.seats.length):=fun W D h=>by rw[← h.sv];simp[World.cell?,h.blk,mdL]
  have C5:=Lib.hid c5
  clear c5
  have s5:=(Kx.out _ hBV).2.2.2.2.2
  have hgb:b'<V.heap.size∧gs<V.heap.size:=⟨(Array.getElem?_eq_some_iff.1 hBd.blk).1,(Array.getElem?_eq_some_iff.1 hBd.seats).1⟩
  go_wp2
  go_loopw [4,5,6,43,44,45,46,47,48,49,50,51,52,53,54,55,56,57,58,59,60,61,62,63,64,65,66,67,68,69,70,71,72,73,74,75,76,77,78,79,80,81,82,83,84,85,86,87,88,89,90,91] (fun x4 x5 x6 i x44 x45 x46 x47 x48 x49 x50 x51 x52 x53 x54 x55 x56 x57 x58 x59 x60 x61 x62 x63 x64 x65 x66 x67 x68 x69 x70 x71 x72 x73 x74 x75 x76 x77 x78 x79 x80 x81 x82 x83 x84 x85 x86 x87 x88 x89 x90 x91 wr=>∃ k:Nat,i = .int .i64 k∧k≤M.seats.length∧∃ D:List SeM,D.length=k∧D.map (·.st)=(M.seats.take k).map (·.st)∧Bld w.heap.size wr b' gs M.seats.length M1 D∧Below w.heap.size w wr) (fun x4 x5 x6 i x44 x45 x46 x47 x48 x49 x50 x51 x52 x53 x54 x55 x56 x57 x58 x59 x60 x61 x62 x63 x64 x65 x66 x67 x68 x69 x70 x71 x72 x73 x74 x75 x76 x77 x78 x79 x80 x81 x82 x83 x84 x85 x86 x87 x88 x89 x90 x91 wr=>M.seats.length-(intOf i).toNat)
  case atStart=>exact⟨0,rfl,by omega,[],rfl,rfl,hBd,hBV⟩
  case round =>
   obtain⟨k,rfl,hk,D,hD,hDs,hBd,hBV⟩:=hrel
   obtain⟨wo,rfl⟩:∃ wo,wo=wr:=⟨wr,rfl⟩
   by_cases hlt:k<M.seats.length
   ·have hS:=List.getElem?_eq_getElem hlt
    generalize hSg:M.seats[k]=S at hS
    obtain⟨hl8,hm64⟩:=HSL.out S (List.mem_of_getElem? hS)
    obtain⟨gs0,cs0,g0,cp0,cur0,hA0⟩:=h.seatAt hS
    have hag:ag=some ⟨gs0,0,none⟩∧cs=cs0:=by
     have:=hsv.symm.trans hA0.sv
     injection this with e1 _ e3
     exact⟨e1,e3⟩
    have hA:=hA0.below hBV
    have hMr:=h.below hBV
    obtain⟨a0,a1⟩:=And.intro hA.c0 hA.c1
    obtain⟨hag1,hag2⟩:=hag
    subst hag1
    subst hag2
    have hk6:Below wo.heap.size wo (wo.alloc (.cells #[.bool S.sub,.slice (some ⟨g0,0,none⟩) S.sl.length cp0] 139)):=(Below.refl _ wo).alloc (Nat.le_refl _) _
    have hz6:=heap_alloc_new wo (.cells #[.bool S.sub,.slice (some ⟨g0,0,none⟩) S.sl.length cp0] 139)
    have hs6:(wo.alloc (.cells #[.bool S.sub,.slice (some ⟨g0,0,none⟩) S.sl.length cp0] 139)).heap.size=wo.heap.size+1:=World.size_alloc ..
    have hgl:b'<wo.heap.size∧gs<wo.heap.size:=⟨(Array.getElem?_eq_some_iff.1 hBd.blk).1,(Array.getElem?_eq_some_iff.1 hBd.seats).1⟩
    have hbgs:b'≠gs:=fun e=>by subst e;have:=hBd.blk;rw[hBd.seats] at this;injection this with this;injection this with _ h2 _;exact absurd h2 (by decide)
    have hg0w:g0<w.heap.size:=(Array.getElem?_eq_some_iff.1 hA0.blk).1
    have r5:=C5.out _ _ hBd
    go_wp2
    generalize wo.alloc (.cells #[.bool S.sub,.slice (some ⟨g0,0,none⟩) S.sl.length cp0] 139)=W6 at *
    have hBd6:=hBd.below hk6
    have hBV6:=hBV.trans (hk6.mono hBV.size)
    have kx7:∀ W,Below W6.heap.size W6 W→W.cell? ⟨b',5,none⟩=some (.slice (some ⟨gs,0,none⟩) M.seats.length M.seats.length)∧W.cell? ⟨wo.heap.size,0,none⟩=some (.bool S.sub)∧W.cell? ⟨wo.heap.size,1,none⟩=some (.slice (some ⟨g0,0,none⟩) S.sl.length cp0):=fun W hW=>by
     have h6:=(hW.block wo.heap.size (by omega)).trans hz6
     exact⟨C5.out _ _ (hBd6.below hW),by simp[World.cell?,h6],by simp[World.cell?,h6]⟩
    have Kx7:=Lib.hid kx7
    clear kx7
    have hx7:=(Below.refl W6.heap.size W6).drew
    have hrc:=h.slots S (List.mem_of_getElem? hS)
    rw[hA0.v] at hrc
    refine wp_region_noPanic ?_
    refine wp_region_held_drew (S:=fun W=>W.cell? ⟨b',5,none⟩=some (.slice (some ⟨gs,0,none⟩) M.seats.length M.seats.length)∧W.cell? ⟨wo.heap.size,0,none⟩=some (.bool S.sub)∧W.cell? ⟨wo.heap.size,1,none⟩=some (.slice (some ⟨g0,0,none⟩) S.sl.length cp0)) (by kernel_rfl) ?_ (fun hHeld => ?_)
    ·first | exact hx12' | exact Kx7.out _ hx9 | exact Kx7.out _ hx7
    iterate 9 (((first | refine np_n ?_ ?_ ?_ | refine np_t 0 ?_ ?_ ?_);rotate_left 1;(· (intro w hSw;(try dsimp only at hSw);go_simp;all_goals with_reducible rfl));(try simp only[nSO])))
    (refine aD (i:=9) rfl (by kernel_rfl) (fun K hK => ?_);rw[if_pos (by rfl)];go_simp;((go_at_call 154;refine (aAg g0 cp0 S.sl _ (by omega) hA0.cap (fun j u hj=>cell_below (rA hrc j u hj).1 hBV6.drew) (fun x hx=>(by obtain⟨_,_,e⟩:=aF (h.smarks S (List.mem_of_getElem? hS) x hx);rw[e];rfl))).mono ?_;rintro e w7 ⟨v,rfl,hov,hne,hb7⟩;obtain⟨g',cv,rfl⟩:=aB9 hov hne;have hx9:Below W6.heap.size W6 w7:=hx7.trans hb7;have hBd7:=hBd6.below hx9;obtain⟨p0,p1,pf⟩:=hBd7.cell (show (D++List.replicate (M.seats.length-D.length) zSe)[k]? = some zSe from (by rw[oK M.seats.length D.length (by omega),List.getElem?_append_right (by omega),← hD,Nat.sub_self];rfl));have p0':w7.cell? ⟨gs,k*2,none⟩=some (.bool false):=p0;have p1':w7.cell? ⟨gs,k*2+1,none⟩=some (.slice none 0 0):=p1;have pf0:=pf (k*2);have pf1:=pf (k*2+1);have hk8:aC (fun j=>j=gs) w7 ((w7.setCell ⟨gs,k*2,none⟩ (.bool S.sub)).setCell ⟨gs,k*2+1,none⟩ (.slice (some ⟨g',0,none⟩) S.sl.length cv)):=(aC.set (F:=fun j=>j=gs) (a:=⟨gs,k*2,none⟩) rfl _).trans (aC.set (F:=fun j=>j=gs) (a:=⟨gs,k*2+1,none⟩) rfl _);have hx12:=And.intro (hk8.cell hbgs (Kx7.out _ hx9).1) (And.intro (hk8.cell (show ¬ (wo.heap.size=gs) by omega) (Kx7.out _ hx9).2.1) (hk8.cell (show ¬ (wo.heap.size=gs) by omega) (Kx7.out _ hx9).2.2));clear p0 p1 pf));(try go_wp2_with fail);refine hK.out _ _ ?_ (fun hHeld => ?_);(· (first | exact hx12' | exact Kx7.out _ hx9 | exact Kx7.out _ hx7));clear hK K;(try simp only[nSO]))
    iterate 2 ((refine np_n ?_ ?_ ?_;rotate_left 1;(· (intro w hSw;(try dsimp only at hSw);go_simp;all_goals with_reducible rfl));(try simp only[nSO])))
    (refine aD (i:=12) rfl (by kernel_rfl) (fun K hK => ?_);rw[if_pos (by rfl)];go_simp;((have hx12':=hx12));(try go_wp2_with fail);refine hK.out _ _ ?_ (fun hHeld => ?_);(· (first | exact hx12' | exact Kx7.out _ hx9 | exact Kx7.out _ hx7));clear hK K;(try simp only[nSO]))
    refine wpAnyH_done (by kernel_rfl) ?_ _
    refine NoPanic.normal ?_
    have hbl:=hBd7.blk
    have hsz7:=hx9.size
    have hov':w7.ownsRow wo.heap.size 168 4 (.slice (some ⟨g',0,none⟩) S.sl.length cv) S.sl.length (slL S.sl):=gP (by show wo.heap.size≤W6.heap.size;omega) hov
    have hg':wo.heap.size+1≤g':=by have:=(World.ownsRow.lt hov g' rfl).1;have e:W6.drew.heap.size=W6.heap.size:=rfl;omega
    have hkk8:∀ j,j<w7.heap.size→j≠gs→((w7.setCell ⟨gs,k*2,none⟩ (.bool S.sub)).setCell ⟨gs,k*2+1,none⟩ (.slice (some ⟨g',0,none⟩) S.sl.length cv)).heap[j]? = w7.heap[j]? := fun j _ hn=>(aO _ _ _ _ hn).trans (aO _ _ _ _ hn)
    have hBd8:=hBd.push (W':=((w7.setCell ⟨gs,k*2,none⟩ (.bool S.sub)).setCell ⟨gs,k*2+1,none⟩ (.slice (some ⟨g',0,none⟩) S.sl.length cv))) ⟨S.sub,.slice (some ⟨g',0,none⟩) S.sl.length cv,S.sl⟩ (by omega) (by
      have h1:=hBd7.seats
      rw[oK M.seats.length D.length (by omega)] at h1
      have h2:=jM (jM h1 (k*2) (.bool S.sub)) (k*2+1) (.slice (some ⟨g',0,none⟩) S.sl.length cv)
      rw[← hD,aFi D zSe _ S.sub,aAf D _ _ _ S.sl] at h2
      rw[← hD]
      exact h2) (fun j hj hn=>(hkk8 j (by omega) hn).trans ((hx9.block j (by omega)).trans (hk6.block j hj))) hBV.size
      (dA hov' hBd7.seats (by decide) hkk8) (by simp[Value.ownBlock]) (fun x hx=>dA (gW (gW ((h.below hBV).smarks S (List.mem_of_getElem? hS) x hx) hk6) hx9) hBd7.seats (by decide) hkk8)
    have hBV7:=hBV6.trans (hx9.mono hBV6.size)
    have hB8:Below w.heap.size w ((w7.setCell ⟨gs,k*2,none⟩ (.bool S.sub)).setCell ⟨gs,k*2+1,none⟩ (.slice (some ⟨g',0,none⟩) S.sl.length cv)) :=
     ⟨hk8.os.trans hBV7.os,hk8.tape.trans hBV7.tape,hk8.output.trans hBV7.output,Nat.le_trans hBV7.size hk8.size,fun j hj=>(hkk8 j (by have:=hBV7.size;omega) (by omega)).trans (hBV7.block j hj)⟩
    have hx1:=hx12.2.2
    have hv8:((w7.setCell ⟨gs,k*2,none⟩ (.bool S.sub)).setCell ⟨gs,k*2+1,none⟩ (.slice (some ⟨g',0,none⟩) S.sl.length cv)).cell? ⟨gs,k*2+1,none⟩=some (.slice (some ⟨g',0,none⟩) S.sl.length cv):=by
     have h1:=hBd7.seats
     have h2:=jM (jM h1 (k*2) (.bool S.sub)) (k*2+1) (.slice (some ⟨g',0,none⟩) S.sl.length cv)
     have:=(hBd8.cell (show (D++[(⟨S.sub,.slice (some ⟨g',0,none⟩) S.sl.length cv,S.sl⟩:SeM)]++List.replicate (M.seats.length-(D++[(⟨S.sub,.slice (some ⟨g',0,none⟩) S.sl.length cv,S.sl⟩:SeM)]).length) zSe)[k]? = some ⟨S.sub,.slice (some ⟨g',0,none⟩) S.sl.length cv,S.sl⟩ from (by rw[List.append_assoc,List.getElem?_append_right (by omega),← hD,Nat.sub_self];rfl))).2.1
     exact this
    have hb8:=hx12.1
    clear hHeld Kx7 hx7 hx9 hx12 hk8 hov hne hb7 hbl hsz7 hov' hkk8 hBd7 p0' p1' pf0 pf1 hrc hBV7 hBd6 hz6 hs6 hk6 hBV6
    generalize ((w7.setCell ⟨gs,k*2,none⟩ (.bool S.sub)).setCell ⟨gs,k*2+1,none⟩ (.slice (some ⟨g',0,none⟩) S.sl.length cv))=W8 at *
    go_wp2
    go_loopw [6,69,70,71,72,73,74,75,76,77,78,79,80,81,82,83,84,85,86,87,88,89,90] (fun z6 i2 z70 z71 z72 z73 z74 z75 z76 z77 z78 z79 z80 z81 z82 z83 z84 z85 z86 z87 z88 z89 z90 wq=>∃ j:Nat,i2 = .int .i64 j∧j≤S.sl.length∧∃ L:List SnM,L.map (·.s)=S.sl.map (·.s)∧Bld w.heap.size wq b' gs M.seats.length M1 (D++[⟨S.sub,.slice (some ⟨g',0,none⟩) S.sl.length cv,L⟩])∧Below w.heap.size w wq∧wq.cell? ⟨wo.heap.size,1,none⟩=some (.slice (some ⟨g0,0,none⟩) S.sl.length cp0)) (fun z6 i2 z70 z71 z72 z73 z74 z75 z76 z77 z78 z79 z80 z81 z82 z83 z84 z85 z86 z87 z88 z89 z90 wq=>S.sl.length-(intOf i2).toNat)
    case atStart=>exact⟨0,rfl,by omega,S.sl,rfl,hBd8,hB8,hx1⟩
    case round =>
     obtain⟨j,rfl,hj,L,hL,hBq,hBVq,hxq⟩:=hrel
     have hLl:L.length=S.sl.length:=by have:=congrArg List.length hL;simpa using this
     have kv:∀ W L,L.length=S.sl.length→Bld w.heap.size W b' gs M.seats.length M1 (D++[⟨S.sub,.slice (some ⟨g',0,none⟩) S.sl.length cv,L⟩])→W.cell? ⟨gs,k*2+1,none⟩=some (.slice (some ⟨g',0,none⟩) S.sl.length cv):=fun W L _ hb =>
      (hb.cell (show (D++[(⟨S.sub,.slice (some ⟨g',0,none⟩) S.sl.length cv,L⟩:SeM)]++List.replicate (M.seats.length-(D++[(⟨S.sub,.slice (some ⟨g',0,none⟩) S.sl.length cv,L⟩:SeM)]).length) zSe)[k]? = some ⟨S.sub,.slice (some ⟨g',0,none⟩) S.sl.length cv,L⟩ from (by rw[List.append_assoc,List.getElem?_append_right (by omega),← hD,Nat.sub_self];rfl))).2.1
     have Kv:=Lib.hid kv
     clear kv
     by_cases hlj:j<S.sl.length
     ·have hx:=List.getElem?_eq_getElem hlj
      generalize hxg:S.sl[j]=x at hx
      have hy:=List.getElem?_eq_getElem (show j<L.length by omega)
      generalize hyg:L[j]=y at hy
      have hys:y.s=x.s:=by
       have h1:(L.map (·.s))[j]? = (S.sl.map (·.s))[j]? := by rw[hL]
       rw[List.getElem?_map,List.getElem?_map,hx,hy] at h1
       injection h1
      have hAq:=hA0.below hBVq
      have hsn:=hAq.sn j x hx
      obtain⟨ax,cx,hxv⟩:=aF hsn.marks
      have hxm:=hsn.marks
      rw[hxv] at hxm
      obtain⟨hxrow,hxc⟩:=jU rfl hxm
      have hm6:=hm64 x (List.mem_of_getElem? hx)
      have s2:=hsn.cells.1.2.2.1
      rw[hxv] at s2
      have kx11:∀ W,aC (fun i=>i=g') wr W→W.cell? ⟨b',5,none⟩=some (.slice (some ⟨gs,0,none⟩) M.seats.length M.seats.length)∧W.cell? ⟨gs,k*2+1,none⟩=some (.slice (some ⟨g',0,none⟩) S.sl.length cv)∧W.cell? ⟨wo.heap.size,1,none⟩=some (.slice (some ⟨g0,0,none⟩) S.sl.length cp0)∧W.cell? ⟨g0,j*4+2,none⟩=some (.slice ax x.s.marks.length cx):=fun W hW =>
       ⟨hW.cell (show ¬ (b'=g') by omega) (C5.out _ _ hBq),hW.cell (show ¬ (gs=g') by omega) (Kv.out _ _ hLl hBq),hW.cell (show ¬ (wo.heap.size=g') by omega) hxq,hW.cell (show ¬ (g0=g') by have:=hBV.size;omega) s2⟩
      have Kx11:=Lib.hid kx11
      clear kx11
      have hx11:aC (fun i=>i=g') wr wr.drew:=(aC.refl _ _).drew
      go_wp2
      refine wp_region_noPanic ?_
      refine wp_region_held_drew (S:=fun W=>W.cell? ⟨b',5,none⟩=some (.slice (some ⟨gs,0,none⟩) M.seats.length M.seats.length)∧W.cell? ⟨gs,k*2+1,none⟩=some (.slice (some ⟨g',0,none⟩) S.sl.length cv)∧W.cell? ⟨wo.heap.size,1,none⟩=some (.slice (some ⟨g0,0,none⟩) S.sl.length cp0)∧W.cell? ⟨g0,j*4+2,none⟩=some (.slice ax x.s.marks.length cx)) (by kernel_rfl) ?_ (fun hHeld => ?_)
      ·first | exact hx18' | exact Kx11.out _ hx15 | exact Kx11.out _ hx11
      iterate 15 (((first | refine np_n ?_ ?_ ?_ | refine np_t 0 ?_ ?_ ?_);rotate_left 1;(· (intro w hSw;(try dsimp only at hSw);go_simp;all_goals with_reducible rfl));(try simp only[nSO])))
      (refine aD (i:=15) rfl (by kernel_rfl) (fun K hK => ?_);rw[if_pos (by rfl)];go_simp;((go_at_call 132;refine (jV ax cx x.s.marks _ (hxrow.on (Below.refl _ _).drew) (by omega)).mono ?_;rintro e w9 ⟨v9,rfl,hov9,hb9⟩;obtain⟨a9,c9,rfl⟩:=aF hov9;have hb9':Below wr.heap.size wr w9:=(Below.refl _ _).drew.trans hb9;have hx15:aC (fun i=>i=g') wr w9:=aC.of_below hb9';have hB9:=hBq.below hb9';obtain⟨hB10,hk10,_⟩:=hB9.setMv (g:=g') (cp:=cv) (mv := .slice a9 x.s.marks.length c9) (by rw[hLl]) hy (by rw[hys];exact gP (Nat.zero_le _) hov9);have hq9:=rA (hB9.slots ⟨S.sub,.slice (some ⟨g',0,none⟩) S.sl.length cv,L⟩ (by simp)) (j*4+2) y.mv (by have:=aDf L j y hy;have h2:(((slL L).drop (j*4)).take 4)[2]? = some y.mv:=(by rw[this];rfl);rwa [List.getElem?_take,if_pos (by omega),List.getElem?_drop] at h2);obtain⟨q1,q2⟩:=hq9;have hx18:=Kx11.out _ (hx15.trans hk10)));(try go_wp2_with fail);refine hK.out _ _ ?_ (fun hHeld => ?_);(· (first | exact hx18' | exact Kx11.out _ hx15 | exact Kx11.out _ hx11));clear hK K;(try simp only[nSO]))
      iterate 2 ((refine np_n ?_ ?_ ?_;rotate_left 1;(· (intro w hSw;(try dsimp only at hSw);go_simp;all_goals with_reducible rfl));(try simp only[nSO])))
      (refine aD (i:=18) rfl (by kernel_rfl) (fun K hK => ?_);rw[if_pos (by rfl)];go_simp;((have hx18':=hx18));(try go_wp2_with fail);refine hK.out _ _ ?_ (fun hHeld => ?_);(· (first | exact hx18' | exact Kx11.out _ hx15 | exact Kx11.out _ hx11));clear hK K;(try simp only[nSO]))
      refine wpAnyH_done (by kernel_rfl) ?_ _
      refine NoPanic.normal ?_
      have hBV10:Below w.heap.size w (w9.setCell ⟨g',j*4+2,none⟩ (.slice a9 x.s.marks.length c9)):=by
       have h1:=hBVq.trans (hb9'.mono hBVq.size)
       have h2:=hBV.size
       exact⟨hk10.os.trans h1.os,hk10.tape.trans h1.tape,hk10.output.trans h1.output,Nat.le_trans h1.size hk10.size,fun i hi=>(aO _ _ _ _ (show i≠g' by omega)).trans (h1.block i hi)⟩
      clear hHeld Kx11
      go_wp2
      go_roundw
      case rel=>exact⟨j+1,by go_num,by omega,_,by rw[List.map_set,hL];show (S.sl.map (fun y:SnM=>y.s)).set j y.s=_;rw[hys];exact aFm (by rw[List.getElem?_map,hx];rfl),hB10,hBV10,hx18.2.2.1⟩
      case measure=>simp[intOf];omega
     ·go_wp2
      go_roundw
      case rel=>exact⟨k+1,by go_num,by omega,_,by rw[List.length_append,hD];rfl,by rw[List.map_append,hDs,List.take_add_one,hS,List.map_append];congr 1;show [SeM.st ⟨S.sub,_,L⟩]=[S.st];simp only[SeM.st,hL],hBq,hBVq⟩
      case measure=>simp[intOf];omega
   ·go_wp2
    go_returns
    have hkn:k=M.seats.length:=by omega
    have hDn:D.length=M.seats.length:=by omega
    rw[hkn,List.take_length] at hDs
    refine⟨_,rfl,_,hBd.mdAt hDn (by unfold maxLen;omega),?_,hBV,?_⟩
    ·rw[hM1];show (⟨M.text,M.marks,M.number,M.closed,M.readers,D.map (·.st)⟩:MS)=_;rw[hDs];rfl
    ·rintro j (hj | hj | ⟨S,hS,hj⟩)
     ·omega
     ·have h2:M1.sv.ownBlock=some j:=hj
      rw[hBd.sv] at h2
      injection h2 with h2
      have h3:gs=j:=h2
      omega
     ·exact (World.ownsRow.lt (hBd.slots S hS) j hj).1
end Go.Proofs.YtdeiocppghhfdaaGreat
