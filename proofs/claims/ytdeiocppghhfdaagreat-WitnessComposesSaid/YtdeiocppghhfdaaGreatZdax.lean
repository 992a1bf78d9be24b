/- Texts, one behind another. -/
import Derived.Test.YtdeiocppghhfdaaGreatZdaw
import Derived.Test.YtdeiocppghhfdaaGreatZdav
import Derived.Deep.Slices
set_option linter.unusedVariables false
set_option linter.unusedSimpArgs false
set_option maxRecDepth 100000
set_option maxHeartbeats 8000000
namespace Go.Proofs.YtdeiocppghhfdaaGreat
open Go.RowKit Go.WideShapes Go.ChangeShapes Go.Deep
section
variable {H:Type} {enc:TypeId × Value→H} {P:Program} {w:World} {base:Nat} {spare:Nat→Bool} {held:Bool}
theorem iD {w:World} {a:Addr} {v:Value} (h:w.cell? a=some v):a.block<w.heap.size:=by
 rcases Nat.lt_or_ge a.block w.heap.size with h' | h'
 ·exact h'
 ·simp[World.cell?,Array.getElem?_eq_none h'] at h
end
end Go.Proofs.YtdeiocppghhfdaaGreat
namespace Go.Proofs.YtdeiocppghhfdaaGreat
open Go.RowKit Go.WideShapes Go.ChangeShapes Go.Deep
def cfgL (c:CfgV):List Value:=[.int .i64 c.slots,.int .u64 c.gens,.int .i64 c.clients,.int .i64 c.readers,.int .i64 c.queue,.int .i64 c.batch,.int .i64 c.feed,.string c.text]
theorem aAk (c:CfgV):(cfgL c).length=8:=rfl
section
variable {H:Type} {enc:TypeId × Value→H} {w:World} {base:Nat} {spare:Nat→Bool} {held:Bool}
end
end Go.Proofs.YtdeiocppghhfdaaGreat
namespace Go.Proofs.YtdeiocppghhfdaaGreat
open Go.RowKit Go.Lib Go.Shelf
theorem aQi {c:CfgV} {n r:Nat} {D:List SeM} (hn:c.clients=n) (hr:c.readers=r) (hD:D.map (·.st)=List.replicate n ⟨false,List.replicate r rW⟩) (sv:Value):(⟨c.text,.slice none 0 0,[],0,false,r,sv,D⟩:MM).st=newS c:=by
 show (⟨c.text,[],0,false,r,D.map (·.st)⟩:MS)=_
 rw[hD]
 unfold newS
 rw[hn,hr]
 rfl
theorem aI7 (c:CfgV) (w:World):Calls Tryz.prog 49 #[c.v] w fun e w'=>(cfgE c≠0∧e = .returned (.tuple #[.pointer none,.int .i64 (cfgE c)])∧Below w.heap.size w w') ∨
  (cfgE c=0∧∃ b M,e = .returned (.tuple #[.pointer (some ⟨b,0,none⟩),.int .i64 0])∧MdAt w' b M∧M.st=newS c∧Below w.heap.size w w'∧∀ k,M.fp b k→w.heap.size≤k):=by
 have hB0:=(Below.refl w.heap.size w).alloc (Nat.le_refl _) (.cells #[.int .i64 c.slots,.int .u64 c.gens,.int .i64 c.clients,.int .i64 c.readers,.int .i64 c.queue,.int .i64 c.batch,.int .i64 c.feed,.string c.text] 24)
 have hz0:=heap_alloc_new w (.cells #[.int .i64 c.slots,.int .u64 c.gens,.int .i64 c.clients,.int .i64 c.readers,.int .i64 c.queue,.int .i64 c.batch,.int .i64 c.feed,.string c.text] 24)
 have hck:=fun W=>zP c W
 unfold CfgV.v at hck ⊢
 by_cases he:cfgE c=0
 ·rw[he] at hck
  have hcl:0≤c.clients∧c.clients≤8∧0≤c.readers∧c.readers≤8:=by
   unfold cfgE at he
   split at he
   ·rename_i hb
    simp[cfgB,inB] at hb
    omega
   ·cases he
  obtain⟨n,hn⟩:∃ n:Nat,c.clients=n:=⟨c.clients.toNat,by omega⟩
  obtain⟨r,hr⟩:∃ n:Nat,c.readers=n:=⟨c.readers.toNat,by omega⟩
  have hn8:n≤8:=by omega
  have hr8:r≤8:=by omega
  refine Calls.mono (R:=fun e w'=>∃ b M,e = .returned (.tuple #[.pointer (some ⟨b,0,none⟩),.int .i64 0])∧MdAt w' b M∧M.st=newS c∧Below w.heap.size w w'∧∀ k,M.fp b k→w.heap.size≤k) ?_ (fun e w' h => .inr ⟨he,h⟩)
  clear he hcl
  rw[hn,hr] at hck hz0 hB0
  go_enter Tryz.func49,Tryz.ntmps49
  go_wp2_with (go_at_call 98;refine (hck _).mono ?_;rintro e w1 ⟨rfl,hb1⟩;have hB1:=hB0.trans (hb1.mono (by simp));have hz1:=(hb1.block _ (by simp)).trans hz0;clear hck hz0 hb1 hB0)
  have kx:∀ W,Below w1.heap.size w1 W→W.cell? ⟨w.heap.size,7,none⟩=some (.string c.text)∧W.cell? ⟨w.heap.size,3,none⟩=some (.int .i64 r)∧W.cell? ⟨w.heap.size,2,none⟩=some (.int .i64 n):=fun W hW=>by
   have hz:=(hW.block _ (Array.getElem?_eq_some_iff.1 hz1).1).trans hz1
   refine⟨?_,?_,?_⟩<;>simp[World.cell?,hz]
  have Kx:=Lib.hid kx
  clear kx
  have hx0:=(Below.refl w1.heap.size w1).drew
  obtain⟨V1,hmk,hs1,hg1,hbV⟩:=uX w1.drew n (by omega)
  have hx6:=hx0.trans hbV
  have hx8:=hx6.alloc hx6.size (.cells (mdL ⟨c.text,.slice none 0 0,[],0,false,r,.slice (some ⟨w1.heap.size,0,none⟩) n n,[]⟩).toArray 136)
  have hs1':V1.heap.size=w1.heap.size+1:=hs1
  clear hs1
  refine wp_region_noPanic ?_
  refine wp_region_held_drew (S:=fun W=>W.cell? ⟨w.heap.size,7,none⟩=some (.string c.text)∧W.cell? ⟨w.heap.size,3,none⟩=some (.int .i64 r)∧W.cell? ⟨w.heap.size,2,none⟩=some (.int .i64 n)) (by kernel_rfl) ?_ (fun hHeld => ?_)
  ·first | exact Kx.out _ hx8' | exact Kx.out _ hx6' | exact Kx.out _ hx0
  iterate 6 (((first | refine np_n ?_ ?_ ?_ | refine np_t 0 ?_ ?_ ?_);rotate_left 1;(· (intro w hSw;(try dsimp only at hSw);go_simp;all_goals with_reducible rfl));(try simp only[nSO])))
  (refine aD (i:=6) rfl (by kernel_rfl) (fun K hK => ?_);rw[if_pos (by rfl)];go_simp;((have hx6':=hx6));(try go_wp2_with fail);refine hK.out _ _ ?_ (fun hHeld => ?_);(· (first | exact Kx.out _ hx8' | exact Kx.out _ hx6' | exact Kx.out _ hx0));clear hK K;(try simp only[nSO]))
  (refine np_n ?_ ?_ ?_;rotate_left 1;(· (intro w hSw;(try dsimp only at hSw);go_simp;all_goals with_reducible rfl));(try simp only[nSO]))
  (refine aD (i:=8) rfl (by kernel_rfl) (fun K hK => ?_);rw[if_pos (by rfl)];go_simp;((have hx8':=hx8));(try go_wp2_with fail);refine hK.out _ _ ?_ (fun hHeld => ?_);(· (first | exact Kx.out _ hx8' | exact Kx.out _ hx6' | exact Kx.out _ hx0));clear hK K;(try simp only[nSO]))
  (refine np_n ?_ ?_ ?_;rotate_left 1;(· (intro w hSw;(try dsimp only at hSw);go_simp;all_goals with_reducible rfl));(try simp only[nSO]))
  refine wpAnyH_done (by kernel_rfl) ?_ _
  refine NoPanic.normal ?_
  obtain⟨M0,hM0⟩:∃ M0:MM,M0=⟨c.text,.slice none 0 0,[],0,false,r,.slice (some ⟨w1.heap.size,0,none⟩) n n,[]⟩:=⟨_,rfl⟩
  have hBd:Bld w.heap.size (V1.alloc (.cells #[.string c.text,.slice none 0 0,.int .i64 0,.bool false,.int .i64 r,.slice (some ⟨w1.heap.size,0,none⟩) n n] 136)) (w1.heap.size+1) w1.heap.size n M0 []:=by
   subst hM0
   refine⟨?_,rfl,⟨rfl,.inl ⟨rfl,rfl⟩⟩,?_,Nat.zero_le _,(fun S hS=>by cases hS),(fun S hS=>by cases hS),(fun S hS=>by cases hS),by simp⟩
   ·rw[← hs1'];exact heap_alloc_new V1 _
   ·exact (heap_alloc_old _ _ (Array.getElem?_eq_some_iff.1 hg1).1).trans hg1
  have hBV:Below w.heap.size w (V1.alloc (.cells #[.string c.text,.slice none 0 0,.int .i64 0,.bool false,.int .i64 r,.slice (some ⟨w1.heap.size,0,none⟩) n n] 136)):=hB1.trans (hx8.mono hB1.size)
  have hc3:=(Kx.out _ hx8).2.1
  have hc3':(V1.alloc (.cells #[.string c.text,.slice none 0 0,.int .i64 0,.bool false,.int .i64 r,.slice (some ⟨w1.heap.size,0,none⟩) n n] 136)).cell? ⟨w.heap.size,3,none⟩=some (.int .i64 r):=hc3
  have hwg:w.heap.size<w1.heap.size:=(Array.getElem?_eq_some_iff.1 hz1).1
  clear hc3 hx0 hx6 hx8 hHeld Kx hmk hbV hg1 hz1
  generalize V1.alloc (.cells #[.string c.text,.slice none 0 0,.int .i64 0,.bool false,.int .i64 r,.slice (some ⟨w1.heap.size,0,none⟩) n n] 136)=V at *
  have hsv:M0.sv = .slice (some ⟨w1.heap.size,0,none⟩) n n:=hBd.sv
  have c5:∀ W D,Bld w.heap.size W (w1.heap.size+1) w1.heap.size n M0 D→W.cell? ⟨w1.heap.size+1,5,none⟩=some (.slice (some ⟨w1.heap.size,0,none⟩) n n):=fun W D h=>by rw[← hsv];simp[World.cell?,h.blk,mdL]
  have C5:=Lib.hid c5
  have d5:=c5 _ _ hBd
  clear c5
  go_wp2
  go_loopw [6,26,27,28,29,30,31,32,33,34,35,36,37,38,39] (fun x6 i x27 x28 x29 x30 x31 x32 x33 x34 x35 x36 x37 x38 x39 wr=>∃ k:Nat,i = .int .i64 k∧k≤n∧∃ D:List SeM,D.length=k∧D.map (·.st)=List.replicate k ⟨false,List.replicate r rW⟩∧Bld w.heap.size wr (w1.heap.size+1) w1.heap.size n M0 D∧Below w.heap.size w wr∧wr.cell? ⟨w.heap.size,3,none⟩=some (.int .i64 r)) (fun x6 i x27 x28 x29 x30 x31 x32 x33 x34 x35 x36 x37 x38 x39 wr=>n-(intOf i).toNat)
  case atStart=>exact⟨0,rfl,by omega,[],rfl,rfl,hBd,hBV,hc3'⟩
  case round =>
   obtain⟨k,rfl,hk,D,hD,hDs,hBd,hBV,hc3⟩:=hrel
   by_cases hlt:k<n
   ·have hkD:D.length<n:=by omega
    have e5:=C5.out _ _ hBd
    obtain⟨V2,hmk,hs2,hg2,hb2⟩:=aHy wr.drew r (by omega)
    have hb2':Below wr.heap.size wr V2:=(Below.refl _ _).drew.trans hb2
    have hBd2:=hBd.below hb2'
    have hgk:(D++List.replicate (n-D.length) zSe)[k]? = some zSe:=by
     rw[oK n D.length hkD,List.getElem?_append_right (by omega),← hD,Nat.sub_self];rfl
    obtain⟨_,a1,af⟩:=hBd2.cell hgk
    have af1:=af (k*2+1)
    have a1':V2.cell? ⟨w1.heap.size,k*2+1,none⟩=some (.slice none 0 0):=a1
    clear a1 af
    have hs2':V2.heap.size=wr.heap.size+1:=hs2
    have q0:wr.drew.cell? ⟨w1.heap.size+1,5,none⟩=some (.slice (some ⟨w1.heap.size,0,none⟩) n n)∧wr.drew.cell? ⟨w.heap.size,3,none⟩=some (.int .i64 r):=⟨e5,hc3⟩
    have q2:V2.cell? ⟨w1.heap.size+1,5,none⟩=some (.slice (some ⟨w1.heap.size,0,none⟩) n n)∧V2.cell? ⟨w.heap.size,3,none⟩=some (.int .i64 r):=⟨cell_below e5 hb2',cell_below hc3 hb2'⟩
    have hk3:aC (fun j=>j=w1.heap.size) V2 (V2.setCell ⟨w1.heap.size,k*2+1,none⟩ (.slice (some ⟨wr.heap.size,0,none⟩) r r)):=aC.set (F:=fun j=>j=w1.heap.size) (a:=⟨w1.heap.size,k*2+1,none⟩) rfl _
    have q3:=And.intro (hk3.cell (show ¬ (w1.heap.size+1=w1.heap.size) by omega) q2.1) (hk3.cell (show ¬ (w.heap.size=w1.heap.size) by omega) q2.2)
    have hBd3:=hBd.push (W':=V2.setCell ⟨w1.heap.size,k*2+1,none⟩ (.slice (some ⟨wr.heap.size,0,none⟩) r r)) ⟨false,.slice (some ⟨wr.heap.size,0,none⟩) r r,List.replicate r zSn⟩ hkD (by
      have h1:=hBd2.seats
      rw[oK n D.length hkD] at h1
      have h2:=jM h1 (k*2+1) (.slice (some ⟨wr.heap.size,0,none⟩) r r)
      rw[← hD,aAf D zSe _ _ (List.replicate r zSn)] at h2
      rw[← hD]
      exact h2) (fun j hj hn=>(aO _ _ _ _ hn).trans (hb2'.block j hj)) (by have:=hBV.size;omega)
      (dA (aKw hg2 (by omega)) hBd2.seats (by decide) (fun j _ hn=>aO _ _ _ _ hn)) (by simp[Value.ownBlock]) (fun x hx=>by
       rw[(List.mem_replicate.1 hx).2];exact⟨rfl,.inl ⟨rfl,rfl⟩⟩)
    have hB3:Below w.heap.size w (V2.setCell ⟨w1.heap.size,k*2+1,none⟩ (.slice (some ⟨wr.heap.size,0,none⟩) r r)) :=
     ⟨hk3.os.trans (hBV.trans (hb2'.mono hBV.size)).os,hk3.tape.trans (hBV.trans (hb2'.mono hBV.size)).tape,hk3.output.trans (hBV.trans (hb2'.mono hBV.size)).output,Nat.le_trans (hBV.trans (hb2'.mono hBV.size)).size hk3.size,fun j hj=>(aO _ _ _ _ (show j≠w1.heap.size by omega)).trans ((hBV.trans (hb2'.mono hBV.size)).block j hj)⟩
    clear hs2 q2 hk3
    go_wp2
    refine wp_region_noPanic ?_
    refine wp_region_held_drew (S:=fun W=>W.cell? ⟨w1.heap.size+1,5,none⟩=some (.slice (some ⟨w1.heap.size,0,none⟩) n n)∧W.cell? ⟨w.heap.size,3,none⟩=some (.int .i64 r)) (by kernel_rfl) ?_ (fun hHeld => ?_)
    ·first | exact q3' | exact q2' | exact q0
    iterate 7 (((first | refine np_n ?_ ?_ ?_ | refine np_t 0 ?_ ?_ ?_);rotate_left 1;(· (intro w hSw;(try dsimp only at hSw);go_simp;all_goals with_reducible rfl));(try simp only[nSO])))
    (refine aD (i:=7) rfl (by kernel_rfl) (fun K hK => ?_);rw[if_pos (by rfl)];go_simp;((have q2':=And.intro (cell_below e5 hb2') (cell_below hc3 hb2')));(try go_wp2_with fail);refine hK.out _ _ ?_ (fun hHeld => ?_);(· (first | exact q3' | exact q2' | exact q0));clear hK K;(try simp only[nSO]))
    iterate 2 ((refine np_n ?_ ?_ ?_;rotate_left 1;(· (intro w hSw;(try dsimp only at hSw);go_simp;all_goals with_reducible rfl));(try simp only[nSO])))
    (refine aD (i:=10) rfl (by kernel_rfl) (fun K hK => ?_);rw[if_pos (by rfl)];go_simp;((have q3':=q3));(try go_wp2_with fail);refine hK.out _ _ ?_ (fun hHeld => ?_);(· (first | exact q3' | exact q2' | exact q0));clear hK K;(try simp only[nSO]))
    refine wpAnyH_done (by kernel_rfl) ?_ _
    refine NoPanic.normal ?_
    go_wp2
    go_roundw
    case rel=>exact⟨k+1,by go_num,by omega,_,by rw[List.length_append,hD];rfl,by rw[List.map_append,hDs,List.replicate_succ'];congr 1;show [SeM.st ⟨false,_,List.replicate r zSn⟩]=_;simp[SeM.st,zSn],hBd3,hB3,q3.2⟩
    case measure=>simp[intOf];omega
   ·have hkn:k=n:=by omega
    go_wp2
    go_returns
    have hDn:D.length=n:=by omega
    rw[hkn] at hDs
    refine⟨_,_,rfl,hBd.mdAt hDn (by unfold maxLen;omega),?_,hBV,?_⟩
    ·rw[hM0];exact aQi hn hr hDs _
    ·rintro j (h | h | ⟨S,hS,h⟩)
     ·omega
     ·have h2:M0.sv.ownBlock=some j:=h
      rw[hsv] at h2
      injection h2 with h2
      have h3:w1.heap.size=j:=h2
      omega
     ·exact (World.ownsRow.lt (hBd.slots S hS) j h).1
 ·refine Calls.mono (R:=fun e w'=>e = .returned (.tuple #[.pointer none,.int .i64 (cfgE c)])∧Below w.heap.size w w') ?_ (fun e w' h => .inl ⟨he,h⟩)
  have hd:(cfgE c == 0)=false:=by simpa using he
  generalize cfgE c=E at *
  go_enter Tryz.func49,Tryz.ntmps49
  go_wp2_with (go_at_call 98;refine (hck _).mono ?_;rintro e w1 ⟨rfl,hb1⟩;have hB1:=hB0.trans (hb1.mono (by simp)))
  go_returns
  exact⟨rfl,hB1⟩
end Go.Proofs.YtdeiocppghhfdaaGreat
namespace Go.Proofs.YtdeiocppghhfdaaGreat
open Go.RowKit Go.Lib Go.Shelf
theorem aFw (b:Nat) (M:MM) (w:World) (h:MdAt w b M):Calls Tryz.prog 51 #[.pointer (some ⟨b,0,none⟩)] w fun e w'=>e = .returned (.string M.text)∧w=w':=by
 have c0:=h.c0
 go_enter Tryz.func51,Tryz.ntmps51
 go_wp2
 go_returns
 exact⟨rfl,rfl⟩
theorem sD (b:Nat) (M:MM) (w:World) (h:MdAt w b M):Calls Tryz.prog 52 #[.pointer (some ⟨b,0,none⟩)] w fun e w'=>e = .returned (.int .i64 M.number)∧w=w':=by
 have c0:=h.c2
 go_enter Tryz.func52,Tryz.ntmps52
 go_wp2
 go_returns
 exact⟨rfl,rfl⟩
theorem aKy (b:Nat) (M:MM) (w:World) (h:MdAt w b M) (hs:M.marks.length≤1000):Calls Tryz.prog 85 #[.pointer (some ⟨b,0,none⟩)] w fun e w'=>∃ v,e = .returned v∧MOwn w' w.heap.size v M.marks∧Below w.heap.size w w':=by
 obtain⟨am,cm,hmv⟩:=aF h.marks
 have h1:=h.marks
 rw[hmv] at h1
 obtain⟨hrow,_⟩:=jU rfl h1
 have c1:=h.c1 hmv
 go_enter Tryz.func85,Tryz.ntmps85
 go_wp2_with (go_at_call 132;refine (jV am cm M.marks _ hrow hs).mono ?_;rintro e w1 ⟨v,rfl,hov,hb1⟩)
 go_returns
 exact⟨_,rfl,hov,hb1⟩
end Go.Proofs.YtdeiocppghhfdaaGreat
namespace Go.Proofs.YtdeiocppghhfdaaGreat
open Go.RowKit Go.Lib Go.Shelf
theorem MdAt.fp_ty {W:World} {b k:Nat} {M:MM} (h:MdAt W b M) (hk:M.fp b k):∃ cs T,W.heap[k]? = some (.cells cs T (0,0))∧(T=tMd∨T=tSe∨T=tSn):=by
 rcases hk with rfl | hk | ⟨S,hS,hk⟩
 ·exact⟨_,_,h.blk,.inl rfl⟩
 ·rcases h.seats.2 with⟨e1,_⟩ | ⟨g,cap,cur,e1,hB,hg,_⟩
  ·rw[e1] at hk;cases hk
  ·rw[e1] at hk;injection hk with hk;subst hk;exact⟨_,_,hg,.inr (.inl rfl)⟩
 ·rcases (h.slots S hS).2 with⟨e1,_⟩ | ⟨g,cap,cur,e1,hB,hg,_⟩
  ·rw[e1] at hk;cases hk
  ·rw[e1] at hk;injection hk with hk;subst hk;exact⟨_,_,hg,.inr (.inr rfl)⟩
theorem MdAt.keep {W W':World} {b g:Nat} {M:MM} {cs:Array Value} {T:TypeId} (h:MdAt W b M) (hk:aC (M.fp b) W W') (hg:W.heap[g]? = some (.cells cs T (0,0))) (h1:T≠tMd) (h2:T≠tSe) (h3:T≠tSn):W'.heap[g]? = some (.cells cs T (0,0)):=by
 refine (hk.block g (Array.getElem?_eq_some_iff.1 hg).1 fun hf => ?_).trans hg
 obtain⟨cs',T',hg',hT⟩:=h.fp_ty hf
 rw[hg] at hg';injection hg' with hg';injection hg' with _ e _
 subst e
 rcases hT with e | e | e
 ·exact h1 e
 ·exact h2 e
 ·exact h3 e
structure Run (w0 W:World) (b:Nat) (M:MM):Prop where
 at_:MdAt W b M
 own:∀ k,M.fp b k→w0.heap.size≤k
 bl:Below w0.heap.size w0 W
theorem Run.on {w0 W W':World} {b:Nat} {M:MM} (h:Run w0 W b M) (hb:Below W.heap.size W W'):Run w0 W' b M:=⟨h.at_.below hb,h.own,h.bl.trans (hb.mono h.bl.size)⟩
theorem Run.keep {w0 W W':World} {b:Nat} {M:MM} (h:Run w0 W b M) (hk:aC (M.fp b) W W'):Below w0.heap.size w0 W' :=
 ⟨hk.os.trans h.bl.os,hk.tape.trans h.bl.tape,hk.output.trans h.bl.output,Nat.le_trans h.bl.size hk.size,fun k hk'=>(hk.block k (by have:=h.bl.size;omega) (fun hf=>absurd (h.own k hf) (by omega))).trans (h.bl.block k hk')⟩
theorem aSc (c:CfgV) (w:World) (hc:cfgE c≠0):Calls Tryz.prog 49 #[c.v] w fun e w'=>e = .returned (.tuple #[.pointer none,.int .i64 (cfgE c)])∧Below w.heap.size w w':=(aI7 c w).mono fun e w' h=>h.elim (fun h=>⟨h.2.1,h.2.2⟩) (fun h=>absurd h.1 hc)
theorem aNv (c:CfgV) (w0 w:World) (hc:cfgE c=0) (hb:Below w0.heap.size w0 w):Calls Tryz.prog 49 #[c.v] w fun e w'=>∃ b M,e = .returned (.tuple #[.pointer (some ⟨b,0,none⟩),.int .i64 0])∧Run w0 w' b M∧M.st=newS c∧Below w.heap.size w w':=(aI7 c w).mono fun e w' h=>h.elim (fun h=>absurd hc h.1) (fun ⟨_,b,M,h1,h2,h3,h4,h5⟩=>⟨b,M,h1,⟨h2,fun k hk=>Nat.le_trans hb.size (h5 k hk),hb.trans (h4.mono hb.size)⟩,h3,h4⟩)
end Go.Proofs.YtdeiocppghhfdaaGreat
