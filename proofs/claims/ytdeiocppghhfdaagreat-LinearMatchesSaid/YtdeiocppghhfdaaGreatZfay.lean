/- Texts, one behind another. -/
import Derived.Test.YtdeiocppghhfdaaGreatZfaw
import Derived.Test.YtdeiocppghhfdaaGreatZfau
set_option linter.unusedVariables false
set_option linter.unusedSimpArgs false
set_option maxRecDepth 100000
set_option maxHeartbeats 40000000
namespace Go.Proofs.YtdeiocppghhfdaaGreat
open Go.RowKit Go.WideShapes Go.ChangeShapes Go.Deep
def cfgL (c:CfgV):List Value:=[.int .i64 c.slots,.int .u64 c.gens,.int .i64 c.clients,.int .i64 c.readers,.int .i64 c.queue,.int .i64 c.batch,.int .i64 c.feed,.string c.text]
theorem vK (c:CfgV):(cfgL c).length=8:=rfl
section
variable {H:Type} {enc:TypeId × Value→H} {w:World} {base:Nat} {spare:Nat→Bool} {held:Bool}
theorem aIk {fuel:Nat} {cs:List Value} {x:DataW H × List MemPlace} (h:DataW.trod enc Tryz.prog w base spare held fuel 24 cs=some x):∃ c:CfgV,cs=cfgL c:=by
 have hlen:cs.length=8:=by
  obtain⟨_,_,_,_,hl,_⟩:=DataW.trod_struct Tryz.underlying24 h
  rw[hl]
  kernel_rfl
 obtain⟨_,_,h_0⟩:=aT Tryz.underlying24 h 0 _ rfl
 obtain⟨z0,x0,w0⟩:=bA Tryz.underlying3 h_0
 obtain⟨_,_,h_1⟩:=aT Tryz.underlying24 h 1 _ rfl
 obtain⟨z1,x1,w1⟩:=bA Tryz.underlying22 h_1
 obtain⟨_,_,h_2⟩:=aT Tryz.underlying24 h 2 _ rfl
 obtain⟨z2,x2,w2⟩:=bA Tryz.underlying3 h_2
 obtain⟨_,_,h_3⟩:=aT Tryz.underlying24 h 3 _ rfl
 obtain⟨z3,x3,w3⟩:=bA Tryz.underlying3 h_3
 obtain⟨_,_,h_4⟩:=aT Tryz.underlying24 h 4 _ rfl
 obtain⟨z4,x4,w4⟩:=bA Tryz.underlying3 h_4
 obtain⟨_,_,h_5⟩:=aT Tryz.underlying24 h 5 _ rfl
 obtain⟨z5,x5,w5⟩:=bA Tryz.underlying3 h_5
 obtain⟨_,_,h_6⟩:=aT Tryz.underlying24 h 6 _ rfl
 obtain⟨z6,x6,w6⟩:=bA Tryz.underlying3 h_6
 obtain⟨_,_,h_7⟩:=aT Tryz.underlying24 h 7 _ rfl
 obtain⟨z7,x7⟩:=qP Tryz.underlying9 h_7
 refine⟨⟨z0,z1,z2,z3,z4,z5,z6,z7⟩,?_⟩
 apply List.ext_getElem?
 intro j
 match j with
 |0=>exact x0
 |1=>exact x1
 |2=>exact x2
 |3=>exact x3
 |4=>exact x4
 |5=>exact x5
 |6=>exact x6
 |7=>exact x7
 |n+8=>rw[List.getElem?_eq_none (by omega),List.getElem?_eq_none (by rw[vK];omega)]
theorem aLk {b0:Nat} {v:Value} {d:DataW H} {ps:List MemPlace} (hval:Value.okWide Tryz.prog w .any b0 24 v) (hd:DataW.Trod enc Tryz.prog w base spare held 24 v d ps):∃ c:CfgV,v=c.v:=by
 obtain⟨cs,rfl,_⟩:=okWide_struct Tryz.underlying24 hval
 obtain⟨fuel,hf⟩:=hd
 obtain⟨c,hc⟩:=aIk hf
 have hc2:cs.toList=cfgL c:=hc
 refine⟨c,?_⟩
 show Value.agg cs = .agg (cfgL c).toArray
 rw[← hc2]
end
end Go.Proofs.YtdeiocppghhfdaaGreat
namespace Go.Proofs.YtdeiocppghhfdaaGreat
open Go.RowKit Go.Lib Go.Shelf
theorem aO7 {c:CfgV} {n r:Nat} {D:List SeM} (hn:c.clients=n) (hr:c.readers=r) (hD:D.map (·.st)=List.replicate n ⟨false,List.replicate r jN⟩) (sv:Value):(⟨c.text,.slice none 0 0,[],0,false,r,sv,D⟩:MM).st=newS c:=by
 show (⟨c.text,[],0,false,r,D.map (·.st)⟩:MS)=_
 rw[hD]
 unfold newS
 rw[hn,hr]
 rfl
theorem aGc (c:CfgV) (w:World):Calls Tryz.prog 49 #[c.v] w fun e w'=>(cfgE c≠0∧e = .returned (.tuple #[.pointer none,.int .i64 (cfgE c)])∧Below w.heap.size w w') ∨
  (cfgE c=0∧∃ b M,e = .returned (.tuple #[.pointer (some ⟨b,0,none⟩),.int .i64 0])∧MdAt w' b M∧M.st=newS c∧Below w.heap.size w w'∧∀ k,M.fp b k→w.heap.size≤k):=by
 have hB0:=(Below.refl w.heap.size w).alloc (Nat.le_refl _) (.cells #[.int .i64 c.slots,.int .u64 c.gens,.int .i64 c.clients,.int .i64 c.readers,.int .i64 c.queue,.int .i64 c.batch,.int .i64 c.feed,.string c.text] 24)
 have hz0:=heap_alloc_new w (.cells #[.int .i64 c.slots,.int .u64 c.gens,.int .i64 c.clients,.int .i64 c.readers,.int .i64 c.queue,.int .i64 c.batch,.int .i64 c.feed,.string c.text] 24)
 have hck:=fun W=>uU c W
 unfold CfgV.v at hck ⊢
 by_cases he:cfgE c=0
 ·rw[he] at hck
  have hcl:0≤c.clients∧c.clients≤8∧0≤c.readers∧c.readers≤8:=by
   unfold cfgE at he
   split at he
   ·rename_i hb
    simp[cfgB,inB] at hb
    omega
   ·cases he
  obtain⟨n,hn⟩:∃ n:Nat,c.clients=n:=⟨c.clients.toNat,by omega⟩
  obtain⟨r,hr⟩:∃ n:Nat,c.readers=n:=⟨c.readers.toNat,by omega⟩
  have hn8:n≤8:=by omega
  have hr8:r≤8:=by omega
  refine Calls.mono (R:=fun e w'=>∃ b M,e = .returned (.tuple #[.pointer (some ⟨b,0,none⟩),.int .i64 0])∧MdAt w' b M∧M.st=newS c∧Below w.heap.size w w'∧∀ k,M.fp b k→w.heap.size≤k) ?_ (fun e w' h => .inr ⟨he,h⟩)
  clear he hcl
  rw[hn,hr] at hck hz0 hB0
  go_enter Tryz.func49,Tryz.ntmps49
  go_wp2_with (go_at_call 98;refine (hck _).mono ?_;rintro e w1 ⟨rfl,hb1⟩;have hB1:=hB0.trans (hb1.mono (by simp));have hz1:=(hb1.block _ (by simp)).trans hz0;clear hck hz0 hb1 hB0)
  have kx:∀ W,Below w1.heap.size w1 W→W.cell? ⟨w.heap.size,7,none⟩=some (.string c.text)∧W.cell? ⟨w.heap.size,3,none⟩=some (.int .i64 r)∧W.cell? ⟨w.heap.size,2,none⟩=some (.int .i64 n):=fun W hW=>by
   have hz:=(hW.block _ (gAz hz1).1).trans hz1
   refine⟨?_,?_,?_⟩<;>simp[World.cell?,hz]
  have Kx:=Lib.hid kx
  clear kx
  have hx0:=(Below.refl w1.heap.size w1).drew
  obtain⟨V1,hmk,hs1,hg1,hbV⟩:=pK w1.drew n (by omega)
  have hx6:=hx0.trans hbV
  have hx8:=hx6.alloc hx6.size (.cells (mdL ⟨c.text,.slice none 0 0,[],0,false,r,.slice (some ⟨w1.heap.size,0,none⟩) n n,[]⟩).toArray 136)
  have hs1':V1.heap.size=w1.heap.size+1:=hs1
  clear hs1
  refine aP (S:=fun W=>W.cell? ⟨w.heap.size,7,none⟩=some (.string c.text)∧W.cell? ⟨w.heap.size,3,none⟩=some (.int .i64 r)∧W.cell? ⟨w.heap.size,2,none⟩=some (.int .i64 n)) ?_ (fun hHeld => ?_)
  ·first | exact Kx.out _ hx8' | exact Kx.out _ hx6' | exact Kx.out _ hx0
  iterate 6 (((first | refine np_q ?_ | refine aL 0 ?_);(try simp only[nSO])))
  (refine np_c 6 (fun K hK => ?_);go_simp;((have hx6':=hx6));(try go_wp2_with fail);refine hK.out _ _ ?_ (fun hHeld => ?_);(· (first | exact Kx.out _ hx8' | exact Kx.out _ hx6' | exact Kx.out _ hx0));clear hK K;(try simp only[nSO]))
  (refine np_q ?_;(try simp only[nSO]))
  (refine np_c 8 (fun K hK => ?_);go_simp;((have hx8':=hx8));(try go_wp2_with fail);refine hK.out _ _ ?_ (fun hHeld => ?_);(· (first | exact Kx.out _ hx8' | exact Kx.out _ hx6' | exact Kx.out _ hx0));clear hK K;(try simp only[nSO]))
  (refine np_q ?_;(try simp only[nSO]))
  refine np_z ?_
  obtain⟨M0,hM0⟩:∃ M0:MM,M0=⟨c.text,.slice none 0 0,[],0,false,r,.slice (some ⟨w1.heap.size,0,none⟩) n n,[]⟩:=⟨_,rfl⟩
  have hBd:Bld w.heap.size (V1.alloc (.cells #[.string c.text,.slice none 0 0,.int .i64 0,.bool false,.int .i64 r,.slice (some ⟨w1.heap.size,0,none⟩) n n] 136)) (w1.heap.size+1) w1.heap.size n M0 []:=by
   subst hM0
   refine⟨?_,rfl,⟨rfl,.inl ⟨rfl,rfl⟩⟩,?_,Nat.zero_le _,(fun S hS=>by cases hS),(fun S hS=>by cases hS),(fun S hS=>by cases hS),by simp⟩
   ·rw[← hs1'];exact heap_alloc_new V1 _
   ·exact (heap_alloc_old _ _ (gAz hg1).1).trans hg1
  have hBV:Below w.heap.size w (V1.alloc (.cells #[.string c.text,.slice none 0 0,.int .i64 0,.bool false,.int .i64 r,.slice (some ⟨w1.heap.size,0,none⟩) n n] 136)):=hB1.trans (hx8.mono hB1.size)
  have hc3:=(Kx.out _ hx8).2.1
  have hc3':(V1.alloc (.cells #[.string c.text,.slice none 0 0,.int .i64 0,.bool false,.int .i64 r,.slice (some ⟨w1.heap.size,0,none⟩) n n] 136)).cell? ⟨w.heap.size,3,none⟩=some (.int .i64 r):=hc3
  have hwg:w.heap.size<w1.heap.size:=(gAz hz1).1
  clear hc3 hx0 hx6 hx8 hHeld Kx hmk hbV hg1 hz1
  generalize V1.alloc (.cells #[.string c.text,.slice none 0 0,.int .i64 0,.bool false,.int .i64 r,.slice (some ⟨w1.heap.size,0,none⟩) n n] 136)=V at *
  have hsv:M0.sv = .slice (some ⟨w1.heap.size,0,none⟩) n n:=hBd.sv
  have c5:∀ W D,Bld w.heap.size W (w1.heap.size+1) w1.heap.size n M0 D→W.cell? ⟨w1.heap.size+1,5,none⟩=some (.slice (some ⟨w1.heap.size,0,none⟩) n n):=fun W D h=>by rw[← hsv];simp[World.cell?,h.blk,mdL]
  have C5:=Lib.hid c5
  have d5:=c5 _ _ hBd
  clear c5
  go_wp2
  go_loopw [6,26,27,28,29,30,31,32,33,34,35,36,37,38,39] (fun x6 i x27 x28 x29 x30 x31 x32 x33 x34 x35 x36 x37 x38 x39 wr=>∃ k:Nat,i = .int .i64 k∧k≤n∧∃ D:List SeM,D.length=k∧D.map (·.st)=List.replicate k ⟨false,List.replicate r jN⟩∧Bld w.heap.size wr (w1.heap.size+1) w1.heap.size n M0 D∧Below w.heap.size w wr∧wr.cell? ⟨w.heap.size,3,none⟩=some (.int .i64 r)) (fun x6 i x27 x28 x29 x30 x31 x32 x33 x34 x35 x36 x37 x38 x39 wr=>n-(intOf i).toNat)
  case atStart=>exact⟨0,rfl,by omega,[],rfl,rfl,hBd,hBV,hc3'⟩
  case round =>
   obtain⟨k,rfl,hk,D,hD,hDs,hBd,hBV,hc3⟩:=hrel
   by_cases hlt:k<n
   ·have hkD:D.length<n:=by omega
    have e5:=C5.out _ _ hBd
    obtain⟨V2,hmk,hs2,hg2,hb2⟩:=aEl wr.drew r (by omega)
    have hb2':Below wr.heap.size wr V2:=(Below.refl _ _).drew.trans hb2
    have hBd2:=hBd.below hb2'
    have hgk:(D++List.replicate (n-D.length) zSe)[k]? = some zSe:=by
     rw[nV n D.length hkD,List.getElem?_append_right (by omega),← hD,Nat.sub_self];rfl
    obtain⟨_,a1,af⟩:=hBd2.cell hgk
    have af1:=af (k*2+1)
    have a1':V2.cell? ⟨w1.heap.size,k*2+1,none⟩=some (.slice none 0 0):=a1
    clear a1 af
    have hs2':V2.heap.size=wr.heap.size+1:=hs2
    have q0:wr.drew.cell? ⟨w1.heap.size+1,5,none⟩=some (.slice (some ⟨w1.heap.size,0,none⟩) n n)∧wr.drew.cell? ⟨w.heap.size,3,none⟩=some (.int .i64 r):=⟨e5,hc3⟩
    have q2:V2.cell? ⟨w1.heap.size+1,5,none⟩=some (.slice (some ⟨w1.heap.size,0,none⟩) n n)∧V2.cell? ⟨w.heap.size,3,none⟩=some (.int .i64 r):=⟨cell_below e5 hb2',cell_below hc3 hb2'⟩
    have hk3:aF (fun j=>j=w1.heap.size) V2 (V2.setCell ⟨w1.heap.size,k*2+1,none⟩ (.slice (some ⟨wr.heap.size,0,none⟩) r r)):=aF.set (F:=fun j=>j=w1.heap.size) (a:=⟨w1.heap.size,k*2+1,none⟩) rfl _
    have q3:=And.intro (hk3.cell (show ¬ (w1.heap.size+1=w1.heap.size) by omega) q2.1) (hk3.cell (show ¬ (w.heap.size=w1.heap.size) by omega) q2.2)
    have hBd3:=hBd.push (W':=V2.setCell ⟨w1.heap.size,k*2+1,none⟩ (.slice (some ⟨wr.heap.size,0,none⟩) r r)) ⟨false,.slice (some ⟨wr.heap.size,0,none⟩) r r,List.replicate r zSn⟩ hkD (by
      have h1:=hBd2.seats
      rw[nV n D.length hkD] at h1
      have h2:=bZ h1 (k*2+1) (.slice (some ⟨wr.heap.size,0,none⟩) r r)
      rw[← hD,aBw D zSe _ _ (List.replicate r zSn)] at h2
      rw[← hD]
      exact h2) (fun j hj hn=>(aG _ _ _ _ hn).trans (hb2'.block j hj)) (by have:=hBV.size;omega)
      (aH (aIf hg2 (by omega)) hBd2.seats (by decide) (fun j _ hn=>aG _ _ _ _ hn)) (by simp[Value.ownBlock]) (fun x hx=>by
       rw[(List.mem_replicate.1 hx).2];exact⟨rfl,.inl ⟨rfl,rfl⟩⟩)
    have hB3:Below w.heap.size w (V2.setCell ⟨w1.heap.size,k*2+1,none⟩ (.slice (some ⟨wr.heap.size,0,none⟩) r r)) :=
     ⟨hk3.os.trans (hBV.trans (hb2'.mono hBV.size)).os,hk3.tape.trans (hBV.trans (hb2'.mono hBV.size)).tape,hk3.output.trans (hBV.trans (hb2'.mono hBV.size)).output,Nat.le_trans (hBV.trans (hb2'.mono hBV.size)).size hk3.size,fun j hj=>(aG _ _ _ _ (show j≠w1.heap.size by omega)).trans ((hBV.trans (hb2'.mono hBV.size)).block j hj)⟩
    clear hs2 q2 hk3
    go_wp2
    refine aP (S:=fun W=>W.cell? ⟨w1.heap.size+1,5,none⟩=some (.slice (some ⟨w1.heap.size,0,none⟩) n n)∧W.cell? ⟨w.heap.size,3,none⟩=some (.int .i64 r)) ?_ (fun hHeld => ?_)
    ·first | exact q3' | exact q2' | exact q0
    iterate 7 (((first | refine np_q ?_ | refine aL 0 ?_);(try simp only[nSO])))
    (refine np_c 7 (fun K hK => ?_);go_simp;((have q2':=And.intro (cell_below e5 hb2') (cell_below hc3 hb2')));(try go_wp2_with fail);refine hK.out _ _ ?_ (fun hHeld => ?_);(· (first | exact q3' | exact q2' | exact q0));clear hK K;(try simp only[nSO]))
    iterate 2 ((refine np_q ?_;(try simp only[nSO])))
    (refine np_c 10 (fun K hK => ?_);go_simp;((have q3':=q3));(try go_wp2_with fail);refine hK.out _ _ ?_ (fun hHeld => ?_);(· (first | exact q3' | exact q2' | exact q0));clear hK K;(try simp only[nSO]))
    refine np_z ?_
    go_wp2
    go_roundw
    case rel=>exact⟨k+1,by go_num,by omega,_,by rw[List.length_append,hD];rfl,by rw[List.map_append,hDs,List.replicate_succ'];congr 1;show [SeM.st ⟨false,_,List.replicate r zSn⟩]=_;simp[SeM.st,zSn],hBd3,hB3,q3.2⟩
    case measure=>simp[intOf];omega
   ·have hkn:k=n:=by omega
    go_wp2
    go_returns
    have hDn:D.length=n:=by omega
    rw[hkn] at hDs
    refine⟨_,_,rfl,hBd.mdAt hDn (by unfold maxLen;omega),?_,hBV,?_⟩
    ·rw[hM0];exact aO7 hn hr hDs _
    ·rintro j (h | h | ⟨S,hS,h⟩)
     ·omega
     ·have h2:M0.sv.ownBlock=some j:=h
      rw[hsv] at h2
      injection h2 with h2
      have h3:w1.heap.size=j:=h2
      omega
     ·exact (World.ownsRow.lt (hBd.slots S hS) j h).1
 ·refine Calls.mono (R:=fun e w'=>e = .returned (.tuple #[.pointer none,.int .i64 (cfgE c)])∧Below w.heap.size w w') ?_ (fun e w' h => .inl ⟨he,h⟩)
  have hd:(cfgE c == 0)=false:=by simpa using he
  generalize cfgE c=E at *
  go_enter Tryz.func49,Tryz.ntmps49
  go_wp2_with (go_at_call 98;refine (hck _).mono ?_;rintro e w1 ⟨rfl,hb1⟩;have hB1:=hB0.trans (hb1.mono (by simp)))
  go_returns
  exact⟨rfl,hB1⟩
theorem MdAt.fp_ty {W:World} {b k:Nat} {M:MM} (h:MdAt W b M) (hk:M.fp b k):∃ cs T,W.heap[k]? = some (.cells cs T (0,0))∧(T=tMd∨T=tSe∨T=tSn):=by
 rcases hk with rfl | hk | ⟨S,hS,hk⟩
 ·exact⟨_,_,h.blk,.inl rfl⟩
 ·rcases h.seats.2 with⟨e1,_⟩ | ⟨g,cap,cur,e1,hB,hg,_⟩
  ·rw[e1] at hk;cases hk
  ·rw[e1] at hk;injection hk with hk;subst hk;exact⟨_,_,hg,.inr (.inl rfl)⟩
 ·rcases (h.slots S hS).2 with⟨e1,_⟩ | ⟨g,cap,cur,e1,hB,hg,_⟩
  ·rw[e1] at hk;cases hk
  ·rw[e1] at hk;injection hk with hk;subst hk;exact⟨_,_,hg,.inr (.inr rfl)⟩
theorem MdAt.keep {W W':World} {b g:Nat} {M:MM} {cs:Array Value} {T:TypeId} (h:MdAt W b M) (hk:aF (M.fp b) W W') (hg:W.heap[g]? = some (.cells cs T (0,0))) (h1:T≠tMd) (h2:T≠tSe) (h3:T≠tSn):W'.heap[g]? = some (.cells cs T (0,0)):=by
 refine (hk.block g (gAz hg).1 fun hf => ?_).trans hg
 obtain⟨cs',T',hg',hT⟩:=h.fp_ty hf
 rw[hg] at hg';injection hg' with hg';injection hg' with _ e _
 subst e
 rcases hT with e | e | e
 ·exact h1 e
 ·exact h2 e
 ·exact h3 e
structure Run (w0 W:World) (b:Nat) (M:MM):Prop where
 at_:MdAt W b M
 own:∀ k,M.fp b k→w0.heap.size≤k
 bl:Below w0.heap.size w0 W
theorem Run.on {w0 W W':World} {b:Nat} {M:MM} (h:Run w0 W b M) (hb:Below W.heap.size W W'):Run w0 W' b M:=⟨h.at_.below hb,h.own,h.bl.trans (hb.mono h.bl.size)⟩
theorem Run.keep {w0 W W':World} {b:Nat} {M:MM} (h:Run w0 W b M) (hk:aF (M.fp b) W W'):Below w0.heap.size w0 W' :=
 ⟨hk.os.trans h.bl.os,hk.tape.trans h.bl.tape,hk.output.trans h.bl.output,Nat.le_trans h.bl.size hk.size,fun k hk'=>(hk.block k (by have:=h.bl.size;omega) (fun hf=>absurd (h.own k hf) (by omega))).trans (h.bl.block k hk')⟩
theorem MM.fits {M:MM} {K:Int} (h:MSok M.st K):M.seats.length≤8∧(∀ S∈M.seats,S.sl.length≤8)∧M.marks.length≤64:=by
 have e:M.st.seats.length=M.seats.length:=List.length_map ..
 refine⟨by have:=h.clients;omega,fun S hS => ?_,h.marks.1⟩
 have h1:=(h.slots S.st (List.mem_map_of_mem hS)).1
 have h2:S.st.slots.length=S.sl.length:=List.length_map ..
 have:=h.readers
 omega
theorem aQ3 (b:Nat) (c:Int) (M:MM) (q:OpV) (w0 W:World) (K:Int) (h:Run w0 W b M) (hok:MSok M.st K) (hK:K≤100000) (hi:OpIn q) :
  Calls Tryz.prog 50 #[.pointer (some ⟨b,0,none⟩),.int .i64 c,.agg #[.int .u8 q.kind,.int .i64 q.slot,.int .i64 q.at_,.int .i64 q.n,.int .u32 q.id,.int .u8 q.grav,.string q.text]] W fun e W'=>∃ M',e = .returned (.agg (resL (doS M.st c q).1).toArray)∧Run w0 W' b M'∧M'.st=(doS M.st c q).2∧aF (M.fp b) W W'∧MSok M'.st (K+1):=by
 refine (aLg b c M q W h.at_ (hok.mono hK) hi).mono ?_
 rintro e W' ⟨rfl,M',hM,hst,hk,hf⟩
 refine⟨M',rfl,⟨hM,fun k hk=>(hf k hk).elim (h.own k) (fun h'=>Nat.le_trans h.bl.size h'),h.keep hk⟩,hst,hk,?_⟩
 rw[hst];exact aEf hok hi
theorem aQ4 (c:CfgV) (w:World) (hc:cfgE c≠0):Calls Tryz.prog 49 #[c.v] w fun e w'=>e = .returned (.tuple #[.pointer none,.int .i64 (cfgE c)])∧Below w.heap.size w w':=(aGc c w).mono fun e w' h=>h.elim (fun h=>⟨h.2.1,h.2.2⟩) (fun h=>absurd h.1 hc)
theorem aQ5 (c:CfgV) (w0 w:World) (hc:cfgE c=0) (hb:Below w0.heap.size w0 w):Calls Tryz.prog 49 #[c.v] w fun e w'=>∃ b M,e = .returned (.tuple #[.pointer (some ⟨b,0,none⟩),.int .i64 0])∧Run w0 w' b M∧M.st=newS c∧Below w.heap.size w w':=(aGc c w).mono fun e w' h=>h.elim (fun h=>absurd hc h.1) (fun ⟨_,b,M,h1,h2,h3,h4,h5⟩=>⟨b,M,h1,⟨h2,fun k hk=>Nat.le_trans hb.size (h5 k hk),hb.trans (h4.mono hb.size)⟩,h3,h4⟩)
attribute [local go_sem, local simp] resF bD bS mdF aGa aLi
theorem aO8 {st:MS} {c:Int} {q:OpV} {r:ResV} {i:ItV} {S z t15 t1 t2 t3 t4 e17 s0 k1 k2 s6 s14 ez e13:Bool} {R:ResV × MS} (hR:doS st c q=R) (hS:dE r i R.1=S) (hz:(dL st c q == 0)=z) (h15:(q.kind == 15)=t15) (h1:(q.kind == 1)=t1) (h2:(q.kind == 2)=t2) (h3:(q.kind == 3)=t3) (h4:(q.kind == 4)=t4) (h17:(R.1.err == 17)=e17) (h0:dE r {} {}=s0) (hk1:(i.k == 1)=k1) (hk2:(i.k == 2)=k2) (h6:dE r i (aS 6)=s6) (h14:dE r i (aS 14)=s14) (hez:(R.1.err == 0)=ez) (h13:(R.1.err == 13)=e13) :
  accS st c q r i=if S then (true,R.2) else (z && if t15 then e17 && s0 && (k1 || k2) else if t1 || t2 then s6 && ez || s14 && !e13 else (t3 || t4) && s14 && !e13,st):=by
 unfold accS accB
 subst_vars
 cases hS:dE r i (doS st c q).1 with
 |true=>rfl
 |false =>
  by_cases a:dL st c q=0
  ·by_cases b:q.kind=15
   ·simp[a,b]
   ·by_cases d:q.kind=1∨q.kind=2
    ·rcases d with d | d<;>simp[a,d]
    ·by_cases e:q.kind=3∨q.kind=4
     ·rcases e with e | e<;>simp[a,e]
     ·have:=not_or.1 d;have:=not_or.1 e;simp[*]
  ·simp[a]
theorem aEs (b:Nat) (c:Int) (M:MM) (q:OpV) (r:ResV) (i:ItV) (w:World) (h:MdAt w b M) (hok:MSok M.st 100000) (hi:OpIn q) (hin:i.dn≤maxLen):Calls Tryz.prog 53 #[.pointer (some ⟨b,0,none⟩),.int .i64 c,.agg #[.int .u8 q.kind,.int .i64 q.slot,.int .i64 q.at_,.int .i64 q.n,.int .u32 q.id,.int .u8 q.grav,.string q.text],.agg #[.int .i64 r.err,.int .i64 r.rev,.int .i64 r.slot,.int .i64 r.at_,.int .u8 r.grav,.string r.text,.int .i64 r.m1,.int .i64 r.m2,.int .i64 r.m3,.int .u8 i.k,.int .i64 i.f,.int .i64 i.t,.slice i.da i.dn i.dc]] w (aO5 b w (accS M.st c q r i) M):=by
 have hB0:=((Below.refl w.heap.size w).alloc (Nat.le_refl _) (.cells #[.int .u8 q.kind,.int .i64 q.slot,.int .i64 q.at_,.int .i64 q.n,.int .u32 q.id,.int .u8 q.grav,.string q.text] 54)).alloc (by simp) (.cells #[.int .i64 r.err,.int .i64 r.rev,.int .i64 r.slot,.int .i64 r.at_,.int .u8 r.grav,.string r.text,.int .i64 r.m1,.int .i64 r.m2,.int .i64 r.m3,.int .u8 i.k,.int .i64 i.f,.int .i64 i.t,.slice i.da i.dn i.dc] 51)
 have hq0:=(heap_alloc_old (w.alloc (.cells #[.int .u8 q.kind,.int .i64 q.slot,.int .i64 q.at_,.int .i64 q.n,.int .u32 q.id,.int .u8 q.grav,.string q.text] 54)) (.cells #[.int .i64 r.err,.int .i64 r.rev,.int .i64 r.slot,.int .i64 r.at_,.int .u8 r.grav,.string r.text,.int .i64 r.m1,.int .i64 r.m2,.int .i64 r.m3,.int .u8 i.k,.int .i64 i.f,.int .i64 i.t,.slice i.da i.dn i.dc] 51) (show w.heap.size<_ by simp)).trans (heap_alloc_new w _)
 have hr0:=heap_alloc_new (w.alloc (.cells #[.int .u8 q.kind,.int .i64 q.slot,.int .i64 q.at_,.int .i64 q.n,.int .u32 q.id,.int .u8 q.grav,.string q.text] 54)) (.cells #[.int .i64 r.err,.int .i64 r.rev,.int .i64 r.slot,.int .i64 r.at_,.int .u8 r.grav,.string r.text,.int .i64 r.m1,.int .i64 r.m2,.int .i64 r.m3,.int .u8 i.k,.int .i64 i.f,.int .i64 i.t,.slice i.da i.dn i.dc] 51)
 rw[World.size_alloc] at hr0
 have HOK:=Lib.hid hok
 clear hok
 have Hm:=h
 have hM0:=h.below hB0
 have hcl:M.seats.length≤8:=by have:=HOK.out.clients;have h2:M.st.seats.length=M.seats.length:=List.length_map ..;omega
 obtain⟨R,hR⟩:∃ x,doS M.st c q=x:=⟨_,rfl⟩
 obtain⟨S,hS⟩:∃ x,dE r i R.1=x:=⟨_,rfl⟩
 obtain⟨E,hz⟩:∃ x,dL M.st c q=x:=⟨_,rfl⟩
 obtain⟨z,hd⟩:∃ x,(E == 0)=x:=⟨_,rfl⟩
 obtain⟨t15,h15⟩:∃ x,(q.kind == 15)=x:=⟨_,rfl⟩
 obtain⟨t1,h1⟩:∃ x,(q.kind == 1)=x:=⟨_,rfl⟩
 obtain⟨t2,h2⟩:∃ x,(q.kind == 2)=x:=⟨_,rfl⟩
 obtain⟨t3,h3⟩:∃ x,(q.kind == 3)=x:=⟨_,rfl⟩
 obtain⟨t4,h4⟩:∃ x,(q.kind == 4)=x:=⟨_,rfl⟩
 obtain⟨e17,he17⟩:∃ x,(R.1.err == 17)=x:=⟨_,rfl⟩
 obtain⟨s0,h0⟩:∃ x,dE r {} {}=x:=⟨_,rfl⟩
 obtain⟨k1,hk1⟩:∃ x,(i.k == 1)=x:=⟨_,rfl⟩
 obtain⟨k2,hk2⟩:∃ x,(i.k == 2)=x:=⟨_,rfl⟩
 obtain⟨s6,h6⟩:∃ x,dE r i (aS 6)=x:=⟨_,rfl⟩
 obtain⟨s14,h14⟩:∃ x,dE r i (aS 14)=x:=⟨_,rfl⟩
 obtain⟨ez,hez⟩:∃ x,(R.1.err == 0)=x:=⟨_,rfl⟩
 obtain⟨e13,he13⟩:∃ x,(R.1.err == 13)=x:=⟨_,rfl⟩
 have HV:=Lib.hid (aO8 (z:=z) hR hS (by rw[hz];exact hd) h15 h1 h2 h3 h4 he17 h0 hk1 hk2 h6 h14 hez he13)
 generalize accS M.st c q r i=V at HV ⊢
 go_enter Tryz.func53,Tryz.ntmps53
 go_wp2_with (first | (go_at_call 102;refine (aB0 b M _ 100000 hM0 HOK.out).mono ?_;rintro e w2 ⟨b2,M2,rfl,hM2,hst2,hb2,hf2⟩;have hq2:=(hb2.block _ (by simp;omega)).trans hq0;have hr2:=(hb2.block _ (by simp)).trans hr0;have hB2:=hB0.trans (hb2.mono (by simp;omega));have hf2':∀ k,M2.fp b2 k→w.heap.size+1+1≤k:=(fun k hk=>by have:=hf2 k hk;simpa using this);obtain⟨y0,y1,y2,y3,y4,y5,y6⟩:=blk7 hq2;have hdo:=aLg b2 c M2 q _ hM2 (by rw[hst2];exact HOK.out) hi;rw[hst2,hR] at hdo;clear hf2 hb2) | (go_at_call 50;refine hdo.mono ?_;rintro e w3 ⟨rfl,M3,hM3,hst3,hk3,hf3⟩;have hq3:=(hk3.block _ (gAz hq2).1 (fun hk=>absurd (hf2' _ hk) (by omega))).trans hq2;have hr3:=(hk3.block _ (gAz hr2).1 (fun hk=>absurd (hf2' _ hk) (by omega))).trans hr2;have hB3:Below w.heap.size w w3:=⟨hk3.os.trans hB2.os,hk3.tape.trans hB2.tape,hk3.output.trans hB2.output,Nat.le_trans hB2.size hk3.size,fun k hk=>(hk3.block k (by have:=hB2.size;omega) (fun hf=>absurd (hf2' _ hf) (by omega))).trans (hB2.block k hk)⟩;obtain⟨W4,hs4,hw4,hb4⟩:=vJ w3 R.1;have hB4:=hB3.trans (hb4.mono hB3.size);have hq4:=(hb4.block _ (gAz hq3).1).trans hq3;have hr4:=(hb4.block _ (gAz hr3).1).trans hr3;obtain⟨a0,a1,a2,a3,a4,a5,a6,a7,a8,a9,a10,a11,a12⟩:=lY hr4;obtain⟨d0,d1,d2,d3,d4,d5,d6,d7,d8,d9,d10,d11,d12⟩:=lY hw4;have hf3':∀ k,M3.fp b2 k→w.heap.size≤k:=(fun k hk=>(hf3 k hk).elim (fun h=>by have:=hf2' k h;omega) (fun h=>by have:=hB2.size;omega));clear y0 y1 y2 y3 y4 y5 y6 hdo))
 (go_at_call 103;refine (aEq r R.1 i _ hin).mono ?_;rw[hS];rintro e w5 ⟨rfl,hb5⟩;have hB5:=hB4.trans (hb5.mono hB4.size);clear a0 a1 a2 a3 a4 a5 a6 a7 a8 a9 a10 a11 a12 d0 d1 d2 d3 d4 d5 d6 d7 d8 d9 d10 d11 d12;have hM5:=Hm.below hB5)
 cases S
 rotate_left
 ·have hN5:=(hM3.below hb4).below hb5;obtain⟨av,cv,hmv⟩:=aC hN5.marks;obtain⟨ag,cg,hsv⟩:=aC hN5.seats;have g0:=hN5.c0;have g1:=hN5.c1 hmv;have g2:=hN5.c2;have g3:=hN5.c3;have g4:=hN5.c4;have g5:=hN5.c5 hsv;obtain⟨hst6,hM6⟩:=hM5.take hN5 hmv hsv
  go_wp2
  go_returns
  have hv:=HV.out;simp at hv;subst hv;exact⟨rfl,M3,hM6,hst3,(aF.of_below hB5).trans (aF.mono (F:=fun k=>k=b) ⟨rfl,rfl,rfl,by rw[setRow_size];exact Nat.le_refl _,fun k _ hk=>setRow_other _ _ _ _ hk⟩ (fun k hk => .inl hk)),fun k hk=>hk.elim (fun e => .inl (.inl e)) (fun e => .inr (hf3' k (.inr e)))⟩
 have hq5:=(hb5.block _ (gAz hq4).1).trans hq4;have hr5:=(hb5.block _ (gAz hr4).1).trans hr4;have hw5:=(hb5.block _ (gAz hw4).1).trans hw4;obtain⟨y0,y1,y2,y3,y4,y5,y6⟩:=blk7 hq5;have hsta:=pI b M c q w5 hM5 hi hcl;rw[hz] at hsta;clear hb4 hs4 hb5 hk3 hM3 hf3 hf3' hf2'
 go_wp2_with fail
 (go_at_call 100;refine hsta.mono ?_;rintro e w6 ⟨rfl,hb6⟩;have hB6:=hB5.trans (hb6.mono hB5.size);have hq6:=(hb6.block _ (gAz hq5).1).trans hq5;have hr6:=(hb6.block _ (gAz hr5).1).trans hr5;have hw6:=(hb6.block _ (gAz hw5).1).trans hw5;have k6:=(blk7 hq6).1;clear y0 y1 y2 y3 y4 y5 y6 hsta)
 cases z
 ·go_wp2
  go_returns
  (have hv:=HV.out;simp at hv;subst hv;exact⟨(by first | rfl | (simp;done) | (simpa using he13)),M,Hm.below hB6,rfl,aF.of_below hB6,fun k hk => .inl hk⟩)
 obtain rfl:E=0:=by simpa using hd
 cases t15
 rotate_left
 ·obtain⟨a0,a1,a2,a3,a4,a5,a6,a7,a8,a9,a10,a11,a12⟩:=lY hr6;have dd:=(lY hw6).1;have d0:=fun o=>Lib.cell?_alloc_some o dd;have g9:=fun o=>Lib.cell?_alloc_some o a9
  cases e17
  rotate_left
  cases s0
  rotate_left
  cases k1
  all_goals
   go_wp2_with (go_at_call 103;have hs9:=g9;refine (aQ2 r {} _).mono ?_;rw[h0];rintro e w9 ⟨rfl,hb9⟩;have hB9:=(hB6.alloc hB6.size _).trans (hb9.mono (by rw[World.size_alloc];have:=hB6.size;omega));replace g9:=(hb9.cell (p:=⟨w.heap.size+1,9,none⟩) (by rw[World.size_alloc];have:=(gAz hr6).1;show w.heap.size+1<_;omega)).trans (g9 _))
   go_returns
   first | (have hv:=HV.out;simp at hv;subst hv;exact⟨(by first | rfl | (simp;done) | (simpa using he13)),M,Hm.below hB9,rfl,aF.of_below hB9,fun k hk => .inl hk⟩) | (have hv:=HV.out;simp at hv;subst hv;exact⟨(by first | rfl | (simp;done) | (simpa using he13)),M,Hm.below (hB6.alloc hB6.size _),rfl,aF.of_below (hB6.alloc hB6.size _),fun k hk => .inl hk⟩)
 have kx:∀ W,Below w6.heap.size w6 W→W.cell? ⟨w.heap.size+1,0,none⟩=some (.int .i64 r.err)∧W.cell? ⟨w.heap.size+1,1,none⟩=some (.int .i64 r.rev)∧W.cell? ⟨w.heap.size+1,2,none⟩=some (.int .i64 r.slot)∧W.cell? ⟨w.heap.size+1,3,none⟩=some (.int .i64 r.at_)∧W.cell? ⟨w.heap.size+1,4,none⟩=some (.int .u8 r.grav)∧W.cell? ⟨w.heap.size+1,5,none⟩=some (.string r.text)∧W.cell? ⟨w.heap.size+1,6,none⟩=some (.int .i64 r.m1)∧W.cell? ⟨w.heap.size+1,7,none⟩=some (.int .i64 r.m2)∧W.cell? ⟨w.heap.size+1,8,none⟩=some (.int .i64 r.m3)∧W.cell? ⟨w.heap.size+1,9,none⟩=some (.int .u8 i.k)∧W.cell? ⟨w.heap.size+1,10,none⟩=some (.int .i64 i.f)∧W.cell? ⟨w.heap.size+1,11,none⟩=some (.int .i64 i.t)∧W.cell? ⟨w.heap.size+1,12,none⟩=some (.slice i.da i.dn i.dc)∧W.cell? ⟨w3.heap.size,0,none⟩=some (.int .i64 R.1.err):=fun W hW=>by
  have h1:=(hW.block _ (gAz hr6).1).trans hr6
  have h2:=(hW.block _ (gAz hw6).1).trans hw6
  obtain⟨a0,a1,a2,a3,a4,a5,a6,a7,a8,a9,a10,a11,a12⟩:=lY h1
  exact⟨a0,a1,a2,a3,a4,a5,a6,a7,a8,a9,a10,a11,a12,(lY h2).1⟩
 have Kx:=Lib.hid kx
 clear kx
 have hx8:=Below.refl w6.heap.size w6
 cases t1
 cases t2
 cases t3
 cases t4
 ·go_wp2
  go_returns
  (have hv:=HV.out;simp at hv;subst hv;exact⟨(by first | rfl | (simp;done) | (simpa using he13)),M,Hm.below hB6,rfl,aF.of_below hB6,fun k hk => .inl hk⟩)
 rotate_left 2
 all_goals
  go_wp2
  first
  |(have _:_=false:=h1;have _:_=false:=h2)
  |skip
   cases s6
   rotate_left
   cases ez
   all_goals
    have hx80:=hx8.drew
    refine aP (S:=fun W=>W.cell? ⟨w.heap.size+1,0,none⟩=some (.int .i64 r.err)∧W.cell? ⟨w.heap.size+1,1,none⟩=some (.int .i64 r.rev)∧W.cell? ⟨w.heap.size+1,2,none⟩=some (.int .i64 r.slot)∧W.cell? ⟨w.heap.size+1,3,none⟩=some (.int .i64 r.at_)∧W.cell? ⟨w.heap.size+1,4,none⟩=some (.int .u8 r.grav)∧W.cell? ⟨w.heap.size+1,5,none⟩=some (.string r.text)∧W.cell? ⟨w.heap.size+1,6,none⟩=some (.int .i64 r.m1)∧W.cell? ⟨w.heap.size+1,7,none⟩=some (.int .i64 r.m2)∧W.cell? ⟨w.heap.size+1,8,none⟩=some (.int .i64 r.m3)∧W.cell? ⟨w.heap.size+1,9,none⟩=some (.int .u8 i.k)∧W.cell? ⟨w.heap.size+1,10,none⟩=some (.int .i64 i.f)∧W.cell? ⟨w.heap.size+1,11,none⟩=some (.int .i64 i.t)∧W.cell? ⟨w.heap.size+1,12,none⟩=some (.slice i.da i.dn i.dc)∧W.cell? ⟨w3.heap.size,0,none⟩=some (.int .i64 R.1.err)) ?_ (fun hHeld => ?_)
    ·first | exact Kx.out _ hx8 | exact Kx.out _ hx81 | exact Kx.out _ hx80
    (first | refine aJ ?_ | refine np_q ?_ | refine aL 0 ?_);(try simp only[nSO])
    first | (refine np_s 1 ?_;(try simp only[nSO])) | (refine np_c 1 (fun K hK => ?_);go_simp;((go_at_call 99;refine (bT _ _).mono ?_;rintro e w8a ⟨rfl,hba⟩;have hx81:=hx80.trans (hba.mono hx80.size)));(try go_wp2_with fail);refine hK.out _ _ ?_ (fun hHeld => ?_);(· (first | exact Kx.out _ hx8 | exact Kx.out _ hx81 | exact Kx.out _ hx80));clear hK K;(try simp only[nSO]))
    first | (refine np_s 2 ?_;(try simp only[nSO])) | (refine np_c 2 (fun K hK => ?_);go_simp;((go_at_call 103;refine (aEq r (aS 6) i _ hin).mono ?_;rw[h6];rintro e w8 ⟨rfl,hbb⟩;have hx8:=hx81.trans (hbb.mono hx81.size)));(try go_wp2_with fail);refine hK.out _ _ ?_ (fun hHeld => ?_);(· (first | exact Kx.out _ hx8 | exact Kx.out _ hx81 | exact Kx.out _ hx80));clear hK K;(try simp only[nSO]))
    iterate 5 ((first | refine aJ ?_ | refine np_q ?_);(try simp only[nSO]))
    refine np_z ?_
    go_wp2
    try (go_returns;(have hv:=HV.out;simp at hv;subst hv;exact⟨(by first | rfl | (simp;done) | (simpa using he13)),M,Hm.below (hB6.trans (hx8.mono hB6.size)),rfl,aF.of_below (hB6.trans (hx8.mono hB6.size)),fun k hk => .inl hk⟩))
 all_goals
  cases s14
  rotate_left
  cases e13
  all_goals
   have hx90:=hx8.drew
   refine aP (S:=fun W=>W.cell? ⟨w.heap.size+1,0,none⟩=some (.int .i64 r.err)∧W.cell? ⟨w.heap.size+1,1,none⟩=some (.int .i64 r.rev)∧W.cell? ⟨w.heap.size+1,2,none⟩=some (.int .i64 r.slot)∧W.cell? ⟨w.heap.size+1,3,none⟩=some (.int .i64 r.at_)∧W.cell? ⟨w.heap.size+1,4,none⟩=some (.int .u8 r.grav)∧W.cell? ⟨w.heap.size+1,5,none⟩=some (.string r.text)∧W.cell? ⟨w.heap.size+1,6,none⟩=some (.int .i64 r.m1)∧W.cell? ⟨w.heap.size+1,7,none⟩=some (.int .i64 r.m2)∧W.cell? ⟨w.heap.size+1,8,none⟩=some (.int .i64 r.m3)∧W.cell? ⟨w.heap.size+1,9,none⟩=some (.int .u8 i.k)∧W.cell? ⟨w.heap.size+1,10,none⟩=some (.int .i64 i.f)∧W.cell? ⟨w.heap.size+1,11,none⟩=some (.int .i64 i.t)∧W.cell? ⟨w.heap.size+1,12,none⟩=some (.slice i.da i.dn i.dc)∧W.cell? ⟨w3.heap.size,0,none⟩=some (.int .i64 R.1.err)) ?_ (fun hHeld => ?_)
   ·first | exact Kx.out _ hx9 | exact Kx.out _ hx91 | exact Kx.out _ hx90
   (first | refine aJ ?_ | refine np_q ?_ | refine aL 0 ?_);(try simp only[nSO])
   first | (refine np_s 1 ?_;(try simp only[nSO])) | (refine np_c 1 (fun K hK => ?_);go_simp;((go_at_call 99;refine (bT _ _).mono ?_;rintro e w9a ⟨rfl,hba⟩;have hx91:=hx90.trans (hba.mono hx90.size)));(try go_wp2_with fail);refine hK.out _ _ ?_ (fun hHeld => ?_);(· (first | exact Kx.out _ hx9 | exact Kx.out _ hx91 | exact Kx.out _ hx90));clear hK K;(try simp only[nSO]))
   first | (refine np_s 2 ?_;(try simp only[nSO])) | (refine np_c 2 (fun K hK => ?_);go_simp;((go_at_call 103;refine (aEq r (aS 14) i _ hin).mono ?_;rw[h14];rintro e w9 ⟨rfl,hbb⟩;have hx9:=hx91.trans (hbb.mono hx91.size)));(try go_wp2_with fail);refine hK.out _ _ ?_ (fun hHeld => ?_);(· (first | exact Kx.out _ hx9 | exact Kx.out _ hx91 | exact Kx.out _ hx90));clear hK K;(try simp only[nSO]))
   iterate 6 ((first | refine aJ ?_ | refine np_q ?_);(try simp only[nSO]))
   refine np_z ?_
   go_wp2
   go_returns
   (have hv:=HV.out;simp at hv;subst hv;exact⟨(by first | rfl | (simp;done) | (simpa using he13)),M,Hm.below (hB6.trans (hx9.mono hB6.size)),rfl,aF.of_below (hB6.trans (hx9.mono hB6.size)),fun k hk => .inl hk⟩)
end Go.Proofs.YtdeiocppghhfdaaGreat
namespace Go.Proofs.YtdeiocppghhfdaaGreat
open Go.RowKit Go.Lib Go.Shelf
theorem aO9 (b:Nat) (c:Int) (M:MM) (q:OpV) (r:ResV) (i:ItV) (w0 W:World) (h:Run w0 W b M) (hok:MSok M.st 100000) (hi:OpIn q) (hin:i.dn≤maxLen) :
  Calls Tryz.prog 53 #[.pointer (some ⟨b,0,none⟩),.int .i64 c,.agg #[.int .u8 q.kind,.int .i64 q.slot,.int .i64 q.at_,.int .i64 q.n,.int .u32 q.id,.int .u8 q.grav,.string q.text],.agg #[.int .i64 r.err,.int .i64 r.rev,.int .i64 r.slot,.int .i64 r.at_,.int .u8 r.grav,.string r.text,.int .i64 r.m1,.int .i64 r.m2,.int .i64 r.m3,.int .u8 i.k,.int .i64 i.f,.int .i64 i.t,.slice i.da i.dn i.dc]] W fun e W'=>∃ M',e = .returned (.bool (accS M.st c q r i).1)∧Run w0 W' b M'∧M'.st=(accS M.st c q r i).2∧aF (M.fp b) W W':=by
 refine (aEs b c M q r i W h.at_ hok hi hin).mono ?_
 rintro e W' ⟨rfl,M',hM,hst,hk,hf⟩
 exact⟨M',rfl,⟨hM,fun k hk=>(hf k hk).elim (h.own k) (fun h'=>Nat.le_trans h.bl.size h'),h.keep hk⟩,hst,hk⟩
end Go.Proofs.YtdeiocppghhfdaaGreat
