/- Texts, one behind another. -/
import Derived.Test.YtdeiocppghhfdaaGreatZfbm
set_option linter.unusedVariables false
set_option linter.unusedSimpArgs false
set_option maxRecDepth 100000
set_option maxHeartbeats 40000000
namespace Go.Proofs.YtdeiocppghhfdaaGreat
open Go.RowKit Go.Lib Go.Shelf
theorem RBld.keep6 {s:Nat} {W w6:World} {b n:Nat} {M:RM} (h:RBld s W b n M) {o:Obj} (hg6:(W.alloc o).grownBy w6 M.sv.ownBlock) {k:Nat} {cs:Array Value} {e:TypeId} (he:e≠213) (hk:W.heap[k]? = some (Obj.cells cs e (0,0))):w6.heap[k]? = some (Obj.cells cs e (0,0)):=by
 have hlt:=(gAz hk).1
 refine ((hg6.block k (by simp;omega) (fun hc => ?_)).trans (heap_alloc_old _ _ hlt)).trans hk
 obtain⟨cs2,h2⟩:=wH h.snaps k hc.symm
 rw[hk] at h2;injection h2 with h2;injection h2 with _ h2 _;exact he h2
theorem aSg {W:World} {b n:Nat} {M:RM} (h:W.heap[b]? = some (Obj.cells (rdC n M).toArray 178 (0,0))):W.cell? ⟨b,7,none⟩=some M.sv∧W.frozen? ⟨b,7,none⟩=false:=by
 constructor<;>simp[World.cell?,World.frozen?,h,rdC]
theorem aM6 {c:CfgV} {n r:Nat} {D:List SeM} (hn:c.clients=n) (hr:c.readers=r) (hD:D.map (·.st)=List.replicate n ⟨false,List.replicate r jN⟩) (bv sv:Value):(⟨c.text,.slice none 0 0,[],0,false,r,bv,sv,D⟩:RM).st=newS c:=by
 show (⟨c.text,[],0,false,r,D.map (·.st)⟩:MS)=_
 rw[hD]
 unfold newS
 rw[hn,hr]
 rfl
theorem aCv (c:CfgV) (w:World):Calls Tryz.prog 120 #[c.v] w fun e w'=>(cfgE c≠0∧e = .returned (.tuple #[.pointer none,.int .i64 (cfgE c)])∧Below w.heap.size w w') ∨
  (cfgE c=0∧∃ b M,e = .returned (.tuple #[.pointer (some ⟨b,0,none⟩),.int .i64 0])∧RdAt w' b M∧M.st=newS c∧Below w.heap.size w w'∧∀ k,M.fp b k→w.heap.size≤k):=by
 obtain⟨i0,hi,iz0,iz1,iz2⟩:=info_parts aMk
 have hB0:=(Below.refl w.heap.size w).alloc (Nat.le_refl _) (.cells #[.int .i64 c.slots,.int .u64 c.gens,.int .i64 c.clients,.int .i64 c.readers,.int .i64 c.queue,.int .i64 c.batch,.int .i64 c.feed,.string c.text] 24)
 have hz0:=heap_alloc_new w (.cells #[.int .i64 c.slots,.int .u64 c.gens,.int .i64 c.clients,.int .i64 c.readers,.int .i64 c.queue,.int .i64 c.batch,.int .i64 c.feed,.string c.text] 24)
 have hck:=fun W=>wW c W
 unfold CfgV.v at hck ⊢
 by_cases he:cfgE c=0
 ·rw[he] at hck
  have hcl:0≤c.clients∧c.clients≤8∧0≤c.readers∧c.readers≤8:=by
   unfold cfgE at he
   split at he
   ·rename_i hb
    simp[cfgB,inB] at hb
    omega
   ·cases he
  obtain⟨n,hn⟩:∃ n:Nat,c.clients=n:=⟨c.clients.toNat,by omega⟩
  obtain⟨r,hr⟩:∃ n:Nat,c.readers=n:=⟨c.readers.toNat,by omega⟩
  have hn8:n≤8:=by omega
  have hr8:r≤8:=by omega
  refine Calls.mono (R:=fun e w'=>∃ b M,e = .returned (.tuple #[.pointer (some ⟨b,0,none⟩),.int .i64 0])∧RdAt w' b M∧M.st=newS c∧Below w.heap.size w w'∧∀ k,M.fp b k→w.heap.size≤k) ?_ (fun e w' h => .inr ⟨he,h⟩)
  clear he hcl
  rw[hn,hr] at hck hz0 hB0
  have Hn:=Lib.hid hn
  have Hr:=Lib.hid hr
  rw[hn,hr]
  clear hn hr
  go_enter Tryz.func120,Tryz.ntmps120
  go_wp2_with (go_at_call 175;refine (hck _).mono ?_;rintro e w1 ⟨rfl,hb1⟩;have hB1:=hB0.trans (hb1.mono (by simp));have hz1:=(hb1.block _ (by simp)).trans hz0;clear hck hz0 hb1 hB0)
  have kx:∀ W,Below w1.heap.size w1 W→W.cell? ⟨w.heap.size,7,none⟩=some (.string c.text)∧W.cell? ⟨w.heap.size,3,none⟩=some (.int .i64 r)∧W.cell? ⟨w.heap.size,2,none⟩=some (.int .i64 n):=fun W hW=>by
   have hz:=(hW.block _ (gAz hz1).1).trans hz1
   refine⟨?_,?_,?_⟩<;>simp[World.cell?,hz]
  have Kx:=Lib.hid kx
  clear kx
  have hx0:=(Below.refl w1.heap.size w1).drew
  obtain⟨V1,hmk,hs1,hg1,hbV⟩:=aCm w1.drew n (by omega)
  have hx6:=hx0.trans hbV
  have hx8:=hx6.alloc hx6.size (.cells (rdC n ⟨c.text,.slice none 0 0,[],0,false,r,.slice (some ⟨w1.heap.size,0,none⟩) n n,.slice none 0 0,[]⟩).toArray 178)
  have hs1':V1.heap.size=w1.heap.size+1:=hs1
  clear hs1
  refine aP (S:=fun W=>W.cell? ⟨w.heap.size,7,none⟩=some (.string c.text)∧W.cell? ⟨w.heap.size,3,none⟩=some (.int .i64 r)∧W.cell? ⟨w.heap.size,2,none⟩=some (.int .i64 n)) ?_ (fun hHeld => ?_)
  ·first | exact Kx.out _ hx8' | exact Kx.out _ hx6' | exact Kx.out _ hx0
  iterate 8 (((first | refine np_q ?_ | refine aL 0 ?_);(try simp only[nSO])))
  (refine np_c 8 (fun K hK => ?_);go_simp;((have hx6':=hx6));(try go_wp2_with fail);refine hK.out _ _ ?_ (fun hHeld => ?_);(· (first | exact Kx.out _ hx8' | exact Kx.out _ hx6' | exact Kx.out _ hx0));clear hK K;(try simp only[nSO]))
  (refine np_q ?_;(try simp only[nSO]))
  (refine np_c 10 (fun K hK => ?_);go_simp;((have hx8':=hx8));(try go_wp2_with fail);refine hK.out _ _ ?_ (fun hHeld => ?_);(· (first | exact Kx.out _ hx8' | exact Kx.out _ hx6' | exact Kx.out _ hx0));clear hK K;(try simp only[nSO]))
  (refine np_q ?_;(try simp only[nSO]))
  refine np_z ?_
  obtain⟨M0,hM0⟩:∃ M0:RM,M0=⟨c.text,.slice none 0 0,[],0,false,r,.slice (some ⟨w1.heap.size,0,none⟩) n n,.slice none 0 0,[]⟩:=⟨_,rfl⟩
  have hBd:RBld w.heap.size (V1.alloc (.cells (rdC n M0).toArray 178)) (w1.heap.size+1) n M0:=by
   subst hM0
   have hw1:=hB1.size
   have hg1':=(heap_alloc_old V1 (.cells (rdC n ⟨c.text,.slice none 0 0,[],0,false,r,.slice (some ⟨w1.heap.size,0,none⟩) n n,.slice none 0 0,[]⟩).toArray 178) (gAz hg1).1).trans hg1
   refine⟨?_,⟨rfl,.inl ⟨rfl,rfl⟩⟩,aV hw1 (aP3 hg1' (by omega)),⟨rfl,.inl ⟨rfl,rfl⟩⟩,(fun S hS=>by cases hS),(fun S hS=>by cases hS),⟨by simp[Value.ownBlock],fun S hS=>by cases hS⟩,(fun S hS=>by cases hS),by simp⟩
   rw[← hs1'];exact heap_alloc_new V1 _
  have hBV:Below w.heap.size w (V1.alloc (.cells (rdC n M0).toArray 178)):=by subst hM0;exact hB1.trans (hx8.mono hB1.size)
  have hcz:(V1.alloc (.cells (rdC n M0).toArray 178)).heap[w.heap.size]? = some (.cells #[.int .i64 c.slots,.int .u64 c.gens,.int .i64 n,.int .i64 r,.int .i64 c.queue,.int .i64 c.batch,.int .i64 c.feed,.string c.text] 24 (0,0)):=by
   subst hM0;exact (hx8.block _ (gAz hz1).1).trans hz1
  have hV:V1.alloc (.cells (rdC n M0).toArray 178)=V1.alloc (.cells #[.int .i64 n,.int .i64 r,.string c.text,.slice none 0 0,.int .i64 0,.bool false,.slice (some ⟨w1.heap.size,0,none⟩) n n,.slice none 0 0] 178):=by subst hM0;rfl
  rw[hV] at hBd hBV hcz
  have hwg:w.heap.size<w1.heap.size:=(gAz hz1).1
  have hbs:M0.seats=[]:=by subst hM0;rfl
  have hfb:∀ k,M0.bv.ownBlock=some k→w.heap.size≤k:=by
   subst hM0;intro k hk;injection hk with hk;have:w1.heap.size=k:=hk;omega
  have HFB:=Lib.hid hfb
  have HM0:=Lib.hid hM0
  clear hV hx0 hx6 hx8 hHeld Kx hmk hbV hg1 hz1 hfb hM0
  generalize V1.alloc (.cells #[.int .i64 n,.int .i64 r,.string c.text,.slice none 0 0,.int .i64 0,.bool false,.slice (some ⟨w1.heap.size,0,none⟩) n n,.slice none 0 0] 178)=V at *
  have cx:∀ W:World,W.heap[w.heap.size]? = some (.cells #[.int .i64 c.slots,.int .u64 c.gens,.int .i64 n,.int .i64 r,.int .i64 c.queue,.int .i64 c.batch,.int .i64 c.feed,.string c.text] 24 (0,0))→W.cell? ⟨w.heap.size,2,none⟩=some (.int .i64 n)∧W.cell? ⟨w.heap.size,3,none⟩=some (.int .i64 r):=fun W h=>by constructor<;>simp[World.cell?,h]
  have CX:=Lib.hid cx
  clear cx
  go_wp2
  go_loopw [6,23,24,25,26,27,28,29,30,31,32,33,34,35,36,37,38,39,40] (fun i x23 x24 x25 x26 x27 x28 x29 x30 x31 x32 x33 x34 x35 x36 x37 x38 x39 x40 wr=>∃ (k:Nat) (sv:Value) (D:List SeM),i = .int .i64 k∧k≤n∧D.length=k∧D.map (·.st)=List.replicate k ⟨false,List.replicate r jN⟩∧RBld w.heap.size wr (w1.heap.size+1) n { M0 with sv:=sv,seats:=D }∧Below w.heap.size w wr∧wr.heap[w.heap.size]? = some (.cells #[.int .i64 c.slots,.int .u64 c.gens,.int .i64 n,.int .i64 r,.int .i64 c.queue,.int .i64 c.batch,.int .i64 c.feed,.string c.text] 24 (0,0))) (fun i x23 x24 x25 x26 x27 x28 x29 x30 x31 x32 x33 x34 x35 x36 x37 x38 x39 x40 wr=>n-(intOf i).toNat)
  case atStart=>exact⟨0,M0.sv,[],rfl,by omega,rfl,rfl,by rw[← hbs];exact hBd,hBV,hcz⟩
  case round =>
   obtain⟨k,sv,D,rfl,hk,hD,hDs,hBd,hBV,hcz⟩:=hrel
   subst hD
   obtain⟨q2,q3⟩:=CX.out _ hcz
   have hDs':=Lib.hid hDs
   clear hDs
   by_cases hlt:D.length<n
   ·obtain⟨V2,hmk,hs2,hg2,hb2⟩:=aMo wr.drew r (by omega)
    have hb2':Below wr.heap.size wr V2:=(Below.refl _ _).drew.trans hb2
    have hBd2:=hBd.below hb2'
    have hs2':V2.heap.size=wr.heap.size+1:=hs2
    have hBV2:=hBV.trans (hb2'.mono hBV.size)
    have hcz2:=(hb2'.block _ (gAz hcz).1).trans hcz
    have hwz:=hBV.size
    have c7:wr.cell? ⟨w1.heap.size+1,7,none⟩=some sv:=by simp[World.cell?,hBd.blk,rdC]
    have c72:V2.cell? ⟨w1.heap.size+1,7,none⟩=some sv:=by simp[World.cell?,hBd2.blk,rdC]
    obtain⟨O,hO⟩:∃ O:Obj,O = .cells #[.slice (some ⟨wr.heap.size,0,none⟩) r r] 213:=⟨_,rfl⟩
    have c73:(V2.alloc O).cell? ⟨w1.heap.size+1,7,none⟩=some sv:=Lib.cell?_alloc_some O c72
    have hown:=hBd2.snaps.alloc O
    have hown':(V2.alloc O).ownsRow w.heap.size 213 1 sv D.length (rowL D):=hown
    clear hown
    subst hO
    have hnew:=aW V2 [.slice (some ⟨wr.heap.size,0,none⟩) r r] 213
    rw[hs2'] at hnew
    have HBd2:=Lib.hid hBd2
    have Hown:=Lib.hid hown'
    have Hnew:=Lib.hid hnew
    have HG2:=Lib.hid hg2
    clear hown' hnew hBd2 hb2 hs2 hg2
    go_wp2
    go_region_law (rw[if_pos (by rfl)];refine wp_append_own _ _ _ 176 rfl w.heap.size 213 i0 (.slice none 0 0) 1 24 Tryz.underlying176 hi iz0 iz1 iz2 rfl (by decide) sv D.length (rowL D) rfl Hown.out _ _ _ [.slice (some ⟨wr.heap.size,0,none⟩) r r] rfl rfl Hnew.out (by simp[Value.oneCell']) (by unfold maxLen;omega) (by omega) (by have:=hBV2.size;simp;omega) ?_;intro v6 w6 hn6 hg6 _;obtain⟨a6,cc6,rfl⟩:=aC hn6;obtain⟨c76,f76⟩:=aSg (HBd2.out.keep6 hg6 (by decide) HBd2.out.blk))
    all_goals
     have hkw:=(HBd2.out.keep6 hg6 (by decide) hcz2)
     have hcz6:=(aG w6 ⟨w1.heap.size+1,7,none⟩ (.slice a6 (D.length+1) cc6) w.heap.size (show w.heap.size≠w1.heap.size+1 by omega)).trans hkw
     have hB6:=((hBV2.alloc hBV2.size (.cells #[.slice (some ⟨wr.heap.size,0,none⟩) r r] 213)).grown hg6 (by have:=hBV2.size;simp;omega) (fun q hq=>(Hown.out.lt q hq).1)).setCell (p:=⟨w1.heap.size+1,7,none⟩) (by show w.heap.size≤w1.heap.size+1;omega) (.slice a6 (D.length+1) cc6)
     have hBd6:RBld w.heap.size (w6.setCell ⟨w1.heap.size+1,7,none⟩ (.slice a6 (D.length+1) cc6)) (w1.heap.size+1) n { M0 with sv := .slice a6 (D.length+1) cc6,seats:=D++[⟨false,.slice (some ⟨wr.heap.size,0,none⟩) r r,List.replicate r zSn⟩] }:=HBd2.out.push ⟨false,.slice (some ⟨wr.heap.size,0,none⟩) r r,List.replicate r zSn⟩ _ _ (by omega) hg6 hn6 (by rw[hs2',Nat.add_sub_cancel];exact aP2 HG2.out (by omega)) (fun S' hS' g hg=>by rw[hs2',Nat.add_sub_cancel];exact lN (hBd.slots S' hS') hg) (by simp[Value.ownBlock]) rfl (fun x hx=>by rw[(List.mem_replicate.1 hx).2];exact⟨rfl,.inl ⟨rfl,rfl⟩⟩)
     go_wp2
     go_roundw
     case rel=>exact⟨D.length+1,_,_,by go_num,by omega,by rw[List.length_append];rfl,by rw[List.map_append,hDs'.out,List.replicate_succ'];congr 1;show [SeM.st ⟨false,_,List.replicate r zSn⟩]=_;simp[SeM.st,zSn],hBd6,hB6,hcz6⟩
     case measure=>simp[intOf];omega
   ·have hkn:D.length=n:=by omega
    go_wp2
    go_returns
    have hDn:=hkn
    have hDs2:=hDs'.out
    rw[hkn] at hDs2
    refine⟨_,_,rfl,hBd.rdAt hDn,?_,hBV,?_⟩
    ·rw[HM0.out];exact aM6 Hn.out Hr.out hDs2 _ _
    ·rintro j (h | h | ⟨S,hS,h⟩)
     ·omega
     ·exact HFB.out j h
     ·exact (World.ownsRow.lt (hBd.slots S hS) j h).1
 ·refine Calls.mono (R:=fun e w'=>e = .returned (.tuple #[.pointer none,.int .i64 (cfgE c)])∧Below w.heap.size w w') ?_ (fun e w' h => .inl ⟨he,h⟩)
  have hd:(cfgE c == 0)=false:=by simpa using he
  generalize cfgE c=E at *
  go_enter Tryz.func120,Tryz.ntmps120
  go_wp2_with (go_at_call 175;refine (hck _).mono ?_;rintro e w1 ⟨rfl,hb1⟩;have hB1:=hB0.trans (hb1.mono (by simp)))
  go_returns
  exact⟨rfl,hB1⟩
end Go.Proofs.YtdeiocppghhfdaaGreat
