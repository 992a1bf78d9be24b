/- LinearExamples: the law returns true for every input, and leaves its arguments as they were. -/
import Derived.Test.YtdeiocppghhfdaaGreatZfbv
import Derived.Test.YtdeiocppghhfdaaGreatZfbw
set_option linter.unusedVariables false
set_option linter.unusedSimpArgs false
set_option maxRecDepth 100000
set_option maxHeartbeats 40000000
namespace Go.Proofs.YtdeiocppghhfdaaGreat.Lin
open Hs (aA befB bF aQ fV dO ordE plc)
abbrev chainC (L:List aA) (st:MS) (u:Nat) (o:List Nat):Bool:=chain L.length (nx L) (rdyB L) (bW L) st u o
end Go.Proofs.YtdeiocppghhfdaaGreat.Lin
namespace Go.Proofs.YtdeiocppghhfdaaGreat.Lin
open Go.RowKit Go.Lib Go.Shelf
open Hs
open KitI (iv IRow)
section
variable {w W:World} {c:CfgV} {p:Option Addr} {cap:Nat} {cs:List aA}
theorem LawW.find (h:LawW w W c p cap cs):Calls Tryz.prog 19 #[.agg (cfgL c).toArray,.slice p cs.length cap] W fun e W'=>∃ a q,e = .returned (.tuple #[.slice a (iE c cs).1.length q,.bool (iE c cs).2.1,.int .i64 (iE c cs).2.2])∧W'.ownsRow W.heap.size tInt 1 (.slice a (iE c cs).1.length q) (iE c cs).1.length ((iE c cs).1.map fun (x:Nat)=>iv x)∧IRd W' a ((iE c cs).1.map fun (x:Nat)=>(x:Int))∧Below W.heap.size W W':=by
 refine (mP c p cap cs W h.row.row (by have:=h.row.len;omega) h.row.ok h.ps).mono ?_
 rintro e W' ⟨v,rfl,hO,hb⟩
 obtain⟨a,q,rfl⟩:=aC hO
 exact⟨a,q,rfl,hO,IRd.of (aCw hO rfl),hb⟩
theorem LawW.check (h:LawW w W c p cap cs):Calls Tryz.prog 23 #[.agg (cfgL c).toArray,.slice p cs.length cap] W fun e W'=>e = .returned (.tuple #[.bool (iE c cs).2.1,.int .i64 (iE c cs).2.2])∧Below W.heap.size W W':=aPo c p cap cs W h.row.row (by have:=h.row.len;omega) h.row.ok h.ps
theorem LawW.count (h:LawW w W c p cap cs) (m:Int):Calls Tryz.prog 21 #[.agg (cfgL c).toArray,.int .i64 m,.slice p cs.length cap] W fun e W'=>e = .returned (.tuple #[.int .i64 (countP c m cs).1,.int .i64 (countP c m cs).2])∧Below W.heap.size W W':=aJa c m p cap cs W h.row.row (by have:=h.row.len;omega) h.row.ok h.ps
theorem LawW.awake (h:LawW w W c p cap cs):Calls Tryz.prog 26 #[] W fun e W'=>e = .returned (.bool true)∧Below w.heap.size w W':=by
 refine (aCx W).mono ?_
 rintro e W' ⟨rfl,hb⟩
 exact⟨rfl,h.bl.trans (hb.mono h.bl.size)⟩
end
end Go.Proofs.YtdeiocppghhfdaaGreat.Lin
namespace Go.Proofs.YtdeiocppghhfdaaGreat.Lin
open Go.RowKit Go.Lib Go.Shelf
open Hs
theorem SS_chain {L:List aA} {st:MS} {a:List Nat} (h:SS L st 0=some a):chainC L st 0 a=true:=aPa L.length (by unfold fr;exact Nat.le_trans (List.length_filter_le _ _) (by simp)) h
theorem chain_len {α:Type} {n:Nat} {next:α→Nat→Option α} {rdy:Nat→Nat→Bool} {fl:Nat→Bool}:∀ (o:List Nat) {s:α} {u:Nat},chain n next rdy fl s u o=true→o.length≤fr n u
 |[],_,_,_=>Nat.zero_le _
 |i::r,s,u,h=>by
  unfold chain at h
  simp only[Bool.and_eq_true,decide_eq_true_eq] at h
  obtain⟨⟨hi,hc⟩,h⟩:=h
  cases hn:next s i with
  |none=>rw[hn] at h;cases h
  |some t =>
   rw[hn] at h
   have h1:=chain_len r h
   have h2:=yG hi (nD hc)
   rw[List.length_cons];omega
theorem find_len (c:CfgV) (L:List aA):(iE c L).1.length≤L.length:=by
 unfold iE
 split
 ·exact Nat.zero_le _
 ·cases hS:SS L (newS c) 0 with
  |none=>exact Nat.zero_le _
  |some a =>
   have:=chain_len a (SS_chain hS)
   have h2:fr L.length 0≤L.length:=by unfold fr;exact Nat.le_trans (List.length_filter_le _ _) (by simp)
   exact Nat.le_trans this h2
end Go.Proofs.YtdeiocppghhfdaaGreat.Lin
namespace Go.Proofs.YtdeiocppghhfdaaGreat.Lin
open Go.RowKit Go.Lib Go.Shelf
open Hs
open KitI (iv own_below)
attribute [local go_sem, local simp] Hs.dP
attribute [local go_sem ↓] Hs.aN Hs.aR
attribute [local go_sem] Hs.bX Hs.bB Hs.aX Hs.bH Hs.cK
section
variable {W:World} {s g:Nat} {p:Option Addr} {cap n:Nat} {bits:List Bool} {ov fv:Value} {many most:Int}
theorem SrAt.cells (h:SrAt W s g p cap n bits ov fv many most):W.cell? ⟨s,1,none⟩=some ov∧W.cell? ⟨s,3,none⟩=some (.int .i64 many)∧W.cell? ⟨s,4,none⟩=some fv∧W.cell? ⟨s,5,none⟩=some (.int .i64 most)∧∀ i,W.frozen? ⟨s,i,none⟩=false :=
 ⟨by simp[World.cell?,h.blk],by simp[World.cell?,h.blk],by simp[World.cell?,h.blk],by simp[World.cell?,h.blk],fun i=>eB h.blk i⟩
theorem SrAt.ne (h:SrAt W s g p cap n bits ov fv many most):g≠s:=fun e=>by
 have h1:=h.blk
 rw[← e,h.row] at h1
 injection h1 with h1
 injection h1 with _ h2 _
 exact absurd h2 (by decide)
theorem SrAt.setOv (h:SrAt W s g p cap n bits ov fv many most) (v:Value):SrAt (W.setCell ⟨s,1,none⟩ v) s g p cap n bits v fv many most :=
 ⟨bZ h.blk 1 v,(aG W ⟨s,1,none⟩ v g h.ne).trans h.row,h.len⟩
theorem SrAt.setMany (h:SrAt W s g p cap n bits ov fv many most) (m:Int):SrAt (W.setCell ⟨s,3,none⟩ (.int .i64 m)) s g p cap n bits ov fv m most :=
 ⟨bZ h.blk 3 (.int .i64 m),(aG W ⟨s,3,none⟩ _ g h.ne).trans h.row,h.len⟩
theorem SrAt.setFv (h:SrAt W s g p cap n bits ov fv many most) (v:Value):SrAt (W.setCell ⟨s,4,none⟩ v) s g p cap n bits ov v many most :=
 ⟨bZ h.blk 4 v,(aG W ⟨s,4,none⟩ v g h.ne).trans h.row,h.len⟩
end
theorem KS.set {B s g:Nat} (W:World) {k:Nat} (hk:k=s∨k=g) (i:Nat) (v:Value):KS B s g W (W.setCell ⟨k,i,none⟩ v) :=
 KS.keep (aF.set (F:=fun x=>x=s∨x=g) (a:=⟨k,i,none⟩) hk v) (fun x hx=>hx.elim .inl (fun h => .inr (.inl h)))
theorem wp_append_row {P:Program} {w:World} {o:Oper} {a:Act} {K:Act→World→Prop} {Q:Exit→Act→World→Prop} (s x:Operand) (t:TypeId)
  (ho:o.op = .call { callee := .builtin .append,args := #[s,x],argTypes := #[t,t] })
  (base:Nat) (e:TypeId) (i:TypeInfo) (z:Value) (bytes:Nat) (ht:P.underlying t=some (.slice e)) (hi:P.info? e=some i) (hz:i.zero=some z) (hsize:i.size=1) (hby:i.bytes=bytes) (hzs:z.cells.size=1)
  (v:Value) (n:Nat) (xs:List Value) (hs:a.eval s=v) (hown:w.ownsRow base e 1 v n xs)
  {b2:Nat} (u:Value) (m:Nat) (ys:List Value) (hx:a.eval x=u) (hu:w.ownsRow b2 e 1 u m ys) (h1:∀ u∈ys,u.oneCell'=true) (h63:n+m≤maxLen) (hbytes:(n+m)*bytes≤140737488355328) (hbase:base≤w.heap.size)
  (h:∀ v' w',w'.ownsRow base e 1 v' (n+m) (xs++ys)→w.grownBy w' v.ownBlock→K (a.put o.dst v') w'):o.wp P a w K Q:=by
 rcases hu.2 with⟨rfl,rfl⟩ | ⟨g,cap,cur,rfl,hg⟩
 ·have hy:ys=[]:=List.length_eq_zero_iff.1 (by have:=hu.1;omega)
  subst hy
  exact iA s x t ho base e i 1 ht hi v n xs hs hown hx (h v w (by simpa using hown) ⟨rfl,rfl,rfl,Nat.le_refl _,fun _ _ _=>rfl⟩)
 ·exact wp_append_own w s x t ho base e i z 1 bytes ht hi hz hsize hby hzs (by decide) v n xs hs hown ⟨g,0,none⟩ m cap ys hx hu.1 (fun j q hq=>by have:=(kT hu j q hq).1;unfold Addr.add;split<;>simp_all) h1 h63 hbytes hbase fun v' w' h2 h3 _=>h v' w' h2 h3
theorem SrAt.grown {W W':World} {s g:Nat} {p:Option Addr} {cap n:Nat} {bits:List Bool} {ov fv:Value} {many most:Int} (h:SrAt W s g p cap n bits ov fv many most) {B m:Nat} {v:Value} {xs:List Value} (ho:W.ownsRow B 3 1 v m xs) (hg:W.grownBy W' v.ownBlock):SrAt W' s g p cap n bits ov fv many most :=
 ⟨(hg.block s (gAz h.blk).1 (fun e=>oK ho h.blk (by decide) e.symm)).trans h.blk,(hg.block g (gAz h.row).1 (fun e=>oK ho h.row (by decide) e.symm)).trans h.row,h.len⟩
theorem KS.grown {B s g m:Nat} {W W':World} {v:Value} {xs:List Value} (ho:W.ownsRow B 3 1 v m xs) (hg:W.grownBy W' v.ownBlock):KS B s g W W' :=
 ⟨hg.os,hg.tape,hg.output,hg.size,fun k hk _ _ h3=>hg.block k hk (fun e=>by
  rcases ho.2 with⟨rfl,_⟩ | ⟨q,c,cur,rfl,hB,hc,_⟩
  ·cases e
  ·have hq:k=q:=by injection e
   subst hq
   rcases h3 with h3 | h3
   ·omega
   ·exact h3 _ _ hc)⟩
theorem aN2 {B k i m:Nat} {W:World} {v x:Value} {xs:List Value} {cs:Array Value} {T:TypeId} (ho:W.ownsRow B 3 1 v m xs) (hc:W.heap[k]? = some (.cells cs T (0,0))) (hT:T≠3):(W.setCell ⟨k,i,none⟩ x).ownsRow B 3 1 v m xs :=
 aH ho hc hT (fun j _ hj=>aG W ⟨k,i,none⟩ x j hj)
theorem keep_bel {F:Nat→Prop} {n:Nat} {a b c:World} (h:Below n a b) (k:aF F b c) (hF:∀ x,F x→n≤x) (hn:n≤b.heap.size):Below n a c :=
 ⟨k.os.trans h.os,k.tape.trans h.tape,k.output.trans h.output,Nat.le_trans h.size k.size,fun x hx=>(k.block x (by omega) (fun f=>by have:=hF x f;omega)).trans (h.block x hx)⟩
def SPost (s g B:Nat) (p:Option Addr) (cap:Nat) (cs:List aA) (most u:Nat) (ord fst:List Nat) (many:Nat) (st:MS) (W:World) (e:Ending) (W':World):Prop :=
 (∃ v,e = .returned v)∧KS B s g W W'∧∃ ov' fv',SrM B s g p cap cs most u ov' fv' ord (fsts many ord fst (SS cs st u)) (min most (many+CC cs st u)) W'
def SCall (w:World) (s g B:Nat) (p:Option Addr) (cap:Nat) (cs:List aA) (most k:Nat):Prop :=
 ∀ (W:World) (b:Nat) (M:RM) (st:MS) (u:Nat) (ov fv:Value) (ord fst:List Nat) (many:Nat) (K:Int),RdAt W b M→M.st=st→MSok st K→K+k≤100000→fr cs.length u≤k→B≤W.heap.size→Below w.heap.size w W→SrM B s g p cap cs most u ov fv ord fst many W→(∀ x,M.fp b x→x≠s∧x≠g)→ord.length+k≤10 →
  Calls Tryz.prog 68 #[.pointer (some ⟨s,0,none⟩),.pointer (some ⟨b,0,none⟩)] W (SPost s g B p cap cs most u ord fst many st W)
def SRel (s g B:Nat) (p:Option Addr) (cap:Nat) (cs:List aA) (most u:Nat) (ord fst:List Nat) (many:Nat) (st:MS) (W:World) (i:Value) (wr:World):Prop :=
 ∃ (j:Nat) (ov fv:Value),i = .int .i64 j∧j≤cs.length∧KS B s g W wr∧SrM B s g p cap cs most u ov fv ord (fsts many ord fst (fstj cs st u j)) (min most (many+tsum cs st u j)) wr
theorem search_step {w:World} {s g B:Nat} {p:Option Addr} {cap:Nat} {cs:List aA} {most:Nat} (hs:w.heap.size≤s) (hg:w.heap.size≤g) (hBw:w.heap.size≤B) (hC:CRow w p cap cs) (hl:cs.length≤10) (hok:∀ c∈cs,c.Ok) (hm1:1≤most) (hm2:most≤1000000) {k:Nat} (ih:∀ k'<k,SCall w s g B p cap cs most k'):SCall w s g B p cap cs most k:=by
 intro W b M st u ov fv ord fst many K hM hst hMok hK hfr hBW hB hS hne hol
 subst hst
 have hBW':=hB
 obtain⟨c1,c3,c4,c5,cf⟩:=hS.sr.cells
 by_cases hge:most≤many
 ·have d1:decide ((most:Int)≤many)=true:=by simp;omega
  have d2:decide (most≤many)=true:=by simpa using hge
  have hle:=hS.le
  have hfs:fsts many ord fst (SS cs M.st u)=fst:=by unfold fsts;rw[if_neg (by omega)]
  have hmn:min most (many+CC cs M.st u)=many:=by omega
  have hSd:SrM B s g p cap cs most u ov fv ord (fsts many ord fst (SS cs M.st u)) (min most (many+CC cs M.st u)) W.drew:=by rw[hfs,hmn];exact hS.on (Below.refl _ _).drew
  clear ih
  go_enter Tryz.func68,Tryz.ntmps68
  go_wp2
  refine aP (S:=fun W=>W.cell? ⟨s,3,none⟩=some (.int .i64 many)∧W.cell? ⟨s,5,none⟩=some (.int .i64 most)) ?_ (fun hHeld => ?_)
  ·exact⟨c3,c5⟩
  iterate 9 ((first | refine aJ ?_ | refine np_q ?_ | refine aL 0 ?_);(try simp only[nSO]))
  refine np_z ?_
  go_wp2
  go_returns
  exact⟨⟨_,rfl⟩,KS.below (Below.refl _ _).drew,ov,fv,hSd⟩
 ·have d1:decide ((most:Int)≤many)=false:=by simp;omega
  have d2:decide (most≤many)=false:=by simpa using hge
  have hSd:=hS.on (Below.refl _ _).drew
  have hfl:=aI6 s g cap p cs _ ov fv many most _ hSd.sr (hC.on hB.drew) (by omega)
  rw[aRw] at hfl
  go_enter Tryz.func68,Tryz.ntmps68
  go_wp2
  refine aP (S:=fun W=>W.cell? ⟨s,3,none⟩=some (.int .i64 many)∧W.cell? ⟨s,5,none⟩=some (.int .i64 most)) ?_ (fun hHeld => ?_)
  ·exact⟨c3,c5⟩
  iterate 9 ((first | refine aJ ?_ | refine np_q ?_ | refine aL 0 ?_);(try simp only[nSO]))
  refine np_z ?_
  go_wp2_with fail
  (go_at_call 74;refine hfl.mono ?_;rintro e w1 ⟨rfl,hb1⟩)
  have hS1:=hSd.on hb1
  have hk1:KS B s g W w1:=(KS.below (Below.refl _ _).drew).trans (KS.below hb1)
  obtain⟨q1,q3,q4,q5,qf⟩:=hS1.sr.cells
  obtain⟨i0,hi,hz0,hz1,hz2⟩:=info_parts KitI.kH
  have hzr:=hS1.zero
  cases hf:bW cs u
  focus
   have hL:∃ fv',KS B s g W w1∧SrM B s g p cap cs most u ov fv' ord (fsts many ord fst (fstj cs M.st u 0)) (min most (many+tsum cs M.st u 0)) w1:=by
    have e1:fsts many ord fst none=fst:=by
     unfold fsts
     split
     ·rename_i h;exact (hzr h).1.symm
     ·rfl
    rw[aJi,aJk,hf]
    simp only[Bool.false_eq_true,if_false,Nat.add_zero,e1]
    rw[Nat.min_eq_right (by omega)]
    exact⟨fv,hk1,hS1⟩
   go_wp2_with fail
  rotate_left
  focus
   have f4:=qf 4
   have f3:=qf 3
   have hmn:min most (many+tsum cs M.st u 0)=many+1:=by rw[aJi,hf];simp;omega
   have hft:fsts many ord fst (fstj cs M.st u 0)=if many=0 then ord else fst:=by rw[aJk,hf];simp[fsts]
   have hmb:many+1≤most:=by omega
   have hol2:=hS1.oo
   have hBW1:B≤w1.heap.size:=Nat.le_trans hBW hk1.size
   by_cases hz:many=0
   focus
    obtain⟨hfe,rfl⟩:=hzr hz
    rw[if_pos hz] at hft
    have e3:((many:Int) == 0)=true:=by simp[hz]
    have e4:(many == 0)=true:=by simp[hz]
    have Hz:=Lib.hid hz
    clear hz
    have hbd:Below w1.heap.size w1 w1.drew:=(Below.refl _ _).drew
    have hSd:=hS1.on hbd
    obtain⟨r1,r3,r4,r5,rf⟩:=hSd.sr.cells
    have rf4:=rf 4
    go_wp2_with fail
    refine aP (S:=fun W=>W.cell? ⟨s,1,none⟩=some ov) ?_ (fun hHeld => ?_)
    ·first | exact (SrAt.setFv hS5 _).cells.1 | exact t1 | exact r1
    iterate 4 ((first | refine aJ ?_ | refine np_q ?_ | refine aL 0 ?_);(try simp only[nSO]))
    (first | refine np_s 5 ?_ | refine aL 5 ?_);(try simp only[nSO])
    iterate 3 ((first | refine aJ ?_ | refine np_q ?_);(try simp only[nSO]))
    first | (refine np_s 4 ?_;(try simp only[nSO])) | (refine np_c 4 (fun K hK => ?_);go_simp;(skip);(try go_wp2_with fail);refine hK.out _ _ ?_ (fun hHeld => ?_);(· (first | exact (SrAt.setFv hS5 _).cells.1 | exact t1 | exact r1));clear hK K;(try simp only[nSO]))
    first | (refine np_s 9 ?_;(try simp only[nSO])) | (refine np_c 9 (fun K hK => ?_);((refine wp_append_row _ _ 28 rfl B 3 i0 (.int .i64 0) 8 Tryz.underlying28 hi hz0 hz1 hz2 rfl _ 0 [] rfl (World.ownsRow_nil _ B _ _) _ _ _ rfl hSd.oo (by intro u hu;obtain⟨x,_,rfl⟩:=List.mem_map.1 hu;rfl) (by unfold maxLen;omega) (by omega) hBW1 ?_;intro v5 w5 hO5 hg5;obtain⟨a5,cp5,rfl⟩:=aC hO5;have hS5:=hSd.sr.grown (World.ownsRow_nil _ B _ _) hg5;obtain⟨t1,t3,t4,t5,tf⟩:=hS5.cells;have tf4:=tf 4;have tf3:=tf 3));refine hK.out _ _ ?_ (fun hHeld => ?_);(· (first | exact (SrAt.setFv hS5 _).cells.1 | exact t1 | exact r1));clear hK K;(try simp only[nSO]))
    iterate 2 ((first | refine aJ ?_ | refine np_q ?_);(try simp only[nSO]))
    first | (refine np_s 12 ?_;(try simp only[nSO])) | (refine np_c 12 (fun K hK => ?_);go_simp;(skip);(try go_wp2_with fail);refine hK.out _ _ ?_ (fun hHeld => ?_);(· (first | exact (SrAt.setFv hS5 _).cells.1 | exact t1 | exact r1));clear hK K;(try simp only[nSO]))
    refine np_z ?_
    have hb5:Below w1.drew.heap.size w1.drew w5:=⟨hg5.os,hg5.tape,hg5.output,hg5.size,fun k hk=>hg5.block k hk (fun e=>by cases e)⟩
    have hS5M:=hSd.on hb5
    have hS6:=hS5M.sr.setFv (.slice a5 ord.length cp5)
    have hL:∃ fv',KS B s g W ((w5.setCell ⟨s,4,none⟩ (.slice a5 ord.length cp5)).setCell ⟨s,3,none⟩ (.int .i64 ((many:Int)+1)))∧SrM B s g p cap cs most u ov fv' ord (fsts many ord fst (fstj cs M.st u 0)) (min most (many+tsum cs M.st u 0)) ((w5.setCell ⟨s,4,none⟩ (.slice a5 ord.length cp5)).setCell ⟨s,3,none⟩ (.int .i64 ((many:Int)+1))):=by
     rw[hmn,hft]
     exact⟨_,hk1.trans ((KS.below hbd).trans ((KS.below hb5).trans ((KS.set _ (.inl rfl) 4 _).trans (KS.set _ (.inl rfl) 3 _)))),by push_cast;exact hS6.setMany _,aN2 (aN2 hS5M.oo hS5M.sr.blk (by decide)) hS6.blk (by decide),fun _=>aN2 (aN2 (by simpa using hO5) hS5M.sr.blk (by decide)) hS6.blk (by decide),fun h=>by omega,by omega⟩
    clear hS6 hS5M hb5 hO5 hg5 hSd hbd hS5
    go_wp2_with fail
   rotate_left
   have e3:((many:Int) == 0)=false:=by simp[hz]
   have e4:(many == 0)=false:=by simp[hz]
   rw[if_neg hz] at hft
   have hL:∃ fv',KS B s g W (w1.setCell ⟨s,3,none⟩ (.int .i64 ((many:Int)+1)))∧SrM B s g p cap cs most u ov fv' ord (fsts many ord fst (fstj cs M.st u 0)) (min most (many+tsum cs M.st u 0)) (w1.setCell ⟨s,3,none⟩ (.int .i64 ((many:Int)+1))):=by
    rw[hmn,hft]
    exact⟨fv,hk1.trans (KS.set _ (.inl rfl) 3 _),by push_cast;exact hS1.sr.setMany _,aN2 hS1.oo hS1.sr.blk (by decide),fun h=>by omega,fun h=>by omega,by omega⟩
   go_wp2_with fail
  all_goals
   obtain⟨fv',hkL,hSL⟩:=hL
   clear hS1 hk1 hzr c1 c3 c4 c5 cf q1 q3 q4 q5 qf hf hfl d1 d2
   go_loopw [4] (fun i wr=>SRel s g B p cap cs most u ord fst many M.st W i wr) (fun i wr=>cs.length-(intOf i).toNat)
   case atStart=>exact⟨0,_,fv',rfl,by omega,hkL,hSL⟩
   case round =>
    clear hkL hSL
    obtain⟨j,ov1,fv1,rfl,hj,hk2,hS2⟩:=hrel
    have hbd:Below wr.heap.size wr wr.drew:=(Below.refl _ _).drew
    have hSd:=hS2.on hbd
    obtain⟨c0,c2⟩:=hS2.sr.c0
    obtain⟨c1,c3,c4,c5,cf⟩:=hS2.sr.cells
    have hk3:=hk2.trans (KS.below hbd)
    by_cases hlt:j<cs.length
    ·have g1:decide ((j:Int)<cs.length)=true:=by simp;omega
     have g2:decide (j<cs.length)=true:=by simpa using hlt
     by_cases hmm:min most (many+tsum cs M.st u j)<most
     ·have hskip:cand (rdyB cs) u j=false∨nx cs M.st j=none→min most (many+tsum cs M.st u (j+1))=min most (many+tsum cs M.st u j)∧fsts many ord fst (fstj cs M.st u (j+1))=fsts many ord fst (fstj cs M.st u j):=fun h=>by rw[(aRy h).1,(aRy h).2];exact⟨rfl,rfl⟩
      have hnext:=fun (t:MS) (hc:cand (rdyB cs) u j=true) (hn:nx cs M.st j=some t)=>aRx (cs:=cs) (st:=M.st) (t:=t) (u:=u) (j:=j) (many:=many) (most:=most) (ord:=ord) (fst:=fst) (fun h=>(hS.zero h).1) hm1 hc hn hmm
      have hMr:=aSi hM hk2 hS.sr.blk hS.sr.row hne
      have hsl:s<wr.heap.size∧g<wr.heap.size:=⟨(gAz hS2.sr.blk).1,(gAz hS2.sr.row).1⟩
      have hBr:B≤wr.heap.size:=Nat.le_trans hBW hk2.size
      obtain⟨m,hm⟩:∃ m,min most (many+tsum cs M.st u j)=m:=⟨_,rfl⟩
      obtain⟨F,hF⟩:∃ F,fsts many ord fst (fstj cs M.st u j)=F:=⟨_,rfl⟩
      simp only[hm] at hskip hnext hS2 hSd hmm c3
      simp only[hF] at hskip hnext hS2 hSd
      have Hskip:=Lib.hid hskip
      have Hnext:=Lib.hid hnext
      have Hkk:=Lib.hid hfr
      clear hskip hnext hm hF hS2 hfr
      have g3:decide ((m:Int)<most)=true:=by simp;omega
      have g4:decide (m<most)=true:=by simpa using hmm
      have hcp:=aI3 b M wr.drew (hMr.below hbd) hMok
      have hcok:=hok _ (mGz (bR hlt))
      have hCr:=fun (W':World) (h:Below wr.drew.heap.size wr.drew W')=>hC.on (KS.bel hBW' (hk3.trans (KS.below h)) hs hg hBw)
      go_wp2_with fail
      refine aP (S:=fun W=>W.cell? ⟨s,0,none⟩=some (.slice p cs.length cap)∧W.cell? ⟨s,3,none⟩=some (.int .i64 m)∧W.cell? ⟨s,5,none⟩=some (.int .i64 most)) ?_ (fun hHeld => ?_)
      ·exact⟨c0,c3,c5⟩
      iterate 18 ((first | refine aJ ?_ | refine np_q ?_ | refine aL 0 ?_);(try simp only[nSO]))
      refine np_z ?_
      go_wp2_with fail
      (go_at_call 122;refine hcp.mono ?_;rintro e w2 ⟨b2,N,rfl,hN,hNst,hb2,hNfp⟩)
      have hSc:=hSd.on hb2
      have hrd:=aRr s g cap p cs u _ _ _ _ w2 hSc.sr (hCr _ hb2) (by omega) j hlt
      clear hcp
      obtain⟨x,hx⟩:∃ x,cand (rdyB cs) u j=x:=⟨_,rfl⟩
      rw[hx] at hrd
      cases x
      ·go_wp2_with (go_at_call 123;refine hrd.mono ?_;rintro e w3 ⟨rfl,hb3⟩)
       go_roundw
       case rel=>exact⟨j+1,ov1,fv1,by go_num,by omega,hk3.trans ((KS.below hb2).trans (KS.below hb3)),by rw[(Hskip.out (.inl hx)).1,(Hskip.out (.inl hx)).2];exact hSc.on hb3⟩
       case measure=>simp[intOf];omega
      ·go_wp2_with fail
       (go_at_call 123;refine hrd.mono ?_;rintro e w3 ⟨rfl,hb3⟩)
       have hS3:=hSc.on hb3
       have hb23:=hb2.trans (hb3.mono hb2.size)
       have hpf:=aAl s g cap p cs _ _ _ _ _ w3 hS3.sr (hCr _ hb23) b2 N (hN.below hb3) (by rw[hNst];exact hMok.mono (by omega)) j hlt hcok
       unfold aMs at hpf
       rw[show eZ N.st (getC cs j)=nx cs M.st j by rw[hNst];rfl] at hpf
       clear hrd hSc
       cases hn:nx cs M.st j with
       |none =>
        rw[hn] at hpf
        go_wp2_with (go_at_call 73;refine hpf.mono ?_;rintro e w4 ⟨rfl,M4,hM4,hst4,hk4,hf4⟩)
        have hb4:=keep_bel hb23 hk4 hNfp hb23.size
        go_roundw
        case rel=>exact⟨j+1,ov1,fv1,by go_num,by omega,hk3.trans (KS.below hb4),by rw[(Hskip.out (.inr hn)).1,(Hskip.out (.inr hn)).2];exact hSd.on hb4⟩
        case measure=>simp[intOf];omega
       |some t =>
        rw[hn] at hpf
        have hut:u.testBit j=false:=by have:=hx;unfold cand at this;simp at this;exact this.1
        have hfo:=yG hlt hut
        have htok:=uF hMok hcok (show eZ M.st (getC cs j)=some t from hn)
        have Hfo:=Lib.hid hfo
        clear hfo
        go_wp2_with fail
        (go_at_call 73;refine hpf.mono ?_;rintro e w4 ⟨rfl,M4,hM4,hst4,hk4,hf4⟩)
        have hb4:=keep_bel hb23 hk4 hNfp hb23.size
        have hS4:=hSd.on hb4
        have hne4:∀ k,M4.fp b2 k→k≠s∧k≠g:=fun k hk=>by
         have h1:wr.heap.size≤k:=(hf4 k hk).elim (hNfp k) (fun h=>Nat.le_trans hb23.size h)
         omega
        have hba:Below w4.heap.size w4 (w4.alloc (.cells #[.int .i64 (j:Int)] 3)):=(Below.refl _ _).alloc (Nat.le_refl _) _
        have hSa:=hS4.on hba
        have hBa:B≤(w4.alloc (.cells #[.int .i64 (j:Int)] 3)).heap.size:=Nat.le_trans hBr (Nat.le_trans hb4.size hba.size)
        have hff:most=1→∀ W':World,W'.ownsRow B 3 1 fv1 F.length (F.map fun (x:Nat)=>iv x):=fun h W'=>by
         obtain⟨e1,e2⟩:=hS4.zero (by omega)
         rw[e1,e2];exact World.ownsRow_nil _ _ _ _
        obtain⟨q1,q3,q4,q5,qf⟩:=hS4.sr.cells
        obtain⟨-,q2⟩:=hS4.sr.c0
        clear hpf hSd hS3 c0 c1 c2 c3 c4 c5 cf
        go_wp2_with (first | (at_builtin;refine wpList_append_own _ rfl _ _ 28 rfl B 3 i0 (.int .i64 0) 1 8 Tryz.underlying28 hi hz0 hz1 hz2 rfl (by decide) _ _ _ rfl hSa.oo ⟨_,0,none⟩ 1 1 [.int .i64 (j:Int)] rfl rfl (cell_one_new _ _ _) (by simp[Value.oneCell']) (by unfold maxLen;omega) (by omega) hBa ?_;intro v5 w5 hO5 hg5 _;obtain⟨a5,q5,rfl⟩:=aC hO5;have hS5:=hSa.sr.grown hSa.oo hg5;have hO5':w5.ownsRow B 3 1 (.slice a5 (ord.length+1) q5) (ord++[j]).length ((ord++[j]).map fun (x:Nat)=>iv x):=(by simpa [iv] using hO5);have hS6:=hS5.setOv (.slice a5 (ord.length+1) q5);have hS7:SrM B s g p cap cs most (u ||| 2 ^ j) (.slice a5 (ord.length+1) q5) fv1 (ord++[j]) F m ((w5.setCell ⟨s,1,none⟩ (.slice a5 (ord.length+1) q5)).setCell ⟨g,j,none⟩ (.bool true)):=⟨by rw[← aRv];exact hS6.set j true,aN2 (aN2 hO5' hS5.blk (by decide)) hS6.row (by decide),fun h=>hff h _,hS4.zero,hS4.le⟩;have hk47:KS B s g w4 ((w5.setCell ⟨s,1,none⟩ (.slice a5 (ord.length+1) q5)).setCell ⟨g,j,none⟩ (.bool true)):=(KS.below hba).trans ((KS.grown hSa.oo hg5).trans ((KS.set _ (.inl rfl) 1 (.slice a5 (ord.length+1) q5)).trans (KS.set _ (.inr rfl) j (.bool true))));have hk7:=hk3.trans ((KS.below hb4).trans hk47);have hM7:=aSi hM4 hk47 hS4.sr.blk hS4.sr.row hne4;have hih:=ih (k-1) (by have:=Hfo.out;have:=Hkk.out;omega) _ b2 M4 t (u ||| 2 ^ j) (.slice a5 (ord.length+1) q5) fv1 (ord++[j]) F m (K+1) hM7 (hst4 t rfl) htok (by have:=Hfo.out;have:=Hkk.out;omega) (by have:=Hfo.out;have:=Hkk.out;omega) (Nat.le_trans hBW hk7.size) (KS.bel hBW' hk7 hs hg hBw) hS7 hne4 (by have:=Hfo.out;have:=Hkk.out;rw[List.length_append,List.length_singleton];omega);unfold SPost at hih;rw[(Hnext.out t hx hn).1,(Hnext.out t hx hn).2] at hih;obtain⟨t1,t3,t4,t5,tf⟩:=hS5.cells;obtain⟨-,t2⟩:=hS5.c0;obtain⟨b1,b2'⟩:=hS5.bit (gQ (u:=u) hlt);obtain⟨d1,d2⟩:=hS6.bit (gQ (u:=u) hlt);have tf1:=tf 1;have hgs:=hS5.ne;(try clear ih);(try clear hS7);(try clear hk47 hM7);(try clear hff)) | (go_at_call 68;refine hih.mono ?_;rintro e w8 ⟨⟨v,rfl⟩,hk8,ov8,fv8,hS8⟩))
        obtain⟨a8,q8,rfl⟩:=aC hS8.oo
        have hO8:w8.ownsRow B 3 1 (.slice a8 (ord.length+1) q8) (ord.length+1) ((ord.map fun (x:Nat)=>iv x)++[iv j]):=by simpa using hS8.oo
        have hcap:=aPh hO8
        obtain⟨r1,r3,r4,r5,rf⟩:=hS8.sr.cells
        rw[List.length_append,List.length_singleton] at r1
        obtain⟨-,r2⟩:=hS8.sr.c0
        have rf1:=rf 1
        have hS9:=hS8.sr.setOv (.slice a8 ord.length q8)
        have hS10:=hS9.set j false
        rw[aRq hut] at hS10
        have hO10:=aN2 (aN2 (aPi hO8) hS8.sr.blk (by decide) (i:=1) (x := .slice a8 ord.length q8)) hS9.row (by decide) (i:=j) (x := .bool false)
        have hff10:=fun h:most=1=>aN2 (aN2 (hS8.ff h) hS8.sr.blk (by decide) (i:=1) (x := .slice a8 ord.length q8)) hS9.row (by decide) (i:=j) (x := .bool false)
        have hS11:SrM B s g p cap cs most u (.slice a8 ord.length q8) fv8 ord _ _ _:=⟨hS10,hO10,hff10,hS8.zero,hS8.le⟩
        have hk11:=hk7.trans (hk8.trans ((KS.set w8 (.inl rfl) 1 (.slice a8 ord.length q8)).trans (KS.set _ (.inr rfl) j (.bool false))))
        obtain⟨p1,p2⟩:=hS8.sr.bit (gQ (u:=u ||| 2 ^ j) hlt)
        obtain⟨p3,p4⟩:=hS9.bit (gQ (u:=u ||| 2 ^ j) hlt)
        clear hih hO8 hS10 hO10 hff10 hk7 hk8 hS5 hS6 t1 t2 t3 t4 t5 tf
        go_region
        all_goals
         go_wp2
         go_roundw
         case rel=>exact⟨j+1,_,_,by go_num,by omega,hk11.trans (KS.below (Below.refl _ _).drew),hS11.on (Below.refl _ _).drew⟩
         case measure=>simp[intOf];omega
     ·have hE:=aRz (ord:=ord) (fst:=fst) (many:=many) hj hm1 (by omega:most≤many+tsum cs M.st u j)
      rw[hE.1,hE.2] at hSd
      generalize min most (many+tsum cs M.st u j)=m at *
      have g3:decide ((m:Int)<most)=false:=by simp;omega
      have g4:decide (m<most)=false:=by simpa using hmm
      clear hS2
      go_wp2_with fail
      refine aP (S:=fun W=>W.cell? ⟨s,0,none⟩=some (.slice p cs.length cap)∧W.cell? ⟨s,3,none⟩=some (.int .i64 m)∧W.cell? ⟨s,5,none⟩=some (.int .i64 most)) ?_ (fun hHeld => ?_)
      ·exact⟨c0,c3,c5⟩
      iterate 18 ((first | refine aJ ?_ | refine np_q ?_ | refine aL 0 ?_);(try simp only[nSO]))
      refine np_z ?_
      go_wp2
      go_returns
      exact⟨⟨_,rfl⟩,hk3,_,_,hSd⟩
    ·have hke:j=cs.length:=by omega
     subst hke
     rw[aNc,aNd] at hSd
     have g1:decide ((cs.length:Int)<cs.length)=false:=by simp
     clear hS2
     go_wp2_with fail
     refine aP (S:=fun W=>W.cell? ⟨s,0,none⟩=some (.slice p cs.length cap)) ?_ (fun hHeld => ?_)
     ·exact c0
     iterate 18 ((first | refine aJ ?_ | refine np_q ?_ | refine aL 0 ?_);(try simp only[nSO]))
     refine np_z ?_
     go_wp2
     go_returns
     exact⟨⟨_,rfl⟩,hk3,_,_,hSd⟩
end Go.Proofs.YtdeiocppghhfdaaGreat.Lin
namespace Go.Proofs.YtdeiocppghhfdaaGreat.Lin
open Go.RowKit Go.Lib Go.Shelf
open Hs
open KitI (iv IRow own_below)
attribute [local go_sem, local simp] Hs.dP
attribute [local go_sem ↓] Hs.aN Hs.aR
attribute [local go_sem] Hs.bX Hs.bB Hs.aX Hs.bH Hs.cK
theorem search_all {w:World} {s g B:Nat} {p:Option Addr} {cap:Nat} {cs:List aA} {most:Nat} (hs:w.heap.size≤s) (hg:w.heap.size≤g) (hBw:w.heap.size≤B) (hC:CRow w p cap cs) (hl:cs.length≤10) (hok:∀ c∈cs,c.Ok) (hm1:1≤most) (hm2:most≤1000000) (k:Nat):SCall w s g B p cap cs most k :=
 Nat.strongRecOn k fun _ ih=>search_step hs hg hBw hC hl hok hm1 hm2 fun k' h=>ih k' h
theorem rsearch_any {w0:World} {p:Option Addr} {cap:Nat} {cs:List aA} {c:CfgV} (hC:CRow w0 p cap cs) (hl:cs.length≤10) (hok:∀ c∈cs,c.Ok) (h0:cfgE c=0) {most:Nat} (hm1:1≤most) (hm2:most≤1000000) {w:World} {s g b:Nat} {M:RM} (hR:RRun w0 w b M) (hM:M.st=newS c) (hS:SrAt w s g p cap cs.length (List.replicate cs.length false) (.slice none 0 0) (.slice none 0 0) 0 most) (hne:∀ k,M.fp b k→k≠s∧k≠g) (hg:w0.heap.size≤g) (hs:w0.heap.size≤s) :
  Calls Tryz.prog 68 #[.pointer (some ⟨s,0,none⟩),.pointer (some ⟨b,0,none⟩)] w fun e w'=>(∃ v,e = .returned v)∧Below w0.heap.size w0 w'∧∃ ov fv,SrM w0.heap.size s g p cap cs most 0 ov fv [] (fsts 0 [] [] (SS cs (newS c) 0)) (min most (CC cs (newS c) 0)) w':=by
 have hS0:SrM w0.heap.size s g p cap cs most 0 (.slice none 0 0) (.slice none 0 0) [] [] 0 w:=⟨by rw[← aRp];exact hS,World.ownsRow_nil _ _ _ _,fun _=>World.ownsRow_nil _ _ _ _,fun _=>⟨rfl,rfl⟩,by omega⟩
 refine (search_all hs hg (Nat.le_refl _) hC hl hok hm1 hm2 10 w b M (newS c) 0 _ _ [] [] 0 0 hR.at_ hM (uB h0) (by omega) (Nat.le_trans (aNe _ _) hl) hR.bl.size hR.bl hS0 hne (by simp)).mono ?_
 rintro e w' ⟨hv,hk,ov,fv,h⟩
 rw[Nat.zero_add] at h
 exact⟨hv,KS.bel hR.bl hk hs hg (Nat.le_refl _),ov,fv,h⟩
theorem SrAt.setMost {W:World} {s g:Nat} {p:Option Addr} {cap n:Nat} {bits:List Bool} {ov fv:Value} {many most:Int} (h:SrAt W s g p cap n bits ov fv many most) (m:Int):SrAt (W.setCell ⟨s,5,none⟩ (.int .i64 m)) s g p cap n bits ov fv many m :=
 ⟨bZ h.blk 5 (.int .i64 m),(aG W ⟨s,5,none⟩ _ g h.ne).trans h.row,h.len⟩
theorem run_set5 {w0 W:World} {s g b:Nat} {M:RM} {p:Option Addr} {cap n:Nat} {bits:List Bool} {ov fv:Value} {many most:Int} (hR:RRun w0 W b M) (h:SrAt W s g p cap n bits ov fv many most) (hne:∀ k,M.fp b k→k≠s∧k≠g) (hs:w0.heap.size≤s) {v:Value}:RRun w0 (W.setCell ⟨s,5,none⟩ v) b M :=
 ⟨aSi hR.at_ (KS.set (B:=0) (g:=g) W (.inl rfl) 5 v) h.blk h.row hne,hR.own,bQ hR.bl s 5 v hs⟩
theorem find_parts {c:CfgV} {cs:List aA} (h0:bK c cs=0):(iE c cs).1=fsts 0 [] [] (SS cs (newS c) 0)∧(iE c cs).2.1=decide (0<min 1 (CC cs (newS c) 0))∧(iE c cs).2.2=0:=by
 have h:=aRs (cs:=cs) (st:=newS c) (u:=0)
 unfold iE fsts
 rw[if_neg (by rw[h0];simp),if_pos rfl]
 cases hS:SS cs (newS c) 0 with
 |none=>rw[h.2 hS];exact⟨rfl,rfl,rfl⟩
 |some a =>
  have:CC cs (newS c) 0≠0:=fun e=>by rw[h.1 e] at hS;cases hS
  refine⟨by simp,?_,rfl⟩
  show true=_
  rw[eq_comm,decide_eq_true_iff];omega
theorem rfind_any (c:CfgV) (p:Option Addr) (cap:Nat) (cs:List aA) (w:World) (hC:CRow w p cap cs) (hs:cs.length≤1000) (hok:∀ x∈cs,x.Ok) (hd:∀ x∈cs,DAt w x) :
  Calls Tryz.prog 20 #[c.v,.slice p cs.length cap] w fun e w'=>∃ a q,e = .returned (.tuple #[.slice a (iE c cs).1.length q,.bool (iE c cs).2.1,.int .i64 (iE c cs).2.2])∧IRd w' a ((iE c cs).1.map fun (x:Nat)=>(x:Int))∧Below w.heap.size w w':=by
 have hB0:Below w.heap.size w (w.alloc (.cells #[.int .i64 c.slots,.int .u64 c.gens,.int .i64 c.clients,.int .i64 c.readers,.int .i64 c.queue,.int .i64 c.batch,.int .i64 c.feed,.string c.text] 24)):=(Below.refl w.heap.size w).alloc (Nat.le_refl _) _
 have hst:=aFm c p cap cs _ (hC.on hB0) hs hok (fun x hx=>(hd x hx).on hB0)
 unfold aM8 at hst
 by_cases h0:bK c cs=0
 ·replace hst:=hst.mono fun e w' h=>h.elim (fun h=>absurd h0 h.1) (fun h=>h.2)
  obtain⟨h00,hck,hle⟩:=nY h0
  obtain⟨f1,f2,f3⟩:=find_parts h0
  have hsr := @rsearch_any _ p cap cs c (hC.on hB0) hle hok h00 1 (by omega) (by omega)
  rw[f1,f2,f3]
  generalize fsts 0 [] [] (SS cs (newS c) 0)=fo at *
  generalize min 1 (CC cs (newS c) 0)=m at *
  have d1:decide ((0:Int)<m)=decide (0<m):=by simp
  clear f1 f2 f3
  unfold CfgV.v at *
  go_enter Tryz.func20,Tryz.ntmps20
  go_wp2_with (first | (go_at_call 67;refine hst.mono ?_;rintro e w1 ⟨s,g,b,M,rfl,hR,hM,hSr,hne,hgs,hss⟩) | (go_at_call 68;refine (hsr hR hM hSr hne hgs hss).mono ?_;rintro e w2 ⟨⟨v,rfl⟩,hb2,ov,fv,hS2⟩;obtain⟨a2,q2,rfl⟩:=aC (hS2.ff rfl);obtain⟨c1,c3,c4,c5,cf⟩:=hS2.sr.cells))
  have hbd:=hB0.trans ((hb2.mono hB0.size).drew)
  refine aP (S:=fun W=>W.cell? ⟨s,3,none⟩=some (.int .i64 m)∧W.cell? ⟨s,4,none⟩=some (.slice a2 fo.length q2)) ?_ (fun hHeld => ?_)
  ·exact⟨c3,c4⟩
  iterate 12 ((first | refine aJ ?_ | refine np_q ?_ | refine aL 0 ?_);(try simp only[nSO]))
  refine np_z ?_
  go_wp2
  go_returns
  exact⟨a2,q2,rfl,IRd.of (aCw ((aI (hS2.ff rfl) (Below.refl _ _).drew)) rfl),hbd⟩
 ·replace hst:=hst.mono fun e w' h=>h.elim (fun h=>h.2) (fun h=>absurd h.1 h0)
  have hf:iE c cs=([],false,bK c cs):=by unfold iE;rw[if_pos h0]
  have hd:(bK c cs != 0)=true:=by simpa using h0
  rw[hf]
  generalize bK c cs=sE at *
  unfold CfgV.v at *
  go_enter Tryz.func20,Tryz.ntmps20
  go_wp2_with (go_at_call 67;refine hst.mono ?_;rintro e w1 ⟨rfl,hb1⟩)
  go_returns
  exact⟨none,0,rfl,.inl rfl,hB0.trans (hb1.mono hB0.size)⟩
theorem rcount_any (c:CfgV) (most:Int) (p:Option Addr) (cap:Nat) (cs:List aA) (w:World) (hC:CRow w p cap cs) (hs:cs.length≤1000) (hok:∀ x∈cs,x.Ok) (hd:∀ x∈cs,DAt w x) :
  Calls Tryz.prog 22 #[c.v,.int .i64 most,.slice p cs.length cap] w fun e w'=>e = .returned (.tuple #[.int .i64 (countP c most cs).1,.int .i64 (countP c most cs).2])∧Below w.heap.size w w':=by
 have hB0:Below w.heap.size w (w.alloc (.cells #[.int .i64 c.slots,.int .u64 c.gens,.int .i64 c.clients,.int .i64 c.readers,.int .i64 c.queue,.int .i64 c.batch,.int .i64 c.feed,.string c.text] 24)):=(Below.refl w.heap.size w).alloc (Nat.le_refl _) _
 have hst:=aFm c p cap cs _ (hC.on hB0) hs hok (fun x hx=>(hd x hx).on hB0)
 unfold aM8 at hst
 by_cases h0:bK c cs=0
 ·replace hst:=hst.mono fun e w' h=>h.elim (fun h=>absurd h0 h.1) (fun h=>h.2)
  obtain⟨h00,hck,hle⟩:=nY h0
  have hcp:countP c most cs=if most<1∨1000000<most then (0,2) else (min (CC cs (newS c) 0:Int) most,0):=by unfold countP;rw[if_neg (by rw[h0];simp)]
  unfold CfgV.v at *
  by_cases hq:most<1∨1000000<most
  ·rw[if_pos hq] at hcp
   rw[hcp]
   have hd:(decide (most<1)=true)∨(decide (most<1)=false∧decide (1000000<most)=true):=by simp;omega
   clear hq hcp
   rcases hd with d1 | ⟨d1,d2⟩
   all_goals
    go_enter Tryz.func22,Tryz.ntmps22
    go_wp2_with (go_at_call 67;refine hst.mono ?_;rintro e w1 ⟨s,g,b,M,rfl,hR,hM,hSr,hne,hgs,hss⟩)
    go_returns
    exact⟨rfl,hB0.trans (hR.bl.mono hB0.size)⟩
  ·rw[if_neg hq] at hcp
   obtain⟨n,rfl⟩:∃ n:Nat,most=n:=⟨most.toNat,by omega⟩
   have d1:decide ((n:Int)<1)=false:=by simp;omega
   have d2:decide ((1000000:Int)<n)=false:=by simp;omega
   have d3:decide (n<1)=false:=by simp;omega
   have d4:decide (1000000<n)=false:=by simp;omega
   have hsr := @rsearch_any _ p cap cs c (hC.on hB0) hle hok h00 n (by omega) (by omega)
   have hcp2:countP c n cs=(((min n (CC cs (newS c) 0):Nat):Int),0):=by rw[hcp];simp;omega
   rw[hcp2]
   clear hcp hcp2 hq
   generalize min n (CC cs (newS c) 0)=m at *
   go_enter Tryz.func22,Tryz.ntmps22
   go_wp2_with (first | (go_at_call 67;refine hst.mono ?_;rintro e w1 ⟨s,g,b,M,rfl,hR,hM,hSr,hne,hgs,hss⟩;obtain⟨k1,k3,k4,k5,kf⟩:=hSr.cells;have kf5:=kf 5;have hs5:=hSr.setMost n) | (go_at_call 68;refine (hsr (run_set5 hR hSr hne hss) hM hs5 hne hgs hss).mono ?_;rintro e w2 ⟨⟨v,rfl⟩,hb2,ov,fv,hS2⟩;obtain⟨c1,c3,c4,c5,cf⟩:=hS2.sr.cells))
   go_returns
   exact⟨rfl,hB0.trans (hb2.mono hB0.size)⟩
 ·replace hst:=hst.mono fun e w' h=>h.elim (fun h=>h.2) (fun h=>absurd h.1 h0)
  have hf:countP c most cs=(0,bK c cs):=by unfold countP;rw[if_pos h0]
  have hd:(bK c cs != 0)=true:=by simpa using h0
  rw[hf]
  generalize bK c cs=sE at *
  unfold CfgV.v at *
  go_enter Tryz.func22,Tryz.ntmps22
  go_wp2_with (go_at_call 67;refine hst.mono ?_;rintro e w1 ⟨rfl,hb1⟩)
  go_returns
  exact⟨rfl,hB0.trans (hb1.mono hB0.size)⟩
end Go.Proofs.YtdeiocppghhfdaaGreat.Lin
namespace Go.Proofs.YtdeiocppghhfdaaGreat.Lin
open Go.RowKit Go.Lib Go.Shelf
open Hs
open KitI (iv IRow own_below kH)
attribute [local go_sem, local simp] Hs.dP
attribute [local go_sem ↓] Hs.aN Hs.aR
attribute [local go_sem] Hs.bX Hs.bB Hs.aX Hs.bH Hs.cK
attribute [local go_sem ↓] aFl
attribute [local go_sem, local simp] vK aP7
attribute [local irreducible] cfgL
theorem aAw (o:List Int) (L:List aA):aQ o (L.map aA.pure)=aQ o L:=by
 have hp:∀ i j,dO o (L.map aA.pure) i j=dO o L i j:=fun i j=>by
  unfold dO
  rw[List.getElem?_map,List.getElem?_map]
  cases L[i]? <;> cases L[j]? <;> rfl
 unfold aQ fV
 rw[wM,List.length_map]
 simp only[hp]
theorem run_pure (L:List aA):∀ (o:List Int) (st:MS),runO (L.map aA.pure) st o=runO L st o
 |[],_=>rfl
 |x::r,st=>by
  show (nx (L.map aA.pure) st x.toNat).bind _=(nx L st x.toNat).bind _
  rw[aGv]
  congr 1
  funext t
  exact run_pure L r t
theorem uM (c:CfgV) (o:List Int) (L:List aA):dI c o (L.map aA.pure)=dI c o L:=by
 have hh:hasAll (L.map aA.pure) o=hasAll L o:=by
  unfold hasAll
  rw[List.length_map]
  congr 1
  funext j
  rw[lC]
  rfl
 unfold dI
 rw[wP,aAw,run_pure,hh]
theorem wS {c:CfgV} {o:List Int} {A B:List aA} (h:A.map aA.pure=B.map aA.pure):dI c o A=dI c o B:=by rw[← uM c o A,h,uM]
def aR0 (w:World) (zs:List Int) (o i:Value) (wr:World):Prop :=
 ∃ k:Nat,i = .int .i64 k∧k≤zs.length∧wr.ownsRow w.heap.size 3 1 o k ((zs.take k).map iv)∧Below w.heap.size w wr
theorem yZ (po:Option Addr) (co n:Nat) (zs:List Int) (w:World) (hn:n=zs.length) (h:IRd w po zs) (hl:zs.length≤1000000):Calls Tryz.prog 27 #[.slice po n co] w fun e w'=>∃ p c,e = .returned (.slice p n c)∧IRd w' p zs∧Below w.heap.size w w':=by
 subst hn
 obtain⟨i0,hi,hz0,hz1,hz2⟩:=info_parts kH
 go_enter Tryz.func27,Tryz.ntmps27
 go_wp2
 go_loopw [3,4] (fun o i wr=>aR0 w zs o i wr) (fun o i wr=>zs.length-(intOf i).toNat)
 case atStart=>exact⟨0,rfl,by omega,World.ownsRow_nil _ _ _ _,Below.refl _ _⟩
 case round =>
  obtain⟨k,rfl,hk,hown,hB⟩:=hrel
  by_cases hlt:k<zs.length
  ·obtain⟨z,hz⟩:∃ z,zs[k]? = some z:=⟨_,gEz hlt⟩
   obtain⟨b,off,rfl,hc⟩:=uI h (by omega)
   have q:=hc wr hB k z hz
   have htk:(zs.take (k+1)).map iv=(zs.take k).map iv++[.int .i64 z]:=by rw[List.take_add_one,hz,Option.toList_some,List.map_append];rfl
   have Htk:=Lib.hid htk
   clear htk hc hz
   go_wp2_with (at_builtin;refine wpList_append_own _ rfl _ _ 28 rfl w.heap.size 3 i0 (.int .i64 0) 1 8 Tryz.underlying28 hi hz0 hz1 hz2 rfl (by decide) _ _ _ rfl (hown.alloc _) ⟨_,0,none⟩ 1 1 [.int .i64 z] rfl rfl (aW _ _ _) (by simp[Value.oneCell']) (by unfold maxLen;omega) (by omega) (by have:=hB.size;simp at *;omega) ?_;intro v' w3 hown' hgrow _)
   have hB3:=(hB.alloc hB.size (.cells #[.int .i64 z] 3)).grown hgrow (by have:=hB.size;simp at *;omega) fun k hk=>(hown.lt k hk).1
   go_roundw
   case rel=>exact⟨k+1,by go_num,by omega,by rw[Htk.out];exact hown',hB3⟩
   case measure=>simp[intOf];omega
  ·have hkk:k=zs.length:=by omega
   subst hkk
   rw[List.take_length] at hown
   obtain⟨a,q,rfl⟩:=aC hown
   have hr:=IRd.of (IRow.own hown rfl)
   clear hown
   go_wp2
   go_returns
   exact⟨a,q,rfl,hr,hB⟩
theorem aR1 (pa pb:Option Addr) (ca cb n:Nat) (zs:List Int) (w:World) (hn:n=zs.length) (ha:IRd w pa zs) (hb:IRd w pb zs) (hs:zs.length≤1000000):Calls Tryz.prog 24 #[.slice pa n ca,.slice pb n cb] w fun e w'=>e = .returned (.bool true)∧Below w.heap.size w w':=by
 subst hn
 by_cases h0:zs=[]
 ·subst h0
  go_enter Tryz.func24,Tryz.ntmps24
  go_wp2
  refine wp_loop_rounds 1 ?_
  rw[rounds_succ]
  go_wp2
  go_returns
  exact⟨rfl,Below.refl _ _⟩
 ·obtain⟨b1,o1,rfl,h1⟩:=ha.resolve_left h0
  obtain⟨b2,o2,rfl,h2⟩:=hb.resolve_left h0
  have:=KitI.aA0 w b1 o1 ca b2 o2 cb zs zs rfl hs h1 h2
  rwa [decide_eq_true rfl] at this
theorem walkLinearValids (c:CfgV) (po:Option Addr) (co:Nat) (o:List Int) (p:Option Addr) (cap:Nat) (cs:List aA) (w:World) (hco:o.length≤co) (hI:ArgI w po o) (hA:nA w p cs) :
  Calls Tryz.prog 4 #[.agg (cfgL c).toArray,.slice po o.length co,.slice p cs.length cap] w fun e w'=>e = .returned (.bool true)∧Below w.heap.size w w':=by
 have hB0:Below w.heap.size w (w.alloc (.cells (cfgL c).toArray tCfg)):=(Below.refl _ _).alloc (Nat.le_refl _) _
 have hz0:=bE w (cfgL c) tCfg
 have hl0:=aM7 hz0
 have hm0:0≤min (o.length:Int) 12:=by omega
 have hm1:min (o.length:Int) 12≤co:=by omega
 have hmn:(min (o.length:Int) 12).toNat=(o.take 12).length:=by rw[List.length_take];omega
 have hIo:=hI.take 12
 go_enter Tryz.func4,Tryz.ntmps4
 go_wp2_with fail
 refine (aJd c _).mono ?_
 rintro e w1 ⟨rfl,hb1⟩
 have hz1:=aU hz0 hb1 (by simp)
 have hs1:=aRo hz1 (by simp[vK]) (pR 100 c)
 have hz2:=setRow_heap _ _ _ (cfgL (pR 100 c)).toArray _ _ hz1
 have hB1:Below w.heap.size w (w1.setRow w.heap.size (cfgL (pR 100 c)).toArray):=bM (hB0.trans (hb1.mono hB0.size)) (Nat.le_refl _) _
 clear hl0 hz0 hb1 hz1
 generalize pR 100 c=C at *
 go_wp2
 generalize w1.setRow w.heap.size (cfgL C).toArray=W0 at *
 have hBd:=hB1.drew
 have hzd:W0.drew.heap[w.heap.size]? = some (.cells (cfgL C).toArray tCfg (0,0)):=hz2
 clear hs1 hz2 hB1
 refine aP (S:=fun _=>True) ?_ (fun hHeld => ?_)
 ·trivial
 ((first | refine np_q ?_ | refine aL 0 ?_);(try simp only[nSO]))
 (refine aL 2 ?_;(try simp only[nSO]))
 iterate 4 ((refine np_q ?_;(try simp only[nSO])))
 (refine np_c 1 (fun K hK => ?_);go_simp;((go_at_call 18;refine (aAm 11 (by omega) p cap cs _ (hA.on hBd)).mono ?_;rintro e w3 ⟨p',cap',hs,rfl,hpure,hrow,-,hb3⟩;have hb3':=hBd.trans (hb3.mono hBd.size)));(try go_wp2_with fail);refine hK.out _ _ ?_ (fun hHeld => ?_);(· (trivial));clear hK K;(try simp only[nSO]))
 (refine np_c 7 (fun K hK => ?_);go_simp;((go_at_call 27;refine (yZ po co _ (o.take 12) _ (by rw[List.length_take]) (hIo.on hb3') (by rw[List.length_take];omega)).mono ?_;rintro e w4 ⟨pv,cv,rfl,hIv,hb4⟩));(try go_wp2_with fail);refine hK.out _ _ ?_ (fun hHeld => ?_);(· (trivial));clear hK K;(try simp only[nSO]))
 iterate 2 ((refine np_q ?_;(try simp only[nSO])))
 refine np_z ?_
 have hL:LawW w w4 C p' cap' hs:=⟨hb3'.trans (hb4.mono hb3'.size),aU (aU hzd hb3 (gAz hzd).1) hb4 (by have:=hb3.size;have:=(gAz hzd).1;omega),hrow.on hb4⟩
 clear hb3 hb4 hrow hb3'
 have hld:=hL.ld
 have hvl:=hL.valid (co:=cv) (n:=min 12 o.length) (by rw[List.length_take]) hIv (by rw[List.length_take];omega)
 have hvr:=fun (hs2:List aA) (h2:hs2.map aA.pure=fewN 11 cs)=>wS (c:=C) (o:=o.take 12) (h2.trans hpure.symm)
 generalize dI C (o.take 12) hs=ve at hvl hvr
 have hee:(ve == ve)=true:=by simp
 go_wp2_with (go_at_call 28;refine hvl.mono ?_;rintro e w5 ⟨rfl,hb5⟩;have hL5:=hL.on hb5;have hIv5:=hIv.on hb5)
 have hLd:=hL5.on (Below.refl _ _).drew
 have hIvd:=hIv5.on (Below.refl _ _).drew
 clear hvl hld hL hIv hb5 hL5 hIv5 hBd hzd
 refine aP (S:=fun W=>(uK (.pointer (some ⟨w.heap.size,0,none⟩))).run Tryz.prog W = .ok (.agg (cfgL C).toArray) W) ?_ (fun hHeld => ?_)
 ·first | exact hL11.ld | exact hL10.ld | exact hL9.ld | exact hL8.ld | exact hL7.ld | exact hL6.ld | exact hLd.ld
 iterate 8 ((first | refine aJ ?_ | refine np_q ?_ | refine aL 0 ?_);(try simp only[nSO]))
 first | (refine np_s 8 ?_;(try simp only[nSO])) | (refine np_c 8 (fun K hK => ?_);go_simp;((go_at_call 18;refine (aAm 11 (by omega) p cap cs _ (hA.on hLd.bl)).mono ?_;rintro e w6 ⟨p6,cap6,hs6,rfl,hpure6,hrow6,-,hb6⟩;have hL6:=hLd.on hb6));(try go_wp2_with fail);refine hK.out _ _ ?_ (fun hHeld => ?_);(· (first | exact hL11.ld | exact hL10.ld | exact hL9.ld | exact hL8.ld | exact hL7.ld | exact hL6.ld | exact hLd.ld));clear hK K;(try simp only[nSO]))
 first | (refine np_s 9 ?_;(try simp only[nSO])) | (refine np_c 9 (fun K hK => ?_);go_simp;((go_at_call 29;refine (aNa C p6 po cap6 co _ hs6 (o.take 12) _ (by rw[List.length_take]) hrow6 (hIo.on hL6.bl) (by rw[List.length_take];omega)).mono ?_;rw[hvr _ hpure6];rintro e w7 ⟨rfl,hb7⟩;have hL7:=hL6.on hb7));(try go_wp2_with fail);refine hK.out _ _ ?_ (fun hHeld => ?_);(· (first | exact hL11.ld | exact hL10.ld | exact hL9.ld | exact hL8.ld | exact hL7.ld | exact hL6.ld | exact hLd.ld));clear hK K;(try simp only[nSO]))
 iterate 4 ((first | refine aJ ?_ | refine np_q ?_);(try simp only[nSO]))
 first | (refine np_s 14 ?_;(try simp only[nSO])) | (refine np_c 14 (fun K hK => ?_);go_simp;((go_at_call 18;refine (aAm 11 (by omega) p cap cs _ (hA.on hL7.bl)).mono ?_;rintro e w8 ⟨p8,cap8,hs8,rfl,hpure8,hrow8,-,hb8⟩;have hL8:=hL7.on hb8));(try go_wp2_with fail);refine hK.out _ _ ?_ (fun hHeld => ?_);(· (first | exact hL11.ld | exact hL10.ld | exact hL9.ld | exact hL8.ld | exact hL7.ld | exact hL6.ld | exact hLd.ld));clear hK K;(try simp only[nSO]))
 first | (refine np_s 15 ?_;(try simp only[nSO])) | (refine np_c 15 (fun K hK => ?_);go_simp;((go_at_call 25;refine (aAp p' p8 cap' cap8 hs hs8 _ (hpure.trans hpure8.symm) (by have:=hL8.row.len;omega) hL8.row.row hrow8.row hL8.row.dat hrow8.dat).mono ?_;rintro e w9 ⟨rfl,hb9⟩;have hL9:=hL8.on hb9;have hIv9:=((((hIvd.on hb6).on hb7).on hb8).on hb9)));(try go_wp2_with fail);refine hK.out _ _ ?_ (fun hHeld => ?_);(· (first | exact hL11.ld | exact hL10.ld | exact hL9.ld | exact hL8.ld | exact hL7.ld | exact hL6.ld | exact hLd.ld));clear hK K;(try simp only[nSO]))
 iterate 8 ((first | refine aJ ?_ | refine np_q ?_);(try simp only[nSO]))
 first | (refine np_s 24 ?_;(try simp only[nSO])) | (refine np_c 24 (fun K hK => ?_);go_simp;((go_at_call 24;refine (aR1 pv po cv co _ (o.take 12) _ (by rw[List.length_take]) hIv9 (hIo.on hL9.bl) (by rw[List.length_take];omega)).mono ?_;rintro e w10 ⟨rfl,hb10⟩;have hL10:=hL9.on hb10));(try go_wp2_with fail);refine hK.out _ _ ?_ (fun hHeld => ?_);(· (first | exact hL11.ld | exact hL10.ld | exact hL9.ld | exact hL8.ld | exact hL7.ld | exact hL6.ld | exact hLd.ld));clear hK K;(try simp only[nSO]))
 iterate 2 ((first | refine aJ ?_ | refine np_q ?_);(try simp only[nSO]))
 first | (refine np_s 27 ?_;(try simp only[nSO])) | (refine np_c 27 (fun K hK => ?_);go_simp;((go_at_call 26;refine (aCx _).mono ?_;rintro e w11 ⟨rfl,hb11⟩;have hL11:=hL10.on hb11));(try go_wp2_with fail);refine hK.out _ _ ?_ (fun hHeld => ?_);(· (first | exact hL11.ld | exact hL10.ld | exact hL9.ld | exact hL8.ld | exact hL7.ld | exact hL6.ld | exact hLd.ld));clear hK K;(try simp only[nSO]))
 iterate 2 ((first | refine aJ ?_ | refine np_q ?_);(try simp only[nSO]))
 refine np_z ?_
 go_wp2
 go_returns
 exact⟨rfl,hL11.bl⟩
end Go.Proofs.YtdeiocppghhfdaaGreat.Lin
