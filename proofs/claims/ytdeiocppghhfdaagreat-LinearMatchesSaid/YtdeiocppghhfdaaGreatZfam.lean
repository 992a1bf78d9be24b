/- Texts, one behind another. -/
import Derived.Test.YtdeiocppghhfdaaGreatZfal
set_option linter.unusedVariables false
set_option linter.unusedSimpArgs false
set_option maxRecDepth 100000
set_option maxHeartbeats 40000000
namespace Go.Proofs.YtdeiocppghhfdaaGreat
open Go.RowKit Go.Lib Go.Shelf
def resL (r:ResV):List Value:=[.int .i64 r.err,.int .i64 r.rev,.int .i64 r.slot,.int .i64 r.at_,.int .u8 r.grav,.string r.text,.int .i64 r.m1,.int .i64 r.m2,.int .i64 r.m3,.int .u8 0,.int .i64 0,.int .i64 0,.slice none 0 0]
theorem aH5 (r:ResV):(resL r).toArray.all (·.oneCell')=true:=by simp[resL,Value.oneCell']
theorem resF (a b c d e:Int) (t:ByteArray) (x y z:Int):Value.agg #[.int .i64 a,.int .i64 b,.int .i64 c,.int .i64 d,.int .u8 e,.string t,.int .i64 x,.int .i64 y,.int .i64 z,.int .u8 0,.int .i64 0,.int .i64 0,.slice none 0 0] = .agg (resL ⟨a,b,c,d,e,t,x,y,z⟩).toArray:=rfl
theorem aK {W:World} {g:Nat} {cs:Array Value} (h:W.heap[g]? = some (.cells cs 51 (0,0))) (hs:cs.size=13) (r:ResV):(storeCells ⟨g,0,none⟩ (resL r)).run Tryz.prog W = .ok () (W.setRow g (resL r).toArray):=mQ h hs (resL r) rfl (aH5 r)
theorem bD (r:ResV):(resL r).length=13:=rfl
theorem bS (r:ResV):resL r≠[]:=by simp[resL]
theorem fK (r:ResV) (x:Int):(resL r).set 0 (.int .i64 x)=resL { r with err:=x }:=rfl
theorem fM (r:ResV) (x:Int):(resL r).set 1 (.int .i64 x)=resL { r with rev:=x }:=rfl
theorem fO (r:ResV) (x:Int):(resL r).set 2 (.int .i64 x)=resL { r with slot:=x }:=rfl
theorem dQ (r:ResV) (x:Int):(resL r).set 3 (.int .i64 x)=resL { r with at_:=x }:=rfl
theorem eX (r:ResV) (x:Int):(resL r).set 4 (.int .u8 x)=resL { r with grav:=x }:=rfl
theorem eY (r:ResV) (x:ByteArray):(resL r).set 5 (.string x)=resL { r with text:=x }:=rfl
attribute [local go_sem, local simp] resF bD bS fK fM fO dQ eX eY
structure SnM where
 s:SnV
 mv:Value
structure SeM where
 sub:Bool
 v:Value
 sl:List SnM
structure MM where
 text:ByteArray
 mv:Value
 marks:List MkV
 number:Int
 closed:Bool
 readers:Nat
 sv:Value
 seats:List SeM
def SeM.st (x:SeM):SeV:=⟨x.sub,x.sl.map (·.s)⟩
def MM.st (M:MM):MS:=⟨M.text,M.marks,M.number,M.closed,M.readers,M.seats.map (·.st)⟩
def snL (x:SnM):List Value:=[.bool x.s.held,.string x.s.text,x.mv,.int .i64 x.s.cursor]
def slL (l:List SnM):List Value:=l.flatMap snL
def seL (x:SeM):List Value:=[.bool x.sub,x.v]
def sesL (l:List SeM):List Value:=l.flatMap seL
def mdL (M:MM):List Value:=[.string M.text,M.mv,.int .i64 M.number,.bool M.closed,.int .i64 M.readers,M.sv]
abbrev tMd:TypeId:=136
abbrev tSe:TypeId:=139
abbrev tSn:TypeId:=168
structure MdAt (W:World) (b:Nat) (M:MM):Prop where
 blk:W.heap[b]? = some (.cells (mdL M).toArray 136 (0,0))
 marks:MOwn W 0 M.mv M.marks
 seats:W.ownsRow 0 139 2 M.sv M.seats.length (sesL M.seats)
 slots:∀ S∈M.seats,W.ownsRow 0 168 4 S.v S.sl.length (slL S.sl)
 smarks:∀ S∈M.seats,∀ x∈S.sl,MOwn W 0 x.mv x.s.marks
 some_:M.sv.ownBlock≠none∧∀ S∈M.seats,S.v.ownBlock≠none
 nodup:(M.seats.map (·.v.ownBlock)).Nodup
def MM.fp (M:MM) (b:Nat) (k:Nat):Prop:=k=b∨M.sv.ownBlock=some k∨∃ S∈M.seats,S.v.ownBlock=some k
structure aF (F:Nat→Prop) (w w':World):Prop where
 os:w'.os=w.os
 tape:w'.tape=w.tape
 output:w'.output=w.output
 size:w.heap.size≤w'.heap.size
 block:∀ k,k<w.heap.size→¬ F k→w'.heap[k]? = w.heap[k]?
theorem aF.of_below {F:Nat→Prop} {w w':World} (h:Below w.heap.size w w'):aF F w w':=⟨h.os,h.tape,h.output,h.size,fun k hk _=>h.block k hk⟩
theorem aF.refl (F:Nat→Prop) (w:World):aF F w w:=⟨rfl,rfl,rfl,Nat.le_refl _,fun _ _ _=>rfl⟩
theorem aF.trans {F:Nat→Prop} {a b c:World} (h:aF F a b) (k:aF F b c):aF F a c :=
 ⟨k.os.trans h.os,k.tape.trans h.tape,k.output.trans h.output,Nat.le_trans h.size k.size,fun i hi hF=>(k.block i (Nat.lt_of_lt_of_le hi h.size) hF).trans (h.block i hi hF)⟩
theorem aF.set {F:Nat→Prop} {w:World} {a:Addr} (h:F a.block) (u:Value):aF F w (w.setCell a u) :=
 ⟨rfl,rfl,rfl,by simp[World.setCell],fun k _ hk=>Below.heap_setCell _ _ _ _ (fun e=>hk (e ▸ h))⟩
theorem MdAt.below {W W':World} {b:Nat} {M:MM} (h:MdAt W b M) (hb:Below W.heap.size W W'):MdAt W' b M :=
 ⟨(hb.block b (gAz h.blk).1).trans h.blk,aI h.marks hb,aI h.seats hb,fun S hS=>aI (h.slots S hS) hb,fun S hS x hx=>aI (h.smarks S hS x hx) hb,h.some_,h.nodup⟩
theorem aH {w w':World} {B s n k0:Nat} {e T:TypeId} {v:Value} {xs:List Value} {cs:Array Value} (h:w.ownsRow B e s v n xs) (hb:w.heap[k0]? = some (.cells cs T (0,0))) (hT:T≠e) (hk:∀ k,k<w.heap.size→k≠k0→w'.heap[k]? = w.heap[k]?):w'.ownsRow B e s v n xs:=by
 refine⟨h.1,?_⟩
 rcases h.2 with hn | ⟨g,cap,cur,rfl,hB,hg,rest⟩
 ·exact .inl hn
 ·refine .inr ⟨g,cap,cur,rfl,hB,(hk g (gAz hg).1 (fun e => ?_)).trans hg,rest⟩
  subst e;rw[hb] at hg;injection hg with hg;injection hg with _ h2 _;exact hT h2
theorem MdAt.upd {W W':World} {b:Nat} {M M':MM} (h:MdAt W b M) (hb:W'.heap[b]? = some (.cells (mdL M').toArray 136 (0,0))) (hk:∀ k,k<W.heap.size→k≠b→W'.heap[k]? = W.heap[k]?)
  (hm:MOwn W' 0 M'.mv M'.marks) (hsv:M'.sv=M.sv) (hse:M'.seats=M.seats):MdAt W' b M' :=
 ⟨hb,hm,by rw[hsv,hse];exact aH h.seats h.blk (by decide) hk,fun S hS=>aH (h.slots S (hse ▸ hS)) h.blk (by decide) hk,fun S hS x hx=>aH (h.smarks S (hse ▸ hS) x hx) h.blk (by decide) hk,by rw[hsv,hse];exact h.some_,by rw[hse];exact h.nodup⟩
theorem bZ {w:World} {b:Nat} {L:List Value} {T:TypeId} (h:w.heap[b]? = some (.cells L.toArray T (0,0))) (i:Nat) (u:Value):(w.setCell ⟨b,i,none⟩ u).heap[b]? = some (.cells (L.set i u).toArray T (0,0)):=by
 simp[World.setCell,Array.getElem?_modify,h]
theorem eQ (w:World) (a:Addr) (u:Value):(w.setCell a u).heap.size=w.heap.size:=by simp[World.setCell]
theorem aG (w:World) (a:Addr) (u:Value) (k:Nat) (h:k≠a.block):(w.setCell a u).heap[k]? = w.heap[k]? := Below.heap_setCell _ _ _ _ h
theorem bT (e:Int) (w:World):Calls Tryz.prog 99 #[.int .i64 e] w fun r w'=>r = .returned (.agg (resL (aS e)).toArray)∧Below w.heap.size w w':=by
 have hz:=heap_alloc_new w (.cells (resL {}).toArray 51)
 have hst:=aK hz rfl
 go_enter Tryz.func99,Tryz.ntmps99
 go_wp2
 exact⟨rfl,_,results_cell_row rfl _ _ _ _ _ _ _ rfl (setRow_heap _ _ _ _ _ _ hz) Tryz.underlying51 rfl (by kernel_rfl),rfl,bM ((Below.refl _ w).alloc (Nat.le_refl _) _) (Nat.le_refl _) _⟩
theorem kS (b:Nat) (M:MM) (w:World) (h:MdAt w b M):Calls Tryz.prog 189 #[.pointer (some ⟨b,0,none⟩)] w fun r w'=>r = .returned (.int .i64 (if M.closed then 13 else 0))∧w=w':=by
 have c3:w.cell? ⟨b,3,none⟩=some (.bool M.closed):=by simp[World.cell?,h.blk,mdL]
 cases hc:M.closed<;>rw[hc] at c3
 all_goals
  go_enter Tryz.func189,Tryz.ntmps189
  go_wp2
  go_returns
  exact⟨rfl,rfl⟩
theorem pF (b:Nat) (M:MM) (w:World) (h:MdAt w b M) (hn:0≤M.number) (hn2:M.number≤100000):Calls Tryz.prog 195 #[.pointer (some ⟨b,0,none⟩)] w fun r w'=>r = .returned (.agg (resL { rev:=M.number+1 }).toArray)∧MdAt w' b { M with number:=M.number+1 }∧aF (fun k=>k=b) w w':=by
 have c2:w.cell? ⟨b,2,none⟩=some (.int .i64 M.number):=by simp[World.cell?,h.blk,mdL]
 have f2:w.frozen? ⟨b,2,none⟩=false:=by simp[World.frozen?,h.blk]
 have hw:IntKind.i64.wrap (M.number+1)=M.number+1:=IntWalk.i64_in _ (by omega)
 have c2':=fun o=>Lib.cell?_alloc_some o c2
 have hlt:=(gAz h.blk).1
 obtain⟨W1,hW1⟩:∃ W1,w.setCell ⟨b,2,none⟩ (.int .i64 (M.number+1))=W1:=⟨_,rfl⟩
 have hs1:W1.heap.size=w.heap.size:=by rw[← hW1];exact eQ _ _ _
 have hz:=heap_alloc_new W1 (.cells (resL {}).toArray 51)
 have hst:=aK hz rfl
 rw[hs1] at hz hst
 have hM1:MdAt W1 b { M with number:=M.number+1 }:=by
  rw[← hW1]
  exact h.upd (by have:=bZ h.blk 2 (.int .i64 (M.number+1));exact this) (fun k _ hk=>aG _ _ _ _ hk) (aH h.marks h.blk (by decide) (fun k _ hk=>aG _ _ _ _ hk)) rfl rfl
 have hK1:aF (fun k=>k=b) w W1:=by rw[← hW1];exact aF.set (F:=fun k=>k=b) (a:=⟨b,2,none⟩) rfl _
 have c2w:W1.cell? ⟨b,2,none⟩=some (.int .i64 (M.number+1)):=by simp[World.cell?,hM1.blk,mdL]
 have c2w':=fun o=>Lib.cell?_alloc_some o c2w
 have hBr:=bM ((Below.refl W1.heap.size W1).alloc (Nat.le_refl _) (.cells (resL {}).toArray 51)) (Nat.le_of_eq hs1) (resL { rev:=M.number+1 }).toArray
 go_enter Tryz.func195,Tryz.ntmps195
 go_wp2_with (simp only[hW1])
 exact⟨rfl,_,results_cell_row rfl _ _ _ _ _ _ _ rfl (setRow_heap _ _ _ _ _ _ hz) Tryz.underlying51 rfl (by kernel_rfl),rfl,hM1.below hBr,hK1.trans (aF.of_below hBr)⟩
end Go.Proofs.YtdeiocppghhfdaaGreat
namespace Go.Proofs.YtdeiocppghhfdaaGreat
open Go.RowKit Go.Lib Go.Shelf
theorem aH6 (a:Option Addr) (n c:Nat) (w:World) (hn:n≤maxLen):Calls Tryz.prog 155 #[.slice a n c,.slice none 0 0] w fun e w'=>e = .returned (.bool (decide (n=0)))∧w=w':=by
 by_cases h:n=0
 ·subst h
  go_enter Tryz.func155,Tryz.ntmps155
  go_wp2
  go_loopw [5,13,14,15,16,17,18,19,20,21,22,23,24,25] (fun x5 i x14 x15 x16 x17 x18 x19 x20 x21 x22 x23 x24 x25 wr=>i = .int .i64 0∧w=wr) (fun x5 i x14 x15 x16 x17 x18 x19 x20 x21 x22 x23 x24 x25 wr=>0)
  case atStart=>exact⟨rfl,rfl⟩
  case round =>
   obtain⟨rfl,rfl⟩:=hrel
   go_wp2
   go_returns
   exact⟨rfl,rfl⟩
 ·have d:((n:Int) == 0)=false:=by simp[h]
  have e:decide (n=0)=false:=by simp[h]
  rw[e]
  go_enter Tryz.func155,Tryz.ntmps155
  go_wp2
  go_returns
  exact⟨rfl,rfl⟩
theorem aBl (r s:ResV) (k f t:Int) (da:Option Addr) (dn dc:Nat) (w:World) (hn:dn≤maxLen):Calls Tryz.prog 103 #[.agg #[.int .i64 r.err,.int .i64 r.rev,.int .i64 r.slot,.int .i64 r.at_,.int .u8 r.grav,.string r.text,.int .i64 r.m1,.int .i64 r.m2,.int .i64 r.m3,.int .u8 k,.int .i64 f,.int .i64 t,.slice da dn dc],.agg #[.int .i64 s.err,.int .i64 s.rev,.int .i64 s.slot,.int .i64 s.at_,.int .u8 s.grav,.string s.text,.int .i64 s.m1,.int .i64 s.m2,.int .i64 s.m3,.int .u8 0,.int .i64 0,.int .i64 0,.slice none 0 0]] w fun e w'=>e = .returned (.bool (decide (dn=0) && (r.err == s.err) && (r.rev == s.rev) && (r.slot == s.slot) && (r.at_ == s.at_) && (r.grav == s.grav) && (r.text.toList == s.text.toList) && (r.m1 == s.m1 && r.m2 == s.m2 && r.m3 == s.m3) && (k == 0) && (f == 0) && (t == 0)))∧Below w.heap.size w w':=by
 have hB0:=((Below.refl w.heap.size w).alloc (Nat.le_refl _) (.cells #[.int .i64 r.err,.int .i64 r.rev,.int .i64 r.slot,.int .i64 r.at_,.int .u8 r.grav,.string r.text,.int .i64 r.m1,.int .i64 r.m2,.int .i64 r.m3,.int .u8 k,.int .i64 f,.int .i64 t,.slice da dn dc] 51)).alloc (by simp) (.cells #[.int .i64 s.err,.int .i64 s.rev,.int .i64 s.slot,.int .i64 s.at_,.int .u8 s.grav,.string s.text,.int .i64 s.m1,.int .i64 s.m2,.int .i64 s.m3,.int .u8 0,.int .i64 0,.int .i64 0,.slice none 0 0] 51)
 go_enter Tryz.func103,Tryz.ntmps103
 go_wp2
 go_region
 go_wp2_with (go_at_call 155;refine (aH6 da dn dc _ hn).mono ?_;rintro e w1 ⟨rfl,rfl⟩)
 all_goals go_returns
 all_goals exact⟨by simp[*],(((Below.refl w.heap.size w).alloc (Nat.le_refl _) _).alloc (by simp) _).drew⟩
attribute [local go_sem, local simp] resF bD bS fK fM fO dQ eX eY
theorem aQt (t:ByteArray) (a n:Int) (x:ByteArray):t.extract 0 a.toNat++x++t.extract (a+n).toNat t.size=repT t a n x:=by
 apply ByteArray.ext
 apply Array.toList_inj.1
 unfold repT
 simp[ByteArray.data_extract]
 exact List.take_of_length_le (by simp)
theorem MdAt.row {W:World} {b g:Nat} {M:MM} {cs:Array Value} (h:MdAt W b M) (hg:W.heap[g]? = some (.cells cs 51 (0,0))) (r:Array Value):MdAt (W.setRow g r) b M:=by
 have hk:∀ k,k<W.heap.size→k≠g→(W.setRow g r).heap[k]? = W.heap[k]? := fun k _ hk=>setRow_other _ _ _ _ hk
 have hbg:b≠g:=fun e=>by subst e;have:=h.blk;rw[hg] at this;injection this with this;injection this with _ h2 _;exact absurd h2 (by decide)
 exact⟨(hk b (gAz h.blk).1 hbg).trans h.blk,aH h.marks hg (by decide) hk,aH h.seats hg (by decide) hk,fun S hS=>aH (h.slots S hS) hg (by decide) hk,fun S hS x hx=>aH (h.smarks S hS x hx) hg (by decide) hk,h.some_,h.nodup⟩
theorem aF.drew {F:Nat→Prop} {w w':World} (h:aF F w w'):aF F w w'.drew:=⟨h.os,h.tape,h.output,h.size,h.block⟩
theorem aF.row {F:Nat→Prop} {w w':World} {g:Nat} (h:aF F w w') (hg:w.heap.size≤g) (r:Array Value):aF F w (w'.setRow g r) :=
 ⟨h.os,h.tape,h.output,by rw[setRow_size];exact h.size,fun k hk hF=>(setRow_other _ _ _ _ (by omega)).trans (h.block k hk hF)⟩
theorem qF (b:Nat) (M:MM) (a n:Int) (x:ByteArray) (w:World) (h:MdAt w b M) (hrep:iP M.text.size a n x) (hmk:MkOK M.text.size M.marks) (hn:0≤M.number) (hn2:M.number≤100000) :
  Calls Tryz.prog 192 #[.pointer (some ⟨b,0,none⟩),.int .i64 a,.int .i64 n,.string x] w fun e w'=>e = .returned (.agg (resL { rev:=M.number+1 }).toArray)∧(∃ mv,MdAt w' b { M with text:=repT M.text a n x,mv:=mv,marks:=bI (repD M.text.size a n x) M.marks,number:=M.number+1 })∧aF (fun k=>k=b) w w':=by
 obtain⟨hok,hfin,hsm,hlen⟩:=zL hrep
 have hrl:=uX M.text.size a n x
 have hrep':=hrep
 obtain⟨ha,hn0,han,hsz,hxs,_⟩:=hrep
 have c0:w.cell? ⟨b,0,none⟩=some (.string M.text):=by simp[World.cell?,h.blk,mdL]
 have c0':=fun o=>Lib.cell?_alloc_some o c0
 have hlt:=(gAz h.blk).1
 have hB0:=(Below.refl w.heap.size w).alloc (Nat.le_refl _) (.cells (resL {}).toArray 51)
 have hz0:=heap_alloc_new w (.cells (resL {}).toArray 51)
 obtain⟨ao,cp,hmv⟩:=aC h.marks
 have h1:=h.marks
 rw[hmv] at h1
 obtain⟨hrow,hcp⟩:=bV rfl h1
 have hmk':MkOK (lenS (repD M.text.size a n x)).1 M.marks:=by rw[hlen];exact hmk
 have ra:=fun W=>aBb M.text.size a n x W hrep'
 have hwr:IntKind.i64.wrap (a+n)=a+n:=IntWalk.i64_in _ (by omega)
 have b1:a≤(M.text.size:Int):=by omega
 have b2:0≤a+n:=by omega
 go_enter Tryz.func192,Tryz.ntmps192
 go_wp2_with (first | (go_at_call 239;refine (ra _).mono ?_;rintro e w1 ⟨vd,rfl,hod,hB1⟩;obtain⟨ad,cd,rfl⟩:=aC hod;obtain⟨hdrow,hcd⟩:=kL rfl hod;have hB2:=hB0.trans (hB1.mono (by simp));have hM1:=h.below hB2;have e0:w1.cell? ⟨b,0,none⟩=some (.string M.text):=(by simp[World.cell?,hM1.blk,mdL]);have e1:w1.cell? ⟨b,1,none⟩=some (.slice ao M.marks.length cp):=(by simp[World.cell?,hM1.blk,mdL,hmv]);have hz1:=(hB1.block _ (by simp)).trans hz0) | (go_at_call 240;refine (aEd ao ad cp cd M.marks (repD M.text.size a n x) _ (hrow.on hB2) hdrow hmk' (by omega) hcd (by rw[hlen]) (by rw[hlen];dsimp only;omega) (by rw[hlen];dsimp only;omega)).mono ?_;rintro e w2 ⟨vm,rfl,hom,hB3⟩;obtain⟨am,cm,rfl⟩:=aC hom;have hB4:=hB2.trans (hB3.mono hB2.size);have hM2:=h.below hB4;have g0:w2.cell? ⟨b,0,none⟩=some (.string M.text):=(by simp[World.cell?,hM2.blk,mdL]);have g1:w2.cell? ⟨b,1,none⟩=some (.slice ao M.marks.length cp):=(by simp[World.cell?,hM2.blk,mdL,hmv]);have f0:w2.frozen? ⟨b,0,none⟩=false:=(by simp[World.frozen?,hM2.blk]);have f1:w2.frozen? ⟨b,1,none⟩=false:=(by simp[World.frozen?,hM2.blk]);have hz2:=(hB3.block _ (gAz hz1).1).trans hz1))
 go_region
 have hre:=aQt M.text a n x
 rw[hre]
 obtain⟨M3,hM3e⟩:∃ M3:MM,M3={ M with text:=repT M.text a n x,mv := .slice am (bI (repD M.text.size a n x) M.marks).length cm,marks:=bI (repD M.text.size a n x) M.marks }:=⟨_,rfl⟩
 have hM3:MdAt ((w2.setCell ⟨b,0,none⟩ (.string (repT M.text a n x))).setCell ⟨b,1,none⟩ (.slice am (bI (repD M.text.size a n x) M.marks).length cm)).drew b M3:=by
  have hk:∀ k,k<w2.heap.size→k≠b→((w2.setCell ⟨b,0,none⟩ (.string (repT M.text a n x))).setCell ⟨b,1,none⟩ (.slice am (bI (repD M.text.size a n x) M.marks).length cm)).heap[k]? = w2.heap[k]? := fun k _ hk=>(aG _ _ _ _ hk).trans (aG _ _ _ _ hk)
  refine hM2.upd ?_ hk ?_ (by rw[hM3e]) (by rw[hM3e])
  ·have:=bZ (bZ hM2.blk 0 (.string (repT M.text a n x))) 1 (.slice am (bI (repD M.text.size a n x) M.marks).length cm)
   rw[hM3e];exact this
  ·rw[hM3e];exact aH (aV (Nat.zero_le _) hom) hM2.blk (by decide) hk
 have hK3:aF (fun k=>k=b) w2 ((w2.setCell ⟨b,0,none⟩ (.string (repT M.text a n x))).setCell ⟨b,1,none⟩ (.slice am (bI (repD M.text.size a n x) M.marks).length cm)).drew:=((aF.set (F:=fun k=>k=b) (a:=⟨b,0,none⟩) rfl _).trans (aF.set (F:=fun k=>k=b) (a:=⟨b,1,none⟩) rfl _)).drew
 have hz3:=(hK3.block w.heap.size (gAz hz2).1 (by omega)).trans hz2
 generalize ((w2.setCell ⟨b,0,none⟩ (.string (repT M.text a n x))).setCell ⟨b,1,none⟩ (.slice am (bI (repD M.text.size a n x) M.marks).length cm)).drew=w3 at *
 have hed:=pF b M3 w3 hM3 (by rw[hM3e];exact hn) (by rw[hM3e];exact hn2)
 have hnum:M3.number=M.number:=by rw[hM3e]
 rw[hnum] at hed
 go_wp2_with (go_at_call 195;refine hed.mono ?_;rintro e w4 ⟨rfl,hM4,hK4⟩;have hz4:=(hK4.block w.heap.size (gAz hz3).1 (by omega)).trans hz3;have hst:=aK hz4 rfl)
 have hB4':=bM (Below.refl w.heap.size w4) (Nat.le_refl _) (resL { rev:=M.number+1 }).toArray
 have hs4:w.heap.size<w4.heap.size:=(gAz hz4).1
 refine⟨rfl,_,results_cell_row rfl _ _ _ _ _ _ _ rfl (setRow_heap _ _ _ _ _ _ hz4) Tryz.underlying51 rfl (by kernel_rfl),rfl,⟨.slice am (bI (repD M.text.size a n x) M.marks).length cm,?_⟩,?_⟩
 ·have:=hM4.row hz4 (resL { rev:=M.number+1 }).toArray
  rw[hM3e] at this
  exact this
 ·refine ((aF.of_below hB4).trans (hK3.trans hK4)).row ?_ _
  exact Nat.le_refl _
end Go.Proofs.YtdeiocppghhfdaaGreat
namespace Go.Proofs.YtdeiocppghhfdaaGreat
theorem aBm {b:Int} (h:gT b=true):annB b=0:=by have:=dA h;unfold annB;repeat (first | omega | split)
theorem mX {l:List UInt8} {r n:Int} (h:decL l=(r,n,0)):encL r=l.take n.toNat∧encE r=0∧1≤n∧n≤l.length∧n≤4∧lenB r=n:=by
 rcases qA l with⟨n',r',he,h1,h2,h3,ha,hc,hr,hl⟩ | ⟨_,he⟩ | ⟨_,he⟩
 ·rw[h] at he
  simp only[Prod.mk.injEq] at he
  obtain⟨rfl,rfl,_⟩:=he
  have hx:=aDx ha
  have hb:=gU l 0
  have:=aA7 h1 h2 h3 hc (by rw[hr];exact hl) (by omega)
  rw[hr] at this
  refine⟨this,?_,h1,h3,h2,hl⟩
  rcases zC hl with h0 | ⟨h0,_⟩
  ·omega
  ·simp[encE,h0]
 ·rw[h] at he;simp at he
 ·rw[h] at he;simp at he
theorem xW {l m:List UInt8} {r n:Int} (h:decL l=(r,n,0)) (hm:n≤m.length) (hb:∀ k:Nat,(k:Int)<n→byt m k=byt l k):decL m=(r,n,0):=by
 rcases qA l with⟨n',r',he,h1,h2,h3,ha,hc,hr,hl⟩ | ⟨_,he⟩ | ⟨_,he⟩
 ·rw[h] at he
  simp only[Prod.mk.injEq] at he
  obtain⟨rfl,rfl,_⟩:=he
  have b0:=hb 0 (by omega)
  have hn:n=1∨n=2∨n=3∨n=4:=by omega
  refine lG (by rw[b0];exact ha) h1 hm ?_ ?_ hl
  ·rw[← hr]
   rcases hn with rfl | rfl | rfl | rfl<;>unfold decR<;>simp[b0,hb 1,hb 2,hb 3]
  ·rw[← hc]
   rcases hn with rfl | rfl | rfl | rfl<;>unfold decC<;>simp[hb 1,hb 2,hb 3]
 ·rw[h] at he;simp at he
 ·rw[h] at he;simp at he
theorem aEe {l:List UInt8} {r n:Int} (h:decL l=(r,n,0)) (m:List UInt8):decL (l++m)=(r,n,0):=by
 have hb:=mX h
 refine xW h (by rw[List.length_append];omega) fun k hk=>tH _ _ _ (by omega)
theorem aKx {l:List UInt8} {r n:Int} (h:decL l=(r,n,0)) (k:Nat) (hk:n≤k):decL (l.take k)=(r,n,0):=by
 have hb:=mX h
 refine xW h (by rw[List.length_take];omega) fun j hj=>aA5 _ _ _ (by omega)
theorem aH7 {l:List UInt8} {r n:Int} (h:decL l=(r,n,0)):gT (byt l 0)=false∧∀ k:Nat,1≤k→(k:Int)<n→gT (byt l k)=true:=by
 rcases qA l with⟨n',r',he,h1,h2,h3,ha,hc,hr,hl⟩ | ⟨_,he⟩ | ⟨_,he⟩
 ·rw[h] at he
  simp only[Prod.mk.injEq] at he
  obtain⟨rfl,rfl,_⟩:=he
  constructor
  ·cases hx:gT (byt l 0) with
   |false=>rfl
   |true=>rw[aBm hx] at ha;omega
  ·intro k hk hkn
   unfold decC at hc
   simp only[Bool.and_eq_true,Bool.or_eq_true,decide_eq_true_eq] at hc
   obtain⟨⟨c1,c2⟩,c3⟩:=hc
   have:k=1∨k=2∨k=3:=by omega
   rcases this with rfl | rfl | rfl
   ·exact c1.resolve_left (by omega)
   ·exact c2.resolve_left (by omega)
   ·exact c3.resolve_left (by omega)
 ·rw[h] at he;simp at he
 ·rw[h] at he;simp at he
theorem xX {l:List UInt8} (h:bN l=true) (hl:l≠[]):∃ r n,decL l=(r,n,0)∧bN (l.drop n.toNat)=true:=by
 rw[gN hl] at h
 split at h
 ·next h0 =>
  refine⟨(decL l).1,(decL l).2.1,?_,h⟩
  rw[← h0]
 ·cases h
theorem qG {l:List UInt8} {r n:Int} (h:decL l=(r,n,0)):bN l=bN (l.drop n.toNat):=by
 have hb:=mX h
 rw[gN (by rintro rfl;simp at hb;omega),h,if_pos rfl]
theorem gW (m:List UInt8) (hm:bN m=true):∀ (f:Nat) (l:List UInt8),l.length≤f→bN l=true→bN (l++m)=true:=by
 intro f
 induction f with
 |zero =>
  intro l hl _
  have:l=[]:=List.eq_nil_of_length_eq_zero (by omega)
  subst this
  exact hm
 |succ f ih =>
  intro l hl hv
  by_cases he:l=[]
  ·subst he;exact hm
  obtain⟨r,n,hd,hr⟩:=xX hv he
  have hb:=mX hd
  rw[qG (aEe hd m),List.drop_append_of_le_length (by omega)]
  exact ih _ (by rw[List.length_drop];omega) hr
theorem aBn (l:List UInt8) (a:Nat) (n:Int) (h:0≤n) (ha:a≤l.length):bndB (l.drop a) n=bndB l (a+n):=by
 unfold bndB
 rw[aA4,List.length_drop]
 have e1:((l.length-a:Nat):Int)=l.length-a:=by omega
 rw[e1,show a+n.toNat=((a:Int)+n).toNat from by omega]
 congr 1
 ·simp;omega
 ·congr 1
  ·congr 1;simp;omega
  ·rw[Bool.eq_iff_iff];simp;omega
theorem aH8:∀ (f:Nat) (l:List UInt8),l.length≤f→bN l=true→∀ k:Nat,k≤l.length→bN (l.take k)=bndB l k∧bN (l.drop k)=bndB l k:=by
 intro f
 induction f with
 |zero =>
  intro l hl _ k hk
  have:l=[]:=List.eq_nil_of_length_eq_zero (by omega)
  subst this
  simp at hk
  subst hk
  exact⟨rfl,rfl⟩
 |succ f ih =>
  intro l hl hv k hk
  by_cases he:l=[]
  ·subst he
   simp at hk
   subst hk
   exact⟨rfl,rfl⟩
  obtain⟨r,n,hd,hr⟩:=xX hv he
  have hb:=mX hd
  have hc:=aH7 hd
  by_cases hkn:(k:Int)<n
  ·by_cases hk0:k=0
   ·subst hk0
    have:bndB l ((0:Nat):Int)=true:=by
     unfold bndB
     simp[hc.1]
     omega
    rw[this]
    exact⟨rfl,hv⟩
   ·have hcon:=hc.2 k (by omega) hkn
    have:bndB l (k:Int)=false:=by
     unfold bndB
     simp[hcon]
     omega
    rw[this]
    have ha:annB (byt l 0)=n:=by
     rcases qA l with⟨n',r',he',h1,h2,h3,ha,_⟩ | ⟨_,he'⟩ | ⟨_,he'⟩
     ·rw[hd] at he'
      simp only[Prod.mk.injEq] at he'
      rw[ha,he'.2.1]
     ·rw[hd] at he';simp at he'
     ·rw[hd] at he';simp at he'
    constructor
    ·have hne:l.take k≠[]:=by
      intro e
      have:=congrArg List.length e
      rw[List.length_take,List.length_nil] at this
      omega
     rw[gN hne,lF (List.length_pos_iff.2 hne) (.inr ?_)]
     ·rfl
     ·rw[aA5 _ _ _ (by omega),ha,List.length_take]
      omega
    ·have hne:l.drop k≠[]:=by
      intro e
      have:=congrArg List.length e
      rw[List.length_drop,List.length_nil] at this
      omega
     rw[gN hne,lF (List.length_pos_iff.2 hne) (.inl ?_)]
     ·rfl
     ·rw[aA4]
      exact aBm hcon
  ·have hr':=ih (l.drop n.toNat) (by rw[List.length_drop];omega) hr (k-n.toNat) (by rw[List.length_drop];omega)
   rw[aBn _ _ _ (by omega) (by omega),show ((n.toNat:Nat):Int)+((k-n.toNat:Nat):Int)=k from by omega] at hr'
   constructor
   ·rw[qG (aKx hd k (by omega)),← hr'.1,List.drop_take]
   ·rw[← hr'.2,List.drop_drop,show n.toNat+(k-n.toNat)=k from by omega]
end Go.Proofs.YtdeiocppghhfdaaGreat
