/- Texts, one behind another. -/
import Derived.Test.YtdeiocppghhfdaaGreatZfas
set_option linter.unusedVariables false
set_option linter.unusedSimpArgs false
set_option maxRecDepth 100000
set_option maxHeartbeats 40000000
namespace Go.Proofs.YtdeiocppghhfdaaGreat
open Go.RowKit Go.Lib Go.Shelf
def mdC (t:ByteArray) (v:Value) (n:Int) (c:Bool) (r:Int) (s:Value):List Value:=[.string t,v,.int .i64 n,.bool c,.int .i64 r,s]
theorem mdF (t:ByteArray) (v:Value) (n:Int) (c:Bool) (r:Int) (s:Value):Value.agg #[.string t,v,.int .i64 n,.bool c,.int .i64 r,s] = .agg (mdC t v n c r s).toArray:=rfl
theorem aGa (t:ByteArray) (v:Value) (n:Int) (c:Bool) (r:Int) (s:Value):(mdC t v n c r s).length=6:=rfl
theorem aLi (t:ByteArray) (v:Value) (n:Int) (c:Bool) (r:Int) (s:Value):mdC t v n c r s≠[]:=by simp[mdC]
attribute [local go_sem, local simp] resF bD bS mdF aGa aLi
theorem vJ (W:World) (R:ResV):∃ W4,(storeCells ⟨W.heap.size,0,none⟩ (resL R)).run Tryz.prog (W.alloc (.cells (resL {}).toArray 51)) = .ok () W4∧W4.heap[W.heap.size]? = some (.cells (resL R).toArray 51 (0,0))∧Below W.heap.size W W4:=by
 have hz:=heap_alloc_new W (.cells (resL {}).toArray 51)
 exact⟨_,aK hz rfl R,setRow_heap _ _ _ _ _ _ hz,bM ((Below.refl _ W).alloc (Nat.le_refl _) _) (Nat.le_refl _) _⟩
theorem lY {W:World} {k:Nat} {T:TypeId} {u0 u1 u2 u3 u4 u5 u6 u7 u8 u9 u10 u11 u12:Value} (h:W.heap[k]? = some (.cells #[u0,u1,u2,u3,u4,u5,u6,u7,u8,u9,u10,u11,u12] T (0,0))):W.cell? ⟨k,0,none⟩=some u0∧W.cell? ⟨k,1,none⟩=some u1∧W.cell? ⟨k,2,none⟩=some u2∧W.cell? ⟨k,3,none⟩=some u3∧W.cell? ⟨k,4,none⟩=some u4∧W.cell? ⟨k,5,none⟩=some u5∧W.cell? ⟨k,6,none⟩=some u6∧W.cell? ⟨k,7,none⟩=some u7∧W.cell? ⟨k,8,none⟩=some u8∧W.cell? ⟨k,9,none⟩=some u9∧W.cell? ⟨k,10,none⟩=some u10∧W.cell? ⟨k,11,none⟩=some u11∧W.cell? ⟨k,12,none⟩=some u12:=by
 refine⟨?_,?_,?_,?_,?_,?_,?_,?_,?_,?_,?_,?_,?_⟩<;>simp[World.cell?,h]
theorem blk7 {W:World} {k:Nat} {T:TypeId} {u0 u1 u2 u3 u4 u5 u6:Value} (h:W.heap[k]? = some (.cells #[u0,u1,u2,u3,u4,u5,u6] T (0,0))):W.cell? ⟨k,0,none⟩=some u0∧W.cell? ⟨k,1,none⟩=some u1∧W.cell? ⟨k,2,none⟩=some u2∧W.cell? ⟨k,3,none⟩=some u3∧W.cell? ⟨k,4,none⟩=some u4∧W.cell? ⟨k,5,none⟩=some u5∧W.cell? ⟨k,6,none⟩=some u6:=by
 refine⟨?_,?_,?_,?_,?_,?_,?_⟩<;>simp[World.cell?,h]
theorem MdAt.c4 {W:World} {b:Nat} {M:MM} (h:MdAt W b M):W.cell? ⟨b,4,none⟩=some (.int .i64 M.readers):=by simp[World.cell?,h.blk,mdL]
theorem MdAt.take {W:World} {b b2:Nat} {M N:MM} (h:MdAt W b M) (h2:MdAt W b2 N) {av asn:Option Addr} {cv cs:Nat} (hm:N.mv = .slice av N.marks.length cv) (hs:N.sv = .slice asn N.seats.length cs) :
  (storeCells ⟨b,0,none⟩ (mdC N.text (.slice av N.marks.length cv) N.number N.closed N.readers (.slice asn N.seats.length cs))).run Tryz.prog W = .ok () (W.setRow b (mdC N.text (.slice av N.marks.length cv) N.number N.closed N.readers (.slice asn N.seats.length cs)).toArray) ∧
  MdAt (W.setRow b (mdC N.text (.slice av N.marks.length cv) N.number N.closed N.readers (.slice asn N.seats.length cs)).toArray) b N:=by
 have e:mdC N.text (.slice av N.marks.length cv) N.number N.closed N.readers (.slice asn N.seats.length cs)=mdL N:=by unfold mdC mdL;rw[hm,hs]
 refine⟨mQ h.blk rfl _ rfl (by simp[mdC,Value.oneCell']),?_⟩
 rw[e]
 have hk:∀ k,k<W.heap.size→k≠b→(W.setRow b (mdL N).toArray).heap[k]? = W.heap[k]? := fun k _ hk=>setRow_other _ _ _ _ hk
 exact⟨setRow_heap _ _ _ _ _ _ h.blk,aH h2.marks h.blk (by decide) hk,aH h2.seats h.blk (by decide) hk,fun S hS=>aH (h2.slots S hS) h.blk (by decide) hk,fun S hS x hx=>aH (h2.smarks S hS x hx) h.blk (by decide) hk,h2.some_,h2.nodup⟩
structure ItV where
 k:Int:=0
 f:Int:=0
 t:Int:=0
 da:Option Addr:=none
 dn:Nat:=0
 dc:Nat:=0
def dE (r:ResV) (i:ItV) (s:ResV):Bool:=decide (i.dn=0) && (r.err == s.err) && (r.rev == s.rev) && (r.slot == s.slot) && (r.at_ == s.at_) && (r.grav == s.grav) && (r.text.toList == s.text.toList) && (r.m1 == s.m1 && r.m2 == s.m2 && r.m3 == s.m3) && (i.k == 0) && (i.f == 0) && (i.t == 0)
theorem aEq (r s:ResV) (i:ItV) (w:World) (hn:i.dn≤maxLen):Calls Tryz.prog 103 #[.agg #[.int .i64 r.err,.int .i64 r.rev,.int .i64 r.slot,.int .i64 r.at_,.int .u8 r.grav,.string r.text,.int .i64 r.m1,.int .i64 r.m2,.int .i64 r.m3,.int .u8 i.k,.int .i64 i.f,.int .i64 i.t,.slice i.da i.dn i.dc],.agg (resL s).toArray] w fun e w'=>e = .returned (.bool (dE r i s))∧Below w.heap.size w w':=aBl r s i.k i.f i.t i.da i.dn i.dc w hn
theorem aQ2 (r s:ResV) (w:World):Calls Tryz.prog 103 #[.agg (resL r).toArray,.agg (resL s).toArray] w fun e w'=>e = .returned (.bool (dE r {} s))∧Below w.heap.size w w':=aBl r s 0 0 0 none 0 0 w (Nat.zero_le _)
def accB (st:MS) (c:Int) (q:OpV) (r:ResV) (i:ItV):Bool :=
 if dL st c q≠0 then false
 else if q.kind=15 then ((doS st c q).1.err == 17) && dE r {} {} && (i.k == 1 || i.k == 2)
 else if q.kind=1∨q.kind=2 then (dE r i (aS 6) && ((doS st c q).1.err == 0)) || (dE r i (aS 14) && !((doS st c q).1.err == 13))
 else if q.kind=3∨q.kind=4 then dE r i (aS 14) && !((doS st c q).1.err == 13)
 else false
def accS (st:MS) (c:Int) (q:OpV) (r:ResV) (i:ItV):Bool × MS:=if dE r i (doS st c q).1 then (true,(doS st c q).2) else (accB st c q r i,st)
def aO5 (b:Nat) (w:World) (R:Bool × MS) (M:MM) (e:Ending) (w':World):Prop:=e = .returned (.bool R.1)∧∃ M',MdAt w' b M'∧M'.st=R.2∧aF (M.fp b) w w'∧(∀ k,M'.fp b k→M.fp b k∨w.heap.size≤k)
end Go.Proofs.YtdeiocppghhfdaaGreat
namespace Go.Proofs.YtdeiocppghhfdaaGreat
theorem aGb {v lo hi:Int} (h:inB v lo hi=true):lo≤v∧v≤hi:=by simpa [inB] using h
theorem aO6 {c:CfgV} (h:cfgE c=0):(0≤c.clients∧c.clients≤8)∧(0≤c.readers∧c.readers≤8)∧c.text.size≤65536∧bN c.text.data.toList=true:=by
 unfold cfgE at h
 split at h
 ·rename_i hb
  unfold cfgB at hb
  simp only[Bool.and_eq_true] at hb
  obtain⟨⟨⟨⟨⟨⟨_,_⟩,h1⟩,h2⟩,_⟩,_⟩,_⟩:=hb
  split at h
  ·simp at h
  ·split at h
   ·rename_i h3 h4;exact⟨aGb h1,aGb h2,by omega,h4⟩
   ·simp at h
 ·simp at h
theorem uB {c:CfgV} (h:cfgE c=0):MSok (newS c) 0:=by
 obtain⟨h1,h2,h3,h4⟩:=aO6 h
 refine⟨h3,h4,⟨by simp[newS],List.Pairwise.nil,fun m hm=>by simp[newS] at hm⟩,fun m hm=>by simp[newS] at hm,Int.le_refl _,Int.le_refl _,by show c.readers.toNat≤8;omega,by show (List.replicate _ _).length≤8;rw[List.length_replicate];omega,fun s hs => ?_⟩
 obtain⟨_,rfl⟩:=List.mem_replicate.1 hs
 refine⟨List.length_replicate ..,fun x hx => ?_⟩
 obtain⟨_,rfl⟩:=List.mem_replicate.1 hx
 exact yA
end Go.Proofs.YtdeiocppghhfdaaGreat
