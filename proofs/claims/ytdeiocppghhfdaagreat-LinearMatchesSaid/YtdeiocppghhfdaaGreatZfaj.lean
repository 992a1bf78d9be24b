/- Texts, one behind another. -/
import Derived.Test.YtdeiocppghhfdaaGreatZfai
import Derived.Shelf.Spec.SlicesInsertGrow
set_option linter.unusedVariables false
set_option linter.unusedSimpArgs false
set_option maxRecDepth 100000
set_option maxHeartbeats 40000000
namespace Go.Proofs.YtdeiocppghhfdaaGreat
open Go.RowKit
theorem zN (w:World) (l:List Int) (d:Nat) (t e:TypeId) (n:Nat) (ht : Tryz.prog.underlying t=some (.array n e)) (he : Tryz.prog.underlying e=some (.int .i64)) (hsz:∀ w,(sizeOf e).run Tryz.prog w = .ok 1 w) (hl:l.length=n) :
  (Op.equalIn (d+2) t (.agg (l.map (Value.int .i64)).toArray) (.agg (Array.replicate n (.int .i64 0)))).run Tryz.prog w = .ok ((List.range n).all fun i=>l.getD i 0 == 0) w:=by
 rw[List.range_eq_range',Op.equalIn]
 simp only[Sem.run_bind,run_underlying ht,Result.andThen_ok,hsz,Std.Legacy.Range.forIn_eq_forIn_range',Std.Legacy.Range.size,Nat.sub_zero,Nat.add_sub_cancel,Nat.div_one]
 have hl2:∀ i∈List.range' 0 n 1,i<n:=fun i hi=>by simpa using (List.mem_range'_1.1 hi).2
 generalize List.range' 0 n 1=r at hl2 ⊢
 induction r with
 |nil=>simp
 |cons i r ih =>
  have hi:i<n:=hl2 i (by simp)
  have px:(part e (l.map (Value.int .i64)).toArray (i*1)).run Tryz.prog w = .ok (.int .i64 (l.getD i 0)) w:=by
   simp[part,isAgg,run_underlying he,List.getD,gEz (show i<l.length by omega)]
  have py:(part e (Array.replicate n (Value.int .i64 0)) (i*1)).run Tryz.prog w = .ok (.int .i64 0) w:=by
   simp[part,isAgg,run_underlying he,hi]
  have pe:(Op.equalIn (d+1) e (.int .i64 (l.getD i 0)) (.int .i64 0)).run Tryz.prog w = .ok (l.getD i 0 == 0) w:=by
   rw[run_equalIn_int w d e .i64 .i64 _ _ he]
   try simp
  simp only[List.forIn_cons,Sem.run_bind,px,py,pe,Result.andThen_ok,List.all_cons]
  cases hb:(l.getD i 0 == 0)
  ·simp
  ·simp only[Bool.not_true,Bool.false_eq_true,if_false,Sem.run_pure,Result.andThen_ok,Bool.true_and]
   exact ih fun j hj=>hl2 j (by simp[hj])
theorem eq3 (a b c:Int) (w:World):(binOp .eql 266 (.agg #[.int .i64 a,.int .i64 b,.int .i64 c]) (.agg #[.int .i64 0,.int .i64 0,.int .i64 0])).run Tryz.prog w = .ok (.bool (a == 0 && b == 0 && c == 0)) w:=by
 rw[run_eql_struct]
 have h:=zN w [a,b,c] 9998 266 3 3 Tryz.underlying266 Tryz.underlying3 (fun w => Tryz.sizeOf3 w) rfl
 have h2:((List.range 3).all fun i=>[a,b,c].getD i 0 == 0)=(a == 0 && b == 0 && c == 0):=by
  simp[List.range_succ,Bool.and_assoc]
 rw[h2] at h
 have h3:(Array.replicate 3 (Value.int .i64 0)) = #[.int .i64 0,.int .i64 0,.int .i64 0]:=rfl
 rw[h3] at h
 have h4:([a,b,c].map (Value.int .i64)).toArray = #[.int .i64 a,.int .i64 b,.int .i64 c]:=rfl
 rw[h4] at h
 rw[h]
 rfl
theorem new0 (w:World) (cs:Array Value) (t:TypeId):(w.alloc (.cells cs t)).heap[w.heap.size]? = some (.cells cs t (0,0)):=heap_alloc_new w _
theorem new1 (w:World) (o:Obj) (cs:Array Value) (t:TypeId):((w.alloc o).alloc (.cells cs t)).heap[w.heap.size+1]? = some (.cells cs t (0,0)):=by have:=heap_alloc_new (w.alloc o) (.cells cs t);rwa [World.size_alloc] at this
def aBf (a b c:Int):List Value:=[.int .i64 a,.int .i64 b,.int .i64 c]
theorem mQ {P:Program} {W:World} {g n:Nat} {T:TypeId} {cur:Array Value} (h:W.heap[g]? = some (.cells cur T (0,0))) (hsz:cur.size=n) (L:List Value) (hL:L.length=n) (h1:L.toArray.all (·.oneCell')=true):(storeCells ⟨g,0,none⟩ L).run P W = .ok () (W.setRow g L.toArray):=by
 have h:=run_storeCells_at (P:=P) g 0 T L 0 cur W h (by omega) (fun v hv=>by rw[Array.all_eq_true'] at h1;exact h1 v (by simpa using hv))
 rw[h]
 congr 2
 rw[List.drop_eq_nil_of_le (by simp;omega)]
 simp
theorem bM {B g:Nat} {w0 w:World} (hb:Below B w0 w) (hBg:B≤g) (cs:Array Value):Below B w0 (w.setRow g cs) :=
 ⟨hb.os,hb.tape,hb.output,by rw[setRow_size];exact hb.size,fun k hk=>(setRow_other w g k cs (by omega)).trans (hb.block k hk)⟩
theorem zO (a b c:Int) (w:World):Calls Tryz.prog 249 #[.agg #[.int .i64 a,.int .i64 b,.int .i64 c]] w fun e w'=>e = .returned (.agg (aBf a b c).toArray)∧Below w.heap.size w w':=by
 have he:=eq3 a b c
 have hb:=fun (o1 o2:Obj)=>((Below.refl w.heap.size w).alloc (Nat.le_refl _) o1).alloc (by simp) o2
 by_cases hz:(a == 0 && b == 0 && c == 0)=true
 ·have hz':a=0∧b=0∧c=0:=by simpa [and_assoc] using hz
  obtain⟨rfl,rfl,rfl⟩:=hz'
  go_enter Tryz.func249,Tryz.ntmps249
  go_wp2
  exact⟨rfl,_,results_cell_row rfl _ _ _ _ _ _ _ rfl (new1 _ _ _ _) Tryz.underlying46 rfl (by kernel_rfl),rfl,hb _ _⟩
 ·have hz:(a == 0 && b == 0 && c == 0)=false:=by simpa using hz
  rw[hz] at he
  go_enter Tryz.func249,Tryz.ntmps249
  go_wp2
  exact⟨rfl,_,results_cell_row rfl _ _ _ _ _ _ _ rfl (new1 _ _ _ _) Tryz.underlying46 rfl (by kernel_rfl),rfl,hb _ _⟩
def fnB (f:Nat):Int→Bool:=if f=245 then evB else if f=246 then begB else bY
theorem vC (f:Nat) (s:ByteArray) (w:World) (hf:f=245∨f=246∨f=247) (hs:s.size≤maxLen):Calls Tryz.prog 248 #[.string s,.func (.func f) #[] #[]] w fun e w'=>e = .returned (.int .i64 (cntB (fnB f) s.data.toList))∧w=w':=by
 rcases hf with rfl | rfl | rfl
 ·exact aBd s w hs
 ·exact lI s w hs
 ·exact aBe s w hs
theorem aN7 (l:List UInt8):cntB evB l=l.length:=by unfold cntB;rw[List.filter_eq_self.2 (by intro _ _;rfl)]
theorem aN8 (s:ByteArray) (w:World) (hs:s.size≤maxLen):Calls Tryz.prog 199 #[.string s] w fun e w'=>e = .returned (.agg (aBf s.size (cntB begB s.data.toList) (cntB bY s.data.toList)).toArray)∧Below w.heap.size w w':=by
 have i0:∀ w,(Instr.index 268 (.agg #[.func (.func 245) #[] #[],.func (.func 246) #[] #[],.func (.func 247) #[] #[]]) (.int .i64 0)).run Tryz.prog w = .ok (.func (.func 245) #[] #[]) w:=fun _=>by kernel_rfl
 have i1:∀ w,(Instr.index 268 (.agg #[.func (.func 245) #[] #[],.func (.func 246) #[] #[],.func (.func 247) #[] #[]]) (.int .i64 1)).run Tryz.prog w = .ok (.func (.func 246) #[] #[]) w:=fun _=>by kernel_rfl
 have i2:∀ w,(Instr.index 268 (.agg #[.func (.func 245) #[] #[],.func (.func 246) #[] #[],.func (.func 247) #[] #[]]) (.int .i64 2)).run Tryz.prog w = .ok (.func (.func 247) #[] #[]) w:=fun _=>by kernel_rfl
 go_enter Tryz.func199,Tryz.ntmps199
 go_wp2_with fail
 refine wp_loop_rounds 4 ?_
 repeat any_goals (rw[rounds_succ];go_wp2_with (go_at_call 248;refine (vC _ _ _ (by decide) hs).mono ?_;rintro e w' ⟨rfl,rfl⟩))
 all_goals (refine (zO _ _ _ _).mono ?_)
 all_goals rintro e w' ⟨rfl,hB⟩
 have hz:=(hB.block w.heap.size (by simp;omega)).trans ((heap_alloc_old _ _ (by simp)).trans (new0 w _ _))
 have hst:=fun a b c=>mQ (P := Tryz.prog) (n:=3) hz rfl (aBf a b c) rfl (by simp[aBf,Value.oneCell'])
 go_wp2
 exact⟨rfl,_,results_cell_row rfl _ _ _ _ _ _ _ rfl (setRow_heap _ _ _ _ _ _ hz) Tryz.underlying46 rfl (by kernel_rfl),by rw[show s.size=cntB (fnB 245) s.data.toList from (by rw[show fnB 245=evB from rfl,aN7];simp)];rfl,bM ((((Below.refl w.heap.size w).alloc (Nat.le_refl _) _).alloc (by simp) _).trans (hB.mono (by simp;omega))) (Nat.le_refl _) _⟩
theorem aBg (s:ByteArray) (n:Int) (w:World) (hs:s.size≤maxLen) (hn:0≤n) (hn2:n≤maxLen):Calls Tryz.prog 250 #[.string s,.func (.func 246) #[] #[],.int .i64 n] w fun e w'=>(∀ k,nthB begB s.data.toList n=some k→e = .returned (.tuple #[.int .i64 k,.bool true]))∧(nthB begB s.data.toList n=none→e = .returned (.tuple #[.int .i64 0,.bool false]))∧w=w':=by
 unfold maxLen at hs hn2
 have hl:s.data.toList.length=s.size:=by simp
 have HL:=Lib.hid hl;clear hl
 go_enter Tryz.func250,Tryz.ntmps250
 go_wp2
 go_loop [2,6,7,8,11,12,13,14,15,16,17,18,19,20,21,22,23,24,25] (fun m r o x8 i x12 x13 x14 x15 x16 x17 x18 x19 x20 x21 x22 x23 x24 x25=>∃ (k:Nat) (q:Int),i = .int .i64 k∧k≤s.size∧m = .int .i64 q∧0≤q∧q≤n∧nthB begB s.data.toList n=(nthB begB (s.data.toList.drop k) q).map (· + k)) (fun m r o x8 i x12 x13 x14 x15 x16 x17 x18 x19 x20 x21 x22 x23 x24 x25=>s.size-(intOf i).toNat)
 case atStart=>exact⟨0,n,rfl,by omega,rfl,hn,by omega,by simp⟩
 case round =>
  obtain⟨k,q,rfl,hk,rfl,hq0,hq1,hq⟩:=hrel
  have Hq:=Lib.hid hq;clear hq
  by_cases hlt:k<s.size
  ·have hb:=dS s k hlt
   have hd:=iF begB s.data.toList k q (by rw[HL.out];exact hlt)
   have Hd:=Lib.hid hd;clear hd
   cases hp:begB (byt s.data.toList k) with
   |true =>
    rw[hp,if_pos rfl] at Hd
    by_cases hq2:q=0
    ·subst hq2
     rw[if_pos rfl] at Hd
     go_wp2_with (go_at_call 246;refine (jK _ _).mono ?_;try rw[hp];rintro e w' ⟨rfl,rfl⟩)
     go_returns
     rw[Hq.out,Hd.out]
     refine⟨fun k' h => ?_,fun h => ?_,rfl⟩
     ·simp at h;subst h;rfl
     ·simp at h
    ·rw[if_neg hq2] at Hd
     have hq3:(q == 0)=false:=by simpa using hq2
     go_wp2_with (go_at_call 246;refine (jK _ _).mono ?_;try rw[hp];rintro e w' ⟨rfl,rfl⟩)
     go_round
     case rel=>exact⟨k+1,q-1,by go_num,by omega,by go_num,by omega,by omega,by rw[Hq.out,Hd.out,Option.map_map];congr 1;funext x;simp;omega⟩
     case measure=>simp[intOf];omega
   |false =>
    rw[hp,if_neg (by simp)] at Hd
    go_wp2_with (go_at_call 246;refine (jK _ _).mono ?_;try rw[hp];rintro e w' ⟨rfl,rfl⟩)
    go_round
    case rel=>exact⟨k+1,q,by go_num,by omega,by go_num,by omega,by omega,by rw[Hq.out,Hd.out,Option.map_map];congr 1;funext x;simp;omega⟩
    case measure=>simp[intOf];omega
  ·go_wp2
   go_returns
   rw[Hq.out,qE _ _ _ _ (by rw[HL.out];omega)]
   refine⟨fun k' h => ?_,fun h=>rfl,rfl⟩
   simp at h
theorem aD7 (s:ByteArray) (n:Int) (w:World) (hs:s.size≤maxLen) (hn:0≤n) (hn2:n≤maxLen):Calls Tryz.prog 250 #[.string s,.func (.func 247) #[] #[],.int .i64 n] w fun e w'=>(∀ k,nthB bY s.data.toList n=some k→e = .returned (.tuple #[.int .i64 k,.bool true]))∧(nthB bY s.data.toList n=none→e = .returned (.tuple #[.int .i64 0,.bool false]))∧w=w':=by
 unfold maxLen at hs hn2
 have hl:s.data.toList.length=s.size:=by simp
 have HL:=Lib.hid hl;clear hl
 go_enter Tryz.func250,Tryz.ntmps250
 go_wp2
 go_loop [2,6,7,8,11,12,13,14,15,16,17,18,19,20,21,22,23,24,25] (fun m r o x8 i x12 x13 x14 x15 x16 x17 x18 x19 x20 x21 x22 x23 x24 x25=>∃ (k:Nat) (q:Int),i = .int .i64 k∧k≤s.size∧m = .int .i64 q∧0≤q∧q≤n∧nthB bY s.data.toList n=(nthB bY (s.data.toList.drop k) q).map (· + k)) (fun m r o x8 i x12 x13 x14 x15 x16 x17 x18 x19 x20 x21 x22 x23 x24 x25=>s.size-(intOf i).toNat)
 case atStart=>exact⟨0,n,rfl,by omega,rfl,hn,by omega,by simp⟩
 case round =>
  obtain⟨k,q,rfl,hk,rfl,hq0,hq1,hq⟩:=hrel
  have Hq:=Lib.hid hq;clear hq
  by_cases hlt:k<s.size
  ·have hb:=dS s k hlt
   have hd:=iF bY s.data.toList k q (by rw[HL.out];exact hlt)
   have Hd:=Lib.hid hd;clear hd
   cases hp:bY (byt s.data.toList k) with
   |true =>
    rw[hp,if_pos rfl] at Hd
    by_cases hq2:q=0
    ·subst hq2
     rw[if_pos rfl] at Hd
     go_wp2_with (go_at_call 247;refine (kP _ _).mono ?_;try rw[hp];rintro e w' ⟨rfl,rfl⟩)
     go_returns
     rw[Hq.out,Hd.out]
     refine⟨fun k' h => ?_,fun h => ?_,rfl⟩
     ·simp at h;subst h;rfl
     ·simp at h
    ·rw[if_neg hq2] at Hd
     have hq3:(q == 0)=false:=by simpa using hq2
     go_wp2_with (go_at_call 247;refine (kP _ _).mono ?_;try rw[hp];rintro e w' ⟨rfl,rfl⟩)
     go_round
     case rel=>exact⟨k+1,q-1,by go_num,by omega,by go_num,by omega,by omega,by rw[Hq.out,Hd.out,Option.map_map];congr 1;funext x;simp;omega⟩
     case measure=>simp[intOf];omega
   |false =>
    rw[hp,if_neg (by simp)] at Hd
    go_wp2_with (go_at_call 247;refine (kP _ _).mono ?_;try rw[hp];rintro e w' ⟨rfl,rfl⟩)
    go_round
    case rel=>exact⟨k+1,q,by go_num,by omega,by go_num,by omega,by omega,by rw[Hq.out,Hd.out,Option.map_map];congr 1;funext x;simp;omega⟩
    case measure=>simp[intOf];omega
  ·go_wp2
   go_returns
   rw[Hq.out,qE _ _ _ _ (by rw[HL.out];omega)]
   refine⟨fun k' h => ?_,fun h=>rfl,rfl⟩
   simp at h
theorem aHx (s:ByteArray) (n:Int) (w:World) (hs:s.size≤maxLen) (hn2:n≤maxLen):Calls Tryz.prog 200 #[.string s,.int .i64 n] w fun e w'=>e = .returned (.tuple #[.int .i64 (dW s.data.toList n).1,.int .i64 (dW s.data.toList n).2])∧w=w':=by
 have hl:s.data.toList.length=s.size:=by simp
 have HL:=Lib.hid hl;clear hl
 by_cases hn:n<0
 ·have hr:dW s.data.toList n=(0,3):=by unfold dW;rw[if_pos hn]
  have HR:=Lib.hid hr;clear hr
  have hd:decide (n<0)=true:=by simpa using hn
  go_enter Tryz.func200,Tryz.ntmps200
  go_wp2
  go_returns
  rw[HR.out];exact⟨rfl,rfl⟩
 have hd:decide (n<0)=false:=by simpa using hn
 have fd:=aBg s n w hs (by omega) hn2
 cases hq:nthB begB s.data.toList n with
 |some k =>
  have hr:dW s.data.toList n=((k:Int),0):=by unfold dW;rw[if_neg hn,hq]
  have HR:=Lib.hid hr;clear hr
  replace fd:=fd.mono (fun e w' h=>(⟨h.1 k hq,h.2.2⟩:e = .returned (.tuple #[.int .i64 k,.bool true])∧w=w'))
  have HQ:=Lib.hid hq;clear hq
  go_enter Tryz.func200,Tryz.ntmps200
  go_wp2_with (go_at_call 250;refine fd.mono ?_;rintro e w' ⟨rfl,rfl⟩)
  go_returns
  rw[HR.out];exact⟨rfl,rfl⟩
 |none =>
  replace fd:=fd.mono (fun e w' h=>(⟨h.2.1 hq,h.2.2⟩:e = .returned (.tuple #[.int .i64 0,.bool false])∧w=w'))
  by_cases hc:n=cntB begB s.data.toList
  ·have hr:dW s.data.toList n=((s.size:Int),0):=by unfold dW;rw[if_neg hn,hq];show (if n=cntB begB s.data.toList then _ else _)=_;rw[if_pos hc,HL.out]
   have HR:=Lib.hid hr;clear hr
   have hc2:(n == (cntB begB s.data.toList:Int))=true:=by simpa using hc
   have HQ:=Lib.hid hq;clear hq
   clear hc
   go_enter Tryz.func200,Tryz.ntmps200
   go_wp2_with (first | (go_at_call 250;refine fd.mono ?_;rintro e w' ⟨rfl,rfl⟩) | (go_at_call 248;refine (lI _ _ hs).mono ?_;rintro e w' ⟨rfl,rfl⟩))
   go_returns
   rw[HR.out];exact⟨rfl,rfl⟩
  ·have hr:dW s.data.toList n=(0,3):=by unfold dW;rw[if_neg hn,hq];show (if n=cntB begB s.data.toList then _ else _)=_;rw[if_neg hc]
   have HR:=Lib.hid hr;clear hr
   have hc2:(n == (cntB begB s.data.toList:Int))=false:=by simpa using hc
   have HQ:=Lib.hid hq;clear hq
   clear hc
   go_enter Tryz.func200,Tryz.ntmps200
   go_wp2_with (first | (go_at_call 250;refine fd.mono ?_;rintro e w' ⟨rfl,rfl⟩) | (go_at_call 248;refine (lI _ _ hs).mono ?_;rintro e w' ⟨rfl,rfl⟩))
   go_returns
   rw[HR.out];exact⟨rfl,rfl⟩
theorem aHy (s:ByteArray) (n:Int) (w:World) (hs:s.size≤1000000) (hn2:n≤maxLen):Calls Tryz.prog 201 #[.string s,.int .i64 n] w fun e w'=>e = .returned (.tuple #[.int .i64 (dX s.data.toList n).1,.int .i64 (dX s.data.toList n).2])∧w=w':=by
 have hl:s.data.toList.length=s.size:=by simp
 have HL:=Lib.hid hl;clear hl
 by_cases hz:n=0
 ·subst hz
  go_enter Tryz.func201,Tryz.ntmps201
  go_wp2
  go_returns
  exact⟨rfl,rfl⟩
 have hz2:(n == 0)=false:=by simpa using hz
 by_cases hn:n<0
 ·have hr:dX s.data.toList n=(0,3):=by unfold dX;rw[if_neg hz,if_pos hn]
  have HR:=Lib.hid hr;clear hr
  have hd:decide (0<n)=false:=by simp;omega
  clear hz
  go_enter Tryz.func201,Tryz.ntmps201
  go_wp2
  go_returns
  rw[HR.out];exact⟨rfl,rfl⟩
 have hd:decide (0<n)=true:=by simp;omega
 have fd:=aD7 s (n-1) w (by unfold maxLen;omega) (by omega) (by unfold maxLen at *;omega)
 unfold maxLen at hn2
 have hi:IntKind.i64.wrap (n-1)=n-1:=IntWalk.i64_in _ (by omega)
 cases hq:nthB bY s.data.toList (n-1) with
 |some k =>
  have hr:dX s.data.toList n=((k:Int)+1,0):=by unfold dX;rw[if_neg hz,if_neg hn,hq]
  have HR:=Lib.hid hr;clear hr
  have hk:=zM _ _ _ _ hq
  rw[HL.out] at hk
  replace fd:=fd.mono (fun e w' h=>(⟨h.1 k hq,h.2.2⟩:e = .returned (.tuple #[.int .i64 k,.bool true])∧w=w'))
  have HQ:=Lib.hid hq;clear hq hz
  go_enter Tryz.func201,Tryz.ntmps201
  go_wp2_with (go_at_call 250;refine fd.mono ?_;rintro e w' ⟨rfl,rfl⟩)
  go_returns
  rw[HR.out];exact⟨rfl,rfl⟩
 |none =>
  have hr:dX s.data.toList n=(0,3):=by unfold dX;rw[if_neg hz,if_neg hn,hq]
  have HR:=Lib.hid hr;clear hr
  replace fd:=fd.mono (fun e w' h=>(⟨h.2.1 hq,h.2.2⟩:e = .returned (.tuple #[.int .i64 0,.bool false])∧w=w'))
  have HQ:=Lib.hid hq;clear hq hz
  go_enter Tryz.func201,Tryz.ntmps201
  go_wp2_with (go_at_call 250;refine fd.mono ?_;rintro e w' ⟨rfl,rfl⟩)
  go_returns
  rw[HR.out];exact⟨rfl,rfl⟩
end Go.Proofs.YtdeiocppghhfdaaGreat
namespace Go.Proofs.YtdeiocppghhfdaaGreat
open Go.RowKit Go.Lib Go.Shelf
theorem nT {P:Program} (w:World) (dT sT ty elem:TypeId) (s:Nat) (g o dLen dCap:Nat) (a:Addr) (sLen sCap:Nat) (cur:Array Value) (t:TypeId) (cs:List Value) (k:Nat)
  (hu:P.underlying dT=some (.slice elem)) (hs:(P.info? elem).map (·.size)=some s)
  (hg:w.heap[g]? = some (.cells cur t (0,0))) (hk:k=Nat.min sLen dLen) (hn:cs.length=k*s)
  (hsrc:∀ j v,cs[j]? = some v→w.cell? (a.add j)=some v) (hfit:o+cs.length≤cur.size) (h1:∀ v∈cs,v.oneCell'=true) :
  (Builtin.copy_ #[dT,sT] ty #[.slice (some ⟨g,o,none⟩) dLen dCap,.slice (some a) sLen sCap]).run P w =
   .ok (goInt k) (w.setRow g (cur.toList.take o++cs++cur.toList.drop (o+cs.length)).toArray):=by
 have hl:=run_loadCells_list (P:=P) w a cs hsrc
 have hst:=run_storeCells_at P g o t cs 0 cur w hg (by simpa using hfit) h1
 cases hq:P.info? elem with
 |none=>simp[hq] at hs
 |some i =>
  have hi:i.size=s:=by simpa [hq] using hs
  simp[Builtin.copy_,run_underlying hu,Builtin.lenOf,Builtin.firstCells,sizeOf,typeInfo,hq,hi,← hk,← hn,hl,hst]
theorem szMk:(Tryz.prog.info? 74).map (·.size)=some 3:=by kernel_rfl
theorem kQ {w:World} {b:Nat} {L:List Value} {T:TypeId} (h:w.heap[b]? = some (.cells L.toArray T (0,0))) (j:Nat) (u:Value) (hu:L[j]? = some u):w.cell? ((⟨b,0,none⟩:Addr).add j)=some u:=by
 rw[Addr.add_lit,Nat.zero_add]
 simp only[World.cell?,h]
 simpa using hu
def insL (l:List MkV) (i:Nat) (m:MkV):List MkV:=l.take i++m::l.drop i
theorem aBh (l:List MkV) (i:Nat) (m:MkV) (hi:i≤l.length):(insL l i m).length=l.length+1:=by
 unfold insL;simp;omega
theorem aN9 (B vb:Nat) (v:Value) (l:List MkV) (m:MkV) (w:World) (hown:MOwn w B v l) (hv:w.heap[vb]? = some (.cells (mkL m).toArray 74 (0,0))) (hs:l.length≤1000) (hB:B≤w.heap.size) :
  Calls Tryz.prog 243 #[v,.int .i64 l.length,.slice (some ⟨vb,0,none⟩) 1 1] w fun e w'=>∃ v',e = .returned v'∧MOwn w' B v' (insL l l.length m)∧Below B w w':=by
 obtain⟨i0,hi,hz0,hz1,hz2⟩:=info_parts mO
 have hI:insL l l.length m=l++[m]:=by unfold insL;simp
 have HI:=Lib.hid hI;clear hI
 obtain⟨ao,c,rfl⟩:=aC hown
 obtain⟨_,hc⟩:=bV rfl hown
 have hd:((l.length:Int) == (l.length:Int))=true:=by simp
 have hnil:ao=none→l.length=0∧c=0:=fun h=>by
  subst h
  rcases hown.2 with⟨h1,h2⟩ | ⟨g,cap,cur,h1,_⟩
  ·injection h1 with _ _ h3;exact⟨h2,h3⟩
  ·injection h1 with h1;cases h1
 go_enter Tryz.func243,Tryz.ntmps243
 go_wp2_with (at_builtin;refine wpList_append_own _ rfl _ _ 65 rfl B 74 i0 _ 3 24 Tryz.underlying65 hi hz0 hz1 hz2 rfl (by decide) _ _ _ rfl hown ⟨vb,0,none⟩ 1 1 (mkL m) rfl rfl (kQ hv) (mM m) (by unfold maxLen;omega) (by omega) hB ?_;intro v' w3 hown' hgrow _)
 all_goals
  obtain⟨ao',c',rfl⟩:=aC hown'
  go_returns
  rw[HI.out]
  refine⟨_,rfl,?_,(Below.refl B w).grown hgrow hB (fun k hk=>(hown.lt k hk).1)⟩
  unfold MOwn
  rw[List.length_append,eU,mK]
  exact hown'
theorem aHz (cur:List Value) (l:List MkV) (m:MkV) (i:Nat) (hi:i≤l.length) (hc:cur.take (l.length*3)=mksL l) (hl:(l.length+1)*3≤cur.length) :
  ((cur.take ((i+1)*3)++(mksL l).drop (i*3)++cur.drop ((i+1)*3+((mksL l).drop (i*3)).length)).take (i*3)++mkL m++(cur.take ((i+1)*3)++(mksL l).drop (i*3)++cur.drop ((i+1)*3+((mksL l).drop (i*3)).length)).drop (i*3+(mkL m).length)).take ((l.length+1)*3)=mksL (insL l i m):=by
 have h1:(mksL l).drop (i*3)=mksL (l.drop i):=nQ l i hi
 have h2:cur.take (i*3)=mksL (l.take i):=by
  rw[← nP l i hi,← hc,List.take_take,Nat.min_eq_left (by omega)]
 have hlen:((mksL l).drop (i*3)).length=(l.length-i)*3:=by rw[List.length_drop,dH];omega
 rw[hlen]
 have e1:(cur.take ((i+1)*3)++(mksL l).drop (i*3)++cur.drop ((i+1)*3+(l.length-i)*3)).take (i*3)=mksL (l.take i):=by
  rw[List.append_assoc,List.take_append_of_le_length (by rw[List.length_take];omega),List.take_take,Nat.min_eq_left (by omega),h2]
 have e2:(cur.take ((i+1)*3)++(mksL l).drop (i*3)++cur.drop ((i+1)*3+(l.length-i)*3)).drop (i*3+(mkL m).length)=(mksL l).drop (i*3)++cur.drop ((i+1)*3+(l.length-i)*3):=by
  rw[List.append_assoc,List.drop_left' (by rw[List.length_take,dB];omega)]
 rw[e1,e2,h1]
 unfold insL
 rw[eU,show m::l.drop i=[m]++l.drop i from rfl,eU,mK,← List.append_assoc,← List.append_assoc]
 rw[List.take_left' (by simp only[List.length_append,dH,dB,List.length_take,List.length_drop];omega)]
theorem aH0 (B g cap vb:Nat) (l:List MkV) (i:Nat) (m:MkV) (w:World) (hown:MOwn w B (.slice (some ⟨g,0,none⟩) l.length cap) l) (hv:w.heap[vb]? = some (.cells (mkL m).toArray 74 (0,0))) (hs:l.length≤1000) (hi:i<l.length) (hroom:l.length+1≤cap) (hvg:vb≠g) :
  Calls Tryz.prog 243 #[.slice (some ⟨g,0,none⟩) l.length cap,.int .i64 i,.slice (some ⟨vb,0,none⟩) 1 1] w fun e w'=>∃ v',e = .returned v'∧MOwn w' B v' (insL l i m)∧Below B w w':=by
 obtain⟨cur,hBg,hg,hcm,hcs,hct⟩:∃ cur,B≤g∧w.heap[g]? = some (.cells cur 74 (0,0))∧cap≤maxLen∧cur.size=cap*3∧cur.toList.take (l.length*3)=mksL l:=by
  rcases hown.2 with⟨h1,_⟩ | ⟨g',cap',cur,h1,hBg,hg,_,h3,h4,h5⟩
  ·injection h1 with h1;cases h1
  ·injection h1 with h1 _ h6;injection h1 with h1;injection h1 with h1 _ _;subst h1;subst h6
   exact⟨cur,hBg,hg,h3,h4,h5⟩
 unfold maxLen at hcm
 generalize hn:l.length=n at *
 have hz2:¬ ((i:Int)=(n:Int)):=by omega
 have hdl:((mksL l).drop (i*3)).length=(n-i)*3:=by rw[List.length_drop,dH,hn];omega
 have hcl:cur.toList.length=cap*3:=by simpa using hcs
 have hov:∀ lb cb,(callFunc 281 #[.slice (some ⟨vb,0,none⟩) 1 1,.slice (some ⟨g,(i+1)*3,none⟩) lb cb]).run Tryz.prog w = .ok (.value (.bool false)) w:=fun lb cb=>by
  rw[run_callFunc_extern Tryz.func281 (by kernel_rfl) (by kernel_rfl) (by kernel_rfl) (e:=Extern.SlicesOverlaps.overlaps #[65,65] #[4]) (by kernel_rfl),
   Lib.run_overlaps_apart w 65 4 74 Tryz.underlying65 3 (fun w => Tryz.sizeOf74 w) ⟨vb,0,none⟩ ⟨g,(i+1)*3,none⟩ 1 1 lb cb hvg 74 74 3 (cap*3) (by simp[World.shape?,hv,dB]) (by simp[World.shape?,hg,hcs]) (by omega) (by simp[World.frozen?,hv]) (by simp[World.frozen?,hv])]
  rfl
 have hcp1:∀ ty dc sc,(Builtin.copy_ #[65,65] ty #[.slice (some ⟨g,(i+1)*3,none⟩) (n+1-(i+1)) dc,.slice (some ⟨g,i*3,none⟩) (n+1-i) sc]).run Tryz.prog w.drew = .ok (goInt (n-i:Nat)) (w.drew.setRow g (cur.toList.take ((i+1)*3)++(mksL l).drop (i*3)++cur.toList.drop ((i+1)*3+((mksL l).drop (i*3)).length)).toArray):=fun ty dc sc =>
  nT w.drew _ _ ty 74 3 g ((i+1)*3) (n+1-(i+1)) dc ⟨g,i*3,none⟩ (n+1-i) sc cur _ ((mksL l).drop (i*3)) (n-i) Tryz.underlying65 szMk hg (by simp only[Nat.min_def];split<;>omega) hdl
   (fun j v hj=>by
    rw[Addr.add_lit]
    rw[List.getElem?_drop,← hct,List.getElem?_take] at hj
    split at hj
    ·simp only[World.cell?];rw[show w.drew.heap[g]? = _ from hg];simpa using hj
    ·cases hj) (by rw[hdl];omega) (fun v hv=>nR l v (List.mem_of_mem_drop hv))
 generalize hC1:(cur.toList.take ((i+1)*3)++(mksL l).drop (i*3)++cur.toList.drop ((i+1)*3+((mksL l).drop (i*3)).length)).toArray=C1 at hcp1
 have hC1l:C1.size=cap*3:=by rw[← hC1];simp only[List.size_toArray,List.length_append,hdl,List.length_take,List.length_drop,hcl];omega
 have hcp2:∀ (W:World),W.heap=(w.drew.setRow g C1).heap→∀ ty dc,(Builtin.copy_ #[65,65] ty #[.slice (some ⟨g,i*3,none⟩) (n+1-i) dc,.slice (some ⟨vb,0,none⟩) 1 1]).run Tryz.prog W = .ok (goInt (1:Nat)) (W.setRow g (C1.toList.take (i*3)++mkL m++C1.toList.drop (i*3+(mkL m).length)).toArray):=fun W hW ty dc =>
  nT W _ _ ty 74 3 g (i*3) (n+1-i) dc ⟨vb,0,none⟩ 1 1 C1 _ (mkL m) 1 Tryz.underlying65 szMk (by rw[hW];exact setRow_heap _ _ _ _ _ _ hg) (by simp only[Nat.min_def];split<;>omega) rfl
   (kQ (by rw[hW];exact (setRow_other _ _ _ _ hvg).trans hv)) (by rw[dB,hC1l];omega) (mM m)
 generalize hC2:(C1.toList.take (i*3)++mkL m++C1.toList.drop (i*3+(mkL m).length)).toArray=C2 at hcp2
 have hC2l:C2.size=cap*3:=by
  have:C1.toList.length=cap*3:=by simpa using hC1l
  rw[← hC2];simp only[List.size_toArray,List.length_append,dB,List.length_take,List.length_drop,this];omega
 have hfin:C2.toList.take ((n+1)*3)=mksL (insL l i m):=by
  rw[← hC2,← hC1]
  have:=aHz cur.toList l m i (by omega) (by rw[hn];exact hct) (by rw[hn,hcl];omega)
  rw[hn] at this
  exact this
 have hw1:IntKind.i64.wrap ((i:Int)+1)=(i:Int)+1:=IntWalk.i64_in _ (by omega)
 have hw2:IntKind.i64.wrap ((n:Int)+1)=(n:Int)+1:=IntWalk.i64_in _ (by omega)
 have htn:((i:Int)+1).toNat=i+1:=by omega
 have htn2:((n:Int)+1).toNat=n+1:=by omega
 have hb2:¬ (cap=i+1):=by omega
 have hb4:¬ (cap=i):=by omega
 have hb1:(0:Int)≤(i:Int)+1:=by omega
 have hb3:(i:Int)≤(n:Int)+1:=by omega
 have hin:i≤n:=by omega
 have hd1:((i:Int) == (n:Int))=false:=by simpa using hz2
 have hIL:=aBh l i m (by omega)
 have H:=Lib.hid (And.intro hfin (And.intro hC2l hIL));clear hfin hC2l hIL hC1 hC2 hC1l hdl hcl hct hcs
 have mixed : Tryz.prog.follows Departure.mixedOrders=true:=by kernel_rfl
 go_enter Tryz.func243,Tryz.ntmps243
 go_wp2_with (simp only[hov])
 go_region_law_o (refine step_copy_runI rfl _ _ 65 65 rfl (.slice (some ⟨g,(i+1)*3,none⟩) (n+1-(i+1)) (cap-(i+1))) (.slice (some ⟨g,i*3,none⟩) (n+1-i) (cap-i)) (by simp[Act.eval,Act.put]) (by simp[Act.eval,Act.put]) (hcp1 _ _ _) ?_)
 all_goals go_wp2_with (at_builtin;refine wpList_copy_runI _ rfl _ _ 65 65 rfl _ _ rfl rfl (hcp2 _ rfl _ _) ?_)
 all_goals go_returns
 all_goals
  obtain⟨h1,h2,h3⟩:=H.out
  refine⟨_,rfl,?_,bM (bM (Below.refl B w).drew hBg _) hBg _⟩
  unfold MOwn
  rw[h3,hn]
  exact⟨by rw[dH,h3,hn],.inr ⟨g,cap,C2,rfl,hBg,setRow_heap _ _ _ _ _ _ (setRow_heap _ _ _ _ _ _ hg),hroom,hcm,h2,h1⟩⟩
theorem aD8 (ROW:List Value) (l:List MkV) (m:MkV) (i:Nat) (hi:i≤l.length) (h1:ROW.take (i*3)=mksL (l.take i)) (hl:(l.length+1)*3≤ROW.length) :
  ((ROW.take (i*3)++mkL m++ROW.drop (i*3+(mkL m).length)).take ((i+1)*3)++(mksL l).drop (i*3)++(ROW.take (i*3)++mkL m++ROW.drop (i*3+(mkL m).length)).drop ((i+1)*3+((mksL l).drop (i*3)).length)).take ((l.length+1)*3)=mksL (insL l i m):=by
 have h2:(mksL l).drop (i*3)=mksL (l.drop i):=nQ l i hi
 have e1:(ROW.take (i*3)++mkL m++ROW.drop (i*3+(mkL m).length)).take ((i+1)*3)=mksL (l.take i)++mkL m:=by
  rw[List.take_left' (by simp only[List.length_append,List.length_take,dB];omega),h1]
 rw[e1,h2]
 unfold insL
 rw[eU,show m::l.drop i=[m]++l.drop i from rfl,eU,mK,← List.append_assoc]
 rw[List.take_left' (by simp only[List.length_append,dH,dB,List.length_take,List.length_drop];omega)]
theorem aKm (B g cap vb:Nat) (l:List MkV) (i:Nat) (m:MkV) (w:World) (hown:MOwn w B (.slice (some ⟨g,0,none⟩) l.length cap) l) (hv:w.heap[vb]? = some (.cells (mkL m).toArray 74 (0,0))) (hs:l.length≤1000) (hi:i<l.length) (hroom:¬ l.length+1≤cap) (hBw:B≤w.heap.size) :
  Calls Tryz.prog 243 #[.slice (some ⟨g,0,none⟩) l.length cap,.int .i64 i,.slice (some ⟨vb,0,none⟩) 1 1] w fun e w'=>∃ v',e = .returned v'∧MOwn w' B v' (insL l i m)∧Below B w w':=by
 obtain⟨i0,hi0,hz0,hz1,hz2⟩:=info_parts mO
 obtain⟨cur,hg,hnc,hct⟩:∃ cur,w.heap[g]? = some (.cells cur 74 (0,0))∧l.length≤cap∧cur.toList.take (l.length*3)=mksL l:=by
  rcases hown.2 with⟨h1,_⟩ | ⟨g',cap',cur,h1,hBg,hg,h2,h3,h4,h5⟩
  ·injection h1 with h1;cases h1
  ·injection h1 with h1 _ h6;injection h1 with h1;injection h1 with h1 _ _;subst h1;subst h6
   exact⟨cur,hg,h2,h5⟩
 have hcap:cap=l.length:=by omega
 subst hcap
 generalize hn:l.length=n at *
 have hgw:g<w.heap.size:=(gAz hg).1
 have hvw:vb<w.heap.size:=(gAz hv).1
 have hik:i+(n+1-i)=n+1:=by omega
 have htk:(mksL l).take (i*3)=mksL (l.take i):=nP l i (by omega)
 have htl:(mksL (l.take i)).length=i*3:=by rw[dH,List.length_take,hn,Nat.min_eq_left (by omega)]
 have hcell:∀ (W:World),W.heap[g]? = w.heap[g]? → ∀ j v,(mksL l)[j]? = some v→W.cell? ⟨g,j,none⟩=some v:=fun W hW j v hj=>by
  rw[← hct,List.getElem?_take] at hj
  split at hj
  ·simp only[World.cell?,hW,hg];simpa using hj
  ·cases hj
 have hold:(Builtin.firstCells i0.size i (.slice (some ⟨g,0,none⟩) i n)).run Tryz.prog w.drew = .ok (mksL (l.take i)).toArray w.drew:=by
  rw[hz1]
  exact run_firstCells_some w.drew 3 i ⟨g,0,none⟩ i n (mksL (l.take i)) htl (fun j v hj=>by
   rw[Addr.add_lit,Nat.zero_add]
   rw[← htk,List.getElem?_take] at hj
   split at hj
   ·exact hcell w.drew rfl j v hj
   ·cases hj)
 have hkk:(n:Int)+1-(i:Int)=((n+1-i:Nat):Int):=by omega
 have hrz:∀ ty,(Builtin.append_ #[65,3] ty #[.slice (some ⟨g,0,none⟩) i n,.int .i64 ((n:Int)+1-(i:Int))]).run Tryz.prog w =
   .ok (.slice (some ⟨w.heap.size,0,none⟩) (n+1) (grownCap w (n+1) n 74)) (w.drew.alloc (.cells ((mksL (l.take i)).toArray++Builtin.zeroCells (Value.agg #[.int .u32 0,.int .i64 0,.int .u8 0]).cells (n+1-i)++Builtin.zeroCells (Value.agg #[.int .u32 0,.int .i64 0,.int .u8 0]).cells (grownCap w (n+1) n 74-(n+1))) 74)):=fun ty=>by
  have h:=Lib.run_append_grow_zeros w 65 3 ty 74 i0 _ .i64 .i64 Tryz.underlying65 Tryz.underlying3 hi0 hz0 (some ⟨g,0,none⟩) i n (mksL (l.take i)) hold (n+1-i) (by omega) (by omega) (by omega) (by omega) (by rw[hz2];omega) (by rw[hz2,hik];exact growslice_fits (by omega) (by omega))
  rw[hik] at h
  rw[hkk]
  exact h
 have hGn:n+1≤grownCap w (n+1) n 74:=grownCap_ge w _ _ _
 have hG63:grownCap w (n+1) n 74≤maxLen:=grownCap_le_maxLen w (n+1) n _ (by unfold maxLen;omega)
 generalize grownCap w (n+1) n 74=G at *
 obtain⟨ROW,hROW⟩:∃ ROW:Array Value,ROW=(mksL (l.take i)).toArray++Builtin.zeroCells (Value.agg #[.int .u32 0,.int .i64 0,.int .u8 0]).cells (n+1-i)++Builtin.zeroCells (Value.agg #[.int .u32 0,.int .i64 0,.int .u8 0]).cells (G-(n+1)):=⟨_,rfl⟩
 rw[← hROW] at hrz
 have hRl:ROW.size=G*3:=by
  rw[hROW];simp[Builtin.zeroCells,Value.cells,htl];omega
 have hRt:ROW.toList.take (i*3)=mksL (l.take i):=by
  rw[hROW];simp only[Array.toList_append]
  rw[List.append_assoc,List.take_left' htl]
 have hRL:ROW.toList.length=G*3:=by simpa using hRl
 obtain⟨W1,hW1⟩:∃ W1,W1=w.drew.alloc (.cells ROW 74):=⟨_,rfl⟩
 rw[← hW1] at hrz
 have hN1:W1.heap[w.heap.size]? = some (.cells ROW 74 (0,0)):=by rw[hW1];exact heap_alloc_new w.drew _
 have hV1:W1.heap[vb]? = some (.cells (mkL m).toArray 74 (0,0)):=by rw[hW1];exact (heap_alloc_old w.drew _ hvw).trans hv
 have hg1:W1.heap[g]? = w.heap[g]? := by rw[hW1];exact heap_alloc_old w.drew _ hgw
 have hcpA:∀ (W:World),W.heap=W1.heap→∀ ty dc,(Builtin.copy_ #[65,65] ty #[.slice (some ⟨w.heap.size,i*3,none⟩) (n+1-i) dc,.slice (some ⟨vb,0,none⟩) 1 1]).run Tryz.prog W = .ok (goInt (1:Nat)) (W.setRow w.heap.size (ROW.toList.take (i*3)++mkL m++ROW.toList.drop (i*3+(mkL m).length)).toArray):=fun W hW ty dc =>
  nT W _ _ ty 74 3 w.heap.size (i*3) (n+1-i) dc ⟨vb,0,none⟩ 1 1 ROW _ (mkL m) 1 Tryz.underlying65 szMk (by rw[hW];exact hN1) (by simp only[Nat.min_def];split<;>omega) rfl
   (kQ (by rw[hW];exact hV1)) (by rw[dB,hRl];omega) (mM m)
 have hdl:((mksL l).drop (i*3)).length=(n-i)*3:=by rw[List.length_drop,dH,hn];omega
 have hfin:=aD8 ROW.toList l m i (by omega) hRt (by rw[hn,hRL];omega)
 rw[hn] at hfin
 generalize hRA:(ROW.toList.take (i*3)++mkL m++ROW.toList.drop (i*3+(mkL m).length))=RA at hcpA hfin
 have hRAl:RA.length=G*3:=by rw[← hRA];simp only[List.length_append,dB,List.length_take,List.length_drop,hRL];omega
 have hcpB:∀ (W:World),W.heap=(W1.setRow w.heap.size RA.toArray).heap→∀ ty dc sc,(Builtin.copy_ #[65,65] ty #[.slice (some ⟨w.heap.size,(i+1)*3,none⟩) (n+1-(i+1)) dc,.slice (some ⟨g,i*3,none⟩) (n-i) sc]).run Tryz.prog W = .ok (goInt (n-i:Nat)) (W.setRow w.heap.size (RA.take ((i+1)*3)++(mksL l).drop (i*3)++RA.drop ((i+1)*3+((mksL l).drop (i*3)).length)).toArray):=fun W hW ty dc sc=>by
  have h:=nT W 65 65 ty 74 3 w.heap.size ((i+1)*3) (n+1-(i+1)) dc ⟨g,i*3,none⟩ (n-i) sc RA.toArray _ ((mksL l).drop (i*3)) (n-i) Tryz.underlying65 szMk (by rw[hW];exact setRow_heap _ _ _ _ _ _ hN1) (by simp only[Nat.min_def];split<;>omega) hdl
   (fun j v hj=>by
    rw[Addr.add_lit]
    rw[List.getElem?_drop] at hj
    exact hcell W (by rw[hW];exact (setRow_other _ _ _ _ (by omega)).trans hg1) _ v hj) (by rw[hdl];simp only[List.size_toArray,hRAl];omega) (fun v hv=>nR l v (List.mem_of_mem_drop hv))
  exact h
 generalize hRB:(RA.take ((i+1)*3)++(mksL l).drop (i*3)++RA.drop ((i+1)*3+((mksL l).drop (i*3)).length))=RB at hcpB hfin
 have hRBl:RB.length=G*3:=by rw[← hRB];simp only[List.length_append,hdl,List.length_take,List.length_drop,hRAl];omega
 have hIL:=aBh l i m (by omega)
 have hw1:IntKind.i64.wrap ((i:Int)+1)=(i:Int)+1:=IntWalk.i64_in _ (by omega)
 have hw2:IntKind.i64.wrap ((n:Int)+1)=(n:Int)+1:=IntWalk.i64_in _ (by omega)
 have hw3:IntKind.i64.wrap ((n:Int)+1-(i:Int))=(n:Int)+1-(i:Int):=IntWalk.i64_in _ (by omega)
 have htn:((i:Int)+1).toNat=i+1:=by omega
 have hb1:(0:Int)≤(i:Int)+1:=by omega
 have hb3:(i:Int)≤(n:Int):=by omega
 have hb5:(i:Int)+1≤(n:Int)+1:=by omega
 have hin:i≤n:=by omega
 have hGi:¬ (G=i):=by omega
 have hGim:¬ (G=i+1):=by omega
 have hci:¬ (n=i):=by omega
 have hd1:((i:Int) == (n:Int))=false:=by simp;omega
 have hB1:Below B w W1:=by rw[hW1];exact (Below.refl B w).drew.alloc hBw _
 have H:=Lib.hid (And.intro hfin (And.intro hRBl (And.intro hIL (And.intro hN1 hGn))));clear hfin hRBl hIL hRA hRB hRAl hRL hRl hRt hROW hdl hct hold htk htl hkk hik hcell hN1 hV1 hg1 hg hv hGn
 have mixed : Tryz.prog.follows Departure.mixedOrders=true:=by kernel_rfl
 go_enter Tryz.func243,Tryz.ntmps243
 go_wp2_with (first
  |(at_builtin;refine Lib.wpList_append_run _ rfl _ _ _ _ rfl _ _ rfl rfl _ _ (hrz _) ?_)
  |(at_builtin;refine wpList_copy_runI _ rfl _ _ 65 65 rfl _ _ rfl rfl (hcpA _ rfl _ _) ?_)
  |(at_builtin;refine wpList_copy_runI _ rfl _ _ 65 65 rfl _ _ rfl rfl (hcpB _ rfl _ _ _) ?_))
 go_region_law_o (refine step_copy_runI rfl _ _ 65 65 rfl (.slice (some ⟨w.heap.size,(i+1)*3,none⟩) (n+1-(i+1)) (G-(i+1))) (.slice (some ⟨g,i*3,none⟩) (n-i) (n-i)) (by simp[Act.eval,Act.put]) (by simp[Act.eval,Act.put]) (hcpB _ (by rw[hW1];rfl) _ _ _) ?_)
 all_goals go_wp2
 all_goals go_returns
 all_goals
  obtain⟨h1,h2,h3,h4,h5⟩:=H.out
  have h4':((w.alloc (.cells ROW 74)).drew.setRow w.heap.size RA.toArray).drew.heap[w.heap.size]? = some (.cells RA.toArray 74 (0,0)):=setRow_heap _ _ _ _ _ _ (heap_alloc_new w _)
  refine⟨_,rfl,?_,bM (bM ((Below.refl B w).alloc hBw (.cells ROW 74)).drew hBw _).drew hBw _⟩
  unfold MOwn
  rw[h3,hn]
  exact⟨by rw[dH,h3,hn],.inr ⟨w.heap.size,G,RB.toArray,rfl,hBw,setRow_heap _ _ _ _ _ _ h4',h5,hG63,by simpa using h2,h1⟩⟩
theorem aD9 (B vb:Nat) (v:Value) (l:List MkV) (i:Nat) (m:MkV) (w:World) (hown:MOwn w B v l) (hv:w.heap[vb]? = some (.cells (mkL m).toArray 74 (0,0))) (hs:l.length≤1000) (hi:i≤l.length) (hB:B≤w.heap.size) (hvg:some vb≠v.ownBlock) :
  Calls Tryz.prog 243 #[v,.int .i64 i,.slice (some ⟨vb,0,none⟩) 1 1] w fun e w'=>∃ v',e = .returned v'∧MOwn w' B v' (insL l i m)∧Below B w w':=by
 by_cases he:i=l.length
 ·subst he
  exact aN9 B vb v l m w hown hv hs hB
 ·rcases hown.2 with⟨_,h0⟩ | ⟨g,cap,cur,rfl,_⟩
  ·omega
  ·by_cases hr:l.length+1≤cap
   ·exact aH0 B g cap vb l i m w hown hv hs (by omega) hr (fun e=>hvg (by simp[Value.ownBlock,e]))
   ·exact aKm B g cap vb l i m w hown hv hs (by omega) hr hB
end Go.Proofs.YtdeiocppghhfdaaGreat
