/- Texts, one behind another. -/
import Derived.Test.YtdeiocppghhfdaaGreatZfbf
import Derived.Test.YtdeiocppghhfdaaGreatZfao
set_option linter.unusedVariables false
set_option linter.unusedSimpArgs false
set_option maxRecDepth 100000
set_option maxHeartbeats 40000000
namespace Go.Proofs.YtdeiocppghhfdaaGreat
open Go.RowKit Go.Lib Go.Shelf
theorem rA (s:ByteArray) (w:World) (hs:s.size≤1000000):Calls Tryz.prog 266 #[.string s] w fun e w'=>e = .returned (.int .i64 (cntB begB s.data.toList))∧w=w':=by
 go_enter Tryz.func266,Tryz.ntmps266
 go_wp2
 go_loop [3,4] (fun n i=>∃ k:Nat,i = .int .i64 k∧k≤s.size∧n = .int .i64 (cntB begB (s.data.toList.take k))) (fun n i=>s.size-(intOf i).toNat)
 case atStart=>exact⟨0,rfl,by omega,rfl⟩
 case round =>
  obtain⟨k,rfl,hk,rfl⟩:=hrel
  have hl:s.data.toList.length=s.size:=by simp
  have Hl:=Lib.hid hl;clear hl
  have hcl:=jU begB (s.data.toList.take k)
  have hcl2:(s.data.toList.take k).length≤k:=List.length_take_le _ _
  by_cases hlt:k<s.size
  ·have hsn:=kN begB s.data.toList k (by rw[Hl.out];exact hlt)
   have Hs:=Lib.hid hsn;clear hsn
   have hb:=dS s k hlt
   obtain⟨x,hx⟩:∃ x,gT (byt s.data.toList k)=x:=⟨_,rfl⟩
   have hbx:begB (byt s.data.toList k) = !x:=by unfold begB;rw[hx]
   have HX:=Lib.hid hbx
   have hcx:=iN (byt s.data.toList k) w
   rw[hx] at hcx
   clear hbx hx
   cases x
   all_goals
    go_wp2_with (go_at_call 267;refine hcx.mono ?_;rintro e w' ⟨rfl,rfl⟩)
    go_round
    case rel=>exact⟨k+1,by go_num,by omega,by rw[Hs.out,HX.out];first | rfl | (simp)⟩
    case measure=>simp[intOf];omega
  ·go_wp2
   go_ret
   exact⟨zF (by rw[List.take_of_length_le (by rw[Hl.out];omega)]),rfl⟩
def Meas (w:World) (n a b:Int) (k:Nat) (l:List UInt8) (wr:World):Prop :=
 wr.heap[w.heap.size+1]? = some (.cells #[.int .i64 n,.int .i64 a,.int .i64 b] 46 (0,0))∧wr.heap[w.heap.size]? = some (.cells #[.int .i64 0,.int .i64 0,.int .i64 0] 46 (0,0))∧b=cntB bY (l.take k)∧Below w.heap.size w wr
theorem aSc {w:World} {b:Nat} {u v x x':Value} {T:TypeId} (h:w.heap[b]? = some (.cells #[u,v,x] T (0,0))):(w.setCell ⟨b,2,none⟩ x').heap[b]? = some (.cells #[u,v,x'] T (0,0)):=by
 simp[World.setCell,Array.getElem?_modify,h]
theorem kV (s:ByteArray) (w:World) (hs:s.size≤1000000):Calls Tryz.prog 224 #[.string s] w fun e w'=>e = .returned (.agg #[.int .i64 s.size,.int .i64 (cntB begB s.data.toList),.int .i64 (cntB bY s.data.toList)])∧Below w.heap.size w w':=by
 have hl:s.data.toList.length=s.size:=by simp
 have Hl:=Lib.hid hl;clear hl
 have hct:=fun W=>rA s W hs
 have hcl:=jU bY s.data.toList
 have hM0:Meas w s.size (cntB begB s.data.toList) 0 0 s.data.toList ((w.alloc (.cells #[.int .i64 0,.int .i64 0,.int .i64 0] 46)).alloc (.cells #[.int .i64 s.size,.int .i64 (cntB begB s.data.toList),.int .i64 0] 46)):=by
  refine⟨?_,?_,by simp[cntB],((Below.refl _ w).alloc (Nat.le_refl _) _).alloc (by simp) _⟩
  ·have:=heap_alloc_new (w.alloc (.cells #[.int .i64 0,.int .i64 0,.int .i64 0] 46)) (.cells #[.int .i64 s.size,.int .i64 (cntB begB s.data.toList),.int .i64 0] 46)
   rwa [World.size_alloc] at this
  ·exact (heap_alloc_old _ _ (by simp)).trans (heap_alloc_new w _)
 obtain⟨cb,hcb⟩:∃ cb:Nat,cntB begB s.data.toList=cb:=⟨_,rfl⟩
 rw[hcb] at hM0 hct
 have HCB:=Lib.hid hcb
 have HCT:=Lib.hid hct
 clear hcb hct
 go_enter Tryz.func224,Tryz.ntmps224
 go_wp2_with (go_at_call 266;refine (HCT.out _).mono ?_;rintro e w1 ⟨rfl,rfl⟩)
 go_loopw [4,10,11,12,13,14,15,16,17,18,19,20,21,22,23] (fun i x10 x11 x12 x13 x14 x15 x16 x17 x18 x19 x20 x21 x22 x23 wr=>∃ (k:Nat) (b:Int),i = .int .i64 k∧k≤s.size∧Meas w s.size cb b k s.data.toList wr) (fun i x10 x11 x12 x13 x14 x15 x16 x17 x18 x19 x20 x21 x22 x23 wr=>s.size-(intOf i).toNat)
 case atStart=>exact⟨0,0,rfl,by omega,hM0⟩
 case round =>
  clear hM0
  obtain⟨k,b,rfl,hk,hz,hz0,hb,hB⟩:=hrel
  have hcl2:=jU bY (s.data.toList.take k)
  have hcl3:(s.data.toList.take k).length≤k:=List.length_take_le _ _
  have hb0:0≤b∧b≤1000000:=by rw[hb];omega
  obtain⟨b0,b1⟩:=hb0
  obtain⟨z0,z1,z2⟩:=cZ hz
  obtain⟨y0,y1,y2⟩:=vB hz
  have HB:=Lib.hid hb
  clear hb hcl2 hcl3
  by_cases hlt:k<s.size
  ·have hsn:=kN bY s.data.toList k (by rw[Hl.out];exact hlt)
   have hbt:=dS s k hlt
   by_cases e:byt s.data.toList k=10
   ·have d1:(byt s.data.toList k == 10)=true:=by simpa using e
    rw[show bY (byt s.data.toList k)=true from d1,if_pos rfl] at hsn
    have Hs:=Lib.hid hsn
    have hz3:=aSc (x' := .int .i64 (b+1)) hz
    have hz03:(wr.setCell ⟨w.heap.size+1,2,none⟩ (.int .i64 (b+1))).heap[w.heap.size]? = _:=(aG _ _ _ _ (show w.heap.size≠w.heap.size+1 by omega)).trans hz0
    clear hsn e
    go_wp2
    go_roundw
    case rel=>exact⟨k+1,b+1,by go_num,by omega,hz3,hz03,by rw[Hs.out,HB.out];rfl,hB.setCell (p:=⟨w.heap.size+1,2,none⟩) (by show w.heap.size≤w.heap.size+1;omega) _⟩
    case measure=>simp[intOf];omega
   ·have d1:(byt s.data.toList k == 10)=false:=by simpa using e
    rw[show bY (byt s.data.toList k)=false from d1,if_neg (by simp)] at hsn
    have Hs:=Lib.hid hsn
    clear hsn e
    go_wp2
    go_roundw
    case rel=>exact⟨k+1,b,by go_num,by omega,hz,hz0,by rw[Hs.out];exact HB.out,hB⟩
    case measure=>simp[intOf];omega
  ·have hke:k=s.size:=by omega
   have hbe:b=cntB bY s.data.toList:=by rw[HB.out,hke,← Hl.out,List.take_length]
   have HBE:=Lib.hid hbe
   obtain⟨x0,x1,x2⟩:=cZ hz0
   obtain⟨v0,v1,v2⟩:=vB hz0
   clear hke hbe
   go_wp2
   obtain⟨r0,r1,r2⟩:=cZ (set3 (u' := .int .i64 s.size) (v' := .int .i64 cb) (x' := .int .i64 b) hz0)
   have hBz:=jJ hB (Nat.le_refl _) (.int .i64 s.size) (.int .i64 cb) (.int .i64 b)
   refine bodyPost_ret (v := .agg #[.int .i64 s.size,.int .i64 cb,.int .i64 b]) ?_ rfl ⟨by rw[HCB.out,HBE.out],hBz⟩
   simp[results,Tryz.f224,go_sem,r0,r1,r2]
def mE (p:Int→Bool) (l:List UInt8) (n:Int) (k:Nat) (m:Int):Prop:=nthB p l n=(nthB p (l.drop k) m).map (fun j=>k+j)
theorem aPq (p:Int→Bool) (l:List UInt8) (n:Int):mE p l n 0 n:=by unfold mE;simp
theorem aL9 {p:Int→Bool} {l:List UInt8} {n m:Int} {k:Nat} (h:mE p l n k m) (hk:k<l.length) (hp:p (byt l k)=false):mE p l n (k+1) m:=by
 unfold mE at *
 rw[h,iF p l k m hk,hp,if_neg (by simp),Option.map_map]
 congr 1;funext j;simp;omega
theorem aIu {p:Int→Bool} {l:List UInt8} {n m:Int} {k:Nat} (h:mE p l n k m) (hk:k<l.length) (hp:p (byt l k)=true) (hm:m≠0):mE p l n (k+1) (m-1):=by
 unfold mE at *
 rw[h,iF p l k m hk,hp,if_pos rfl,if_neg hm,Option.map_map]
 congr 1;funext j;simp;omega
theorem aIv {p:Int→Bool} {l:List UInt8} {n:Int} {k:Nat} (h:mE p l n k 0) (hk:k<l.length) (hp:p (byt l k)=true):nthB p l n=some k:=by
 unfold mE at h
 rw[h,iF p l k 0 hk,hp,if_pos rfl,if_pos rfl];rfl
theorem xC (s:ByteArray) (n:Int) (w:World) (hs:s.size≤1000000):Calls Tryz.prog 225 #[.string s,.int .i64 n] w fun e w'=>e = .returned (.tuple #[.int .i64 (dW s.data.toList n).1,.int .i64 (dW s.data.toList n).2])∧w=w':=by
 have hl:s.data.toList.length=s.size:=by simp
 have Hl:=Lib.hid hl;clear hl
 have hct:=fun W=>rA s W hs
 have hcl:=jU begB s.data.toList
 have hno:0≤n→(nthB begB s.data.toList n=none↔(cntB begB s.data.toList:Int)≤n):=fun h=>nS begB s.data.toList n h
 have HNO:=Lib.hid hno
 obtain⟨cb,hcb⟩:∃ cb:Nat,cntB begB s.data.toList=cb:=⟨_,rfl⟩
 rw[hcb] at hct
 have HCB:=Lib.hid hcb
 have HCT:=Lib.hid hct
 have hcb2:cb≤1000000:=by rw[hcb,Hl.out] at hcl;omega
 clear hcb hct hno hcl
 by_cases h0:n<0
 ·have d1:decide (n<0)=true:=by simpa using h0
  have hr:dW s.data.toList n=(0,3):=by unfold dW;rw[if_pos h0]
  have HR:=Lib.hid hr
  clear hr h0
  go_enter Tryz.func225,Tryz.ntmps225
  go_wp2
  go_returns
  exact⟨by rw[HR.out];rfl,rfl⟩
 ·have d1:decide (n<0)=false:=by simpa using h0
  by_cases h1:(cb:Int)<n
  ·have d2:decide ((cb:Int)<n)=true:=by simpa using h1
   have hr:dW s.data.toList n=(0,3):=by
    unfold dW;rw[if_neg h0,(HNO.out (by omega)).2 (by rw[HCB.out];omega)]
    dsimp only;rw[if_neg (by rw[HCB.out];omega)]
   have HR:=Lib.hid hr
   clear hr h0 h1
   go_enter Tryz.func225,Tryz.ntmps225
   go_wp2_with (go_at_call 266;refine (HCT.out _).mono ?_;rintro e w1 ⟨rfl,rfl⟩)
   go_returns
   exact⟨by rw[HR.out];rfl,rfl⟩
  ·have d2:decide ((cb:Int)<n)=false:=by simpa using h1
   have hn0:0≤n:=by omega
   have hncb:n≤cb:=by omega
   go_enter Tryz.func225,Tryz.ntmps225
   go_wp2_with (go_at_call 266;refine (HCT.out _).mono ?_;rintro e w1 ⟨rfl,rfl⟩)
   go_loop [1,6] (fun nn i=>∃ (k:Nat) (m:Int),i = .int .i64 k∧k≤s.size∧nn = .int .i64 m∧0≤m∧m≤n∧mE begB s.data.toList n k m) (fun nn i=>s.size-(intOf i).toNat)
   case atStart=>exact⟨0,n,rfl,by omega,rfl,hn0,by omega,aPq _ _ _⟩
   case round =>
    obtain⟨k,m,rfl,hk,rfl,hm0,hmn,hL⟩:=hrel
    have HL:=Lib.hid hL
    clear hL
    by_cases hlt:k<s.size
    ·have hbt:=dS s k hlt
     have hkl:k<s.data.toList.length:=by rw[Hl.out];exact hlt
     have HKL:=Lib.hid hkl
     clear hkl
     cases hx:gT (byt s.data.toList k) with
     |true =>
      have hbx:begB (byt s.data.toList k)=false:=by unfold begB;rw[hx];rfl
      have HX:=Lib.hid hbx
      have hcx:=iN (byt s.data.toList k) w
      rw[hx] at hcx
      clear hbx hx
      go_wp2_with (go_at_call 267;refine hcx.mono ?_;rintro e w' ⟨rfl,rfl⟩)
      go_round
      case rel=>exact⟨k+1,m,by go_num,by omega,rfl,hm0,hmn,aL9 HL.out HKL.out HX.out⟩
      case measure=>simp[intOf];omega
     |false =>
      have hbx:begB (byt s.data.toList k)=true:=by unfold begB;rw[hx];rfl
      have HX:=Lib.hid hbx
      have hcx:=iN (byt s.data.toList k) w
      rw[hx] at hcx
      clear hbx hx
      by_cases hm:m=0
      ·subst hm
       have hr:dW s.data.toList n=((k:Int),(0:Int)):=by unfold dW;rw[if_neg (by omega),aIv HL.out HKL.out HX.out]
       have HR:=Lib.hid hr
       clear hr h0 h1
       go_wp2_with (go_at_call 267;refine hcx.mono ?_;rintro e w' ⟨rfl,rfl⟩)
       go_returns
       exact⟨by rw[HR.out];rfl,rfl⟩
      ·have d3:(m == 0)=false:=by simpa using hm
       have hl2:=aIu HL.out HKL.out HX.out hm
       have HL2:=Lib.hid hl2
       have HM:=Lib.hid (show (0≤m-1∧m-1≤n)∧m-1≤1000000 by omega)
       clear hl2 hm
       go_wp2_with (go_at_call 267;refine hcx.mono ?_;rintro e w' ⟨rfl,rfl⟩)
       go_round
       case rel=>exact⟨k+1,m-1,by go_num,by omega,by (have hm1:=HM.out;first | go_num | (simp only[wrap_i64_of];omega)),HM.out.1.1,HM.out.1.2,HL2.out⟩
       case measure=>simp[intOf];omega
    ·have hr:dW s.data.toList n=((s.size:Int),(0:Int)):=by
      have h:=HL.out
      unfold mE at h
      rw[qE begB _ k m (by rw[Hl.out];omega)] at h
      have h2:nthB begB s.data.toList n=none:=h
      have h3:=(HNO.out hn0).1 h2
      rw[HCB.out] at h3
      unfold dW
      rw[if_neg (by omega),h2]
      dsimp only
      rw[if_pos (by rw[HCB.out];omega),Hl.out]
     have HR:=Lib.hid hr
     clear hr h0 h1
     go_wp2
     go_returns
     exact⟨by rw[HR.out];rfl,rfl⟩
def kW (l:List UInt8) (n:Int) (k:Nat) (m:Int):Prop:=dX l n=if m=0 then ((k:Int),(0:Int)) else match nthB bY (l.drop k) (m-1) with | some j=>((k:Int)+j+1,(0:Int)) | none=>((0:Int),(3:Int))
theorem aPr (l:List UInt8) (n:Int) (h0:0≤n):kW l n 0 n:=by
 unfold kW dX
 by_cases h:n=0
 ·rw[if_pos h,if_pos h];rfl
 ·rw[if_neg h,if_neg h,if_neg (by omega),List.drop_zero]
  cases nthB bY l (n-1)<;>simp
theorem aMa {l:List UInt8} {n m:Int} {k:Nat} (h:kW l n k m) (hk:k<l.length) (hm:m≠0) (hp:bY (byt l k)=false):kW l n (k+1) m:=by
 unfold kW at *
 rw[h,if_neg hm,if_neg hm,iF bY l k (m-1) hk,hp,if_neg (by simp)]
 cases nthB bY (l.drop (k+1)) (m-1)<;>simp;omega
theorem aIw {l:List UInt8} {n m:Int} {k:Nat} (h:kW l n k m) (hk:k<l.length) (hm:m≠0) (hp:bY (byt l k)=true):kW l n (k+1) (m-1):=by
 unfold kW at *
 rw[h,if_neg hm,iF bY l k (m-1) hk,hp,if_pos rfl]
 by_cases h1:m-1=0
 ·rw[if_pos h1,if_pos h1];simp
 ·rw[if_neg h1,if_neg h1]
  cases nthB bY (l.drop (k+1)) (m-1-1)<;>simp;omega
theorem aIx {l:List UInt8} {n:Int} {k:Nat} (h:kW l n k 0):dX l n=((k:Int),(0:Int)):=by unfold kW at h;rw[h,if_pos rfl]
theorem aMb (a b c:Value) (W:World):(Instr.field 46 (.agg #[a,b,c]) 2).run Tryz.prog W = .ok c W:=by kernel_rfl
attribute [local go_sem] aMb
theorem aMc {l:List UInt8} {n m:Int} {k:Nat} (h:kW l n k m) (hm:m≠0) (hn:n=0∨(dX l n).2=0) (hn2:n≠0):k<l.length:=by
 unfold kW at h
 rw[if_neg hm] at h
 by_cases hk:k<l.length
 ·exact hk
 ·rw[qE bY l k _ (by omega)] at h
  rcases hn with h1 | h1
  ·exact absurd h1 hn2
  ·rw[h] at h1;simp at h1
theorem aCb (s:ByteArray) (n:Int) (w:World) (hs:s.size≤1000000):Calls Tryz.prog 226 #[.string s,.int .i64 n] w fun e w'=>e = .returned (.tuple #[.int .i64 (dX s.data.toList n).1,.int .i64 (dX s.data.toList n).2])∧Below w.heap.size w w':=by
 have hl:s.data.toList.length=s.size:=by simp
 have Hl:=Lib.hid hl;clear hl
 have hof:=kV s
 have hcl:=jU bY s.data.toList
 have hsz:0≤n-1→(nthB bY s.data.toList (n-1)=none↔(cntB bY s.data.toList:Int)≤n-1):=fun h=>nS bY s.data.toList (n-1) h
 obtain⟨cb,hcb⟩:∃ cb:Nat,cntB bY s.data.toList=cb:=⟨_,rfl⟩
 rw[hcb] at hof hsz
 have hcb2:cb≤1000000:=by rw[hcb,Hl.out] at hcl;omega
 have HOF:=Lib.hid hof
 have HNO:=Lib.hid hsz
 clear hof hcb hcl hsz
 by_cases h0:n<0
 ·have d1:decide (n<0)=true:=by simpa using h0
  have hr:dX s.data.toList n=(0,3):=by unfold dX;rw[if_neg (by omega),if_pos h0]
  have HR:=Lib.hid hr
  clear hr h0
  go_enter Tryz.func226,Tryz.ntmps226
  go_wp2
  go_returns
  exact⟨by rw[HR.out];rfl,Below.refl _ _⟩
 ·have d1:decide (n<0)=false:=by simpa using h0
  by_cases h1:(cb:Int)<n
  ·have d2:decide ((cb:Int)<n)=true:=by simpa using h1
   have hr:dX s.data.toList n=(0,3):=by
    unfold dX;rw[if_neg (by omega),if_neg h0,(HNO.out (by omega)).2 (by omega)]
   have HR:=Lib.hid hr
   clear hr h0 h1
   go_enter Tryz.func226,Tryz.ntmps226
   go_wp2_with (go_at_call 224;refine (HOF.out _ hs).mono ?_;rintro e w1 ⟨rfl,hB1⟩)
   go_returns
   exact⟨by rw[HR.out];rfl,by first | exact hB1 | exact hB1.raise (by omega)⟩
  ·have d2:decide ((cb:Int)<n)=false:=by simpa using h1
   have hn0:0≤n:=by omega
   have hns:n=0∨(dX s.data.toList n).2=0:=by
    by_cases hz:n=0
    ·exact .inl hz
    ·right
     unfold dX
     rw[if_neg hz,if_neg h0]
     cases hx:nthB bY s.data.toList (n-1) with
     |none=>exact absurd ((HNO.out (by omega)).1 hx) (by omega)
     |some k=>rfl
   have HNS:=Lib.hid hns
   have hncb:n≤cb:=by omega
   clear hns h0 h1
   go_enter Tryz.func226,Tryz.ntmps226
   go_wp2_with (go_at_call 224;refine (HOF.out _ hs).mono ?_;rintro e w1 ⟨rfl,hB1⟩)
   go_loop [1,6] (fun nn i=>∃ (k:Nat) (m:Int),i = .int .i64 k∧k≤s.size∧nn = .int .i64 m∧0≤m∧m≤n∧kW s.data.toList n k m) (fun nn i=>s.size-(intOf i).toNat)
   case atStart=>exact⟨0,n,rfl,by omega,rfl,hn0,by omega,aPr _ _ hn0⟩
   case round =>
    obtain⟨k,m,rfl,hk,rfl,hm0,hmn,hL⟩:=hrel
    have HL:=Lib.hid hL
    clear hL
    by_cases hm:m=0
    ·subst hm
     have hr:=aIx HL.out
     have HR:=Lib.hid hr
     clear hr
     go_wp2
     go_returns
     exact⟨by rw[HR.out];rfl,by first | exact hB1 | exact hB1.raise (by omega)⟩
    ·have hkl:=aMc HL.out hm HNS.out (by omega)
     have hlt:k<s.size:=by rw[Hl.out] at hkl;exact hkl
     have HKL:=Lib.hid hkl
     clear hkl
     have hbt:=dS s k hlt
     have d3:decide (0<m)=true:=by rw[decide_eq_true_eq];omega
     by_cases e:byt s.data.toList k=10
     ·have d4:(byt s.data.toList k == 10)=true:=by simpa using e
      have hl2:=aIw HL.out HKL.out hm d4
      have HL2:=Lib.hid hl2
      have HM:=Lib.hid (show (0≤m-1∧m-1≤n)∧m-1≤1000000 by omega)
      clear hl2 hm e
      go_wp2
      go_round
      case rel=>exact⟨k+1,m-1,by go_num,by omega,by (have hm1:=HM.out;first | go_num | (simp only[wrap_i64_of];omega)),HM.out.1.1,HM.out.1.2,HL2.out⟩
      case measure=>simp[intOf];omega
     ·have d4:(byt s.data.toList k == 10)=false:=by simpa using e
      have hl2:=aMa HL.out HKL.out hm d4
      have HL2:=Lib.hid hl2
      clear hl2 hm e
      go_wp2
      go_round
      case rel=>exact⟨k+1,m,by go_num,by omega,rfl,hm0,hmn,HL2.out⟩
      case measure=>simp[intOf];omega
end Go.Proofs.YtdeiocppghhfdaaGreat
namespace Go.Proofs.YtdeiocppghhfdaaGreat
open Go.RowKit Go.Lib Go.Shelf
def DOK (d:List PcV):Prop:=d.length≤4∧∀ p∈d,pcP p∧p.n≤100000∧p.text.size≤100000
def sumN (d:List PcV):Int:=d.foldl (fun s p=>s+p.n) 0
def sumO (d:List PcV):Int:=d.foldl (fun s p=>s+p.text.size+if p.kind=1 then p.n else 0) 0
theorem kX {d:List PcV} {k:Nat} {p:PcV} (h:d[k]? = some p):sumN (d.take (k+1))=sumN (d.take k)+p.n:=by
 unfold sumN;rw[List.take_add_one,h,Option.toList_some,List.foldl_append];rfl
theorem yP {d:List PcV} {k:Nat} {p:PcV} (h:d[k]? = some p):sumO (d.take (k+1))=sumO (d.take k)+p.text.size+if p.kind=1 then p.n else 0:=by
 unfold sumO;rw[List.take_add_one,h,Option.toList_some,List.foldl_append];rfl
theorem gB {p:PcV} (h:pcP p):0≤p.n∧(p.kind=1∨p.kind=2∨p.kind=3):=by unfold pcP at h;omega
theorem lT {d:List PcV} (h:DOK d):∀ k,k≤d.length→(0≤sumN (d.take k)∧sumN (d.take k)≤k*100000)∧(0≤sumO (d.take k)∧sumO (d.take k)≤k*200000)
 |0,_=>by simp[sumN,sumO]
 |k+1,hk=>by
  have hx:=gEz (show k<d.length by omega)
  generalize d[k]=p at hx
  obtain⟨h1,h2,h3⟩:=h.2 p (mGz hx)
  obtain⟨h4,h5⟩:=gB h1
  have ih:=lT h k (by omega)
  rw[kX hx,yP hx]
  split<;>omega
theorem jQ {w:World} {b off k:Nat} {d:List PcV} {p:PcV} (h:∀ (k:Nat) (p:PcV),d[k]? = some p→∀ (i:Nat) (u:Value),(pcL p)[i]? = some u→w.cell? ⟨b,off+(k*3+i),none⟩=some u) (hx:d[k]? = some p) :
  w.cell? ⟨b,off+k*3,none⟩=some (.int .u8 p.kind)∧w.cell? ⟨b,off+k*3+1,none⟩=some (.int .i64 p.n)∧w.cell? ⟨b,off+k*3+2,none⟩=some (.string p.text) :=
 ⟨h k p hx 0 _ rfl,h k p hx 1 _ rfl,h k p hx 2 _ rfl⟩
theorem aCc (p:PcV) (w:World) (h:pcP p):Calls Tryz.prog 293 #[.agg #[.int .u8 p.kind,.int .i64 p.n,.string p.text]] w fun e w'=>e = .returned (.bool true)∧Below w.heap.size w w':=by
 obtain⟨k,n,t⟩:=p
 have hB0:=(Below.refl w.heap.size w).alloc (Nat.le_refl _) (.cells #[.int .u8 k,.int .i64 n,.string t] 94)
 unfold pcP at h
 dsimp only at h ⊢
 rcases h with⟨hk,hn,ht⟩ | ⟨hk,hn,ht⟩
 ·have e1:t.toList.isEmpty=true:=by rw[te2];exact ht
  have d1:decide (1≤n)=true:=by simpa using hn
  have d2:t.toList=[]:=List.isEmpty_iff.1 e1
  rcases hk with rfl | rfl
  ·go_enter Tryz.func293,Tryz.ntmps293
   go_wp2
   go_returns
   exact⟨rfl,hB0⟩
  ·go_enter Tryz.func293,Tryz.ntmps293
   go_wp2
   go_returns
   exact⟨rfl,hB0⟩
 ·subst hk;subst hn
  have e1:t.toList.isEmpty=false:=by rw[te3];omega
  go_enter Tryz.func293,Tryz.ntmps293
  go_wp2
  go_returns
  exact⟨rfl,hB0⟩
def RcI (w:World) (ad:Option Addr) (len c:Nat) (a:Act) (wr:World):Prop :=
 ∃ (k:Nat) (x y:Int) (u:Nat→Value),a={ tmps := #[.slice ad len c,u 1,u 2,.int .i64 x,.int .i64 y,.int .i64 k,u 6,u 7,u 8,u 9,u 10,u 11,u 12,u 13,u 14,u 15,u 16,u 17,u 18,u 19,u 20,u 21,u 22,u 23,u 24,u 25,u 26,u 27,u 28,u 29,u 30,u 31,u 32,u 33,u 34,u 35,u 36,u 37,u 38,u 39,u 40,u 41,u 42,u 43,u 44,u 45,u 46,u 47,u 48,u 49,u 50,u 51,u 52,u 53,u 54,u 55,u 56,u 57,u 58,u 59,u 60,u 61,u 62,u 63,u 64],defers:=[] }∧k≤len∧(0≤x∧x≤k*100000)∧(0≤y∧y≤k*200000)∧Below w.heap.size w wr
theorem RcI.intro {w:World} {ad:Option Addr} {len c:Nat} {a:Act} {wr:World} (k:Nat) (x y:Int) {uu:Nat→Value} (_:uu=fun i=>a.tmps.getD i undef) (h:a={ tmps := #[.slice ad len c,uu 1,uu 2,.int .i64 x,.int .i64 y,.int .i64 k,uu 6,uu 7,uu 8,uu 9,uu 10,uu 11,uu 12,uu 13,uu 14,uu 15,uu 16,uu 17,uu 18,uu 19,uu 20,uu 21,uu 22,uu 23,uu 24,uu 25,uu 26,uu 27,uu 28,uu 29,uu 30,uu 31,uu 32,uu 33,uu 34,uu 35,uu 36,uu 37,uu 38,uu 39,uu 40,uu 41,uu 42,uu 43,uu 44,uu 45,uu 46,uu 47,uu 48,uu 49,uu 50,uu 51,uu 52,uu 53,uu 54,uu 55,uu 56,uu 57,uu 58,uu 59,uu 60,uu 61,uu 62,uu 63,uu 64],defers:=[] }) (hk:k≤len) (hx:0≤x∧x≤k*100000) (hy:0≤y∧y≤k*200000) (hB:Below w.heap.size w wr):RcI w ad len c a wr:=⟨k,x,y,uu,h,hk,hx,hy,hB⟩
theorem aAf (a:Option Addr) (c:Nat) (d:List PcV) (w:World) (hr:PRow w a d) (hd:DOK d) (hc:d.length≤c):Calls Tryz.prog 285 #[.slice a d.length c] w fun e w'=>e = .returned (.int .i64 0)∧Below w.heap.size w w':=by
 have h4:=hd.1
 go_enter Tryz.func285,Tryz.ntmps285
 go_wp2
 refine wp_loop (RcI w a d.length c) (fun ac _=>d.length-(intOf (ac.tmps.getD 5 undef)).toNat) ?_ ?_
 ·exact RcI.intro 0 0 0 rfl rfl (by omega) (by omega) (by omega) (Below.refl _ _)
 ·rintro ac wr ⟨k,x,y,u,rfl,hk,hx,hy,hB⟩
  by_cases hlt:k<d.length
  ·have hg:=gEz hlt
   generalize d[k]=p at hg
   obtain⟨hp1,hp2,hp3⟩:=hd.2 p (mGz hg)
   obtain⟨hn0,hkd⟩:=gB hp1
   rcases hr.on hB with⟨_,h2⟩ | ⟨b,off,rfl,hb,hcell⟩
   ·rw[h2] at hlt;simp at hlt
   obtain⟨c0,c1,c2⟩:=jQ hcell hg
   have pk:=fun W=>aCc p W hp1
   have PK:=Lib.hid pk
   have hB1:=hB.alloc hB.size (.cells #[.int .u8 p.kind,.int .i64 p.n,.string p.text] 94)
   have hz:=heap_alloc_new wr (.cells #[.int .u8 p.kind,.int .i64 p.n,.string p.text] 94)
   have w1:IntKind.i64.wrap (1048576-x)=1048576-x:=IntWalk.i64_in _ (by omega)
   have w2:IntKind.i64.wrap (1048576-y)=1048576-y:=IntWalk.i64_in _ (by omega)
   have d1:decide (1048576-x<p.n)=false:=by simp;omega
   have d2:decide (1048576-y<p.n)=false:=by simp;omega
   have d3:decide (1048576-y<(p.text.size:Int))=false:=by simp;omega
   have hts:(p.text.size:Int)≤100000:=by omega
   clear pk hp1 hcell hg hr
   rcases hkd with e | e | e
   all_goals
    rw[e] at c0 hz hB1
    have PKe:=PK.out
    rw[e] at PKe
    have PK2:=Lib.hid PKe
    clear PKe PK
    have k1:(p.kind != 2)=(p.kind != 2):=rfl
    clear k1 e
    go_wp2_with (go_at_call 293;refine (PK2.out _).mono ?_;rintro e w3 ⟨rfl,hb3⟩;have hB3:=hB1.trans (hb3.mono hB1.size);have hz3:=(hb3.block _ (by simp)).trans hz;obtain⟨z0,z1,z2⟩:=cZ hz3)
    exact⟨RcI.intro (k+1) _ _ rfl rfl (by omega) (by omega) (by omega) hB3,by simp[intOf];omega⟩
  ·go_wp2
   go_returns
   exact⟨rfl,hB⟩
def RsI (w:World) (ad:Option Addr) (d:List PcV) (c:Nat) (a:Act) (wr:World):Prop :=
 ∃ (k:Nat) (u:Nat→Value),a={ tmps := #[.slice ad d.length c,u 1,u 2,u 3,.int .i64 (sumN (d.take k)),.int .i64 (sumO (d.take k)),.int .i64 k,u 7,u 8,u 9,u 10,u 11,u 12,u 13,u 14,u 15,u 16,u 17,u 18,u 19,u 20,u 21,u 22,u 23,u 24,u 25,u 26,u 27,u 28,u 29,u 30,u 31,u 32,u 33,u 34,u 35,u 36,u 37,u 38,u 39,u 40,u 41,u 42],defers:=[] }∧k≤d.length∧wr=w
theorem RsI.intro {w:World} {ad:Option Addr} {d:List PcV} {c:Nat} {a:Act} {wr:World} (k:Nat) {uu:Nat→Value} (_:uu=fun i=>a.tmps.getD i undef) (h:a={ tmps := #[.slice ad d.length c,uu 1,uu 2,uu 3,.int .i64 (sumN (d.take k)),.int .i64 (sumO (d.take k)),.int .i64 k,uu 7,uu 8,uu 9,uu 10,uu 11,uu 12,uu 13,uu 14,uu 15,uu 16,uu 17,uu 18,uu 19,uu 20,uu 21,uu 22,uu 23,uu 24,uu 25,uu 26,uu 27,uu 28,uu 29,uu 30,uu 31,uu 32,uu 33,uu 34,uu 35,uu 36,uu 37,uu 38,uu 39,uu 40,uu 41,uu 42],defers:=[] }) (hk:k≤d.length) (hw:wr=w):RsI w ad d c a wr:=⟨k,uu,h,hk,hw⟩
theorem sV (a:Option Addr) (c:Nat) (d:List PcV) (w:World) (hr:PRow w a d) (hd:DOK d) (hc:d.length≤c):Calls Tryz.prog 286 #[.slice a d.length c] w fun e w'=>e = .returned (.tuple #[.int .i64 (sumN d),.int .i64 (sumO d)])∧w=w':=by
 have h4:=hd.1
 go_enter Tryz.func286,Tryz.ntmps286
 go_wp2
 refine wp_loop (RsI w a d c) (fun ac _=>d.length-(intOf (ac.tmps.getD 6 undef)).toNat) ?_ ?_
 ·exact RsI.intro 0 rfl rfl (by omega) rfl
 ·rintro ac wr ⟨k,u,rfl,hk,rfl⟩
  obtain⟨⟨x0,x1⟩,y0,y1⟩:=lT hd k hk
  by_cases hlt:k<d.length
  ·have hg:=gEz hlt
   generalize d[k]=p at hg
   obtain⟨hp1,hp2,hp3⟩:=hd.2 p (mGz hg)
   obtain⟨hn0,hkd⟩:=gB hp1
   rcases hr with⟨_,h2⟩ | ⟨b,off,rfl,hb,hcell⟩
   ·rw[h2] at hlt;simp at hlt
   obtain⟨c0,c1,c2⟩:=jQ hcell hg
   have hts:(p.text.size:Int)≤100000:=by omega
   have sN:=kX hg
   have sO:=yP hg
   have HN:=Lib.hid sN
   have HO:=Lib.hid sO
   clear sN sO hcell hg hp1
   rcases hkd with e | e | e
   all_goals
    rw[e] at c0
    have HE:=Lib.hid e
    clear e
    go_wp2
    exact⟨RsI.intro (k+1) rfl (by rw[HN.out,HO.out,HE.out];first | rfl | (rw[if_neg (by decide),Int.add_zero];rfl)) (by omega) rfl,by simp[intOf];omega⟩
  ·obtain rfl:k=d.length:=by omega
   rw[List.take_length]
   go_wp2
   go_returns
   exact⟨rfl,rfl⟩
theorem oO (a:Option Addr) (c:Nat) (d:List PcV) (w:World) (hr:PRow w a d) (hd:DOK d) (hc:d.length≤c):Calls Tryz.prog 269 #[.slice a d.length c] w fun e w'=>e = .returned (.tuple #[.int .i64 (sumN d),.int .i64 (sumO d),.int .i64 0])∧Below w.heap.size w w':=by
 have h1:=aAf a c d w hr hd hc
 have h2:=fun W (hB:Below w.heap.size w W)=>sV a c d W (hr.on hB) hd hc
 have H1:=Lib.hid h1;have H2:=Lib.hid h2
 clear h1 h2
 go_enter Tryz.func269,Tryz.ntmps269
 go_wp2_with (first | (go_at_call 285;refine H1.out.mono ?_;rintro e w1 ⟨rfl,hB1⟩) | (go_at_call 286;refine (H2.out _ hB1).mono ?_;rintro e w2 ⟨rfl,rfl⟩))
 go_returns
 exact⟨rfl,hB1⟩
theorem rC {n at_ k:Int} {t:ByteArray} (h:iP n at_ k t):DOK (repD n at_ k t)∧sumN (repD n at_ k t)=n∧sumO (repD n at_ k t)=n-k+t.size:=by
 obtain⟨h1,h2,h3,h4,h5,h6⟩:=h
 have e0:(⟨#[]⟩:ByteArray).size=0:=rfl
 refine⟨⟨uX _ _ _ _,fun p hp => ?_⟩,?_,?_⟩
 ·unfold repD at hp
  simp only[List.mem_append] at hp
  rcases hp with ((hp | hp) | hp) | hp
  all_goals
   split at hp
   ·rw[List.mem_singleton] at hp
    subst hp
    refine⟨?_,?_,?_⟩
    ·unfold pcP;dsimp only;first | exact .inl ⟨by omega,by omega,e0⟩ | exact .inr ⟨rfl,rfl,by assumption⟩
    ·dsimp only;omega
    ·dsimp only;first | omega | (rw[e0];omega)
   ·cases hp
 ·unfold repD sumN
  (repeat' split)<;>simp<;>omega
 ·unfold repD sumO
  (repeat' split)<;>simp[e0]<;>omega
end Go.Proofs.YtdeiocppghhfdaaGreat
