/- Texts, one behind another. -/
import Derived.Test.YtdeiocppghhfdaaGreatZfab
import Derived.Test.YtdeiocppghhfdaaGreatShelfA
import Derived.Shelf.SlSortCmp.Whole1
import Derived.Sort.OwnSortedInts
import Derived.Lib.RowBridge
import Derived.Laws.CopyRow
import Derived.OrdersIn
set_option linter.unusedVariables false
set_option linter.unusedSimpArgs false
set_option maxRecDepth 100000
set_option maxHeartbeats 40000000
namespace Go.Proofs.YtdeiocppghhfdaaGreat.Hs
open Go.RowKit Go.Lib Go.Sort Go.Shelf
open KitI (iv IRow own_below kH)
attribute [local go_sem, local simp] dP
attribute [local go_sem ↓] aN aR
attribute [local go_sem] bX bB aX bH cK
theorem nL (cs:List aA):(bF cs).2=0∨(bF cs).2=22:=by
 unfold bF
 split
 ·exact .inr rfl
 ·exact .inl rfl
end Go.Proofs.YtdeiocppghhfdaaGreat.Hs
namespace Go.Proofs.YtdeiocppghhfdaaGreat.Hs
open Go.RowKit Go.Lib Go.Shelf
open KitI (iv IRow own_below kH)
attribute [local go_sem, local simp] dP
attribute [local go_sem ↓] aN aR
attribute [local go_sem] bX bB aX bH cK
def ordE (n:Nat):List Int→List Int→Int
 |_,[]=>0
 |seen,x::r=>if x<0∨(n:Int)≤x then 3 else if x∈seen then 9 else ordE n (seen++[x]) r
def plc (l:List Int) (i:Nat):Int:=if (i:Int)∈l then (l.idxOf (i:Int):Int)+1 else 0
theorem aFt (i:Nat):plc [] i=0:=rfl
theorem wT {l:List Int} {i:Nat} (h:(i:Int)∉l):plc (l++[(i:Int)]) i=(l.length:Int)+1:=by
 unfold plc
 rw[if_pos (by simp),List.idxOf_append,if_neg h]
 simp
theorem uO {l:List Int} {i:Nat} {x:Int} (h:x≠(i:Int)):plc (l++[x]) i=plc l i:=by
 unfold plc
 by_cases hi:(i:Int)∈l
 ·rw[if_pos hi,if_pos (by simp[hi]),List.idxOf_append,if_pos hi]
 ·rw[if_neg hi,if_neg (by simp[hi];exact fun e=>h e.symm)]
theorem pY {l:List Int} {i:Nat}:plc l i=0↔(i:Int)∉l:=by
 unfold plc
 split
 ·rename_i h
  constructor
  ·intro e;omega
  ·intro e;exact absurd h e
 ·rename_i h
  exact⟨fun _=>h,fun _=>rfl⟩
theorem oW (l:List Int) (i:Nat):0≤plc l i:=by unfold plc;split<;>omega
def dO (order:List Int) (cs:List aA) (i j:Nat):Bool :=
 match cs[i]?,cs[j]? with
 |some a,some b => !(decide (plc order j≠0) && befB a b && (decide (plc order i=0) || decide (plc order j<plc order i)))
 |_,_=>true
def fV (order:List Int) (cs:List aA):Bool:=(List.range cs.length).all fun i=>(List.range cs.length).all fun j=>dO order cs i j
def aQ (order:List Int) (cs:List aA):Bool × Int :=
 if (bF cs).2=0 then (if ordE cs.length [] order=0 then (fV order cs,0) else (false,ordE cs.length [] order)) else (false,22)
theorem xK {n:Nat} {order:List Int}:∀ {k:Nat},ordE n (order.take k) (order.drop k)=ordE n [] order→∀ x,order[k]? = some x→ordE n (order.take k) (order.drop k)=if x<0∨(n:Int)≤x then 3 else if x∈order.take k then 9 else ordE n (order.take (k+1)) (order.drop (k+1)):=by
 intro k _ x hx
 obtain⟨hlt,rfl⟩:=gLz hx
 rw[List.drop_eq_getElem_cons hlt]
 show (if _ then _ else if _ then _ else ordE n (order.take k++[order[k]]) (order.drop (k+1)))=_
 rw[List.take_succ_eq_append_getElem hlt]
theorem aA1 {order:List Int} {cs:List aA} {i j:Nat} (hi:i<cs.length) (hj:j<cs.length) (h:dO order cs i j=false):fV order cs=false:=by
 unfold fV
 rw[List.all_eq_false]
 refine⟨i,List.mem_range.2 hi,?_⟩
 rw[Bool.not_eq_true,List.all_eq_false]
 exact⟨j,List.mem_range.2 hj,by simp[h]⟩
theorem xL {order:List Int} {cs:List aA} (h:∀ i j,i<cs.length→j<cs.length→dO order cs i j=true):fV order cs=true:=by
 unfold fV
 rw[List.all_eq_true]
 intro i hi
 rw[List.all_eq_true]
 intro j hj
 exact h i j (List.mem_range.1 hi) (List.mem_range.1 hj)
theorem kC {a c:Bool} {b d:Int} (h:a=c) (h2:b=d):Ending.returned (.tuple #[.bool a,.int .i64 b]) = .returned (.tuple #[.bool c,.int .i64 d]):=by rw[h,h2]
def plV (order:List Int) (n:Nat):List Value:=(List.range n).map fun i => .int .i64 (plc order i)
theorem rP {order:List Int} {n i:Nat} (h:i<n):(plV order n)[i]? = some (.int .i64 (plc order i)):=by unfold plV;simp[h]
theorem aFu {order:List Int} {n i:Nat} (h:(i:Int)∉order):(plV order n).set i (.int .i64 ((order.length:Int)+1))=plV (order++[(i:Int)]) n:=by
 unfold plV
 apply List.ext_getElem?
 intro j
 by_cases hj:j<n
 ·by_cases e:i=j
  ·subst e
   rw[List.getElem?_set_self (by simpa using hj)]
   simp[hj,wT h]
  ·rw[List.getElem?_set_ne e]
   simp[hj,uO (l:=order) (i:=j) (x:=(i:Int)) (by omega)]
 ·rw[List.getElem?_eq_none (by simp;omega),List.getElem?_eq_none (by simp;omega)]
structure AInv (w:World) (p:Option Addr) (cs:List aA) (order:List Int) (g base:Nat) (W:World):Prop where
 row:∀ b off,p=some ⟨b,off,none⟩→CAt W b off cs
 own:W.ownsRow base 3 1 (.slice (some ⟨g,0,none⟩) cs.length cs.length) cs.length (plV order cs.length)
 bl:Below w.heap.size w W
theorem AInv.on {w:World} {p:Option Addr} {cs:List aA} {order:List Int} {g base:Nat} {W W':World} (h:AInv w p cs order g base W) (hb:Below W.heap.size W W'):AInv w p cs order g base W' :=
 ⟨fun b off e=>(h.row b off e).on hb,own_below h.own hb,h.bl.trans (hb.mono h.bl.size)⟩
def ORel (w:World) (p:Option Addr) (cs:List aA) (order:List Int) (g base:Nat) (po:Option Addr) (i:Value) (wr:World):Prop :=
 ∃ k:Nat,i = .int .i64 k∧k≤order.length∧ordE cs.length (order.take k) (order.drop k)=ordE cs.length [] order∧AInv w p cs (order.take k) g base wr∧(∀ b off,po=some ⟨b,off,none⟩→∀ j u,order[j]? = some u→wr.cell? ⟨b,off+j,none⟩=some (iv u))
def AgI (w:World) (p po:Option Addr) (cap co:Nat) (cs:List aA) (order:List Int) (g:Nat) (a:Act) (wr:World):Prop :=
 ∃ (i:Nat) (u:Nat→Value),a={ tmps := #[.slice po order.length co,.slice p cs.length cap,u 2,u 3,u 4,u 5,u 6,u 7,.slice (some ⟨g,0,none⟩) cs.length cs.length,u 9,u 10,u 11,u 12,u 13,u 14,u 15,u 16,u 17,u 18,u 19,u 20,u 21,u 22,u 23,u 24,u 25,u 26,u 27,u 28,u 29,u 30,u 31,u 32,u 33,u 34,u 35,u 36,u 37,u 38,u 39,u 40,u 41,u 42,u 43,u 44,u 45,u 46,u 47,u 48,u 49,u 50,u 51,.slice p cs.length cap,.int .i64 cs.length,.int .i64 i,u 55,u 56,u 57,u 58,u 59,u 60,u 61,u 62,u 63,u 64,u 65,u 66,u 67,u 68,u 69,u 70,u 71,u 72,u 73,u 74,u 75,u 76,u 77,u 78,u 79,u 80,u 81,u 82,u 83,u 84,u 85,u 86,u 87,u 88,u 89,u 90,u 91,u 92,u 93,u 94,u 95],defers:=[] }∧i≤cs.length∧(∀ x y,x<i→y<cs.length→dO order cs x y=true)∧AInv w p cs order g g wr
theorem AgI.intro {w:World} {p po:Option Addr} {cap co:Nat} {cs:List aA} {order:List Int} {g:Nat} {a:Act} {wr:World} (i:Nat) {uu:Nat→Value} (_:uu=fun i=>a.tmps.getD i undef) (h:a={ tmps := #[.slice po order.length co,.slice p cs.length cap,uu 2,uu 3,uu 4,uu 5,uu 6,uu 7,.slice (some ⟨g,0,none⟩) cs.length cs.length,uu 9,uu 10,uu 11,uu 12,uu 13,uu 14,uu 15,uu 16,uu 17,uu 18,uu 19,uu 20,uu 21,uu 22,uu 23,uu 24,uu 25,uu 26,uu 27,uu 28,uu 29,uu 30,uu 31,uu 32,uu 33,uu 34,uu 35,uu 36,uu 37,uu 38,uu 39,uu 40,uu 41,uu 42,uu 43,uu 44,uu 45,uu 46,uu 47,uu 48,uu 49,uu 50,uu 51,.slice p cs.length cap,.int .i64 cs.length,.int .i64 i,uu 55,uu 56,uu 57,uu 58,uu 59,uu 60,uu 61,uu 62,uu 63,uu 64,uu 65,uu 66,uu 67,uu 68,uu 69,uu 70,uu 71,uu 72,uu 73,uu 74,uu 75,uu 76,uu 77,uu 78,uu 79,uu 80,uu 81,uu 82,uu 83,uu 84,uu 85,uu 86,uu 87,uu 88,uu 89,uu 90,uu 91,uu 92,uu 93,uu 94,uu 95],defers:=[] })
  (hi:i≤cs.length) (hg:∀ x y,x<i→y<cs.length→dO order cs x y=true) (hA:AInv w p cs order g g wr):AgI w p po cap co cs order g a wr:=⟨i,uu,h,hi,hg,hA⟩
structure PInv (w:World) (b off:Nat) (cs:List aA) (order:List Int) (g ga:Nat) (c:aA) (W:World):Prop where
 blk:iI W ga c
 inv:AInv w (some ⟨b,off,none⟩) cs order g g W
theorem PInv.on {w:World} {b off:Nat} {cs:List aA} {order:List Int} {g ga:Nat} {c:aA} {W W':World} (h:PInv w b off cs order g ga c W) (hb:Below W.heap.size W W'):PInv w b off cs order g ga c W' :=
 ⟨aU h.blk hb (gAz h.blk).1,h.inv.on hb⟩
def QInv (w:World) (b off:Nat) (cs:List aA) (order:List Int) (g ga:Nat) (c:aA) (gb:Nat) (d:aA) (W:World):Prop:=PInv w b off cs order g ga c W∧iI W gb d
theorem QInv.on {w:World} {b off:Nat} {cs:List aA} {order:List Int} {g ga gb:Nat} {c d:aA} {W W':World} (h:QInv w b off cs order g ga c gb d W) (hb:Below W.heap.size W W'):QInv w b off cs order g ga c gb d W' :=
 ⟨h.1.on hb,aU h.2 hb (gAz h.2).1⟩
theorem QInv.drew {w:World} {b off:Nat} {cs:List aA} {order:List Int} {g ga gb:Nat} {c d:aA} {W:World} (h:QInv w b off cs order g ga c gb d W):QInv w b off cs order g ga c gb d W.drew:=h.on (Below.refl _ _).drew
def AgJ (w:World) (b off:Nat) (po:Option Addr) (cap co:Nat) (cs:List aA) (order:List Int) (g i ga:Nat) (c:aA) (a:Act) (wr:World):Prop :=
 ∃ (j:Nat) (u:Nat→Value),a={ tmps := #[.slice po order.length co,.slice (some ⟨b,off,none⟩) cs.length cap,u 2,u 3,u 4,u 5,u 6,u 7,.slice (some ⟨g,0,none⟩) cs.length cs.length,u 9,u 10,.int .i64 i,.pointer (some ⟨ga,0,none⟩),u 13,u 14,u 15,u 16,u 17,u 18,u 19,u 20,u 21,u 22,u 23,u 24,u 25,u 26,u 27,u 28,u 29,u 30,u 31,u 32,u 33,u 34,u 35,u 36,u 37,u 38,u 39,u 40,u 41,u 42,u 43,u 44,u 45,u 46,u 47,u 48,u 49,u 50,u 51,.slice (some ⟨b,off,none⟩) cs.length cap,.int .i64 cs.length,.int .i64 i,u 55,u 56,u 57,u 58,.slice (some ⟨b,off,none⟩) cs.length cap,.int .i64 cs.length,.int .i64 j,u 62,u 63,u 64,u 65,u 66,u 67,u 68,u 69,u 70,u 71,u 72,u 73,u 74,u 75,u 76,u 77,u 78,u 79,u 80,u 81,u 82,u 83,u 84,u 85,u 86,u 87,u 88,u 89,u 90,u 91,u 92,u 93,u 94,u 95],defers:=[] }∧j≤cs.length∧(∀ y,y<j→dO order cs i y=true)∧PInv w b off cs order g ga c wr
theorem AgJ.intro {w:World} {b off:Nat} {po:Option Addr} {cap co:Nat} {cs:List aA} {order:List Int} {g i ga:Nat} {c:aA} {a:Act} {wr:World} (j:Nat) {uu:Nat→Value} (_:uu=fun i=>a.tmps.getD i undef) (h:a={ tmps := #[.slice po order.length co,.slice (some ⟨b,off,none⟩) cs.length cap,uu 2,uu 3,uu 4,uu 5,uu 6,uu 7,.slice (some ⟨g,0,none⟩) cs.length cs.length,uu 9,uu 10,.int .i64 i,.pointer (some ⟨ga,0,none⟩),uu 13,uu 14,uu 15,uu 16,uu 17,uu 18,uu 19,uu 20,uu 21,uu 22,uu 23,uu 24,uu 25,uu 26,uu 27,uu 28,uu 29,uu 30,uu 31,uu 32,uu 33,uu 34,uu 35,uu 36,uu 37,uu 38,uu 39,uu 40,uu 41,uu 42,uu 43,uu 44,uu 45,uu 46,uu 47,uu 48,uu 49,uu 50,uu 51,.slice (some ⟨b,off,none⟩) cs.length cap,.int .i64 cs.length,.int .i64 i,uu 55,uu 56,uu 57,uu 58,.slice (some ⟨b,off,none⟩) cs.length cap,.int .i64 cs.length,.int .i64 j,uu 62,uu 63,uu 64,uu 65,uu 66,uu 67,uu 68,uu 69,uu 70,uu 71,uu 72,uu 73,uu 74,uu 75,uu 76,uu 77,uu 78,uu 79,uu 80,uu 81,uu 82,uu 83,uu 84,uu 85,uu 86,uu 87,uu 88,uu 89,uu 90,uu 91,uu 92,uu 93,uu 94,uu 95],defers:=[] })
  (hj:j≤cs.length) (hg:∀ y,y<j→dO order cs i y=true) (hP:PInv w b off cs order g ga c wr):AgJ w b off po cap co cs order g i ga c a wr:=⟨j,uu,h,hj,hg,hP⟩
theorem aA2 {order:List Int} {cs:List aA} {i j:Nat} (h:∀ y,y<j→dO order cs i y=true) (hp:dO order cs i j=true):∀ y,y<j+1→dO order cs i y=true:=fun y hy=>by
 by_cases e:y=j
 ·rw[e];exact hp
 ·exact h y (by omega)
def IRd (w:World) (po:Option Addr) (zs:List Int):Prop:=zs=[]∨∃ b off,po=some ⟨b,off,none⟩∧∀ j u,zs[j]? = some u→w.cell? ⟨b,off+j,none⟩=some (iv u)
theorem IRd.of {w:World} {po:Option Addr} {n c:Nat} {zs:List Int} (h:IRow w (.slice po n c) zs):IRd w po zs:=by
 rcases h with⟨_,h⟩ | ⟨b,off,c',h,hc⟩
 ·exact .inl h
 ·injection h with h _ _;exact .inr ⟨b,off,h,hc⟩
theorem IRd.on {w w':World} {po:Option Addr} {zs:List Int} (h:IRd w po zs) (hb:Below w.heap.size w w'):IRd w' po zs:=by
 rcases h with h | ⟨b,off,h,hc⟩
 ·exact .inl h
 ·exact .inr ⟨b,off,h,fun j u hj=>(hb.cell (KitI.cO (hc j u hj))).trans (hc j u hj)⟩
set_option linter.unusedSimpArgs false in
theorem aHp (p po:Option Addr) (cap co:Nat) (cs:List aA) (order:List Int) (w:World) (hC:CRow w p cap cs) (hO:IRd w po order) (hs:cs.length≤1000000) (hs2:order.length≤1000000) (hok:∀ c∈cs,c.Ok) (h0:(bF cs).2=0) :
  Calls Tryz.prog 55 #[.slice po order.length co,.slice p cs.length cap] w fun e w'=>e = .returned (.tuple #[.bool (aQ order cs).1,.int .i64 (aQ order cs).2])∧Below w.heap.size w w':=by
 obtain⟨i0,hi,hz0,hz1,hz2⟩:=info_parts kH
 have ck:=rO p cap cs w hC hs hok
 obtain⟨k1,hk1⟩:∃ k1,(bF cs).1=k1:=⟨_,rfl⟩
 rw[hk1,h0] at ck
 have H0:=Lib.hid h0
 clear h0 hk1
 have hag:aQ order cs=if ordE cs.length [] order=0 then (fV order cs,0) else (false,ordE cs.length [] order):=by unfold aQ;rw[if_pos H0.out]
 have Hag:=Lib.hid hag
 clear hag
 go_enter Tryz.func55,Tryz.ntmps55
 go_wp2_with fail
 refine ck.mono ?_
 clear ck
 rintro e w1 ⟨rfl,hB1⟩
 obtain⟨w2,hmk,hown,hgr⟩:=run_make_full (P := Tryz.prog) w1 w1.heap.size 28 3 i0 (.int .i64 0) 1 Tryz.underlying28 hi hz0 hz1 .i64 .i64 cs.length (by rw[hz2];omega) (by unfold maxLen;omega) (Nat.le_refl _)
 have hB2:=hB1.grown hgr hB1.size (fun k hk=>by cases hk)
 have hb2:Below w1.heap.size w1 w2:=(Below.refl _ _).grown hgr (Nat.le_refl _) (fun k hk=>by cases hk)
 have hpl:(madeCells (Value.cells (.int .i64 0)) (cs.length*1)).toList=plV [] cs.length:=by
  rw[Nat.mul_one]
  have e:Value.cells (.int .i64 0) = #[.int .i64 0]:=rfl
  rw[e,toList_madeCells_one]
  unfold plV
  apply List.ext_getElem?
  intro j
  by_cases hj:j<cs.length
  ·simp[hj,aFt]
  ·rw[List.getElem?_eq_none (by simp;omega),List.getElem?_eq_none (by simp;omega)]
 rw[hpl] at hown
 have hA:AInv w p cs [] w1.heap.size w1.heap.size w2:=⟨fun b off e=>by
  rcases hC with⟨h,_⟩ | ⟨b',off',h,_,hbb,hc⟩
  ·rw[h] at e;cases e
  ·rw[h] at e;cases e;exact hc.on hB2,hown,hB2⟩
 have hO2:∀ b off,po=some ⟨b,off,none⟩→∀ j u,order[j]? = some u→w2.cell? ⟨b,off+j,none⟩=some (iv u):=by
  intro b off e j u hj
  rcases hO with h2 | ⟨b',off',h,hc⟩
  ·rw[h2] at hj;simp at hj
  ·rw[e] at h
   simp only[Option.some.injEq,Addr.mk.injEq,and_true] at h
   obtain⟨rfl,rfl⟩:=h
   rw[hB2.cell (KitI.cO (hc j u hj))]
   exact hc j u hj
 have hz1:w1.heap.size≤w2.heap.size:=hgr.size
 have hgw:w.heap.size≤w1.heap.size:=hB1.size
 have Hgw:=Lib.hid hgw
 have hpB:∀ b off,p=some (⟨b,off,none⟩:Addr)→b<w1.heap.size:=fun b off e=>by
  rcases hC with⟨h,_⟩ | ⟨b',off',h,_,hbb,hc⟩
  ·rw[h] at e;cases e
  ·rw[h] at e;cases e;omega
 have hoB:∀ b off,po=some (⟨b,off,none⟩:Addr)→∀ {k:Nat},k<order.length→b<w1.heap.size:=fun b off e k hk=>by
  rcases hO with h2 | ⟨b',off',h,hc⟩
  ·rw[h2] at hk;simp at hk
  ·rw[e] at h
   simp only[Option.some.injEq,Addr.mk.injEq,and_true] at h
   obtain⟨rfl,rfl⟩:=h
   have:=KitI.cO (hc k _ (gEz hk))
   simp at this
   omega
 have HpB:=Lib.hid hpB
 have HoB:=Lib.hid hoB
 have hkeep:∀ (W:World) (n:Nat) (v:Value) (q:Addr),q.block<w1.heap.size→(W.setCell ⟨w1.heap.size,n,none⟩ v).cell? q=W.cell? q:=fun W n v q hq=>((Below.refl _ _).setCell (p:=⟨w1.heap.size,n,none⟩) (Nat.le_refl _) v).cell hq
 have HKeep:=Lib.hid hkeep
 clear hgw hpB hoB hkeep
 generalize hg1:w1.heap.size=g at *
 have Hg1:=Lib.hid hg1
 clear hg1 hown hgr hpl hB1 hB2 hb2
 go_wp2
 go_loopw [28] (fun i wr=>ORel w p cs order g g po i wr) (fun i wr=>order.length-(intOf i).toNat)
 case atStart=>exact⟨0,rfl,by omega,rfl,hA,hO2⟩
 case round =>
  clear hA hO2 hmk
  obtain⟨k,rfl,hk,he,hA,hO2⟩:=hrel
  by_cases hlt:k<order.length
  ·obtain⟨x,hx⟩:∃ x,order[k]? = some x:=⟨_,gEz hlt⟩
   have hst:=xK he x hx
   rw[he] at hst
   obtain⟨bo,oo,rfl⟩:∃ bo oo,po=some ⟨bo,oo,none⟩:=by
    rcases hO with h2 | ⟨b',off',h,_⟩
    ·rw[h2] at hlt;simp at hlt
    ·exact⟨b',off',h⟩
   have cx:=hO2 bo oo rfl k x hx
   unfold iv at cx
   have Hx:=Lib.hid hx
   have HO2:=Lib.hid hO2
   clear hO2 hO he hx
   by_cases hr:x<0∨(cs.length:Int)≤x
   ·rw[if_pos hr] at hst
    have Hst:=Lib.hid hst
    have hres:aQ order cs=(false,3):=by rw[Hag.out,Hst.out];rfl
    have Hres:=Lib.hid hres
    clear hst hres
    by_cases hx0:x<0
    ·clear hr
     go_wp2
     go_returns
     exact⟨kC (by rw[Hres.out]) (by rw[Hres.out]),hA.bl⟩
    ·have hx1:(cs.length:Int)≤x:=by omega
     have hx2:0≤x:=by omega
     clear hr hx0
     go_wp2
     go_returns
     exact⟨kC (by rw[Hres.out]) (by rw[Hres.out]),hA.bl⟩
   ·rw[if_neg hr] at hst
    obtain⟨n,rfl⟩:∃ n:Nat,x=n:=⟨x.toNat,by omega⟩
    have hn:n<cs.length:=by omega
    have cz:=hA.own.cellAt n (by omega)
    rw[rP hn] at cz
    have fz:=hA.own.frozenAt n
    by_cases hm:(n:Int)∈order.take k
    ·rw[if_pos hm] at hst
     have Hst:=Lib.hid hst
     have hz:¬ plc (order.take k) n=0:=fun e=>(pY.1 e) hm
     have hz2:(plc (order.take k) n != 0)=true:=by simpa using hz
     have hres:aQ order cs=(false,9):=by rw[Hag.out,Hst.out];rfl
     have Hres:=Lib.hid hres
     clear hst hr hm hres hz
     go_wp2
     go_returns
     exact⟨kC (by rw[Hres.out]) (by rw[Hres.out]),hA.bl⟩
    ·rw[if_neg hm] at hst
     have hz:plc (order.take k) n=0:=pY.2 hm
     rw[hz] at cz
     have hset:=aFu (n:=cs.length) hm
     have hlen:(order.take k).length=k:=by rw[List.length_take];omega
     rw[hlen] at hset
     have hst2:=hA.own.stored n (.int .i64 ((k:Int)+1))
     rw[hset] at hst2
     have htk:order.take k++[(n:Int)]=order.take (k+1):=by rw[List.take_add_one,Hx.out];rfl
     rw[htk] at hst2
     have hbl:=hA.bl
     have Hst:=Lib.hid hst
     have HA:=Lib.hid hA
     clear hst hr hm hz hset hlen htk hA
     go_wp2
     have hA':AInv w p cs (order.take (k+1)) g g (wr.setCell ⟨g,n,none⟩ (.int .i64 ((k:Int)+1))) :=
      ⟨fun b off e j u hj=>by rw[HKeep.out wr n _ _ (HpB.out b off e)];exact HA.out.row b off e j u hj,hst2.1,hbl.setCell (by simpa using Hgw.out) _⟩
     have hO':∀ b off,some (⟨bo,oo,none⟩:Addr)=some ⟨b,off,none⟩→∀ j u,order[j]? = some u→(wr.setCell ⟨g,n,none⟩ (.int .i64 ((k:Int)+1))).cell? ⟨b,off+j,none⟩=some (iv u) :=
      fun b off e j u hj=>by rw[HKeep.out wr n _ _ (HoB.out b off e hlt)];exact HO2.out b off e j u hj
     exact⟨⟨k+1,by go_num,by omega,Hst.out.symm,hA',hO'⟩,by simp[intOf];omega⟩
  ·have hkk:k=order.length:=by omega
   rw[hkk,List.take_length,List.drop_length] at he
   rw[hkk,List.take_length] at hA
   have hres:aQ order cs=(fV order cs,0):=by rw[Hag.out,if_pos (he.symm.trans (by simp[ordE]))]
   have Hres:=Lib.hid hres
   clear hres he hO2 hkk hk hO
   go_wp2
   refine wp_loop (AgI w p po cap co cs order g) (fun a _=>cs.length-(intOf (a.tmps.getD 54 undef)).toNat) ?_ ?_
   ·exact AgI.intro 0 rfl rfl (by omega) (fun x y hx=>by omega) hA
   ·clear hA
    rintro a wo ⟨i,u,rfl,hi9,hgood,hA⟩
    have Hg:=Lib.hid hgood
    clear hgood
    by_cases hlt:i<cs.length
    ·obtain⟨c,hc⟩:∃ c,cs[i]? = some c:=⟨_,gEz hlt⟩
     obtain⟨b,off,rfl⟩:∃ b off,p=some ⟨b,off,none⟩:=by
      rcases hC with⟨_,_,h⟩ | ⟨b,off,h,_⟩
      ·rw[h] at hlt;simp at hlt
      ·exact⟨b,off,h⟩
     have hcap:cs.length≤cap:=by
      rcases hC with⟨h,_⟩ | ⟨_,_,h,hh,_⟩
      ·cases h
      ·exact hh
     have hld:=(hA.row b off rfl).load hc
     have Hc:=Lib.hid hc
     have hBq:Below wo.heap.size wo (wo.alloc (.cells (aB c).toArray 56)):=(Below.refl _ _).alloc (Nat.le_refl _) _
     have hA2:=hA.on hBq
     have hblk:=bE wo (aB c) 56
     clear hc hA hC
     go_wp2
     refine wp_loop (AgJ w b off po cap co cs order g i wo.heap.size c) (fun a _=>cs.length-(intOf (a.tmps.getD 61 undef)).toNat) ?_ ?_
     ·exact AgJ.intro 0 rfl rfl (by omega) (fun y hy=>by omega) ⟨hblk,hA2⟩
     ·clear hA2 hBq hblk hld
      rintro a wr ⟨j,u,rfl,hj9,hgood,hP⟩
      have Hj:=Lib.hid hgood
      clear hgood
      by_cases hjl:j<cs.length
      ·obtain⟨d,hd⟩:∃ d,cs[j]? = some d:=⟨_,gEz hjl⟩
       have hld:=(hP.inv.row b off rfl).load hd
       have hBq:Below wr.heap.size wr (wr.alloc (.cells (aB d).toArray 56)):=(Below.refl _ _).alloc (Nat.le_refl _) _
       have hblk:=bE wr (aB d) 56
       have hP2:=hP.on hBq
       have hpair:dO order cs i j = !(decide (plc order j≠0) && befB c d && (decide (plc order i=0) || decide (plc order j<plc order i))):=by unfold dO;rw[Hc.out,hd]
       have kx:∀ W,QInv w b off cs order g wo.heap.size c wr.heap.size d W→(aM (.pointer (some ⟨wo.heap.size,0,none⟩))).run Tryz.prog W = .ok (.agg (aB c).toArray) W∧(aM (.pointer (some ⟨wr.heap.size,0,none⟩))).run Tryz.prog W = .ok (.agg (aB d).toArray) W∧W.cell? ⟨g,j,none⟩=some (.int .i64 (plc order j))∧W.cell? ⟨g,i,none⟩=some (.int .i64 (plc order i)):=fun W h =>
        ⟨dD c h.1.blk,dD d h.2,by have:=h.1.inv.own.cellAt j (by omega);rwa [rP hjl] at this,by have:=h.1.inv.own.cellAt i (by omega);rwa [rP hlt] at this⟩
       have Kx:=Lib.hid kx
       have hQ:QInv w b off cs order g wo.heap.size c wr.heap.size d (wr.alloc (.cells (aB d).toArray 56)):=⟨hP2,hblk⟩
       obtain⟨q1,q2,q3,q4⟩:=kx _ hQ
       have bc:=fun W=>pV c d W
       clear kx hd hP2 hBq hblk hP
       generalize hzj:plc order j=zj at *
       generalize hzi:plc order i=zi at *
       generalize hx:befB c d=x at *
       have Hpair:=Lib.hid hpair
       clear hpair hzj hzi hx
       have hcase:((zj != 0)=false∧dO order cs i j=true)∨((zj != 0)=true∧x=false∧dO order cs i j=true)∨((zj != 0)=true∧x=true∧(zi == 0)=true∧dO order cs i j=false)∨((zj != 0)=true∧x=true∧(zi == 0)=false∧decide (zj<zi)=true∧dO order cs i j=false)∨((zj != 0)=true∧x=true∧(zi == 0)=false∧decide (zj<zi)=false∧dO order cs i j=true):=by
        rw[Hpair.out]
        by_cases a:zj=0
        ·simp[a]
        cases x
        ·simp[a]
        by_cases b:zi=0
        ·simp[a,b]
        by_cases d:zj<zi<;>simp[a,b,d]
       rcases hcase with⟨e1,hp⟩ | ⟨e1,rfl,hp⟩ | ⟨e1,rfl,e2,hp⟩ | ⟨e1,rfl,e2,e3,hp⟩ | ⟨e1,rfl,e2,e3,hp⟩
       all_goals
        have Hp:=Lib.hid hp
        clear hp
        go_wp2
        refine aP (S:=fun W=>((aM (.pointer (some ⟨wo.heap.size,0,none⟩))).run Tryz.prog W = .ok (.agg (aB c).toArray) W∧(aM (.pointer (some ⟨wr.heap.size,0,none⟩))).run Tryz.prog W = .ok (.agg (aB d).toArray) W∧W.cell? ⟨g,j,none⟩=some (.int .i64 zj)∧W.cell? ⟨g,i,none⟩=some (.int .i64 zi))∧QInv w b off cs order g wo.heap.size c wr.heap.size d W) ?_ (fun hHeld => ?_)
        ·first | exact⟨Kx.out _ hQ.drew,hQ.drew⟩ | exact⟨Kx.out _ (hQ.drew.on hbc),hQ.drew.on hbc⟩
        iterate 8 ((first | refine aJ ?_ | refine np_q ?_ | refine aL 0 ?_);(try simp only[nSO]))
        first | (refine np_s 8 ?_;(try simp only[nSO])) | (refine np_c 8 (fun K hK => ?_);go_simp;((go_at_call 106;refine (bc _).mono ?_;rintro e w1 ⟨rfl,hbc⟩));(try go_wp2_with fail);refine hK.out _ _ ?_ (fun hHeld => ?_);(· (first | exact⟨Kx.out _ hQ.drew,hQ.drew⟩ | exact⟨Kx.out _ (hQ.drew.on hbc),hQ.drew.on hbc⟩));clear hK K;(try simp only[nSO]))
        iterate 19 ((first | refine aJ ?_ | refine np_q ?_);(try simp only[nSO]))
        refine np_z ?_
        first | have hQ5:=hQ.drew.on hbc | have hQ5:=hQ.drew
        first
        |have _:_=true:=Hp.out
         have hP5:=hQ5.1
         clear hQ q1 q2 q3 q4
         go_wp2
         exact⟨AgJ.intro (j+1) rfl rfl (by omega) (aA2 Hj.out Hp.out) hP5,by simp[intOf];omega⟩
        |skip
         have hbl:=hQ5.1.inv.bl
         have hno:=aA1 hlt hjl Hp.out
         have Hno:=Lib.hid hno
         clear hQ q1 q2 q3 q4 hno
         go_wp2
         go_returns
         exact⟨kC (by rw[Hres.out,Hno.out]) (by rw[Hres.out]),hbl⟩
      ·have hjj:j=cs.length:=by omega
       subst hjj
       go_wp2
       refine⟨AgI.intro (i+1) rfl rfl (by omega) (fun x y hx hy => ?_) hP.inv,by simp[intOf];omega⟩
       by_cases e:x=i
       ·rw[e];exact Hj.out y hy
       ·exact Hg.out x y (by omega) hy
    ·have hkk:i=cs.length:=by omega
     have hyes:fV order cs=true:=xL (fun x y hx hy=>Hg.out x y (by omega) hy)
     have Hyes:=Lib.hid hyes
     clear hyes
     go_wp2
     go_returns
     exact⟨kC (by rw[Hres.out,Hyes.out]) (by rw[Hres.out]),hA.bl⟩
theorem aDt (p po:Option Addr) (cap co:Nat) (cs:List aA) (order:List Int) (w:World) (hC:CRow w p cap cs) (hs:cs.length≤1000000) (hok:∀ c∈cs,c.Ok) (h0:(bF cs).2=22) :
  Calls Tryz.prog 55 #[.slice po order.length co,.slice p cs.length cap] w fun e w'=>e = .returned (.tuple #[.bool (aQ order cs).1,.int .i64 (aQ order cs).2])∧Below w.heap.size w w':=by
 have ck:=rO p cap cs w hC hs hok
 obtain⟨k1,hk1⟩:∃ k1,(bF cs).1=k1:=⟨_,rfl⟩
 rw[hk1,h0] at ck
 have hres:aQ order cs=(false,22):=by unfold aQ;rw[if_neg (by rw[h0];decide)]
 rw[hres]
 clear h0 hk1 hres
 go_enter Tryz.func55,Tryz.ntmps55
 go_wp2_with fail
 refine ck.mono ?_
 clear ck
 rintro e w1 ⟨rfl,hB1⟩
 go_wp2
 go_returns
 exact⟨rfl,hB1⟩
theorem aDu (p po:Option Addr) (cap co:Nat) (cs:List aA) (order:List Int) (w:World) (hC:CRow w p cap cs) (hO:IRd w po order) (hs:cs.length≤1000000) (hs2:order.length≤1000000) (hok:∀ c∈cs,c.Ok) :
  Calls Tryz.prog 55 #[.slice po order.length co,.slice p cs.length cap] w fun e w'=>e = .returned (.tuple #[.bool (aQ order cs).1,.int .i64 (aQ order cs).2])∧Below w.heap.size w w':=by
 rcases nL cs with h0 | h22
 ·exact aHp p po cap co cs order w hC hO hs hs2 hok h0
 ·exact aDt p po cap co cs order w hC hs hok h22
end Go.Proofs.YtdeiocppghhfdaaGreat.Hs
namespace Go.Proofs.YtdeiocppghhfdaaGreat.Hs
open Go.RowKit Go.Lib Go.Shelf
open KitI (own_below)
attribute [local go_sem, local simp] dP
attribute [local go_sem ↓] aN aR
attribute [local go_sem] bX bB aX bH cK
def bO (ps:List dZ):List Value:=ps.flatMap gL
theorem jH (p:dZ):(gL p).length=3:=rfl
theorem jT (ps:List dZ):(bO ps).length=ps.length*3:=by
 induction ps with
 |nil=>rfl
 |cons p ps ih=>show (gL p++bO ps).length=_;rw[List.length_append,ih,jH,List.length_cons];omega
theorem sH:(Tryz.prog.info? 94).map (fun i=>(i.zero,i.size,i.bytes))=some (some (.agg #[.int .u8 0,.int .i64 0,.string ⟨#[]⟩]),3,32):=by kernel_rfl
theorem aQf:(Tryz.prog.info? 56).map (fun i=>(i.zero,i.size,i.bytes))=some (some (.agg #[.int .i64 0,.int .i64 0,.int .u8 0,.int .i64 0,.int .i64 0,.int .i64 0,.int .u32 0,.int .u8 0,.string ⟨#[]⟩,.int .i64 0,.int .i64 0,.int .i64 0,.int .i64 0,.int .i64 0,.int .i64 0,.int .i64 0,.int .i64 0,.int .i64 0,.int .u8 0,.string ⟨#[]⟩,.int .i64 0,.int .i64 0,.int .i64 0,.int .u8 0,.int .i64 0,.int .i64 0,.slice none 0 0]),27,240):=by kernel_rfl
def DAt (w:World) (c:aA):Prop:=c.ps.length≤1000000∧((c.da=none∧c.ps=[]∧c.dc=0)∨∃ b off,c.da=some ⟨b,off,none⟩∧b<w.heap.size∧∀ j u,(bO c.ps)[j]? = some u→w.cell? ⟨b,off+j,none⟩=some u)
theorem DAt.on {w w':World} {c:aA} (h:DAt w c) (hb:Below w.heap.size w w'):DAt w' c:=by
 rcases h with⟨h0,h | ⟨b,off,h1,h2,h3⟩⟩
 ·exact⟨h0,.inl h⟩
 ·exact⟨h0,.inr ⟨b,off,h1,Nat.lt_of_lt_of_le h2 hb.size,fun j u hj=>by rw[hb.cell (p:=⟨b,off+j,none⟩) h2];exact h3 j u hj⟩⟩
def DOwn (w W:World) (c:aA):Prop:=c.ps.length≤1000000∧((c.da=none∧c.ps=[]∧c.dc=0)∨∃ (g:Nat) (cur:Array Value),c.da=some ⟨g,0,none⟩∧w.heap.size≤g∧W.heap[g]? = some (.cells cur 94 (0,0))∧∀ (j:Nat) (u:Value),(bO c.ps)[j]? = some u→cur[j]? = some u)
theorem DOwn.at {w W:World} {c:aA} (h:DOwn w W c):DAt W c:=by
 rcases h with⟨h0,h | ⟨g,cur,h1,h2,h3,h4⟩⟩
 ·exact⟨h0,.inl h⟩
 ·exact⟨h0,.inr ⟨g,0,h1,(gAz h3).1,fun j u hj=>by rw[Nat.zero_add,cell_of_row _ _ _ _ _ _ h3];exact h4 j u hj⟩⟩
theorem DOwn.on {w W W':World} {c:aA} (h:DOwn w W c) (hb:Below W.heap.size W W'):DOwn w W' c:=by
 rcases h with⟨h0,h | ⟨g,cur,h1,h2,h3,h4⟩⟩
 ·exact⟨h0,.inl h⟩
 ·exact⟨h0,.inr ⟨g,cur,h1,h2,(hb.block _ (gAz h3).1).trans h3,h4⟩⟩
theorem DOwn.grown {w W W':World} {c:aA} {base n:Nat} {v:Value} {xs:List Value} (h:DOwn w W c) (hrow:W.ownsRow base 56 27 v n xs) (hg:W.grownBy W' v.ownBlock):DOwn w W' c:=by
 rcases h with⟨h0,h | ⟨g,cur,h1,h2,h3,h4⟩⟩
 ·exact⟨h0,.inl h⟩
 ·refine⟨h0,.inr ⟨g,cur,h1,h2,(hg.block g (gAz h3).1 (fun e => ?_)).trans h3,h4⟩⟩
  rcases hrow.2 with⟨h5,_⟩ | ⟨g',cap,cur',h5,_,h6,_⟩
  ·rw[h5] at e;cases e
  ·rw[h5] at e
   cases e
   rw[h6] at h3
   cases h3
theorem aJr (c:aA) (a:Option Addr) (n:Nat):(aB c).toArray.setIfInBounds 26 (.slice a c.ps.length n)=(aB { c with da:=a,dc:=n }).toArray:=rfl
theorem aQr {W:World} {g:Nat} {cur:Array Value} (hsz:cur.size=27) (h:W.heap[g]? = some (.cells cur 56 (0,0))) (c:aA):(storeCells ⟨g,0,none⟩ (aB c)).run Tryz.prog W = .ok () (W.setRow g (aB c).toArray):=by
 have h:=run_storeCells_at (P := Tryz.prog) g 0 56 (aB c) 0 cur W h (by rw[dM];omega) (fun v hv=>by have:=pU c;rw[Array.all_eq_true'] at this;exact this v (by simpa using hv))
 rw[h]
 congr 2
 rw[dM,List.drop_eq_nil_of_le (by simp[hsz])]
 simp
theorem bM {B g:Nat} {w0 w:World} (hb:Below B w0 w) (hBg:B≤g) (cs:Array Value):Below B w0 (w.setRow g cs) :=
 ⟨hb.os,hb.tape,hb.output,by rw[setRow_size];exact hb.size,fun k hk=>(setRow_other w g k cs (by omega)).trans (hb.block k hk)⟩
theorem sI (cs:List aA) (c:aA):fF (cs++[c])=fF cs++aB c:=by unfold fF;simp
theorem aJs (c:aA) (x:Int):(aB c).set 10 (.int .i64 x)=aB { c with took:=x }:=rfl
theorem aJt (c:aA) (x:Int):(aB c).set 11 (.int .i64 x)=aB { c with rank:=x }:=rfl
theorem aJu (c:aA) (x:Int):(aB c).set 12 (.int .i64 x)=aB { c with answered:=x }:=rfl
theorem aJv (c:aA) (x:Int):(aB c).set 14 (.int .i64 x)=aB { c with err:=x }:=rfl
theorem aJw (c:aA) (x:Int):(aB c).set 15 (.int .i64 x)=aB { c with rev:=x }:=rfl
theorem aJx (c:aA) (x:Int):(aB c).set 16 (.int .i64 x)=aB { c with rslot:=x }:=rfl
theorem aJy (c:aA) (x:Int):(aB c).set 17 (.int .i64 x)=aB { c with rat:=x }:=rfl
theorem aJz (c:aA) (x:Int):(aB c).set 18 (.int .u8 x)=aB { c with rgrav:=x }:=rfl
theorem aJ0 (c:aA) (x:ByteArray):(aB c).set 19 (.string x)=aB { c with rtext:=x }:=rfl
theorem aJ1 (c:aA) (x:Int):(aB c).set 20 (.int .i64 x)=aB { c with mb:=x }:=rfl
theorem aJ2 (c:aA) (x:Int):(aB c).set 21 (.int .i64 x)=aB { c with mr:=x }:=rfl
theorem aJ3 (c:aA) (x:Int):(aB c).set 22 (.int .i64 x)=aB { c with ml:=x }:=rfl
theorem aJ4 (c:aA) (x:Int):(aB c).set 23 (.int .u8 x)=aB { c with ik:=x }:=rfl
theorem aJ5 (c:aA) (x:Int):(aB c).set 24 (.int .i64 x)=aB { c with ifrom:=x }:=rfl
theorem aJ6 (c:aA) (x:Int):(aB c).set 25 (.int .i64 x)=aB { c with ito:=x }:=rfl
theorem aJ7 (c:aA):(aB c).set 26 (.slice none 0 0)=aB { c with ps:=[],da:=none,dc:=0 }:=rfl
theorem aJ8 (c:aA) (x:Int):(aB c).set 13 (.int .i64 x)=aB { c with steps:=x }:=rfl
theorem DOwn.mono {w v W:World} {c:aA} (h:DOwn v W c) (hs:w.heap.size≤v.heap.size):DOwn w W c:=by
 rcases h with⟨h0,h | ⟨g,cur,h1,h2,h3,h4⟩⟩
 ·exact⟨h0,.inl h⟩
 ·exact⟨h0,.inr ⟨g,cur,h1,by omega,h3,h4⟩⟩
theorem gM (c:aA):List.foldl (fun (cs:Array Value) (x:Value × Nat)=>cs.setIfInBounds x.snd x.fst) #[.int .i64 0,.int .i64 0,.int .u8 0,.int .i64 0,.int .i64 0,.int .i64 0,.int .u32 0,.int .u8 0,.string ⟨#[]⟩,.int .i64 0,.int .i64 0,.int .i64 0,.int .i64 0,.int .i64 0,.int .i64 0,.int .i64 0,.int .i64 0,.int .i64 0,.int .u8 0,.string ⟨#[]⟩,.int .i64 0,.int .i64 0,.int .i64 0,.int .u8 0,.int .i64 0,.int .i64 0,.slice none 0 0] (aB c).zipIdx=(aB c).toArray:=by kernel_rfl
theorem xM (c:aA):∀ u∈aB c,u.oneCell'=true:=by have:=pU c;rw[Array.all_eq_true'] at this;intro v hv;exact this v (by simpa using hv)
def ORow (w:World) (base:Nat) (W:World) (v:Value) (L:List aA):Prop:=∃ cs:List aA,cs.map aA.pure=L∧W.ownsRow base 56 27 v cs.length (fF cs)∧∀ c∈cs,DOwn w W c
theorem ORow.nil (w:World) (base:Nat) (W:World):ORow w base W (.slice none 0 0) []:=⟨[],rfl,World.ownsRow_nil _ _ _ _,fun c h=>by cases h⟩
theorem ORow.on {w:World} {base:Nat} {W W':World} {v:Value} {L:List aA} (h:ORow w base W v L) (hb:Below W.heap.size W W'):ORow w base W' v L:=by
 obtain⟨cs,h1,h2,h3⟩:=h
 exact⟨cs,h1,own_below h2 hb,fun c hc=>(h3 c hc).on hb⟩
theorem ORow.len {w:World} {base:Nat} {W:World} {v:Value} {L:List aA} (h:ORow w base W v L):∃ p cap,v = .slice p L.length cap:=by
 obtain⟨cs,h1,h2,h3⟩:=h
 have hl:L.length=cs.length:=by rw[← h1];simp
 rw[hl]
 rcases h2.2 with⟨h4,h5⟩ | ⟨g,cap,cur,h4,_⟩
 ·exact⟨none,0,by rw[h5];exact h4⟩
 ·exact⟨_,_,h4⟩
attribute [local go_sem, local simp] gM aJs aJt aJu aJ8 aJv aJw aJx aJy aJz aJ0 aJ1 aJ2 aJ3 aJ4 aJ5 aJ6 aJ7
end Go.Proofs.YtdeiocppghhfdaaGreat.Hs
namespace Go.Proofs.YtdeiocppghhfdaaGreat.Hs
open Go.RowKit Go.Lib Go.Shelf
open KitI (own_below)
attribute [local go_sem] Oper.semAt_some
attribute [local go_sem, local simp] dP
attribute [local go_sem ↓] aN aR
attribute [local go_sem] bX bB aX bH cK
attribute [local go_sem, local simp] gM
theorem aJ9 {w:World} {base base':Nat} {e:TypeId} {size:Nat} {v:Value} {n:Nat} {xs:List Value} (h:w.ownsRow base e size v n xs) (hb:base'≤base):w.ownsRow base' e size v n xs:=by
 refine⟨h.1,?_⟩
 rcases h.2 with h | ⟨g,cap,cur,h1,h2,h3⟩
 ·exact .inl h
 ·exact .inr ⟨g,cap,cur,h1,Nat.le_trans hb h2,h3⟩
theorem DOwn.set {w W:World} {c:aA} {B:Nat} {t:TypeId} {v v':Value} (h:DOwn w W c) (hb:Boxed W B t v) (ht:t≠94):DOwn w (W.setCell ⟨B,0,none⟩ v') c:=by
 rcases h with⟨h0,h | ⟨g,cur,h1,h2,h3,h4⟩⟩
 ·exact⟨h0,.inl h⟩
 ·refine⟨h0,.inr ⟨g,cur,h1,h2,(Below.heap_setCell _ _ _ _ (fun e => ?_)).trans h3,h4⟩⟩
  have e:g=B:=e
  subst e
  unfold Boxed at hb
  rw[h3] at hb
  cases hb
  exact ht rfl
end Go.Proofs.YtdeiocppghhfdaaGreat.Hs
namespace Go.Proofs.YtdeiocppghhfdaaGreat.Hs
open Go.RowKit Go.Lib Go.Shelf
open KitI (iv IRow own_below kH)
attribute [local go_sem, local simp] dP
attribute [local go_sem ↓] aN aR
attribute [local go_sem] bX bB aX bH cK
def zeroV:aA:={ thread:=0,index:=0,okind:=0,oslot:=0,oat:=0,on:=0,oid:=0,ograv:=0,otext:=⟨#[]⟩,invoked:=0,took:=0,rank:=0,answered:=0,steps:=0,err:=0,rev:=0,rslot:=0,rat:=0,rgrav:=0,rtext:=⟨#[]⟩,mb:=0,mr:=0,ml:=0,ik:=0,ifrom:=0,ito:=0,ps:=[],da:=none,dc:=0 }
def ex0:aA:={ zeroV with took:=5,answered:=7,steps:=3 }
def ex1:aA:={ zeroV with thread:=1,invoked:=1,took:=5,rank:=1,answered:=9,steps:=4 }
def ex2:aA:={ zeroV with index:=1,invoked:=8,took := -1,answered := -1 }
end Go.Proofs.YtdeiocppghhfdaaGreat.Hs
namespace Go.Proofs.YtdeiocppghhfdaaGreat.Hs
open Go.RowKit Go.Lib Go.Shelf
open KitI (iv IRow own_below kH zA)
attribute [local go_sem, local simp] dP
attribute [local go_sem ↓] aN aR
attribute [local go_sem] bX bB aX bH cK
theorem eqiT (W:World) (va vb:Value) (zs:List Int) (ha:IRow W va zs) (hb:IRow W vb zs) (hs:zs.length≤1000000):Calls Tryz.prog 24 #[va,vb] W fun e w'=>e = .returned (.bool true)∧Below W.heap.size W w':=by
 have h:=zA W va vb zs zs ha hb hs hs
 rwa [decide_eq_true rfl] at h
theorem eG (W:World) (o:Obj):Below W.heap.size W (W.alloc o):=(Below.refl _ _).alloc (Nat.le_refl _) _
attribute [local irreducible] aB ex0 ex1 ex2
end Go.Proofs.YtdeiocppghhfdaaGreat.Hs
namespace Go.Proofs.YtdeiocppghhfdaaGreat.Hs
open Go.RowKit Go.Lib Go.Shelf
attribute [local go_sem, local simp] dP
attribute [local go_sem ↓] aN aR
attribute [local go_sem] bX bB aX bH cK
structure PrI (w:World) (c d:aA) (W:World):Prop where
 b1:iI W w.heap.size c
 b2:iI W (w.heap.size+1) d
 bl:Below w.heap.size w W
theorem PrI.on {w:World} {c d:aA} {W W':World} (h:PrI w c d W) (hb:Below W.heap.size W W'):PrI w c d W' :=
 ⟨aU h.b1 hb (gAz h.b1).1,aU h.b2 hb (gAz h.b2).1,h.bl.trans (hb.mono h.bl.size)⟩
theorem PrI.start (w:World) (c d:aA):PrI w c d ((w.alloc (.cells (aB c).toArray 56)).alloc (.cells (aB d).toArray 56)) :=
 ⟨aZ (bE w _ _) _,by have:=bE (w.alloc (.cells (aB c).toArray 56)) (aB d) 56;rwa [World.size_alloc] at this,((Below.refl _ _).alloc (Nat.le_refl _) _).alloc (by simp) _⟩
end Go.Proofs.YtdeiocppghhfdaaGreat.Hs
namespace Go.Proofs.YtdeiocppghhfdaaGreat.Hs
open Go.RowKit Go.Lib Go.Shelf
open KitI (own_below)
theorem zB (ps:List dZ) (k:Nat) (p:dZ) (h:ps[k]? = some p):bO (ps.take (k+1))=bO (ps.take k)++gL p:=by
 rw[List.take_add_one,h]
 unfold bO
 simp
theorem sJ (ps:List dZ) (k j:Nat) (p:dZ) (h:ps[k]? = some p) (hj:j<3):(bO ps)[k*3+j]? = (gL p)[j]? := by
 have e:ps=ps.take k++(p::ps.drop (k+1)):=by
  have hlt:=(gLz h).1
  have h2:=(gLz h).2
  rw[← h2,← List.drop_eq_getElem_cons hlt,List.take_append_drop]
 have hlt:=(gLz h).1
 have e2:bO ps=bO (ps.take k)++(gL p++bO (ps.drop (k+1))):=by
  conv=>lhs;rw[e]
  unfold bO
  simp
 rw[e2,List.getElem?_append_right (by rw[jT,List.length_take];omega),jT,List.length_take,Nat.min_eq_left (by omega),Nat.add_sub_cancel_left,List.getElem?_append_left (by rw[jH];omega)]
theorem aA3 (p:dZ):∀ u∈gL p,u.oneCell'=true:=by
 intro u hu
 unfold gL at hu
 simp only[List.mem_cons,List.not_mem_nil,or_false] at hu
 rcases hu with rfl | rfl | rfl<;>rfl
theorem aW (W:World) (L:List Value) (T:TypeId):∀ (j:Nat) (u:Value),L[j]? = some u→(W.alloc (.cells L.toArray T)).cell? ((⟨W.heap.size,0,none⟩:Addr).add j)=some u:=by
 intro j u h
 have h2:=aD (bE W L T) j
 rw[Addr.add_mid,Nat.zero_add,h2,h]
def aR2 (w:World) (ps:List dZ) (o i:Value) (wr:World):Prop :=
 ∃ k:Nat,i = .int .i64 k∧k≤ps.length∧wr.ownsRow w.heap.size 94 3 o k (bO (ps.take k))∧Below w.heap.size w wr
theorem aDv (b off cap:Nat) (ps:List dZ) (w:World) (hb:b<w.heap.size) (hs:ps.length≤1000000) (h:∀ j u,(bO ps)[j]? = some u→w.cell? ⟨b,off+j,none⟩=some u) :
  Calls Tryz.prog 116 #[.slice (some ⟨b,off,none⟩) ps.length cap] w fun e w'=>∃ v,e = .returned v∧w'.ownsRow w.heap.size 94 3 v ps.length (bO ps)∧Below w.heap.size w w':=by
 obtain⟨i0,hi,hz0,hz1,hz2⟩:=info_parts sH
 have H:=Lib.hid h
 clear h
 go_enter Tryz.func116,Tryz.ntmps116
 go_wp2
 go_loopw [3,4] (fun o i wr=>aR2 w ps o i wr) (fun o i wr=>ps.length-(intOf i).toNat)
 case atStart=>exact⟨0,rfl,by omega,World.ownsRow_nil _ _ _ _,Below.refl _ _⟩
 case round =>
  obtain⟨k,rfl,hk,hown,hB⟩:=hrel
  by_cases hlt:k<ps.length
  ·obtain⟨p,hp⟩:∃ p,ps[k]? = some p:=⟨_,gEz hlt⟩
   have ce:∀ j u,j<3→(gL p)[j]? = some u→wr.cell? ⟨b,off+k*3+j,none⟩=some u:=fun j u hj hu=>by
    rw[hB.cell (p:=⟨b,off+k*3+j,none⟩) hb,Nat.add_assoc]
    exact H.out (k*3+j) u (by rw[sJ ps k j p hp hj];exact hu)
   have d0:wr.cell? ⟨b,off+k*3,none⟩=some (.int .u8 p.kind):=ce 0 _ (by omega) rfl
   have d1:=ce 1 _ (by omega) rfl
   have d2:=ce 2 _ (by omega) rfl
   have hst:=zB ps k p hp
   have Hst:=Lib.hid hst
   clear ce hst hp
   go_wp2_with (at_builtin;refine wpList_append_own _ rfl _ _ 47 rfl w.heap.size 94 i0 _ 3 32 Tryz.underlying47 hi hz0 hz1 hz2 rfl (by decide) _ _ _ rfl (hown.alloc _) ⟨_,0,none⟩ 1 1 (gL p) rfl rfl (aW _ _ _) (aA3 p) (by unfold maxLen;omega) (by omega) (by have:=hB.size;simp;omega) ?_;intro v' w3 hown' hgrow _)
   have hB3:=(hB.alloc hB.size (.cells (gL p).toArray 94)).grown hgrow (by have:=hB.size;simp at *;omega) fun k hk=>(hown.lt k hk).1
   go_roundw
   case rel=>exact⟨k+1,by go_num,by omega,by rw[Hst.out];exact hown',hB3⟩
   case measure=>simp[intOf];omega
  ·go_wp2
   go_returns
   have hkk:k=ps.length:=by omega
   subst hkk
   rw[List.take_length] at hown
   exact⟨_,rfl,hown,hB⟩
end Go.Proofs.YtdeiocppghhfdaaGreat.Hs
