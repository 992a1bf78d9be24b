/- Texts, one behind another. -/
import Derived.Test.YtdeiocppghhfdaaGreatZfay
import Derived.Lib.AppendStr
import Derived.Laws.BytesString
set_option linter.unusedVariables false
set_option linter.unusedSimpArgs false
set_option maxRecDepth 100000
set_option maxHeartbeats 40000000
namespace Go.Proofs.YtdeiocppghhfdaaGreat
open Go.RowKit Go.Lib Go.Shelf
def u8V (x:Int):Value := .int .u8 x
abbrev KOwn (W:World) (B:Nat) (v:Value) (L:List Int):Prop:=W.ownsRow B 5 1 v L.length (L.map u8V)
structure KK (B:Nat) (w w':World):Prop where
 os:w'.os=w.os
 tape:w'.tape=w.tape
 output:w'.output=w.output
 size:w.heap.size≤w'.heap.size
 low:∀ k,k<w.heap.size→k<B→w'.heap[k]? = w.heap[k]?
 typ:∀ (k:Nat) (cs:Array Value) (T:TypeId),w.heap[k]? = some (.cells cs T (0,0))→T≠5→w'.heap[k]? = some (.cells cs T (0,0))
theorem KK.refl (B:Nat) (w:World):KK B w w:=⟨rfl,rfl,rfl,Nat.le_refl _,fun _ _ _=>rfl,fun _ _ _ h _=>h⟩
theorem KK.trans {B:Nat} {a b c:World} (h:KK B a b) (k:KK B b c):KK B a c :=
 ⟨k.os.trans h.os,k.tape.trans h.tape,k.output.trans h.output,Nat.le_trans h.size k.size,fun i hi hB=>(k.low i (Nat.lt_of_lt_of_le hi h.size) hB).trans (h.low i hi hB),fun i cs T hi hT=>k.typ i cs T (h.typ i cs T hi hT) hT⟩
theorem KK.of_below {B:Nat} {w w':World} (h:Below w.heap.size w w'):KK B w w':=⟨h.os,h.tape,h.output,h.size,fun k hk _=>h.block k hk,fun k cs T hk _=>(h.block k (gAz hk).1).trans hk⟩
theorem KK.below {B:Nat} {w w':World} (h:KK B w w') (hB:B≤w.heap.size):Below B w w':=⟨h.os,h.tape,h.output,h.size,fun k hk=>h.low k (by omega) hk⟩
theorem KK.drew {B:Nat} {w w':World} (h:KK B w w'):KK B w w'.drew:=⟨h.os,h.tape,h.output,h.size,h.low,h.typ⟩
theorem KK.grown {B n:Nat} {w w':World} {v:Value} {xs:List Value} (h:w.grownBy w' v.ownBlock) (ho:w.ownsRow B 5 1 v n xs):KK B w w':=by
 have hty:∀ k,v.ownBlock=some k→B≤k∧∃ cs,w.heap[k]? = some (.cells cs 5 (0,0)):=fun k hk=>by
  rcases ho.2 with⟨e1,_⟩ | ⟨g,cap,cur,e1,hB,hg,_⟩
  ·rw[e1] at hk;cases hk
  ·rw[e1] at hk;injection hk with hk;subst hk;exact⟨hB,_,hg⟩
 refine⟨h.os,h.tape,h.output,h.size,fun k hk hB=>h.block k hk fun e => ?_,fun k cs T hk hT=>(h.block k (gAz hk).1 fun e => ?_).trans hk⟩
 ·have:=(hty k e.symm).1;omega
 ·obtain⟨_,cs',h2⟩:=hty k e.symm
  rw[hk] at h2;injection h2 with h2;injection h2 with _ h3 _;exact hT h3
theorem rV {W W':World} {B B' s n:Nat} {e:TypeId} {v:Value} {xs:List Value} (h:W.ownsRow B' e s v n xs) (hk:KK B W W') (he:e≠5):W'.ownsRow B' e s v n xs:=by
 refine⟨h.1,?_⟩
 rcases h.2 with hn | ⟨g,cap,cur,rfl,hB,hg,rest⟩
 ·exact .inl hn
 ·exact .inr ⟨g,cap,cur,rfl,hB,hk.typ g _ _ hg he,rest⟩
theorem MdAt.kk {W W':World} {b B:Nat} {M:MM} (h:MdAt W b M) (hk:KK B W W'):MdAt W' b M :=
 ⟨hk.typ _ _ _ h.blk (by decide),rV h.marks hk (by decide),rV h.seats hk (by decide),fun S hS=>rV (h.slots S hS) hk (by decide),fun S hS x hx=>rV (h.smarks S hS x hx) hk (by decide),h.some_,h.nodup⟩
theorem aEt:(Tryz.prog.info? 5).map (fun i=>(i.zero,i.size,i.bytes))=some (some (.int .u8 0),1,1):=by kernel_rfl
def nbB (v:Int) (i:Nat):Int:=IntKind.u64.wrap v / 2 ^ (8*i) % 256
def numL (v:Int):List Int:=(List.range 8).map (nbB v)
theorem dC (v:Int):(numL v).length=8:=by simp[numL]
theorem aIn (v:Int) (k:Nat) (hk:k<8):(numL v).take (k+1)=(numL v).take k++[nbB v k]:=by
 rw[List.take_add_one]
 unfold numL
 rw[List.getElem?_map,List.getElem?_range hk];rfl
theorem KOwn.snoc {W:World} {B:Nat} {v:Value} {L X:List Int} (h:W.ownsRow B 5 1 v (L.length+X.length) (L.map u8V++X.map u8V)):KOwn W B v (L++X):=by
 show W.ownsRow B 5 1 v (L++X).length ((L++X).map u8V)
 rw[List.length_append,List.map_append];exact h
def aLs (B:Nat) (w:World) (L:List Int) (e:Ending) (w':World):Prop:=∃ v,e = .returned v∧KOwn w' B v L∧KK B w w'
theorem gG (B:Nat) (v:Value) (L:List Int) (n:Int) (w:World) (ho:KOwn w B v L) (hB:B≤w.heap.size) (hl:L.length≤1000000000):Calls Tryz.prog 118 #[v,.int .i64 n] w (aLs B w (L++numL n)):=by
 obtain⟨i0,hi,hz0,hz1,hz2⟩:=info_parts aEt
 go_enter Tryz.func118,Tryz.ntmps118
 go_wp2
 go_loopw [0,5,6,7,8,9,10,11,12,13,14,15,16,17,18] (fun x0 i x6 x7 x8 x9 x10 x11 x12 x13 x14 x15 x16 x17 x18 wr=>∃ k:Nat,i = .int .i64 k∧k≤8∧KOwn wr B x0 (L++(numL n).take k)∧KK B w wr) (fun x0 i x6 x7 x8 x9 x10 x11 x12 x13 x14 x15 x16 x17 x18 wr=>8-(intOf i).toNat)
 case atStart=>exact⟨0,rfl,by omega,by simpa using ho,KK.refl _ _⟩
 case round =>
  obtain⟨k,rfl,hk,hown,hK⟩:=hrel
  have hln:(L++(numL n).take k).length≤1000000008:=by rw[List.length_append,List.length_take,dC];omega
  by_cases hlt:k<8
  ·have Hln:=Lib.hid hln
   have hbs:=Nat.le_trans hB hK.size
   go_wp2_with (at_builtin;refine wpList_append_own _ rfl _ _ 163 rfl B 5 i0 (.int .u8 0) 1 1 Tryz.underlying163 hi hz0 hz1 hz2 rfl (by decide) _ _ _ rfl (hown.alloc _) ⟨_,0,none⟩ 1 1 [u8V (nbB n k)] rfl rfl (cell_one_new _ _ _) (by simp[u8V,Value.oneCell']) (by have:=Hln.out;unfold maxLen;omega) (by have:=Hln.out;omega) (by simp;omega) ?_;intro v' w3 hown' hgrow _)
   have hK3:KK B w w3:=(hK.trans (KK.of_below ((Below.refl _ _).alloc (Nat.le_refl _) _))).trans (KK.grown hgrow (hown.alloc _))
   go_roundw
   case rel=>exact⟨k+1,by go_num,by omega,by rw[aIn n k hlt,← List.append_assoc];exact KOwn.snoc hown',hK3⟩
   case measure=>simp[intOf];omega
  ·obtain rfl:k=8:=by omega
   go_wp2
   go_returns
   exact⟨_,rfl,by have:=hown;rwa [List.take_of_length_le (by rw[dC];exact Nat.le_refl _)] at this,hK⟩
theorem aAd (B:Nat) (v:Value) (L:List Int) (x:Bool) (w:World) (ho:KOwn w B v L) (hB:B≤w.heap.size) (hl:L.length≤1000000000):Calls Tryz.prog 119 #[v,.bool x] w (aLs B w (L++[if x then 1 else 0])):=by
 obtain⟨i0,hi,hz0,hz1,hz2⟩:=info_parts aEt
 cases x
 ·go_enter Tryz.func119,Tryz.ntmps119
  go_wp2_with (at_builtin;refine wpList_append_own _ rfl _ _ 163 rfl B 5 i0 (.int .u8 0) 1 1 Tryz.underlying163 hi hz0 hz1 hz2 rfl (by decide) _ _ _ rfl (ho.alloc _) ⟨_,0,none⟩ 1 1 [u8V 0] rfl rfl (cell_one_new _ _ _) (by simp[u8V,Value.oneCell']) (by unfold maxLen;omega) (by omega) (by simp;omega) ?_;intro v' w3 hown' hgrow _)
  have hK3:KK B w w3:=(KK.of_below ((Below.refl _ _).alloc (Nat.le_refl _) _)).trans (KK.grown hgrow (ho.alloc _))
  go_returns
  exact⟨_,rfl,KOwn.snoc (X:=[0]) hown',hK3⟩
 ·go_enter Tryz.func119,Tryz.ntmps119
  go_wp2_with (at_builtin;refine wpList_append_own _ rfl _ _ 163 rfl B 5 i0 (.int .u8 0) 1 1 Tryz.underlying163 hi hz0 hz1 hz2 rfl (by decide) _ _ _ rfl (ho.alloc _) ⟨_,0,none⟩ 1 1 [u8V 1] rfl rfl (cell_one_new _ _ _) (by simp[u8V,Value.oneCell']) (by unfold maxLen;omega) (by omega) (by simp;omega) ?_;intro v' w3 hown' hgrow _)
  have hK3:KK B w w3:=(KK.of_below ((Below.refl _ _).alloc (Nat.le_refl _) _)).trans (KK.grown hgrow (ho.alloc _))
  go_returns
  exact⟨_,rfl,KOwn.snoc (X:=[1]) hown',hK3⟩
attribute [local go_sem, local simp] resF bD bS
theorem aEu {W:World} {a:Option Addr} {l:List MkV} (h:MRow W a l) {k:Nat} {m:MkV} (hk:l[k]? = some m):∃ b off,a=some ⟨b,off,none⟩∧W.cell? ⟨b,off+k*3,none⟩=some (.int .u32 m.id)∧W.cell? ⟨b,off+k*3+1,none⟩=some (.int .i64 m.at_)∧W.cell? ⟨b,off+k*3+2,none⟩=some (.int .u8 m.grav):=by
 rcases h with⟨_,rfl⟩ | ⟨b,off,h1,h2,h3⟩
 ·simp at hk
 ·refine⟨b,off,h1,?_,?_,?_⟩
  ·have:=h3 k m hk 0 _ rfl;simpa using this
  ·have:=h3 k m hk 1 _ rfl;rw[Nat.add_assoc];exact this
  ·have:=h3 k m hk 2 _ rfl;rw[Nat.add_assoc];exact this
end Go.Proofs.YtdeiocppghhfdaaGreat
namespace Go.Proofs.YtdeiocppghhfdaaGreat
open Go.RowKit Go.Lib Go.Shelf
def bL (s:ByteArray):List Int:=s.data.toList.map fun b=>(b.toNat:Int)
theorem rW (s:ByteArray):(bL s).length=s.size:=by unfold bL;rw[List.length_map];exact bsz s
theorem aLt (s:ByteArray):(bL s).map u8V=strCells s:=by unfold bL strCells u8V;rw[List.map_map];rfl
def mkKL (m:MkV):List Int:=numL m.id++numL m.at_++numL m.grav
theorem aLu (m:MkV):(mkKL m).length=24:=by simp[mkKL,dC]
def txtL (s:ByteArray) (l:List MkV):List Int:=numL s.size++bL s++numL l.length++l.flatMap mkKL
theorem vO:∀ l:List MkV,(l.flatMap mkKL).length=l.length*24
 |[]=>rfl
 |m::l=>by rw[List.flatMap_cons,List.length_append,vO l,aLu,List.length_cons];omega
theorem nG (s:ByteArray) (l:List MkV):(txtL s l).length=16+s.size+l.length*24:=by
 unfold txtL;rw[List.length_append,List.length_append,List.length_append,dC,dC,rW,vO];omega
theorem rX {α β:Type} (f:α→List β) {l:List α} {k:Nat} {x:α} (h:l[k]? = some x):(l.take (k+1)).flatMap f=(l.take k).flatMap f++f x:=by
 rw[List.take_add_one,h,Option.toList_some,List.flatMap_append,List.flatMap_cons,List.flatMap_nil,List.append_nil]
theorem yM (B:Nat) (v:Value) (L:List Int) (s:ByteArray) (a:Option Addr) (c:Nat) (l:List MkV) (w:World) (ho:KOwn w B v L) (hB:B≤w.heap.size) (hl:L.length≤500000000) (hs:s.size≤65536) (hm:l.length≤64)
  (hr:∀ W,KK B w W→MRow W a l) (hid:∀ m∈l,0≤m.id∧m.id≤4294967295∧0≤m.grav∧m.grav≤1) :
  Calls Tryz.prog 117 #[v,.string s,.slice a l.length c] w (aLs B w (L++txtL s l)):=by
 obtain⟨i0,hi,hz0,hz1,hz2⟩:=info_parts aEt
 have hc1:=gG B v L s.size w ho hB (by omega)
 go_enter Tryz.func117,Tryz.ntmps117
 go_wp2_with (first | (go_at_call 118;have hz:=ho2;refine (gG B _ _ (l.length:Int) _ ho2 hB2 hl2).mono ?_;rintro e w3 ⟨v3,rfl,ho3,hk3⟩) | (go_at_call 118;refine hc1.mono ?_;rintro e w1 ⟨v1,rfl,ho1,hk1⟩;have hl1:(L++numL s.size).length≤500000008:=(by rw[List.length_append,dC];omega);clear hc1) | (at_builtin;refine wpList_append_own_string _ rfl _ _ 163 9 rfl B 5 i0 Tryz.underlying163 Tryz.underlying9 hi hz0 hz1 hz2 _ _ _ rfl ho1 s rfl (by unfold maxLen;omega) (by omega) (Nat.le_trans hB hk1.size) ?_;intro v2 w2 hown2 hgrow2 _;have ho2:KOwn w2 B v2 (L++numL s.size++bL s):=(KOwn.snoc (by rw[rW,aLt];exact hown2));have hk2:KK B w w2:=hk1.trans (KK.grown hgrow2 ho1);have hB2:=Nat.le_trans hB hk2.size;have hl2:(L++numL s.size++bL s).length≤1000000000:=(by rw[List.length_append,rW];omega)))
 have hk3':=hk2.trans hk3
 obtain⟨L3,hL3⟩:∃ L3,L++numL s.size++bL s++numL l.length=L3:=⟨_,rfl⟩
 have hl3:L3.length≤600000000:=by rw[← hL3,List.length_append,List.length_append,rW,dC];omega
 rw[hL3] at ho3
 clear ho2 hB2 hl2 hl1 hk1 hk2 hk3 ho1 hown2 hgrow2
 go_loopw [0,8,21,22,23,24,25,26,27,28,29,30,31,32,33,34,35,36,37] (fun x0 x8 i x22 x23 x24 x25 x26 x27 x28 x29 x30 x31 x32 x33 x34 x35 x36 x37 wr=>∃ k:Nat,i = .int .i64 k∧k≤l.length∧KOwn wr B x0 (L3++(l.take k).flatMap mkKL)∧KK B w wr) (fun x0 x8 i x22 x23 x24 x25 x26 x27 x28 x29 x30 x31 x32 x33 x34 x35 x36 x37 wr=>l.length-(intOf i).toNat)
 case atStart=>exact⟨0,rfl,by omega,by simpa using ho3,hk3'⟩
 case round =>
  obtain⟨k,rfl,hk,hown,hK⟩:=hrel
  by_cases hlt:k<l.length
  ·have hx:=gEz hlt
   generalize l[k]=m at hx
   obtain⟨b1,o1,rfl,c0,c1,c2⟩:=aEu (hr _ hK) hx
   obtain⟨i1,i2,i3,i4⟩:=hid m (mGz hx)
   have hw1:IntKind.i64.wrap m.id=m.id:=IntWalk.i64_in _ (by omega)
   have hw2:IntKind.i64.wrap m.grav=m.grav:=IntWalk.i64_in _ (by omega)
   obtain⟨W5,hW5⟩:∃ W5,wr.alloc (.cells #[.int .u32 m.id,.int .i64 m.at_,.int .u8 m.grav] 74)=W5:=⟨_,rfl⟩
   have hg5:W5.heap[wr.heap.size]? = some (.cells #[.int .u32 m.id,.int .i64 m.at_,.int .u8 m.grav] 74 (0,0)):=by rw[← hW5];exact heap_alloc_new _ _
   have hb5:Below wr.heap.size wr W5:=by rw[← hW5];exact (Below.refl _ _).alloc (Nat.le_refl _) _
   have kx:∀ W,KK B W5 W→W.cell? ⟨wr.heap.size,0,none⟩=some (.int .u32 m.id)∧W.cell? ⟨wr.heap.size,1,none⟩=some (.int .i64 m.at_)∧W.cell? ⟨wr.heap.size,2,none⟩=some (.int .u8 m.grav):=fun W hW=>by
    have h:=hW.typ _ _ _ hg5 (by decide)
    refine⟨?_,?_,?_⟩<;>simp[World.cell?,h]
   have Kx:=Lib.hid kx
   have hx0:KK B W5 W5.drew:=(KK.refl _ _).drew
   have hx00:KK B W5 W5:=KK.refl _ _
   have ho5:KOwn W5.drew B _ _:=aI (aI hown hb5) (Below.refl _ _).drew
   have hs5:B≤W5.drew.heap.size:=Nat.le_trans (Nat.le_trans hB hK.size) hb5.size
   have hl5:(L3++(l.take k).flatMap mkKL).length≤700000000:=by rw[List.length_append,vO,List.length_take];omega
   clear kx hg5
   go_wp2_with (simp only[hW5])
   refine aP (S:=fun W=>W.cell? ⟨wr.heap.size,0,none⟩=some (.int .u32 m.id)∧W.cell? ⟨wr.heap.size,1,none⟩=some (.int .i64 m.at_)∧W.cell? ⟨wr.heap.size,2,none⟩=some (.int .u8 m.grav)) ?_ (fun hHeld => ?_)
   ·first | exact Kx.out _ hk8 | exact Kx.out _ hk7 | exact Kx.out _ hk6 | exact Kx.out _ hx0 | exact Kx.out _ hx00
   iterate 4 ((first | refine aJ ?_ | refine np_q ?_ | refine aL 0 ?_);(try simp only[nSO]))
   (first | refine np_s 5 ?_ | refine aL 5 ?_);(try simp only[nSO])
   (first | refine aJ ?_ | refine np_q ?_);(try simp only[nSO])
   (first | refine np_s 8 ?_ | refine aL 8 ?_);(try simp only[nSO])
   iterate 2 ((first | refine aJ ?_ | refine np_q ?_);(try simp only[nSO]))
   first | (refine np_s 4 ?_;(try simp only[nSO])) | (refine np_c 4 (fun K hK => ?_);go_simp;((go_at_call 118;refine (gG B _ _ m.id _ ho5 hs5 (by omega)).mono ?_;rintro e w6 ⟨v6,rfl,ho6,hq6⟩;have hk6:=hx0.trans hq6;have hs6:=Nat.le_trans hs5 hq6.size));(try go_wp2_with fail);refine hK.out _ _ ?_ (fun hHeld => ?_);(· (first | exact Kx.out _ hk8 | exact Kx.out _ hk7 | exact Kx.out _ hk6 | exact Kx.out _ hx0 | exact Kx.out _ hx00));clear hK K;(try simp only[nSO]))
   first | (refine np_s 7 ?_;(try simp only[nSO])) | (refine np_c 7 (fun K hK => ?_);go_simp;((go_at_call 118;refine (gG B _ _ m.at_ _ ho6 hs6 (by rw[List.length_append,dC];omega)).mono ?_;rintro e w7 ⟨v7,rfl,ho7,hq7⟩;have hk7:=hk6.trans hq7;have hs7:=Nat.le_trans hs6 hq7.size));(try go_wp2_with fail);refine hK.out _ _ ?_ (fun hHeld => ?_);(· (first | exact Kx.out _ hk8 | exact Kx.out _ hk7 | exact Kx.out _ hk6 | exact Kx.out _ hx0 | exact Kx.out _ hx00));clear hK K;(try simp only[nSO]))
   first | (refine np_s 11 ?_;(try simp only[nSO])) | (refine np_c 11 (fun K hK => ?_);go_simp;((go_at_call 118;refine (gG B _ _ m.grav _ ho7 hs7 (by rw[List.length_append,List.length_append,dC,dC];omega)).mono ?_;rintro e w8 ⟨v8,rfl,ho8,hq8⟩;have hk8:=hk7.trans hq8));(try go_wp2_with fail);refine hK.out _ _ ?_ (fun hHeld => ?_);(· (first | exact Kx.out _ hk8 | exact Kx.out _ hk7 | exact Kx.out _ hk6 | exact Kx.out _ hx0 | exact Kx.out _ hx00));clear hK K;(try simp only[nSO]))
   (first | refine aJ ?_ | refine np_q ?_);(try simp only[nSO])
   refine np_z ?_
   have ho9:KOwn w8 B v8 (L3++(l.take (k+1)).flatMap mkKL):=by rw[rX mkKL hx,mkKL,← List.append_assoc,← List.append_assoc,← List.append_assoc];exact ho8
   have hK9:KK B w w8:=(hK.trans (KK.of_below hb5)).trans hk8
   clear Kx hk6 hk7 ho6 ho7 ho8
   go_wp2
   go_roundw
   case rel=>exact⟨k+1,by go_num,by omega,ho9,hK9⟩
   case measure=>simp[intOf];omega
  ·obtain rfl:k=l.length:=by omega
   go_wp2
   go_returns
   refine⟨_,rfl,?_,hK⟩
   have:=hown
   rw[List.take_length,← hL3] at this
   unfold txtL
   rw[← List.append_assoc,← List.append_assoc,← List.append_assoc]
   exact this
def b2 (x:Bool):List Int:=[if x then 1 else 0]
def snK (s:SnV):List Int:=b2 s.held++txtL s.text s.marks++numL s.cursor
def seK (se:SeV):List Int:=b2 se.sub++numL se.slots.length++se.slots.flatMap snK
def hdK (st:MS):List Int:=txtL st.text st.marks++numL st.number++b2 st.closed++numL st.readers++numL st.seats.length
def keyL (st:MS):List Int:=hdK st++st.seats.flatMap seK
def strOf (L:List Int):ByteArray:=L.foldl (fun r n=>r.push (UInt8.ofNat n.toNat)) ByteArray.empty
theorem aGg {st:MS} {K:Int} (h:MSok st K):(hdK st).length≤70000:=by
 have h1:=h.size
 have h2:=h.marks.1
 unfold hdK b2
 simp only[List.length_append,nG,dC,List.length_cons,List.length_nil]
 omega
theorem aGh {s:SnV} (h:SnOK s):(snK s).length≤70000:=by
 have h1:=h.1
 have h2:=h.2.1.1
 unfold snK b2
 simp only[List.length_append,nG,dC,List.length_cons,List.length_nil]
 omega
theorem lS {α β:Type} (f:α→List β) (N:Nat):∀ (l:List α),(∀ x∈l,(f x).length≤N)→(l.flatMap f).length≤l.length*N
 |[],_=>by simp
 |x::l,h=>by
  rw[List.flatMap_cons,List.length_append,List.length_cons,Nat.succ_mul]
  have:=lS f N l (fun y hy=>h y (by simp[hy]))
  have:=h x (by simp)
  omega
theorem aGi {st:MS} {K:Int} (h:MSok st K) {s:SeV} (hs:s∈st.seats):(seK s).length≤600000:=by
 obtain⟨h1,h2⟩:=h.slots s hs
 have h3:=lS snK 70000 s.slots (fun x hx=>aGh (h2 x hx))
 have h4:=h.readers
 unfold seK b2
 simp only[List.length_append,dC,List.length_cons,List.length_nil]
 have:s.slots.length*70000≤8*70000:=Nat.mul_le_mul_right _ (by omega)
 omega
theorem aLv {n:Int} {l:List MkV} (h:MkOK n l):∀ m∈l,0≤m.id∧m.id≤4294967295∧0≤m.grav∧m.grav≤1:=fun m hm=>by
 obtain⟨h1,h2,h3,_⟩:=h.2.2 m hm
 omega
theorem aLw {W:World} {B:Nat} {v:Value} {L:List Int} (h:KOwn W B v L) (hp:L.length≠0):∃ g c,v = .slice (some ⟨g,0,none⟩) L.length c∧(convert 163 9 (.slice (some ⟨g,0,none⟩) L.length c)).run Tryz.prog W = .ok (.string (strOf L)) W:=by
 rcases h.2 with⟨_,e2⟩ | ⟨g,cap,cur,e1,rest⟩
 ·exact absurd e2 hp
 ·subst e1
  refine⟨g,cap,rfl,?_⟩
  rw[run_convert_bytes_string _ _ _ 5 _ _ _ Tryz.underlying163 Tryz.underlying5 Tryz.underlying9]
  have hl:=run_loadCells_list (P := Tryz.prog) W ⟨g,0,none⟩ (L.map (Value.int .u8)) (fun j u hj=>by
   have hjl:=(gLz hj).1
   rw[List.length_map] at hjl
   have e:(⟨g,0,none⟩:Addr).add j=⟨g,j,none⟩:=by unfold Addr.add;split<;>simp_all
   rw[e,h.cellAt j (by omega)];exact hj)
  simp only[List.length_map] at hl
  exact run_bytesToString _ _ L.length cap L hl
theorem aGj (b:Nat) (M:MM) (w:World) (K:Int) (h:MdAt w b M) (hok:MSok M.st K) :
  Calls Tryz.prog 64 #[.pointer (some ⟨b,0,none⟩)] w fun e w'=>e = .returned (.string (strOf (keyL M.st)))∧Below w.heap.size w w':=by
 obtain⟨B,hBe⟩:∃ B,w.heap.size=B:=⟨_,rfl⟩
 obtain⟨am,cm,hmv⟩:=aC h.marks
 obtain⟨as',cs,hsv⟩:=aC h.seats
 have hB:B≤w.heap.size:=by omega
 have hm0:=h.marks
 have c3:M.closed=true∨M.closed=false:=by cases M.closed<;>simp
 have hsz:=hok.size
 have hml:=(MM.fits hok).2.2
 have htxt:M.text.size≤65536:=hsz
 have hmk:=aLv hok.marks
 have kx:∀ W,KK B w W→W.cell? ⟨b,0,none⟩=some (.string M.text)∧W.cell? ⟨b,1,none⟩=some (.slice am M.marks.length cm)∧W.cell? ⟨b,2,none⟩=some (.int .i64 M.number)∧W.cell? ⟨b,3,none⟩=some (.bool M.closed)∧W.cell? ⟨b,4,none⟩=some (.int .i64 M.readers)∧W.cell? ⟨b,5,none⟩=some (.slice as' M.seats.length cs):=fun W hW=>by
  have hM:=h.kk hW
  exact⟨hM.c0,hM.c1 hmv,hM.c2,hM.c3,hM.c4,hM.c5 hsv⟩
 have Kx:=Lib.hid kx
 have hrow:∀ W,KK B w W→MRow W am M.marks:=fun W hW=>by
  have h1:=rV hm0 hW (by decide)
  rw[hmv] at h1
  exact (bV rfl h1).1
 have Hrow:=Lib.hid hrow
 clear kx hrow
 have hx0:KK B w w.drew:=(KK.refl _ _).drew
 have hx00:KK B w w:=KK.refl _ _
 go_enter Tryz.func64,Tryz.ntmps64
 go_wp2
 have hk0:KK B w (w.alloc (.cells #[] 5)).drew:=(KK.of_below ((Below.refl w.heap.size w).alloc (Nat.le_refl _) _)).drew
 have hs0:B≤(w.alloc (.cells #[] 5)).drew.heap.size:=Nat.le_trans hB hk0.size
 have ho0:KOwn (w.alloc (.cells #[] 5)).drew B (.slice (some ⟨B,0,none⟩) 0 0) []:=⟨rfl,.inr ⟨B,0,#[],rfl,Nat.le_refl _,by rw[← hBe];exact heap_alloc_new w _,Nat.le_refl _,Nat.zero_le _,rfl,rfl⟩⟩
 refine aP (S:=fun W=>W.cell? ⟨b,0,none⟩=some (.string M.text)∧W.cell? ⟨b,1,none⟩=some (.slice am M.marks.length cm)∧W.cell? ⟨b,2,none⟩=some (.int .i64 M.number)∧W.cell? ⟨b,3,none⟩=some (.bool M.closed)∧W.cell? ⟨b,4,none⟩=some (.int .i64 M.readers)∧W.cell? ⟨b,5,none⟩=some (.slice as' M.seats.length cs)) ?_ (fun hHeld => ?_)
 ·first | exact Kx.out _ hk6 | exact Kx.out _ hk5 | exact Kx.out _ hk4 | exact Kx.out _ hk3 | exact Kx.out _ hk2 | exact Kx.out _ hk0 | exact Kx.out _ hx0 | exact Kx.out _ hx00
 (first | refine np_s 1 ?_ | refine aL 1 ?_);(try simp only[nSO])
 iterate 7 ((first | refine aJ ?_ | refine np_q ?_);(try simp only[nSO]))
 (first | refine np_s 10 ?_ | refine aL 10 ?_);(try simp only[nSO])
 iterate 3 ((first | refine aJ ?_ | refine np_q ?_);(try simp only[nSO]))
 (first | refine np_s 15 ?_ | refine aL 15 ?_);(try simp only[nSO])
 iterate 3 ((first | refine aJ ?_ | refine np_q ?_);(try simp only[nSO]))
 (first | refine np_s 20 ?_ | refine aL 20 ?_);(try simp only[nSO])
 iterate 3 ((first | refine aJ ?_ | refine np_q ?_);(try simp only[nSO]))
 (first | refine np_s 25 ?_ | refine aL 25 ?_);(try simp only[nSO])
 iterate 4 ((first | refine aJ ?_ | refine np_q ?_);(try simp only[nSO]))
 first | (refine np_s 0 ?_;(try simp only[nSO])) | (refine np_c 0 (fun K hK => ?_);go_simp;(skip);(try go_wp2_with fail);refine hK.out _ _ ?_ (fun hHeld => ?_);(· (first | exact Kx.out _ hk6 | exact Kx.out _ hk5 | exact Kx.out _ hk4 | exact Kx.out _ hk3 | exact Kx.out _ hk2 | exact Kx.out _ hk0 | exact Kx.out _ hx0 | exact Kx.out _ hx00));clear hK K;(try simp only[nSO]))
 first | (refine np_s 9 ?_;(try simp only[nSO])) | (refine np_c 9 (fun K hK => ?_);go_simp;((go_at_call 117;refine (yM B _ [] M.text am cm M.marks _ ho0 hs0 (by simp) htxt (by omega) (fun W hW=>Hrow.out W (hk0.trans hW)) hmk).mono ?_;rintro e w2 ⟨v2,rfl,ho2,hq2⟩;have hk2:=hk0.trans hq2;have hs2:=Nat.le_trans hs0 hq2.size;rw[List.nil_append] at ho2;have hl2:=nG M.text M.marks));(try go_wp2_with fail);refine hK.out _ _ ?_ (fun hHeld => ?_);(· (first | exact Kx.out _ hk6 | exact Kx.out _ hk5 | exact Kx.out _ hk4 | exact Kx.out _ hk3 | exact Kx.out _ hk2 | exact Kx.out _ hk0 | exact Kx.out _ hx0 | exact Kx.out _ hx00));clear hK K;(try simp only[nSO]))
 first | (refine np_s 14 ?_;(try simp only[nSO])) | (refine np_c 14 (fun K hK => ?_);go_simp;((go_at_call 118;refine (gG B _ _ M.number _ ho2 hs2 (by omega)).mono ?_;rintro e w3 ⟨v3,rfl,ho3,hq3⟩;have hk3:=hk2.trans hq3;have hs3:=Nat.le_trans hs2 hq3.size;have hl3:(txtL M.text M.marks++numL M.number).length≤70000:=(by rw[List.length_append,dC];omega)));(try go_wp2_with fail);refine hK.out _ _ ?_ (fun hHeld => ?_);(· (first | exact Kx.out _ hk6 | exact Kx.out _ hk5 | exact Kx.out _ hk4 | exact Kx.out _ hk3 | exact Kx.out _ hk2 | exact Kx.out _ hk0 | exact Kx.out _ hx0 | exact Kx.out _ hx00));clear hK K;(try simp only[nSO]))
 first | (refine np_s 19 ?_;(try simp only[nSO])) | (refine np_c 19 (fun K hK => ?_);go_simp;((go_at_call 119;refine (aAd B _ _ M.closed _ ho3 hs3 (by omega)).mono ?_;rintro e w4 ⟨v4,rfl,ho4,hq4⟩;have hk4:=hk3.trans hq4;have hs4:=Nat.le_trans hs3 hq4.size;have hl4:(txtL M.text M.marks++numL M.number++b2 M.closed).length≤70001:=(by rw[List.length_append];show _+1≤_;omega)));(try go_wp2_with fail);refine hK.out _ _ ?_ (fun hHeld => ?_);(· (first | exact Kx.out _ hk6 | exact Kx.out _ hk5 | exact Kx.out _ hk4 | exact Kx.out _ hk3 | exact Kx.out _ hk2 | exact Kx.out _ hk0 | exact Kx.out _ hx0 | exact Kx.out _ hx00));clear hK K;(try simp only[nSO]))
 first | (refine np_s 24 ?_;(try simp only[nSO])) | (refine np_c 24 (fun K hK => ?_);go_simp;((go_at_call 118;refine (gG B _ (txtL M.text M.marks++numL M.number++b2 M.closed) M.readers _ ho4 hs4 (by omega)).mono ?_;rintro e w5 ⟨v5,rfl,ho5,hq5⟩;have hk5:=hk4.trans hq5;have hs5:=Nat.le_trans hs4 hq5.size;have hl5:(txtL M.text M.marks++numL M.number++b2 M.closed++numL M.readers).length≤70009:=(by rw[List.length_append,dC];omega)));(try go_wp2_with fail);refine hK.out _ _ ?_ (fun hHeld => ?_);(· (first | exact Kx.out _ hk6 | exact Kx.out _ hk5 | exact Kx.out _ hk4 | exact Kx.out _ hk3 | exact Kx.out _ hk2 | exact Kx.out _ hk0 | exact Kx.out _ hx0 | exact Kx.out _ hx00));clear hK K;(try simp only[nSO]))
 first | (refine np_s 30 ?_;(try simp only[nSO])) | (refine np_c 30 (fun K hK => ?_);go_simp;((go_at_call 118;refine (gG B _ _ (M.seats.length:Int) _ ho5 hs5 (by omega)).mono ?_;rintro e w6 ⟨v6,rfl,ho6,hq6⟩;have hk6:=hk5.trans hq6;have hs6:=Nat.le_trans hs5 hq6.size));(try go_wp2_with fail);refine hK.out _ _ ?_ (fun hHeld => ?_);(· (first | exact Kx.out _ hk6 | exact Kx.out _ hk5 | exact Kx.out _ hk4 | exact Kx.out _ hk3 | exact Kx.out _ hk2 | exact Kx.out _ hk0 | exact Kx.out _ hx0 | exact Kx.out _ hx00));clear hK K;(try simp only[nSO]))
 (first | refine aJ ?_ | refine np_q ?_);(try simp only[nSO])
 refine np_z ?_
 obtain⟨L4,hL4⟩:∃ L4,hdK M.st=L4:=⟨_,rfl⟩
 have ho7:KOwn w6 B v6 L4:=by
  rw[← hL4]
  have hlen:M.st.seats.length=M.seats.length:=List.length_map ..
  unfold hdK;rw[hlen];exact ho6
 have hl7:L4.length≤70000:=by rw[← hL4];exact aGg hok
 clear ho2 ho3 ho4 ho5 ho6 hl2 hl3 hl4 hl5 hk0 hk2 hk3 hk4 hk5 hs2 hs3 hs4 hs5 ho0 hs0 hq2 hq3 hq4 hq5 hq6 hx0 hx00 hHeld
 obtain⟨z0,z1,z2,z3,z4,z5⟩:=Kx.out _ hk6
 go_wp2
 go_loopw [3,5,7,46,47,48,49,50,51,52,53,54,55,56,57,58,59,60,61,62,63,64,65,66,67,68,69,70,71,72,73,74,75,76,77,78] (fun x3 x5 x7 i x47 x48 x49 x50 x51 x52 x53 x54 x55 x56 x57 x58 x59 x60 x61 x62 x63 x64 x65 x66 x67 x68 x69 x70 x71 x72 x73 x74 x75 x76 x77 x78 wr=>∃ k:Nat,i = .int .i64 k∧k≤M.seats.length∧KOwn wr B x3 (L4++(M.st.seats.take k).flatMap seK)∧KK B w wr) (fun x3 x5 x7 i x47 x48 x49 x50 x51 x52 x53 x54 x55 x56 x57 x58 x59 x60 x61 x62 x63 x64 x65 x66 x67 x68 x69 x70 x71 x72 x73 x74 x75 x76 x77 x78 wr=>M.seats.length-(intOf i).toNat)
 case atStart=>exact⟨0,rfl,by omega,by simpa using ho7,hk6⟩
 case round =>
  clear ho7 hk6 z0 z1 z2 z3 z4 z5 hs6
  obtain⟨k,rfl,hk,hown,hK⟩:=hrel
  by_cases hlt:k<M.seats.length
  ·have hx:=gEz hlt
   generalize M.seats[k]=S at hx
   have hxs:M.st.seats[k]? = some S.st:=by show (M.seats.map (·.st))[k]? = _;rw[List.getElem?_map,hx];rfl
   have hMw:=h.kk hK
   obtain⟨gs,cs',g,cp,cur,hA⟩:=hMw.seatAt hx
   have hsv':=hA.sv
   rw[hsv] at hsv'
   injection hsv' with e1 e2 e3
   subst e1;subst e3
   have hSv:=hA.v
   have s0:=hA.c0
   have s1:=hA.c1
   have Kx7:=Kx
   obtain⟨W5,hW5⟩:∃ W5,wr.alloc (.cells #[.bool S.sub,.slice (some ⟨g,0,none⟩) S.sl.length cp] 139)=W5:=⟨_,rfl⟩
   have hg5:W5.heap[wr.heap.size]? = some (.cells #[.bool S.sub,.slice (some ⟨g,0,none⟩) S.sl.length cp] 139 (0,0)):=by rw[← hW5];exact heap_alloc_new _ _
   have hb5:Below wr.heap.size wr W5:=by rw[← hW5];exact (Below.refl _ _).alloc (Nat.le_refl _) _
   have kz:∀ W,KK B W5 W→W.cell? ⟨wr.heap.size,0,none⟩=some (.bool S.sub)∧W.cell? ⟨wr.heap.size,1,none⟩=some (.slice (some ⟨g,0,none⟩) S.sl.length cp):=fun W hW=>by
    have h:=hW.typ _ _ _ hg5 (by decide)
    refine⟨?_,?_⟩<;>simp[World.cell?,h]
   have Kz:=Lib.hid kz
   have hz0:KK B W5 W5.drew:=(KK.refl _ _).drew
   have hz00:KK B W5 W5:=KK.refl _ _
   have ho5:KOwn W5.drew B _ _:=aI (aI hown hb5) (Below.refl _ _).drew
   have hs5:B≤W5.drew.heap.size:=Nat.le_trans (Nat.le_trans hB hK.size) hb5.size
   have hso:=MM.fits hok
   have hpre:(L4++(M.st.seats.take k).flatMap seK).length≤5000000:=by
    rw[List.length_append]
    have h1:=lS seK 600000 (M.st.seats.take k) (fun x hx=>aGi hok (List.mem_of_mem_take hx))
    have h2:(M.st.seats.take k).length≤8:=by rw[List.length_take];have:=hok.clients;omega
    have h3:(M.st.seats.take k).length*600000≤8*600000:=Nat.mul_le_mul_right _ h2
    omega
   have hs8:S.sl.length≤8:=hso.2.1 S (mGz hx)
   obtain⟨L5,hL5⟩:∃ L5,L4++(M.st.seats.take k).flatMap seK=L5:=⟨_,rfl⟩
   rw[hL5] at ho5 hpre
   clear kz hg5 hown Kx7
   go_wp2_with (simp only[hW5])
   refine aP (S:=fun W=>W.cell? ⟨wr.heap.size,0,none⟩=some (.bool S.sub)∧W.cell? ⟨wr.heap.size,1,none⟩=some (.slice (some ⟨g,0,none⟩) S.sl.length cp)) ?_ (fun hHeld => ?_)
   ·first | exact Kz.out _ hz7 | exact Kz.out _ hz6 | exact Kz.out _ hz0 | exact Kz.out _ hz00
   iterate 3 ((first | refine aJ ?_ | refine np_q ?_ | refine aL 0 ?_);(try simp only[nSO]))
   (first | refine np_s 4 ?_ | refine aL 4 ?_);(try simp only[nSO])
   iterate 2 ((first | refine aJ ?_ | refine np_q ?_);(try simp only[nSO]))
   first | (refine np_s 3 ?_;(try simp only[nSO])) | (refine np_c 3 (fun K hK => ?_);go_simp;((go_at_call 119;refine (aAd B _ _ S.sub _ ho5 hs5 (by omega)).mono ?_;rintro e w6 ⟨v6,rfl,ho6,hq6⟩;have hz6:=hz0.trans hq6;have hs6:=Nat.le_trans hs5 hq6.size;have hl6:(L5++b2 S.sub).length≤5000001:=(by rw[List.length_append];show _+1≤_;omega)));(try go_wp2_with fail);refine hK.out _ _ ?_ (fun hHeld => ?_);(· (first | exact Kz.out _ hz7 | exact Kz.out _ hz6 | exact Kz.out _ hz0 | exact Kz.out _ hz00));clear hK K;(try simp only[nSO]))
   first | (refine np_s 7 ?_;(try simp only[nSO])) | (refine np_c 7 (fun K hK => ?_);go_simp;((go_at_call 118;refine (gG B _ (L5++b2 S.sub) (S.sl.length:Int) _ ho6 hs6 (by omega)).mono ?_;rintro e w7 ⟨v7,rfl,ho7,hq7⟩;have hz7:=hz6.trans hq7;have hs7:=Nat.le_trans hs6 hq7.size));(try go_wp2_with fail);refine hK.out _ _ ?_ (fun hHeld => ?_);(· (first | exact Kz.out _ hz7 | exact Kz.out _ hz6 | exact Kz.out _ hz0 | exact Kz.out _ hz00));clear hK K;(try simp only[nSO]))
   (first | refine aJ ?_ | refine np_q ?_);(try simp only[nSO])
   refine np_z ?_
   obtain⟨q0,q1⟩:=Kz.out _ hz7
   have hK7:KK B w w7:=(hK.trans (KK.of_below hb5)).trans hz7
   have hl7':(L5++b2 S.sub++numL S.sl.length).length≤5000009:=by rw[List.length_append,dC];omega
   obtain⟨L6,hL6⟩:∃ L6,L5++b2 S.sub++numL S.sl.length=L6:=⟨_,rfl⟩
   rw[hL6] at ho7 hl7'
   clear Kz hz0 hz00 hz6 hs5 hs6 ho5 ho6 hl6 hz7 hb5 s0 s1 hMw hA hHeld
   go_wp2
   go_loopw [3,7,61,62,63,64,65,66,67,68,69,70,71,72,73,74,75,76,77] (fun y3 y7 i y62 y63 y64 y65 y66 y67 y68 y69 y70 y71 y72 y73 y74 y75 y76 y77 wq=>∃ j:Nat,i = .int .i64 j∧j≤S.sl.length∧KOwn wq B y3 (L6++(S.st.slots.take j).flatMap snK)∧KK B w wq) (fun y3 y7 i y62 y63 y64 y65 y66 y67 y68 y69 y70 y71 y72 y73 y74 y75 y76 y77 wq=>S.sl.length-(intOf i).toNat)
   case atStart=>exact⟨0,rfl,by omega,by simpa using ho7,hK7⟩
   case round =>
    clear ho7 hK7 q0 q1
    obtain⟨j,rfl,hj,hown,hKq⟩:=hrel
    by_cases hlt2:j<S.sl.length
    ·have hx2:=gEz hlt2
     generalize S.sl[j]=x at hx2
     have hxs2:S.st.slots[j]? = some x.s:=by show (S.sl.map (·.s))[j]? = _;rw[List.getElem?_map,hx2];rfl
     obtain⟨gs2,cs2,g2,cp2,cur2,hA2⟩:=(h.kk hKq).seatAt hx
     have hv2:=hA2.v
     rw[hSv] at hv2
     injection hv2 with f1 f2 f3
     injection f1 with f1
     injection f1 with f1
     have hSn:=hA2.sn j x hx2
     obtain⟨⟨s0,s1,s2,s3⟩,_⟩:=hSn.cells
     rw[← f1] at s0 s1 s2 s3
     clear f1 f2 f3
     have hxm:=h.smarks S (mGz hx) x (mGz hx2)
     obtain⟨av,cv,hxv⟩:=aC hxm
     rw[hxv] at s2
     have hrow2:∀ W,KK B w W→MRow W av x.s.marks:=fun W hW=>by
      have h1:=rV hxm hW (by decide)
      rw[hxv] at h1
      exact (bV rfl h1).1
     have Hrow2:=Lib.hid hrow2
     obtain⟨sk1,sk2,sk3,sk4⟩:=(hok.slots S.st (mGz hxs)).2 x.s (mGz hxs2)
     have hmk2:=aLv sk2
     have sk5:=sk2.1
     obtain⟨W5,hW5⟩:∃ W5,wr.alloc (.cells #[.bool x.s.held,.string x.s.text,.slice av x.s.marks.length cv,.int .i64 x.s.cursor] 168)=W5:=⟨_,rfl⟩
     have hg5:W5.heap[wr.heap.size]? = some (.cells #[.bool x.s.held,.string x.s.text,.slice av x.s.marks.length cv,.int .i64 x.s.cursor] 168 (0,0)):=by rw[← hW5];exact heap_alloc_new _ _
     have hb5:Below wr.heap.size wr W5:=by rw[← hW5];exact (Below.refl _ _).alloc (Nat.le_refl _) _
     have ky:∀ W,KK B W5 W→W.cell? ⟨wr.heap.size,0,none⟩=some (.bool x.s.held)∧W.cell? ⟨wr.heap.size,1,none⟩=some (.string x.s.text)∧W.cell? ⟨wr.heap.size,2,none⟩=some (.slice av x.s.marks.length cv)∧W.cell? ⟨wr.heap.size,3,none⟩=some (.int .i64 x.s.cursor):=fun W hW=>by
      have h:=hW.typ _ _ _ hg5 (by decide)
      refine⟨?_,?_,?_,?_⟩<;>simp[World.cell?,h]
     have Ky:=Lib.hid ky
     have hy0:KK B W5 W5.drew:=(KK.refl _ _).drew
     have hy00:KK B W5 W5:=KK.refl _ _
     have ho5:KOwn W5.drew B _ _:=aI (aI hown hb5) (Below.refl _ _).drew
     have hs5:B≤W5.drew.heap.size:=Nat.le_trans (Nat.le_trans hB hKq.size) hb5.size
     have hKw:KK B w W5:=hKq.trans (KK.of_below hb5)
     have hpre2:(L6++(S.st.slots.take j).flatMap snK).length≤6000000:=by
      rw[List.length_append]
      have h1:=lS snK 70000 (S.st.slots.take j) (fun y hy=>aGh ((hok.slots S.st (mGz hxs)).2 y (List.mem_of_mem_take hy)))
      have h2:(S.st.slots.take j).length≤8:=by rw[List.length_take];omega
      have h3:(S.st.slots.take j).length*70000≤8*70000:=Nat.mul_le_mul_right _ h2
      omega
     obtain⟨L7,hL7⟩:∃ L7,L6++(S.st.slots.take j).flatMap snK=L7:=⟨_,rfl⟩
     rw[hL7] at ho5 hpre2
     clear ky hrow2 hg5 hown hA2 hSn
     go_wp2_with (simp only[hW5])
     refine aP (S:=fun W=>W.cell? ⟨wr.heap.size,0,none⟩=some (.bool x.s.held)∧W.cell? ⟨wr.heap.size,1,none⟩=some (.string x.s.text)∧W.cell? ⟨wr.heap.size,2,none⟩=some (.slice av x.s.marks.length cv)∧W.cell? ⟨wr.heap.size,3,none⟩=some (.int .i64 x.s.cursor)) ?_ (fun hHeld => ?_)
     ·first | exact Ky.out _ hy9 | exact Ky.out _ hy8 | exact Ky.out _ hy6 | exact Ky.out _ hy0 | exact Ky.out _ hy00
     iterate 3 ((first | refine aJ ?_ | refine np_q ?_ | refine aL 0 ?_);(try simp only[nSO]))
     (first | refine np_s 4 ?_ | refine aL 4 ?_);(try simp only[nSO])
     iterate 3 ((first | refine aJ ?_ | refine np_q ?_);(try simp only[nSO]))
     (first | refine np_s 9 ?_ | refine aL 9 ?_);(try simp only[nSO])
     (first | refine aJ ?_ | refine np_q ?_);(try simp only[nSO])
     first | (refine np_s 3 ?_;(try simp only[nSO])) | (refine np_c 3 (fun K hK => ?_);go_simp;((go_at_call 119;refine (aAd B _ _ x.s.held _ ho5 hs5 (by omega)).mono ?_;rintro e w6 ⟨v6,rfl,ho6,hq6⟩;have hy6:=hy0.trans hq6;have hs6:=Nat.le_trans hs5 hq6.size;have hl6:(L7++b2 x.s.held).length≤6000001:=(by rw[List.length_append];show _+1≤_;omega)));(try go_wp2_with fail);refine hK.out _ _ ?_ (fun hHeld => ?_);(· (first | exact Ky.out _ hy9 | exact Ky.out _ hy8 | exact Ky.out _ hy6 | exact Ky.out _ hy0 | exact Ky.out _ hy00));clear hK K;(try simp only[nSO]))
     first | (refine np_s 8 ?_;(try simp only[nSO])) | (refine np_c 8 (fun K hK => ?_);go_simp;((go_at_call 117;refine (yM B _ (L7++b2 x.s.held) x.s.text av cv x.s.marks _ ho6 hs6 (by omega) sk1 sk5 (fun W hW=>Hrow2.out W ((hKw.trans hy6).trans hW)) hmk2).mono ?_;rintro e w8 ⟨v8,rfl,ho8,hq8⟩;have hy8:=hy6.trans hq8;have hs8q:=Nat.le_trans hs6 hq8.size;have hl8:(L7++b2 x.s.held++txtL x.s.text x.s.marks).length≤6080000:=(by rw[List.length_append,nG];omega)));(try go_wp2_with fail);refine hK.out _ _ ?_ (fun hHeld => ?_);(· (first | exact Ky.out _ hy9 | exact Ky.out _ hy8 | exact Ky.out _ hy6 | exact Ky.out _ hy0 | exact Ky.out _ hy00));clear hK K;(try simp only[nSO]))
     first | (refine np_s 11 ?_;(try simp only[nSO])) | (refine np_c 11 (fun K hK => ?_);go_simp;((go_at_call 118;refine (gG B _ (L7++b2 x.s.held++txtL x.s.text x.s.marks) x.s.cursor _ ho8 hs8q (by omega)).mono ?_;rintro e w9 ⟨v9,rfl,ho9,hq9⟩;have hy9:=hy8.trans hq9));(try go_wp2_with fail);refine hK.out _ _ ?_ (fun hHeld => ?_);(· (first | exact Ky.out _ hy9 | exact Ky.out _ hy8 | exact Ky.out _ hy6 | exact Ky.out _ hy0 | exact Ky.out _ hy00));clear hK K;(try simp only[nSO]))
     (first | refine aJ ?_ | refine np_q ?_);(try simp only[nSO])
     refine np_z ?_
     have hK9:KK B w w9:=hKw.trans hy9
     have ho10:KOwn w9 B v9 (L6++(S.st.slots.take (j+1)).flatMap snK):=by
      rw[rX snK hxs2,← List.append_assoc,hL7]
      unfold snK
      rw[← List.append_assoc,← List.append_assoc]
      exact ho9
     clear Ky hy0 hy00 hy6 hy8 hs5 hs6 hs8q ho5 ho6 ho8 ho9 hHeld
     go_wp2
     go_roundw
     case rel=>exact⟨j+1,by go_num,by omega,ho10,hK9⟩
     case measure=>simp[intOf];omega
    ·obtain rfl:j=S.sl.length:=by omega
     have hslen:S.sl.length=S.st.slots.length:=(List.length_map ..).symm
     have heq:L6++(S.st.slots.take S.sl.length).flatMap snK=L4++(M.st.seats.take (k+1)).flatMap seK:=by
      rw[hslen,List.take_length,← hL6,← hL5,hslen,rX seK hxs]
      unfold seK
      simp only[List.append_assoc]
      rfl
     rw[heq] at hown
     go_wp2
     go_roundw
     case rel=>exact⟨k+1,by go_num,by omega,hown,hKq⟩
     case measure=>simp[intOf];omega
  ·obtain rfl:k=M.seats.length:=by omega
   have hfin:L4++(M.st.seats.take M.seats.length).flatMap seK=keyL M.st:=by
    have hlen:M.seats.length=M.st.seats.length:=(List.length_map ..).symm
    rw[hlen,List.take_length,← hL4];rfl
   rw[hfin] at hown
   have hpos:(keyL M.st).length≠0:=by
    unfold keyL hdK
    simp only[List.length_append,nG,dC]
    omega
   obtain⟨g0,c0,rfl,hcv⟩:=aLw hown hpos
   go_wp2_with (simp only[hcv])
   go_returns
   exact⟨rfl,by have h9:=hK.below (show B≤w.heap.size by omega);rw[← hBe] at h9;exact h9⟩
end Go.Proofs.YtdeiocppghhfdaaGreat
