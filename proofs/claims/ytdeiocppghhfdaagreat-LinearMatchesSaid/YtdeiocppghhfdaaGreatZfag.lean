/- Texts, one behind another. -/
import Derived.Test.YtdeiocppghhfdaaGreatZfaf
import Derived.Test.YtdeiocppghhfdaaGreatShelf2
import Derived.Deep.QuietTactic
import Derived.BigQuiet
import Derived.Laws.AppendOwn
import Derived.Shelf.Strings.BuilderK
import Derived.OwnWalk
import Derived.Deep.RegionLaw
set_option linter.unusedVariables false
set_option linter.unusedSimpArgs false
set_option maxRecDepth 100000
set_option maxHeartbeats 40000000
namespace Go.Proofs.YtdeiocppghhfdaaGreat
structure PcV where
 kind:Int
 n:Int
 text:ByteArray
deriving DecidableEq,Inhabited
def pcP (p:PcV):Prop:=((p.kind=1∨p.kind=3)∧1≤p.n∧p.text.size=0)∨(p.kind=2∧p.n=0∧p.text.size≠0)
instance (p:PcV):Decidable (pcP p):=by unfold pcP;infer_instance
def pcB (p:PcV):Bool:=decide (pcP p)
def pcIn (p:PcV):Int:=if p.kind=1∨p.kind=3 then p.n else 0
def gD (p:PcV):Int:=if p.kind=1 then p.n else if p.kind=3 then 0 else p.text.size
def lenF:List PcV→Int→Int→Int × Int × Int
 |[],i,o=>(i,o,0)
 |p::ps,i,o=>if pcB p then (if 1048576-i<pcIn p∨1048576-o<gD p then (0,0,5) else lenF ps (i+pcIn p) (o+gD p)) else (0,0,2)
def lenS (ps:List PcV):Int × Int × Int:=if 4096<ps.length then (0,0,5) else lenF ps 0 0
theorem qD {p:PcV} (h:pcP p):0≤pcIn p:=by unfold pcP at h;unfold pcIn;split<;>omega
theorem xO {p:PcV} (h:pcP p):0≤gD p:=by unfold pcP at h;unfold gD;(repeat' split)<;>omega
def rQ (out:List PcV) (text:List UInt8):List PcV:=if text=[] then out else out++[⟨2,0,⟨text.toArray⟩⟩]
def rR (out:List PcV) (gone:Int):List PcV:=if 0<gone then out++[⟨3,gone,⟨#[]⟩⟩] else out
def jI (out:List PcV) (text:List UInt8) (gone:Int):List PcV:=rR (rQ out text) gone
def repD (n at_ k:Int) (t:ByteArray):List PcV :=
 (if 0<at_ then[⟨1,at_,⟨#[]⟩⟩] else[])++(if t.size≠0 then[⟨2,0,t⟩] else[])++(if 0<k then[⟨3,k,⟨#[]⟩⟩] else[])++(if 0<n-at_-k then[⟨1,n-at_-k,⟨#[]⟩⟩] else[])
open Go.RowKit
def pcL (p:PcV):List Value:=[.int .u8 p.kind,.int .i64 p.n,.string p.text]
def pcsL (ps:List PcV):List Value:=ps.flatMap pcL
theorem tV (p:PcV):(pcL p).length=3:=rfl
theorem aA8 (ps:List PcV):∀ (k i:Nat),i<3→(pcsL ps)[k*3+i]? = (ps[k]?).bind fun p=>(pcL p)[i]? := by
 induction ps with
 |nil=>intro k i _;simp[pcsL]
 |cons p ps ih =>
  intro k i hi
  show (pcL p++pcsL ps)[k*3+i]? = _
  cases k with
  |zero=>rw[List.getElem?_append_left (by rw[tV];omega)];simp
  |succ k=>rw[List.getElem?_append_right (by rw[tV];omega),tV,show (k+1)*3+i-3=k*3+i by omega,ih k i hi];simp
def PRow (W:World) (a:Option Addr) (ps:List PcV):Prop:=(a=none∧ps=[])∨∃ b off,a=some ⟨b,off,none⟩∧b<W.heap.size∧∀ (k:Nat) (p:PcV),ps[k]? = some p→∀ (i:Nat) (u:Value),(pcL p)[i]? = some u→W.cell? ⟨b,off+(k*3+i),none⟩=some u
theorem PRow.on {W W':World} {a:Option Addr} {ps:List PcV} (h:PRow W a ps) (hb:Below W.heap.size W W'):PRow W' a ps:=by
 rcases h with h | ⟨b,off,h1,h2,h3⟩
 ·exact .inl h
 ·exact .inr ⟨b,off,h1,Nat.lt_of_lt_of_le h2 hb.size,fun k p hp i u hu=>by rw[hb.cell (p:=⟨b,off+(k*3+i),none⟩) h2];exact h3 k p hp i u hu⟩
theorem uV (p:PcV) (w:World):Calls Tryz.prog 160 #[.agg #[.int .u8 p.kind,.int .i64 p.n,.string p.text]] w fun e w'=>e = .returned (.bool (pcB p))∧Below w.heap.size w w':=by
 obtain⟨k,n,t⟩:=p
 go_enter Tryz.func160,Tryz.ntmps160
 go_wp2
 all_goals (go_ret;refine⟨aO ?_,pE _ _⟩)
 all_goals (rw[Bool.eq_iff_iff];simp only[pcB,decide_eq_true_eq,Bool.not_eq_true',Bool.false_eq_true,te2,te3,beq_iff_eq,beq_eq_false_iff_ne,ne_eq] at *;unfold pcP;dsimp only;constructor<;>intro h0<;>first | omega | exact h0.elim)
theorem aKc {a b c d:Int} (h1:a=c) (h2:b=d):Ending.returned (.tuple #[.int .i64 a,.int .i64 b]) = .returned (.tuple #[.int .i64 c,.int .i64 d]):=by rw[h1,h2]
theorem aD0 (p:PcV) (w:World):Calls Tryz.prog 161 #[.agg #[.int .u8 p.kind,.int .i64 p.n,.string p.text]] w fun e w'=>e = .returned (.tuple #[.int .i64 (pcIn p),.int .i64 (gD p)])∧Below w.heap.size w w':=by
 obtain⟨k,n,t⟩:=p
 go_enter Tryz.func161,Tryz.ntmps161
 go_wp2
 all_goals (try (go_region;go_wp2))
 all_goals go_returns
 all_goals (simp only[beq_iff_eq,beq_eq_false_iff_ne,ne_eq] at *)
 all_goals (refine⟨aKc ?_ ?_,by first | exact (pE _ _).drew | exact pE _ _⟩<;>simp[pcIn,gD, *])
theorem xP (ps:List PcV) (k:Nat) (p:PcV) (h:ps[k]? = some p) (i o:Int):lenF (ps.drop k) i o=if pcB p then (if 1048576-i<pcIn p∨1048576-o<gD p then (0,0,5) else lenF (ps.drop (k+1)) (i+pcIn p) (o+gD p)) else (0,0,2):=by
 obtain⟨hk,h⟩:=gLz h
 rw[List.drop_eq_getElem_cons hk,lenF,h]
theorem zJ {p:PcV}:pcB p=true↔pcP p:=by unfold pcB;simp
theorem blk3 {T:TypeId} {W:World} (X:World) (g:Nat) (hg:g=W.heap.size) (u v x:Value) (hb:Below (g+1) (W.alloc (.cells #[u,v,x] T)) X):X.cell? ⟨g,0,none⟩=some u∧X.cell? ⟨g,1,none⟩=some v∧X.cell? ⟨g,2,none⟩=some x:=by
 subst hg
 have h:=(hb.block W.heap.size (by omega)).trans (heap_alloc_new W (.cells #[u,v,x] T))
 exact⟨by simp[World.cell?,h],by simp[World.cell?,h],by simp[World.cell?,h]⟩
theorem zK (a:Option Addr) (c:Nat) (ps:List PcV) (w:World) (hr:PRow w a ps) (hs:ps.length≤1000000) :
  Calls Tryz.prog 111 #[.slice a ps.length c] w fun e w'=>e = .returned (.tuple #[.int .i64 (lenS ps).1,.int .i64 (lenS ps).2.1,.int .i64 (lenS ps).2.2])∧Below w.heap.size w w':=by
 by_cases hl:4096<ps.length
 ·have hR:lenS ps=(0,0,5):=by unfold lenS;rw[if_pos hl]
  have HR:=Lib.hid hR;clear hR hr
  have hd:decide ((4096:Int)<(ps.length:Int))=true:=by simp;omega
  go_enter Tryz.func111,Tryz.ntmps111
  go_wp2
  go_returns
  rw[HR.out];exact⟨rfl,Below.refl _ _⟩
 have hR:lenS ps=lenF ps 0 0:=by unfold lenS;rw[if_neg hl]
 have HR:=Lib.hid hR;clear hR
 have hd:decide ((4096:Int)<(ps.length:Int))=false:=by simp;omega
 have HRow:=Lib.hid hr;clear hr
 go_enter Tryz.func111,Tryz.ntmps111
 go_wp2
 go_loopw [2,3,4,6,7,8,14,15,16,17,18,19,20,21,22,23,24,25,26,27,28,29,30,31,32,33,34,35,36,37,38,39,40,41,42] (fun i o x4 x6 x7 x8 k x15 x16 x17 x18 x19 x20 x21 x22 x23 x24 x25 x26 x27 x28 x29 x30 x31 x32 x33 x34 x35 x36 x37 x38 x39 x40 x41 x42 wr=>∃ (k':Nat) (i' o':Int),k = .int .i64 k'∧i = .int .i64 i'∧o = .int .i64 o'∧k'≤ps.length∧0≤i'∧i'≤1048576∧0≤o'∧o'≤1048576∧lenF (ps.drop k') i' o'=lenF ps 0 0∧Below w.heap.size w wr) (fun i o x4 x6 x7 x8 k x15 x16 x17 x18 x19 x20 x21 x22 x23 x24 x25 x26 x27 x28 x29 x30 x31 x32 x33 x34 x35 x36 x37 x38 x39 x40 x41 x42 wr=>ps.length-(intOf k).toNat)
 case atStart=>exact⟨0,0,0,rfl,rfl,rfl,by omega,by omega,by omega,by omega,by omega,rfl,Below.refl _ _⟩
 case round =>
  obtain⟨k,i,o,rfl,rfl,rfl,hk,hi0,hi1,ho0,ho1,hL,hB⟩:=hrel
  have HL:=Lib.hid hL;clear hL
  by_cases hlt:k<ps.length
  ·have hp:ps[k]? = some ps[k]:=gEz hlt
   generalize ps[k]=p at hp
   have hD:=xP ps k p hp i o
   have HD:=Lib.hid hD;clear hD
   rcases HRow.out with⟨_,h⟩ | ⟨b,off,rfl,hb,hcell⟩
   ·rw[h] at hlt;simp at hlt
   have hbz:b≠wr.heap.size:=by have:=hB.size;omega
   have c0:wr.cell? ⟨b,off+(k*3+0),none⟩=some (.int .u8 p.kind):=by rw[hB.cell (p:=⟨b,off+(k*3+0),none⟩) hb];exact hcell k p hp 0 _ rfl
   have c1:wr.cell? ⟨b,off+(k*3+1),none⟩=some (.int .i64 p.n):=by rw[hB.cell (p:=⟨b,off+(k*3+1),none⟩) hb];exact hcell k p hp 1 _ rfl
   have c2:wr.cell? ⟨b,off+(k*3+2),none⟩=some (.string p.text):=by rw[hB.cell (p:=⟨b,off+(k*3+2),none⟩) hb];exact hcell k p hp 2 _ rfl
   simp only[Nat.add_zero,← Nat.add_assoc] at c0 c1 c2
   clear hcell
   cases hv:pcB p with
   |false =>
    rw[hv,if_neg (by simp)] at HD
    go_wp2_with (go_at_call 160;refine (uV _ _).mono ?_;rw[hv];rintro e w1 ⟨rfl,hB1⟩)
    go_returns
    refine⟨?_,(hB.alloc hB.size _).trans (hB1.mono (by simp;have:=hB.size;omega))⟩
    rw[HR.out,← HL.out,HD.out];rfl
   |true =>
    have hp0:=qD (zJ.1 hv)
    have hp1:=xO (zJ.1 hv)
    rw[hv,if_pos rfl] at HD
    go_wp2_with (first | (go_at_call 160;refine (uV _ _).mono ?_;rw[hv];rintro e w1 ⟨rfl,hB1⟩;obtain⟨z0,z1,z2⟩:=blk3 w1 _ rfl _ _ _ (hB1.mono (by simp))) | (go_at_call 161;refine (aD0 _ _).mono ?_;rintro e w2 ⟨rfl,hB2⟩))
    all_goals have hBx:=(hB.alloc hB.size (.cells #[.int .u8 p.kind,.int .i64 p.n,.string p.text] 94)).trans ((hB1.trans (hB2.mono hB1.size)).mono (by simp;have:=hB.size;omega))
    all_goals first
     |(go_returns;refine⟨?_,hBx⟩;rw[HR.out,← HL.out,HD.out,if_pos (by omega)];rfl)
     |exact⟨⟨k+1,i+pcIn p,o+gD p,by go_num,rfl,rfl,by omega,by omega,by omega,by omega,by omega,by rw[← HL.out,HD.out,if_neg (by omega)],hBx⟩,by simp[intOf];omega⟩
  ·go_wp2
   go_returns
   refine⟨?_,hB⟩
   rw[HR.out,← HL.out,List.drop_eq_nil_of_le (by omega)]
   rfl
theorem mJ (a:Option Addr) (c:Nat) (ps:List PcV) (w:World) (hr:PRow w a ps) (hs:ps.length≤1000000) (_:ps.length≤c) :
  Calls Tryz.prog 111 #[.slice a ps.length c] w fun e w'=>e = .returned (.tuple #[.int .i64 (lenS ps).1,.int .i64 (lenS ps).2.1,.int .i64 (lenS ps).2.2])∧Below w.heap.size w w':=zK a c ps w hr hs
theorem aD1 (a:Option Addr) (c:Nat) (ps:List PcV) (w:World) (hr:PRow w a ps) (hs:ps.length≤1000000) (hc:ps.length≤c) :
  Calls Tryz.prog 213 #[.slice a ps.length c] w fun e w'=>e = .returned (.int .i64 (lenS ps).2.2)∧Below w.heap.size w w':=by
 have h:=mJ a c ps w hr hs hc
 clear hr
 go_enter Tryz.func213,Tryz.ntmps213
 go_wp2_with (go_at_call 111;refine h.mono ?_;rintro e w' ⟨rfl,hB⟩)
 go_ret
 exact⟨rfl,hB⟩
end Go.Proofs.YtdeiocppghhfdaaGreat
namespace Go.Proofs.YtdeiocppghhfdaaGreat
open Go.RowKit Go.Lib Go.Shelf
theorem aKd:(Tryz.prog.info? 205).map (·.size)=some 2:=by kernel_rfl
theorem aQs:liesAt Tryz.prog Tryz.prog.depth 205 (2 / Tryz.prog.cellsOf 205) 0 205 1=true:=by kernel_rfl
theorem aD2:(Tryz.prog.info? 5).map (fun i=>(i.zero,i.size,i.bytes))=some (some (.int .u8 0),1,1):=by kernel_rfl
theorem aKe (b:Nat) (w:World) (h0:w.cell? ⟨b,0,none⟩=some (.pointer (some ⟨b,0,none⟩))) :
  Calls Tryz.prog 217 #[.pointer (some ⟨b,0,none⟩)] w fun e w'=>e = .returned (.tuple #[])∧w'=w:=by
 obtain⟨j,hj,_⟩:=Option.map_eq_some_iff.1 aKd
 go_enter Tryz.func217,Tryz.ntmps217
 go_wp2
 rw[Lib.run_neq_ptr_same w _ Tryz.underlying203 hj]
 go_wp2
 go_end0
 exact⟨rfl,rfl⟩
theorem aHr (b:Nat) (w:World) (h0:w.cell? ⟨b,0,none⟩=some (.pointer none)) (hsh:w.shape? b=some (205,2)) (hfz:w.frozen? ⟨b,0,none⟩=false) :
  Calls Tryz.prog 217 #[.pointer (some ⟨b,0,none⟩)] w fun e w'=>e = .returned (.tuple #[])∧w'=w.setCell ⟨b,0,none⟩ (.pointer (some ⟨b,0,none⟩)):=by
 obtain⟨j,hj,hjs⟩:=Option.map_eq_some_iff.1 aKd
 go_enter Tryz.func217,Tryz.ntmps217
 go_wp2
 rw[Lib.run_to_unsafe w ⟨b,0,none⟩ Tryz.underlying203 Tryz.underlying281 hj (by rw[hjs];decide) hsh (Nat.zero_lt_succ 1)]
 simp only[Result.andThen]
 rw[Oper.upon_value]
 go_wp2
 rw[run_callFunc_extern Tryz.func262 (by kernel_rfl) (by kernel_rfl) (by kernel_rfl) (e:=Extern.AbiNoEscape.same) (by kernel_rfl)]
 rw[Lib.run_noEscape]
 simp only[Result.andThen]
 rw[Oper.upon_value]
 go_wp2
 rw[Lib.run_from_unsafe w ⟨b,0,none⟩ Tryz.underlying281 Tryz.underlying203 hj hsh aQs]
 simp only[Result.andThen]
 rw[Oper.upon_value]
 go_wp2
 go_end0
 exact⟨rfl,rfl⟩
abbrev BuF (B b:Nat) (bs:List Value) (w:World):Prop:=Lib.IsBuilderF 205 5 B b bs w
abbrev sM (b:Nat) (w w':World):Prop:=Lib.OthersKept 5 (some b) w w'
theorem aR7 (B b:Nat) (bs:List Value) (w:World) (h:BuF B b bs w) :
  Calls Tryz.prog 217 #[.pointer (some ⟨b,0,none⟩)] w fun e w'=>e = .returned (.tuple #[])∧(Lib.BuilderAtF 205 5 B b (.pointer (some ⟨b,0,none⟩)) bs w'∧Below B w w'∧sM b w w'):=by
 rcases h with h | h
 ·refine (aHr b w h.cell0 h.shape h.frozen0).mono ?_
  rintro e w' ⟨rfl,rfl⟩
  exact⟨rfl,h.used _,(Below.refl B w).setCell (p:=⟨b,0,none⟩) h.1 _,(Lib.OthersKept.refl _ _ w).setCell ⟨b,0,none⟩ rfl _⟩
 ·refine (aKe b w h.cell0).mono ?_
  rintro e w' ⟨rfl,rfl⟩
  exact⟨rfl,h,Below.refl B _,Lib.OthersKept.refl _ _ _⟩
theorem aR8 (B b:Nat) (bs:List Value) (s:ByteArray) (w:World) (h:BuF B b bs w) (hlen:bs.length+s.size≤140737488355328) (hBw:B≤w.heap.size) :
  Calls Tryz.prog 171 #[.pointer (some ⟨b,0,none⟩),.string s] w fun e w'=>e = .returned (.tuple #[.int .i64 s.size,.nilIface])∧(BuF B b (bs++Lib.strCells s) w'∧Below B w w'∧sM b w w'):=by
 obtain⟨i0,hi,hz0,hz1,hz2⟩:=info_parts aD2
 go_enter Tryz.func171,Tryz.ntmps171
 go_wp2_with (go_at_call 217;refine (aR7 B b bs _ h).mono ?_)
 rintro e w1 ⟨rfl,h1,hb1,hk1⟩
 obtain⟨hB,v,hbk,hown,hne⟩:=h1
 have c0:w1.cell? ⟨b,0,none⟩=some (.pointer (some ⟨b,0,none⟩)):=by rw[Lib.cell_of_heap hbk];rfl
 have c1:w1.cell? ⟨b,1,none⟩=some v:=by rw[Lib.cell_of_heap hbk];rfl
 go_wp2_with (at_builtin;refine Lib.wpList_append_own_stringF _ rfl _ _ 162 9 rfl B 5 i0 Tryz.underlying162 Tryz.underlying9 hi hz0 hz1 hz2 _ _ _ rfl hown s rfl ?c3 ?c4 ?c5 ?_)
 case c3=>unfold maxLen;omega
 case c4=>omega
 case c5=>have:=hb1.size;omega
 intro v' w2 hown' hgrow _
 have hlt:b<w1.heap.size:=by
  rcases Nat.lt_or_ge b w1.heap.size with h' | h'
  ·exact h'
  ·simp[Array.getElem?_eq_none h'] at hbk
 have hb2:w2.heap[b]? = some (.cells #[.pointer (some ⟨b,0,none⟩),v] 205 (0,0)):=by
  rw[hgrow.block b hlt (fun e=>hne e.symm)]
  exact hbk
 have d0:w2.cell? ⟨b,0,none⟩=some (.pointer (some ⟨b,0,none⟩)):=by rw[Lib.cell_of_heap hb2];rfl
 have d1:w2.cell? ⟨b,1,none⟩=some v:=by rw[Lib.cell_of_heap hb2];rfl
 have f1:w2.frozen? ⟨b,1,none⟩=false:=Lib.frozen_of_heap hb2 1
 obtain⟨ao,n',cap,rfl⟩:∃ ao n' cap,v' = .slice ao n' cap:=by
  rcases hown'.2 with⟨hv,_⟩ | ⟨g,cap,cur,fz,hv,_⟩
  ·exact⟨_,_,_,hv⟩
  ·exact⟨_,_,_,hv⟩
 go_wp2
 go_ret2
 refine⟨rfl,.inr ?_,?_,(hk1.grown hgrow (Lib.ownsRowF_kind hown)).setCell ⟨b,1,none⟩ rfl _⟩
 ·exact Lib.BuilderAtF.put (T:=205) (e:=5) hB hb2 (bs':=bs++Lib.strCells s) (by simpa [Lib.strCells_length] using hown') (by decide)
 ·exact (hb1.grown hgrow (by have:=hb1.size;omega) (fun k hk=>(hown.lt k hk).1)).setCell (p:=⟨b,1,none⟩) hB _
theorem xQ {w:World} {b:Nat} {p q:Value} {T:TypeId} (h:w.heap[b]? = some (.cells #[p,q] T (0,0))):w.cell? ⟨b,0,none⟩=some p∧w.cell? ⟨b,1,none⟩=some q∧w.frozen? ⟨b,0,none⟩=false∧w.frozen? ⟨b,1,none⟩=false:=by
 refine⟨by rw[Lib.cell_of_heap h];rfl,by rw[Lib.cell_of_heap h];rfl,Lib.frozen_of_heap h 0,Lib.frozen_of_heap h 1⟩
theorem aKf (B b:Nat) (bs:List Value) (w:World) (h:BuF B b bs w) :
  Calls Tryz.prog 260 #[.pointer (some ⟨b,0,none⟩)] w fun e w'=>e = .returned (.tuple #[])∧BuF B b [] w'∧Below B w w'∧sM b w w':=by
 obtain⟨p,hB,v,hbk,hown,hne⟩:∃ p,Lib.BuilderAtF 205 5 B b p bs w:=by
  rcases h with h | h
  ·exact⟨_,h⟩
  ·exact⟨_,h⟩
 obtain⟨c0,c1,f0,f1⟩:=xQ hbk
 have hlt:b<w.heap.size:=(gAz hbk).1
 go_enter Tryz.func260,Tryz.ntmps260
 go_wp2
 go_end0
 refine⟨rfl,.inl ⟨hB,.slice none 0 0,by simp[World.setCell,Array.getElem?_modify,hbk],⟨by simp,.inl ⟨rfl,rfl⟩⟩,by simp[Value.ownBlock]⟩,((Below.refl B w).setCell (p:=⟨b,0,none⟩) hB _).setCell (p:=⟨b,1,none⟩) hB _,((Lib.OthersKept.refl _ _ w).setCell ⟨b,0,none⟩ rfl _).setCell ⟨b,1,none⟩ rfl _⟩
theorem sH:(Tryz.prog.info? 94).map (fun i=>(i.zero,i.size,i.bytes))=some (some (.agg #[.int .u8 0,.int .i64 0,.string ⟨#[]⟩]),3,32):=by kernel_rfl
theorem dJ (p:PcV):∀ u∈pcL p,u.oneCell'=true:=by
 intro u hu
 unfold pcL at hu
 simp only[List.mem_cons,List.not_mem_nil,or_false] at hu
 rcases hu with rfl | rfl | rfl<;>rfl
theorem aW (W:World) (L:List Value) (T:TypeId):∀ (j:Nat) (u:Value),L[j]? = some u→(W.alloc (.cells L.toArray T)).cell? ((⟨W.heap.size,0,none⟩:Addr).add j)=some u:=by
 intro j u h
 have h2:=heap_alloc_new W (.cells L.toArray T)
 rw[Addr.add_lit,Nat.zero_add]
 have:(W.alloc (.cells L.toArray T)).cell? ⟨W.heap.size,j,none⟩=(L.toArray)[j]? := by unfold World.cell?;rw[h2];rfl
 rw[this];simpa using h
theorem aA9 (W:World) (o:Obj) (L:List Value) (T:TypeId):∀ (j:Nat) (u:Value),L[j]? = some u→((W.alloc o).alloc (.cells L.toArray T)).cell? ((⟨W.heap.size+1,0,none⟩:Addr).add j)=some u:=by
 have h:=aW (W.alloc o) L T
 rwa [World.size_alloc] at h
def putS (d:List PcV) (p:PcV):List PcV:=if 0<p.n∨p.text.size≠0 then d++[p] else d
def DVar (w:World) (B bd:Nat) (d:List PcV):Prop:=∃ v,w.heap[bd]? = some (.cells #[v] 47 (0,0))∧w.ownsRow B 94 3 v d.length (pcsL d)
theorem own_ne {w:World} {B s n bd:Nat} {e t:TypeId} {v:Value} {xs:List Value} {cs:Array Value} (h:w.ownsRow B e s v n xs) (hb:w.heap[bd]? = some (.cells cs t (0,0))) (ht:t≠e):some bd≠v.ownBlock:=by
 intro he
 rcases h.2 with⟨rfl,_⟩ | ⟨g,cap,cur,rfl,_,hg,_⟩
 ·simp[Value.ownBlock] at he
 ·simp[Value.ownBlock] at he
  subst he
  rw[hb] at hg
  injection hg with hg;injection hg with _ h2 _
  exact ht h2
theorem aC {w:World} {B s n:Nat} {e:TypeId} {v:Value} {xs:List Value} (h:w.ownsRow B e s v n xs):∃ ao c,v = .slice ao n c:=by
 rcases h.2 with⟨rfl,rfl⟩ | ⟨g,cap,cur,rfl,_⟩
 ·exact⟨_,_,rfl⟩
 ·exact⟨_,_,rfl⟩
theorem box1 {w:World} {b:Nat} {v:Value} {T:TypeId} (h:w.heap[b]? = some (.cells #[v] T (0,0))):w.cell? ⟨b,0,none⟩=some v∧w.frozen? ⟨b,0,none⟩=false:=by
 constructor<;>simp[World.cell?,World.frozen?,h]
theorem nO {w:World} {b:Nat} {v u:Value} {T:TypeId} (h:w.heap[b]? = some (.cells #[v] T (0,0))):(w.setCell ⟨b,0,none⟩ u).heap[b]? = some (.cells #[u] T (0,0)):=by
 simp[World.setCell,Array.getElem?_modify,h]
theorem uW {w:World} {B bd s n:Nat} {e T:TypeId} {v v':Value} {xs:List Value} (hb:w.heap[bd]? = some (.cells #[v] T (0,0))) (hown:w.ownsRow B e s v' n xs) (hT:T≠e) :
  (w.setCell ⟨bd,0,none⟩ v').heap[bd]? = some (.cells #[v'] T (0,0))∧(w.setCell ⟨bd,0,none⟩ v').ownsRow B e s v' n xs :=
 ⟨nO hb,hown.kept (row:=some bd) ⟨rfl,rfl,rfl,by simp[World.setCell],fun k _ hk=>Below.heap_setCell _ _ _ _ (fun e=>hk (by simp[e]))⟩ (Or.inr (fun e=>own_ne hown hb hT e.symm))⟩
theorem aN2 {w:World} {B b s n:Nat} {e T:TypeId} {v:Value} {xs:List Value} {cs:Array Value} (h:w.ownsRow B e s v n xs) (hb:w.heap[b]? = some (.cells cs T (0,0))) (hT:T≠e) (u:Value):(w.setCell ⟨b,0,none⟩ u).ownsRow B e s v n xs :=
 h.kept (row:=some b) ⟨rfl,rfl,rfl,by simp[World.setCell],fun k _ hk=>Below.heap_setCell _ _ _ _ (fun e=>hk (by simp[e]))⟩ (Or.inr (fun e=>own_ne h hb hT e.symm))
theorem jF (d:List PcV) (p:PcV):pcsL (d++[p])=pcsL d++pcL p:=by unfold pcsL;simp
theorem tX (p:PcV) (B bd:Nat) (d:List PcV) (w:World) (hd:DVar w B bd d) (hl:d.length≤100000) (hbB:B≤bd) :
  Calls Tryz.prog 276 #[.agg #[.int .u8 p.kind,.int .i64 p.n,.string p.text],.pointer (some ⟨bd,0,none⟩)] w fun e w'=>e = .returned (.tuple #[])∧DVar w' B bd (putS d p)∧Below B w w':=by
 obtain⟨i0,hi,hz0,hz1,hz2⟩:=info_parts sH
 obtain⟨v,hv,hown⟩:=hd
 have hlt:bd<w.heap.size:=(gAz hv).1
 have hc:w.cell? ⟨bd,0,none⟩=some v:=by simp[World.cell?,hv]
 have hne:some bd≠v.ownBlock:=own_ne hown hv (by decide)
 obtain⟨k,n,t⟩:=p
 by_cases hp:0<n∨t.size≠0
 ·have hR:putS d ⟨k,n,t⟩=d++[⟨k,n,t⟩]:=if_pos hp
  have HR:=Lib.hid hR;clear hR
  have hp0:(decide (0<n)=true)∨(decide (0<n)=false∧t.toList.isEmpty=false):=by
   by_cases h:0<n
   ·exact .inl (by simpa using h)
   ·exact .inr ⟨by simpa using h,by rw[te3];omega⟩
  clear hp
  rcases hp0 with hp0 | ⟨hp0,hp1⟩
  all_goals
   go_enter Tryz.func276,Tryz.ntmps276
   go_wp2_with (at_builtin;refine wpList_append_own _ rfl _ _ 47 rfl B 94 i0 _ 3 32 Tryz.underlying47 hi hz0 hz1 hz2 rfl (by decide) _ _ _ rfl ((hown.alloc _).alloc _) ⟨_,0,none⟩ 1 1 (pcL ⟨k,n,t⟩) rfl rfl (aA9 _ _ _ _) (dJ _) (by unfold maxLen;omega) (by omega) (by simp;omega) ?_;intro v' w3 hown' hgrow _;obtain⟨ao,cap',rfl⟩:=aC hown';have hb3:=(hgrow.block bd (by simp;omega) hne).trans ((heap_alloc_old _ _ (by simp;omega)).trans ((heap_alloc_old _ _ hlt).trans hv));have hc3:=box1 hb3;obtain⟨hc3,hf3⟩:=hc3;have hb5:=((((Below.refl B w).alloc (by omega) (.cells #[.int .u8 k,.int .i64 n,.string t] 94)).alloc (by simp;omega) (.cells (pcL ⟨k,n,t⟩).toArray 94)).grown hgrow (by simp;omega) (fun k hk=>(hown.lt k hk).1)).setCell (p:=⟨bd,0,none⟩) hbB (.slice ao (d.length+1) cap'))
   all_goals go_end0
   all_goals (refine⟨rfl,?_,hb5⟩;rw[HR.out];refine⟨.slice ao (d.length+1) cap',?_⟩;have:=uW hb3 hown' (by decide);rw[List.length_append,jF];exact this)
 ·have hR:putS d ⟨k,n,t⟩=d:=if_neg hp
  have hp0:decide (0<n)=false:=by simp;omega
  have hp1:t.size=0:=by omega
  have hp2:t.toList.isEmpty=true:=by rw[te2];exact hp1
  have HR:=Lib.hid hR;clear hR hp
  go_enter Tryz.func276,Tryz.ntmps276
  go_wp2
  go_end0
  rw[HR.out]
  exact⟨rfl,⟨v,(heap_alloc_old _ _ hlt).trans hv,hown.alloc _⟩,(Below.refl B w).alloc (by omega) _⟩
def FSt (w:World) (B bt bo bg:Nat) (out:List PcV) (tx:List UInt8) (gone:Int):Prop :=
 BuF B bt (Lib.byteCells tx) w∧DVar w B bo out∧w.heap[bg]? = some (.cells #[.int .i64 gone] 3 (0,0))
theorem BuF.blk {B b:Nat} {bs:List Value} {w:World} (h:BuF B b bs w):∃ cs,w.heap[b]? = some (.cells cs 205 (0,0)):=by
 rcases h with⟨_,v,h,_⟩ | ⟨_,v,h,_⟩<;>exact⟨_,h⟩
theorem iO {w w':World} {b k:Nat} {cs:Array Value} {T:TypeId} {bs:Array Value} (hk:sM b w w') (hb:w.heap[b]? = some (.cells bs 205 (0,0))) (h:w.heap[k]? = some (.cells cs T (0,0))) (h1:T≠205) (h2:T≠5):w'.heap[k]? = some (.cells cs T (0,0)):=by
 refine hk k _ h ?_ ?_
 ·intro e
  injection e with e;subst e
  rw[hb] at h;injection h with h;injection h with _ h;exact h1 h.symm
 ·intro c fz e;injection e with _ e;exact h2 e
theorem aBa {w w':World} {B b s n:Nat} {e:TypeId} {v:Value} {xs:List Value} {bs:Array Value} (hk:sM b w w') (hb:w.heap[b]? = some (.cells bs 205 (0,0))) (h:w.ownsRow B e s v n xs) (h1:e≠205) (h2:e≠5):w'.ownsRow B e s v n xs:=by
 refine⟨h.1,?_⟩
 rcases h.2 with hn | ⟨g,cap,cur,rfl,hB,hg,rest⟩
 ·exact .inl hn
 ·exact .inr ⟨g,cap,cur,rfl,hB,iO hk hb hg h1 h2,rest⟩
theorem DVar.kept {w w':World} {B b bo:Nat} {d:List PcV} {bs:Array Value} (h:DVar w B bo d) (hk:sM b w w') (hb:w.heap[b]? = some (.cells bs 205 (0,0))):DVar w' B bo d:=by
 obtain⟨v,hv,ho⟩:=h
 exact⟨v,iO hk hb hv (by decide) (by decide),aBa hk hb ho (by decide) (by decide)⟩
theorem BuF.alloc {B b:Nat} {bs:List Value} {w:World} (h:BuF B b bs w) (o:Obj):BuF B b bs (w.alloc o):=h.elim (fun x => .inl (x.alloc o)) (fun x => .inr (x.alloc o))
def dN (w w':World):Prop:=∀ (k:Nat) (cs:Array Value) (T:TypeId) (fz:Nat × Nat),w.heap[k]? = some (.cells cs T fz)→T=205∨T=5→w'.heap[k]? = w.heap[k]?
theorem BuF.same {B b:Nat} {bs:List Value} {w w':World} (h:BuF B b bs w) (hs:dN w w'):BuF B b bs w':=by
 have key:∀ p,Lib.BuilderAtF 205 5 B b p bs w→Lib.BuilderAtF 205 5 B b p bs w':=by
  rintro p ⟨hB,v,hb,⟨hl,ho⟩,hne⟩
  refine⟨hB,v,(hs _ _ _ _ hb (.inl rfl)).trans hb,⟨hl,?_⟩,hne⟩
  rcases ho with hn | ⟨g,cap,cur,fz,rfl,h1,hg,rest⟩
  ·exact .inl hn
  ·exact .inr ⟨g,cap,cur,fz,rfl,h1,(hs _ _ _ _ hg (.inr rfl)).trans hg,rest⟩
 exact h.elim (fun x => .inl (key _ x)) (fun x => .inr (key _ x))
theorem dN.trans {a b c:World} (h:dN a b) (k:dN b c):dN a c:=fun i cs T fz hi ht=>by
 have h1:=h i cs T fz hi ht
 exact (k i cs T fz (h1.trans hi) ht).trans h1
theorem dN.alloc (w:World) (o:Obj):dN w (w.alloc o):=fun k _ _ _ hk _=>heap_alloc_old _ _ (gAz hk).1
theorem dN.grown {w w':World} {B s n:Nat} {e:TypeId} {v:Value} {xs:List Value} (hg:w.grownBy w' v.ownBlock) (ho:w.ownsRow B e s v n xs) (h1:e≠205) (h2:e≠5):dN w w':=fun k cs T fz hk ht=>by
 refine hg.block k (gAz hk).1 (fun he => ?_)
 rcases ho.2 with⟨rfl,_⟩ | ⟨g,cap,cur,rfl,_,hg,_⟩
 ·simp[Value.ownBlock] at he
 ·simp[Value.ownBlock] at he
  subst he
  rw[hk] at hg;injection hg with hg;injection hg with _ h3 _
  rcases ht with h | h
  ·exact h1 (h3.symm.trans h)
  ·exact h2 (h3.symm.trans h)
theorem dN.set {w:World} {b:Nat} {cs:Array Value} {T:TypeId} (h:w.heap[b]? = some (.cells cs T (0,0))) (h1:T≠205) (h2:T≠5) (u:Value):dN w (w.setCell ⟨b,0,none⟩ u):=fun k cs T fz hk ht=>by
 refine Below.heap_setCell _ _ _ _ (fun he => ?_)
 subst he
 rw[hk] at h;injection h with h;injection h with _ h3 _
 rcases ht with h | h
 ·exact h1 (h3.symm.trans h)
 ·exact h2 (h3.symm.trans h)
def aKg (bo:Nat) (w w':World):Prop:=∀ (k:Nat) (cs:Array Value) (v:Value),w.heap[k]? = some (.cells cs 94 (0,0))→w.heap[bo]? = some (.cells #[v] 47 (0,0))→some k≠v.ownBlock→w'.heap[k]? = w.heap[k]?
theorem kJ {w:World} {b k:Nat} {cs cs':Array Value} {T T':TypeId} (h:w.heap[b]? = some (.cells cs T (0,0))) (hk:w.heap[k]? = some (.cells cs' T' (0,0))) (hT:T≠T') (u:Value):(w.setCell ⟨b,0,none⟩ u).heap[k]? = w.heap[k]? := by
 refine Below.heap_setCell _ _ _ _ (fun he => ?_)
 subst he
 rw[hk] at h;injection h with h;injection h with _ h3 _
 exact hT h3.symm
theorem aD3 (B bt bo bg:Nat) (out:List PcV) (gone:Int) (w:World) (h:FSt w B bt bo bg out [] gone) (hl:out.length≤100000) (hg:0≤gone) (h1:B≤bo) (h2:B≤bg) (hB:B≤w.heap.size) :
  Calls Tryz.prog 258 #[.pointer (some ⟨bt,0,none⟩),.pointer (some ⟨bo,0,none⟩),.pointer (some ⟨bg,0,none⟩)] w fun e w'=>e = .returned (.tuple #[])∧FSt w' B bt bo bg (rR out gone) [] 0∧Below B w w'∧aKg bo w w':=by
 obtain⟨i0,hi,hz0,hz1,hz2⟩:=info_parts sH
 obtain⟨hb,⟨v,hv,hown⟩,hgb⟩:=h
 obtain⟨hc,hcf⟩:=box1 hv
 obtain⟨hcg,hcgf⟩:=box1 hgb
 have hlt:=(gAz hv).1
 have hlg:=(gAz hgb).1
 have hne:some bo≠v.ownBlock:=own_ne hown hv (by decide)
 have hne2:some bg≠v.ownBlock:=own_ne hown hgb (by decide)
 by_cases hgg:0<gone
 ·have hd:decide (0<gone)=true:=by simpa using hgg
  go_enter Tryz.func258,Tryz.ntmps258
  go_wp2_with (first | (go_at_call 259;refine (Tryz.Builder_Len_f B bt _ _ hb).mono ?_;rintro e w' ⟨rfl,rfl⟩) | (at_builtin;refine wpList_append_own _ rfl _ _ 47 rfl B 94 i0 _ 3 32 Tryz.underlying47 hi hz0 hz1 hz2 rfl (by decide) _ _ _ rfl (hown.alloc _) ⟨_,0,none⟩ 1 1 (pcL ⟨3,gone,⟨#[]⟩⟩) rfl rfl (aW _ _ _) (dJ _) (by unfold maxLen;omega) (by omega) (by simp;omega) ?_;intro v' w3 hown' hgrow _;obtain⟨ao,cap',rfl⟩:=aC hown';have hb3:=(hgrow.block bo (by simp;omega) hne).trans ((heap_alloc_old _ _ hlt).trans hv);obtain⟨hc3,hf3⟩:=box1 hb3;have hg3:=(hgrow.block bg (by simp;omega) hne2).trans ((heap_alloc_old _ _ hlg).trans hgb);have hbg:bg≠bo:=(fun e=>by subst e;rw[hg3] at hb3;injection hb3 with hb3;injection hb3 with _ h _;exact absurd h (by decide));have hg4:=(Below.heap_setCell w3 ⟨bo,0,none⟩ (.slice ao (out.length+1) cap') bg hbg).trans hg3;obtain⟨hcg4,hfg4⟩:=box1 hg4))
  go_end0
  have hs:=((dN.alloc _ _).trans (dN.grown hgrow (hown.alloc _) (by decide) (by decide))).trans ((dN.set hb3 (by decide) (by decide) (.slice ao (out.length+1) cap')).trans (dN.set hg4 (by decide) (by decide) (.int .i64 0)))
  have hrv:=uW hb3 hown' (by decide)
  have hB5:=((((Below.refl B w').alloc (by omega) (.cells (pcL ⟨3,gone,⟨#[]⟩⟩).toArray 94)).grown hgrow (by simp;omega) (fun k hk=>(hown.lt k hk).1)).setCell (p:=⟨bo,0,none⟩) h1 (.slice ao (out.length+1) cap')).setCell (p:=⟨bg,0,none⟩) h2 (.int .i64 0)
  refine⟨rfl,⟨hb.same hs,?_,nO hg4⟩,hB5,fun k cs v0 hk hv0 hn => ?_⟩
  rotate_left
  ·rw[hv] at hv0;injection hv0 with hv0;injection hv0 with hv0 _ _
   have hv0:v=v0:=by injection hv0 with h0;injection h0
   subst hv0
   have hkl:=(gAz hk).1
   have e1:=(hgrow.block k (by simp;omega) hn).trans (heap_alloc_old _ _ hkl)
   have e2:=(kJ hb3 (e1.trans hk) (by decide) (.slice ao (out.length+1) cap')).trans e1
   exact (kJ hg4 (e2.trans hk) (by decide) (.int .i64 0)).trans e2
  unfold rR
  rw[if_pos hgg]
  refine⟨.slice ao (out.length+1) cap',(Below.heap_setCell _ ⟨bg,0,none⟩ _ bo (Ne.symm hbg)).trans hrv.1,?_⟩
  rw[List.length_append,jF]
  exact hrv.2.kept (row:=some bg) ⟨rfl,rfl,rfl,by simp[World.setCell],fun k _ hk=>Below.heap_setCell _ _ _ _ (fun e=>hk (by simp[e]))⟩ (Or.inr (fun e=>own_ne hrv.2 hg4 (by decide) e.symm))
 ·have hd:decide (0<gone)=false:=by simpa using hgg
  have hz:gone=0:=by omega
  subst hz
  go_enter Tryz.func258,Tryz.ntmps258
  go_wp2_with (first | (go_at_call 259;refine (Tryz.Builder_Len_f B bt _ _ hb).mono ?_;rintro e w' ⟨rfl,rfl⟩))
  go_end0
  exact⟨rfl,⟨hb,⟨v,hv,hown⟩,hgb⟩,Below.refl _ _,fun _ _ _ _ _ _=>rfl⟩
theorem sM.own {w w':World} {b:Nat} (_:sM b w w'):True:=trivial
theorem aD4 (B bt bo bg:Nat) (out:List PcV) (tx:List UInt8) (w:World) (h:FSt w B bt bo bg out tx 0) (hx:tx≠[]) (hl:out.length≤100000) (h1:B≤bo) (h2:B≤bg) (hB:B≤w.heap.size) :
  Calls Tryz.prog 258 #[.pointer (some ⟨bt,0,none⟩),.pointer (some ⟨bo,0,none⟩),.pointer (some ⟨bg,0,none⟩)] w fun e w'=>e = .returned (.tuple #[])∧FSt w' B bt bo bg (rQ out tx) [] 0∧Below B w w'∧aKg bo w w':=by
 obtain⟨i0,hi,hz0,hz1,hz2⟩:=info_parts sH
 obtain⟨hb,⟨v,hv,hown⟩,hgb⟩:=h
 obtain⟨hc,hcf⟩:=box1 hv
 obtain⟨hcg,hcgf⟩:=box1 hgb
 have hlt:=(gAz hv).1
 have hlg:=(gAz hgb).1
 have hne:some bo≠v.ownBlock:=own_ne hown hv (by decide)
 have hne2:some bg≠v.ownBlock:=own_ne hown hgb (by decide)
 have hlen:decide ((0:Int)<((Lib.byteCells tx).length:Int))=true:=by
  rw[Lib.byteCells_length]
  have:tx.length≠0:=fun h=>hx (List.eq_nil_of_length_eq_zero h)
  simp;omega
 have hx:=Lib.hid hx
 go_enter Tryz.func258,Tryz.ntmps258
 have hlen0:0<(Lib.byteCells tx).length:=by simpa using hlen
 go_wp2_with (first | (go_at_call 259;refine (Tryz.Builder_Len_f B bt _ _ hb).mono ?_;rintro e w' ⟨rfl,rfl⟩))
 all_goals try omega
 have hbD:BuF B bt (Lib.byteCells tx) w'.drew:=hb
 have hBD:B≤w'.drew.heap.size:=hB
 have hvD:w'.drew.heap[bo]? = _:=hv
 have hgD:w'.drew.heap[bg]? = _:=hgb
 have hoD:w'.drew.ownsRow _ _ _ _ _ _:=hown
 go_region_law (first | (rw[if_pos (by rfl)];refine wp_append_own _ _ _ 47 rfl B 94 i0 _ 3 32 Tryz.underlying47 hi hz0 hz1 hz2 rfl (by decide) _ _ _ rfl (hown1.alloc _) ⟨_,0,none⟩ 1 1 (pcL ⟨2,0,⟨tx.toArray⟩⟩) rfl rfl (aW _ _ _) (dJ _) (by unfold maxLen;omega) (by omega) (by have:=hB1.size;simp;omega) ?_;intro v' w3 hown' hgrow _;obtain⟨ao,cap',rfl⟩:=aC hown';have hb3:=(hgrow.block bo (by have:=(gAz hv1).1;simp;omega) hne).trans ((heap_alloc_old _ _ (gAz hv1).1).trans hv1);obtain⟨hc3,hf3⟩:=box1 hb3;have hg3:=(hgrow.block bg (by have:=(gAz hg1).1;simp;omega) hne2).trans ((heap_alloc_old _ _ (gAz hg1).1).trans hg1);have hbg:bg≠bo:=(fun e=>by subst e;rw[hg3] at hb3;injection hb3 with hb3;injection hb3 with _ h _;exact absurd h (by decide));have hg4:=(Below.heap_setCell w3 ⟨bo,0,none⟩ (.slice ao (out.length+1) cap') bg hbg).trans hg3;obtain⟨hcg4,hfg4⟩:=box1 hg4) | (rw[if_pos (by rfl)];go_simp;go_at_call 174;refine (Tryz.Builder_String_any_k B bt tx _ hbD hBD).mono ?_;rintro e w1 ⟨rfl,hb1,hB1,hk1⟩;obtain⟨cbs,hbb⟩:=BuF.blk hbD;have hv1:=iO hk1 hbb hvD (by decide) (by decide);have hg1:=iO hk1 hbb hgD (by decide) (by decide);have hown1:=aBa hk1 hbb hoD (by decide) (by decide);obtain⟨hc1,hcf1⟩:=box1 hv1;obtain⟨hcg1,hcgf1⟩:=box1 hg1;have hlt1:=(gAz hv1).1;have hca:=fun o=>Lib.cell?_alloc_some o hc1))
 all_goals
  have hs:=((dN.alloc w1 _).trans (dN.grown hgrow (hown1.alloc _) (by decide) (by decide))).trans (dN.set hb3 (by decide) (by decide) (.slice ao (out.length+1) cap'))
  have hb4:=BuF.same hb1 hs
  obtain⟨cbs4,hbb4⟩:=BuF.blk hb4
  have hrv:=uW hb3 hown' (by decide)
  have hB4:=((((Below.refl B w').drew.trans hB1).alloc (by have:=hB1.size;simp at *;omega) (.cells (pcL ⟨2,0,⟨tx.toArray⟩⟩).toArray 94)).grown hgrow (by have:=hB1.size;simp at *;omega) (fun k hk=>(hown1.lt k hk).1)).setCell (p:=⟨bo,0,none⟩) h1 (.slice ao (out.length+1) cap')
  have hw4:(w3.setCell ⟨bo,0,none⟩ (.slice ao (out.length+1) cap')).heap.size=w3.heap.size:=by simp[World.setCell]
  go_wp2_with (go_at_call 260;refine (aKf B bt _ _ hb4).mono ?_;rintro e w5 ⟨rfl,hb5,hB5,hk5⟩;have hg5:=iO hk5 hbb4 hg4 (by decide) (by decide);obtain⟨hcg5,hcgf5⟩:=box1 hg5)
  go_end0
  refine⟨rfl,⟨hb5,?_,hg5⟩,hB4.trans hB5,fun k cs v0 hk hv0 hn => ?_⟩
  rotate_left
  ·rw[hv] at hv0;injection hv0 with hv0;injection hv0 with hv0 _ _
   have hv0:v=v0:=by injection hv0 with h0;injection h0
   subst hv0
   have e0:=iO hk1 hbb (show w'.drew.heap[k]? = _ from hk) (by decide) (by decide)
   have hkl:=(gAz e0).1
   have e1:=(hgrow.block k (by simp;omega) hn).trans ((heap_alloc_old _ _ hkl).trans e0)
   have e2:=(kJ hb3 e1 (by decide) (.slice ao (out.length+1) cap')).trans e1
   exact (iO hk5 hbb4 e2 (by decide) (by decide)).trans hk.symm
  unfold rQ
  rw[if_neg hx.out]
  refine DVar.kept ⟨.slice ao (out.length+1) cap',hrv.1,?_⟩ hk5 hbb4
  rw[List.length_append,jF]
  exact hrv.2
theorem xR (B bt bo bg:Nat) (out:List PcV) (tx:List UInt8) (gone:Int) (w:World) (h:FSt w B bt bo bg out tx gone) (hx:tx=[]∨gone=0) (hg:0≤gone) (hl:out.length≤100000) (h1:B≤bo) (h2:B≤bg) (hB:B≤w.heap.size) :
  Calls Tryz.prog 258 #[.pointer (some ⟨bt,0,none⟩),.pointer (some ⟨bo,0,none⟩),.pointer (some ⟨bg,0,none⟩)] w fun e w'=>e = .returned (.tuple #[])∧FSt w' B bt bo bg (jI out tx gone) [] 0∧Below B w w'∧aKg bo w w':=by
 by_cases h0:tx=[]
 ·subst h0
  exact aD3 B bt bo bg out gone w h hl hg h1 h2 hB
 ·have hz:gone=0:=hx.resolve_left h0
  subst hz
  exact aD4 B bt bo bg out tx w h h0 hl h1 h2 hB
end Go.Proofs.YtdeiocppghhfdaaGreat
