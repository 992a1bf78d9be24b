/- Texts, one behind another. -/
import Derived.Test.YtdeiocppghhfdaaGreatZfbg
import Derived.Test.YtdeiocppghhfdaaGreatZfap
import Derived.Laws.BytesArg
import Derived.Lib.LazyBuf
import Derived.Lib.BufferRead
import Derived.Laws.EntriesVeiled
set_option linter.unusedVariables false
set_option linter.unusedSimpArgs false
set_option maxRecDepth 100000
set_option maxHeartbeats 40000000
namespace Go.Proofs.YtdeiocppghhfdaaGreat
open Go.RowKit Go.Lib Go.Shelf
def Alt (d:List PcV):Prop:=(∀ (k:Nat) (p q:PcV),d[k]? = some p→d[k+1]? = some q→(p.kind=1↔q.kind≠1))∧∀ (k:Nat) (p:PcV),d[k]? = some p→p.kind≠1→d.length≤k+2
def PCs (w:World) (b off:Nat) (d:List PcV):Prop:=∀ (k:Nat) (p:PcV),d[k]? = some p→∀ (i:Nat) (u:Value),(pcL p)[i]? = some u→w.cell? ⟨b,off+(k*3+i),none⟩=some u
theorem PCs.on {W W':World} {b off:Nat} {d:List PcV} (h:PCs W b off d) (hB:Below W.heap.size W W') (hb:b<W.heap.size):PCs W' b off d:=fun k p hk i u hu=>(hB.cell (p:=⟨b,off+(k*3+i),none⟩) hb).trans (h k p hk i u hu)
theorem pM {W:World} {lo:Nat} {v:Value} {l:List UInt8} (h:W.ownsRowF lo 5 1 v l.length (Lib.byteCells l)):(convert 162 9 v).run Tryz.prog W = .ok (.string ⟨l.toArray⟩) W:=by
 have h2:=h.2
 rcases h2 with⟨rfl,h0⟩ | ⟨g,cap,cur,fz,rfl,hb,hg,hf,hc,hm,hs,ht⟩
 ·have:l=[]:=List.eq_nil_of_length_eq_zero h0
  subst this
  exact Lib.run_convert_nil_bytes W _ _ 5 0 Tryz.underlying162 Tryz.underlying5 Tryz.underlying9
 ·have:=run_convert_bytes_arg (P := Tryz.prog) W 162 5 Tryz.underlying162 Tryz.underlying5 g 0 l.length cap (l.map fun b=>(b.toNat:Int)) (by simp) (fun i hi=>by
   have h3:=h.cells (g:=g) rfl i (.int .u8 (l[i].toNat:Int)) (by simp[Lib.byteCells,hi])
   have e:(⟨g,0,none⟩:Addr).add i=⟨g,0+i,none⟩:=by unfold Addr.add;split<;>simp_all
   rw[e] at h3
   rw[h3];congr 2;simp[List.getD,hi]) 9 Tryz.underlying9
  rw[this,Lib.Lz.strOfNums_map]
theorem jY {W:World} {lo n:Nat} {v:Value} {l:List UInt8} (h:W.ownsRowF lo 5 1 v n (Lib.byteCells l)) (hn:l.length=n):(convert 162 9 v).run Tryz.prog W = .ok (.string ⟨l.toArray⟩) W:=by
 subst hn;exact pM h
theorem lU {w:World} {B s n:Nat} {e:TypeId} {v:Value} {xs:List Value} (h:w.ownsRowF B e s v n xs):∃ ao c,v = .slice ao n c:=by
 rcases h.2 with⟨rfl,rfl⟩ | ⟨g,cap,cur,fz,rfl,_⟩
 ·exact⟨_,_,rfl⟩
 ·exact⟨_,_,rfl⟩
theorem oD (t:ByteArray):(⟨t.data.toList.toArray⟩:ByteArray)=t:=rfl
theorem uG {x:ByteArray} (h:x.size=0):x=⟨#[]⟩:=by
 apply ByteArray.ext
 exact Array.eq_empty_of_size_eq_zero h
theorem jC (s:ByteArray):[]++Lib.strCells s=Lib.byteCells s.data.toList:=by rw[List.nil_append,Lib.strCells_eq]
abbrev POwn (W:World) (B:Nat) (v:Value) (d:List PcV):Prop:=W.ownsRow B 94 3 v d.length (pcsL d)
theorem POwn.snoc {W:World} {B:Nat} {v:Value} {d:List PcV} {p:PcV} (h:W.ownsRow B 94 3 v (d.length+1) (pcsL d++pcL p)):POwn W B v (d++[p]):=by
 show W.ownsRow B 94 3 v (d++[p]).length (pcsL (d++[p]))
 rw[List.length_append,jF];exact h
def RfI (w:World) (ad:Option Addr) (d:List PcV) (c:Nat) (a:Act) (wr:World):Prop :=
 ∃ (k:Nat) (v:Value) (u:Nat→Value),a={ tmps := #[.slice ad d.length c,u 1,u 2,v,.int .i64 k,u 5,u 6,u 7,u 8,u 9,u 10,u 11,u 12,u 13,u 14,u 15,u 16,u 17,u 18,u 19,u 20,u 21,u 22,u 23,u 24,u 25,u 26,u 27,u 28,u 29,u 30,u 31,u 32,u 33,u 34,u 35,u 36,u 37,u 38,u 39,u 40,u 41,u 42,u 43,u 44,u 45,u 46,u 47,u 48,u 49,u 50,u 51,u 52,u 53,u 54,u 55,u 56,u 57,u 58,u 59,u 60,u 61,u 62,u 63,u 64,u 65,u 66,u 67,u 68,u 69,u 70,u 71,u 72,u 73,u 74,u 75,u 76,u 77,u 78,u 79,u 80,u 81,u 82,u 83],defers:=[] }∧k≤d.length∧POwn wr w.heap.size v (d.take k)∧Below w.heap.size w wr
theorem RfI.intro {w:World} {ad:Option Addr} {d:List PcV} {c:Nat} {a:Act} {wr:World} (k:Nat) (v:Value) {uu:Nat→Value} (_:uu=fun i=>a.tmps.getD i undef) (h:a={ tmps := #[.slice ad d.length c,uu 1,uu 2,v,.int .i64 k,uu 5,uu 6,uu 7,uu 8,uu 9,uu 10,uu 11,uu 12,uu 13,uu 14,uu 15,uu 16,uu 17,uu 18,uu 19,uu 20,uu 21,uu 22,uu 23,uu 24,uu 25,uu 26,uu 27,uu 28,uu 29,uu 30,uu 31,uu 32,uu 33,uu 34,uu 35,uu 36,uu 37,uu 38,uu 39,uu 40,uu 41,uu 42,uu 43,uu 44,uu 45,uu 46,uu 47,uu 48,uu 49,uu 50,uu 51,uu 52,uu 53,uu 54,uu 55,uu 56,uu 57,uu 58,uu 59,uu 60,uu 61,uu 62,uu 63,uu 64,uu 65,uu 66,uu 67,uu 68,uu 69,uu 70,uu 71,uu 72,uu 73,uu 74,uu 75,uu 76,uu 77,uu 78,uu 79,uu 80,uu 81,uu 82,uu 83],defers:=[] }) (hk:k≤d.length) (hv:POwn wr w.heap.size v (d.take k)) (hB:Below w.heap.size w wr):RfI w ad d c a wr:=⟨k,v,uu,h,hk,hv,hB⟩
theorem fQ {d:List PcV} {k:Nat} {p:PcV} (h:d[k]? = some p):d.take (k+1)=d.take k++[p]:=by rw[List.take_add_one,h];rfl
theorem aE0 (ad:Option Addr) (c:Nat) (d:List PcV) (w:World) (hr:PRow w ad d) (hd:DOK d) (hA:Alt d) (hc:d.length≤c):Calls Tryz.prog 268 #[.slice ad d.length c] w fun e w'=>∃ v,e = .returned v∧POwn w' w.heap.size v d∧Below w.heap.size w w':=by
 obtain⟨i0,hi,hz0,hz1,hz2⟩:=info_parts sH
 obtain⟨j0,hj,jz0,jz1,jz2⟩:=info_parts aD2
 have h4:=hd.1
 go_enter Tryz.func268,Tryz.ntmps268
 go_wp2
 refine wp_loop (RfI w ad d c) (fun a _=>d.length-(intOf (a.tmps.getD 4 undef)).toNat) ?_ ?_
 ·exact RfI.intro 0 (.slice none 0 0) rfl rfl (by omega) (World.ownsRow_nil _ _ _ _) (Below.refl _ _)
 ·rintro a wr ⟨k,v,u,rfl,hk,hv,hB⟩
  have hlk:(d.take k).length=k:=by rw[List.length_take];omega
  by_cases hlt:k<d.length
  ·have hg:=gEz hlt
   generalize d[k]=p at hg
   obtain⟨hp1,hp2,hp3⟩:=hd.2 p (mGz hg)
   obtain⟨hn0,hkd⟩:=gB hp1
   rcases hr.on hB with⟨_,h2⟩ | ⟨b,off,rfl,hb,hcell⟩
   ·rw[h2] at hlt;simp at hlt
   obtain⟨c0,c1,c2⟩:=jQ hcell hg
   have hkc:(k:Int)≤c:=by omega
   have HR5:∀ W,Below w.heap.size w W→PCs W b off d:=fun W hW=>by
    rcases hr.on hW with⟨h1,_⟩ | ⟨b',off',h1,_,h3⟩
    ·cases h1
    ·injection h1 with h1;injection h1 with e1 e2 _;subst e1;subst e2;exact h3
   obtain⟨pk,pn,pt⟩:=p
   rcases hkd with e | e | e
   ·obtain rfl:pk=1:=e
    obtain⟨hpn,hpt⟩:1≤pn∧pt.size=0:=by unfold pcP at hp1;dsimp only at hp1;omega
    have hptx:=uG hpt
    subst hptx
    by_cases hlt1:k+1<d.length
    ·have hg1:=gEz hlt1
     generalize d[k+1]=q at hg1
     have hqk:q.kind≠1:=(hA.1 k _ q hg hg1).1 rfl
     obtain⟨y0,y1,y2⟩:=jQ hcell hg1
     have e1:(q.kind == 1)=false:=by simpa using hqk
     clear hg1 hqk
     have HLK:=Lib.hid hlk
     have HG:=Lib.hid hg
     clear hlk hg hr hp1 hcell
     go_wp2
     refine wp_loop_rounds 1 ?_
     rw[rounds_succ]
     go_wp2
     refine wp_loop_rounds 2 ?_
     rw[rounds_succ]
     go_wp2
     rw[rounds_succ]
     go_wp2_with (at_builtin;refine wpList_append_own _ rfl _ _ 47 rfl w.heap.size 94 i0 _ 3 32 Tryz.underlying47 hi hz0 hz1 hz2 rfl (by decide) _ _ _ rfl (hv.alloc _) ⟨_,0,none⟩ 1 1 (pcL ⟨1,pn,⟨#[]⟩⟩) rfl rfl (aW _ _ _) (dJ _) (by unfold maxLen;have hlk:=HLK.out;omega) (by have hlk:=HLK.out;omega) (by have:=hB.size;simp;omega) ?_;intro v5 w5 hw5 hg5 _;have hB5:=(hB.alloc hB.size (.cells (pcL ⟨1,pn,⟨#[]⟩⟩).toArray 94)).grown hg5 (by have:=hB.size;simp;omega) (fun k hk=>(hv.lt k hk).1);have hv5:=POwn.snoc hw5)
     exact⟨RfI.intro (k+1) v5 rfl rfl (by omega) (by rw[fQ HG.out];exact hv5) hB5,by simp[intOf];omega⟩
    ·have e9:decide ((k:Int)+1<d.length)=false:=by simp;omega
     have HLK:=Lib.hid hlk
     have HG:=Lib.hid hg
     clear hlk hg hr hp1 hcell
     go_wp2
     refine wp_loop_rounds 1 ?_
     rw[rounds_succ]
     go_wp2
     refine wp_loop_rounds 2 ?_
     rw[rounds_succ]
     go_wp2
     rw[rounds_succ]
     go_wp2_with (at_builtin;refine wpList_append_own _ rfl _ _ 47 rfl w.heap.size 94 i0 _ 3 32 Tryz.underlying47 hi hz0 hz1 hz2 rfl (by decide) _ _ _ rfl (hv.alloc _) ⟨_,0,none⟩ 1 1 (pcL ⟨1,pn,⟨#[]⟩⟩) rfl rfl (aW _ _ _) (dJ _) (by unfold maxLen;have hlk:=HLK.out;omega) (by have hlk:=HLK.out;omega) (by have:=hB.size;simp;omega) ?_;intro v5 w5 hw5 hg5 _;have hB5:=(hB.alloc hB.size (.cells (pcL ⟨1,pn,⟨#[]⟩⟩).toArray 94)).grown hg5 (by have:=hB.size;simp;omega) (fun k hk=>(hv.lt k hk).1);have hv5:=POwn.snoc hw5)
     exact⟨RfI.intro (k+1) v5 rfl rfl (by omega) (by rw[fQ HG.out];exact hv5) hB5,by simp[intOf];omega⟩
   ·obtain rfl:pk=2:=e
    obtain⟨hpn,hpt⟩:pn=0∧pt.size≠0:=by unfold pcP at hp1;dsimp only at hp1;omega
    subst hpn
    have e5:decide (0<pt.size)=true:=by simp;omega
    have e6:decide (0<(pt.size:Int))=true:=by simp;omega
    have hlate:=hA.2 k _ hg (show ¬ ((2:Int)=1) by omega)
    have HLK:=Lib.hid hlk
    have HG:=Lib.hid hg
    have hpts:pt.size≤100000:=hp3
    by_cases hlt1:k+1<d.length
    ·have hg1:=gEz hlt1
     generalize d[k+1]=q at hg1
     have hqk:q.kind=1:=Decidable.not_not.1 (fun h=>absurd ((hA.1 k _ q hg hg1).2 h) (show ¬ ((2:Int)=1) by omega))
     obtain⟨hq1,hq2,hq3⟩:=hd.2 q (mGz hg1)
     obtain⟨qk,qn,qt⟩:=q
     obtain rfl:qk=1:=hqk
     obtain⟨hqn,hqt⟩:1≤qn∧qt.size=0:=by unfold pcP at hq1;dsimp only at hq1;omega
     have hqx:=uG hqt
     subst hqx
     have hle:d.length=k+2:=by omega
     have HC:=Lib.hid (show PCs wr b off d from hcell)
     have HG1:=Lib.hid hg1
     have d9:decide ((k:Int)+1+1<d.length)=false:=by simp;omega
     have d8:decide ((k:Int)+1<d.length)=true:=by simp;omega
     have e8:decide (0<qn)=true:=by simp;omega
     have HLE:=Lib.hid hle
     clear hlk hg hr hp1 hg1 hq1 hqt hcell hle hlate
     go_wp2
     refine wp_loop_rounds 2 ?_
     rw[rounds_succ]
     go_wp2_with (at_builtin;refine Lib.wpList_append_own_stringF _ rfl _ _ 162 9 rfl wr.heap.size 5 j0 Tryz.underlying162 Tryz.underlying9 hj jz0 jz1 jz2 _ _ _ rfl (World.ownsRowF_nil _ _ _ _) pt rfl (by unfold maxLen;omega) (by omega) (by omega) ?_;intro tv w3 htv hgt hnn;have hB3:Below wr.heap.size wr w3:=(Below.refl _ wr).grown hgt (Nat.le_refl _) (fun k hk=>by cases hk);have hv3:=aI hv hB3;have hB3':=hB.trans (hB3.mono hB.size);rw[jC,Nat.zero_add] at htv;obtain⟨ta,tc,rfl⟩:=lU htv;have hcv:=jY (l:=pt.data.toList) htv Array.length_toList;rw[oD] at hcv;clear hnn hgt;have c13:=(hB3.cell (p:=⟨b,off+k*3+1,none⟩) hb).trans c1;have hc3:=HC.out.on hB3 hb;obtain⟨q30,q31,q32⟩:=jQ hc3 HG1.out)
     rw[rounds_succ]
     go_wp2_with (at_builtin;refine wpList_append_own _ rfl _ _ 47 rfl w.heap.size 94 i0 _ 3 32 Tryz.underlying47 hi hz0 hz1 hz2 rfl (by decide) _ _ _ rfl (hv3.alloc _) ⟨_,0,none⟩ 1 1 (pcL ⟨2,0,pt⟩) rfl rfl (aW _ _ _) (dJ _) (by unfold maxLen;have hlk:=HLK.out;omega) (by have hlk:=HLK.out;omega) (by have:=hB3'.size;simp;omega) ?_;intro v5 w5 hw5 hg5 _;have hB5:=(hB3'.alloc hB3'.size (.cells (pcL ⟨2,0,pt⟩).toArray 94)).grown hg5 (by have:=hB3'.size;simp;omega) (fun k hk=>(hv3.lt k hk).1);have hv5:=POwn.snoc hw5;obtain⟨q50,q51,q52⟩:=jQ (HR5 _ hB5) HG1.out)
     have HL5:(d.take k++[(⟨2,0,pt⟩:PcV)]).length=k+1:=by rw[List.length_append,HLK.out];rfl
     refine wp_loop_rounds 2 ?_
     rw[rounds_succ]
     go_wp2
     rw[rounds_succ]
     go_wp2_with (at_builtin;refine wpList_append_own _ rfl _ _ 47 rfl w.heap.size 94 i0 _ 3 32 Tryz.underlying47 hi hz0 hz1 hz2 rfl (by decide) _ _ _ rfl (hv5.alloc _) ⟨_,0,none⟩ 1 1 (pcL ⟨1,qn,⟨#[]⟩⟩) rfl rfl (aW _ _ _) (dJ _) (by unfold maxLen;have hlk5:=HL5;omega) (by have hlk5:=HL5;omega) (by have:=hB5.size;simp;omega) ?_;intro v6 w6 hw6 hg6 _;have hB6:=(hB5.alloc hB5.size (.cells (pcL ⟨1,qn,⟨#[]⟩⟩).toArray 94)).grown hg6 (by have:=hB5.size;simp;omega) (fun k hk=>(hv5.lt k hk).1);have hv6:=POwn.snoc hw6)
     exact⟨RfI.intro (k+1+1) v6 rfl rfl (by rw[HLE.out];omega) (by rw[fQ HG1.out,fQ HG.out];exact hv6) hB6,by simp[intOf];rw[HLE.out];omega⟩
    ·have hle:d.length=k+1:=by omega
     have d8:decide ((k:Int)+1<d.length)=false:=by simp;omega
     have HLE:=Lib.hid hle
     clear hlk hg hr hp1 hcell hle hlate
     go_wp2
     refine wp_loop_rounds 2 ?_
     rw[rounds_succ]
     go_wp2_with (at_builtin;refine Lib.wpList_append_own_stringF _ rfl _ _ 162 9 rfl wr.heap.size 5 j0 Tryz.underlying162 Tryz.underlying9 hj jz0 jz1 jz2 _ _ _ rfl (World.ownsRowF_nil _ _ _ _) pt rfl (by unfold maxLen;omega) (by omega) (by omega) ?_;intro tv w3 htv hgt hnn;have hB3:Below wr.heap.size wr w3:=(Below.refl _ wr).grown hgt (Nat.le_refl _) (fun k hk=>by cases hk);have hv3:=aI hv hB3;have hB3':=hB.trans (hB3.mono hB.size);rw[jC,Nat.zero_add] at htv;obtain⟨ta,tc,rfl⟩:=lU htv;have hcv:=jY (l:=pt.data.toList) htv Array.length_toList;rw[oD] at hcv;clear hnn hgt;have c13:=(hB3.cell (p:=⟨b,off+k*3+1,none⟩) hb).trans c1;skip)
     rw[rounds_succ]
     go_wp2_with (at_builtin;refine wpList_append_own _ rfl _ _ 47 rfl w.heap.size 94 i0 _ 3 32 Tryz.underlying47 hi hz0 hz1 hz2 rfl (by decide) _ _ _ rfl (hv3.alloc _) ⟨_,0,none⟩ 1 1 (pcL ⟨2,0,pt⟩) rfl rfl (aW _ _ _) (dJ _) (by unfold maxLen;have hlk:=HLK.out;omega) (by have hlk:=HLK.out;omega) (by have:=hB3'.size;simp;omega) ?_;intro v5 w5 hw5 hg5 _;have hB5:=(hB3'.alloc hB3'.size (.cells (pcL ⟨2,0,pt⟩).toArray 94)).grown hg5 (by have:=hB3'.size;simp;omega) (fun k hk=>(hv3.lt k hk).1);have hv5:=POwn.snoc hw5)
     refine wp_loop_rounds 1 ?_
     rw[rounds_succ]
     go_wp2
     exact⟨RfI.intro (k+1) v5 rfl rfl (by rw[HLE.out];omega) (by rw[fQ HG.out];exact hv5) hB5,by simp[intOf];rw[HLE.out];omega⟩
   ·obtain rfl:pk=3:=e
    obtain⟨hpn,hpt⟩:1≤pn∧pt.size=0:=by unfold pcP at hp1;dsimp only at hp1;omega
    have hptx:=uG hpt
    have e5:decide (0<pt.size)=false:=decide_eq_false (by omega)
    have e6:decide (0<(pt.size:Int))=false:=decide_eq_false (by omega)
    have e7:decide (0<pn)=true:=by simp;omega
    have HPT:=Lib.hid hptx
    have hlate:=hA.2 k _ hg (show ¬ ((3:Int)=1) by omega)
    have HLK:=Lib.hid hlk
    have HG:=Lib.hid hg
    have hpts:pt.size≤100000:=hp3
    by_cases hlt1:k+1<d.length
    ·have hg1:=gEz hlt1
     generalize d[k+1]=q at hg1
     have hqk:q.kind=1:=Decidable.not_not.1 (fun h=>absurd ((hA.1 k _ q hg hg1).2 h) (show ¬ ((3:Int)=1) by omega))
     obtain⟨hq1,hq2,hq3⟩:=hd.2 q (mGz hg1)
     obtain⟨qk,qn,qt⟩:=q
     obtain rfl:qk=1:=hqk
     obtain⟨hqn,hqt⟩:1≤qn∧qt.size=0:=by unfold pcP at hq1;dsimp only at hq1;omega
     have hqx:=uG hqt
     subst hqx
     have hle:d.length=k+2:=by omega
     have HC:=Lib.hid (show PCs wr b off d from hcell)
     have HG1:=Lib.hid hg1
     have d9:decide ((k:Int)+1+1<d.length)=false:=by simp;omega
     have d8:decide ((k:Int)+1<d.length)=true:=by simp;omega
     have e8:decide (0<qn)=true:=by simp;omega
     have HLE:=Lib.hid hle
     clear hlk hg hr hp1 hptx hpt hg1 hq1 hqt hcell hle hlate
     go_wp2
     refine wp_loop_rounds 2 ?_
     rw[rounds_succ]
     go_wp2_with (at_builtin;refine Lib.wpList_append_own_stringF _ rfl _ _ 162 9 rfl wr.heap.size 5 j0 Tryz.underlying162 Tryz.underlying9 hj jz0 jz1 jz2 _ _ _ rfl (World.ownsRowF_nil _ _ _ _) pt rfl (by unfold maxLen;omega) (by omega) (by omega) ?_;intro tv w3 htv hgt hnn;have hB3:Below wr.heap.size wr w3:=(Below.refl _ wr).grown hgt (Nat.le_refl _) (fun k hk=>by cases hk);have hv3:=aI hv hB3;have hB3':=hB.trans (hB3.mono hB.size);rw[jC,Nat.zero_add] at htv;obtain⟨ta,tc,rfl⟩:=lU htv;have hcv:=jY (l:=pt.data.toList) htv Array.length_toList;rw[oD] at hcv;clear hnn hgt;have c13:=(hB3.cell (p:=⟨b,off+k*3+1,none⟩) hb).trans c1;have hc3:=HC.out.on hB3 hb;obtain⟨q30,q31,q32⟩:=jQ hc3 HG1.out)
     rw[rounds_succ]
     go_wp2_with (at_builtin;refine wpList_append_own _ rfl _ _ 47 rfl w.heap.size 94 i0 _ 3 32 Tryz.underlying47 hi hz0 hz1 hz2 rfl (by decide) _ _ _ rfl (hv3.alloc _) ⟨_,0,none⟩ 1 1 (pcL ⟨3,pn,⟨#[]⟩⟩) rfl rfl (aW _ _ _) (dJ _) (by unfold maxLen;have hlk:=HLK.out;omega) (by have hlk:=HLK.out;omega) (by have:=hB3'.size;simp;omega) ?_;intro v5 w5 hw5 hg5 _;have hB5:=(hB3'.alloc hB3'.size (.cells (pcL ⟨3,pn,⟨#[]⟩⟩).toArray 94)).grown hg5 (by have:=hB3'.size;simp;omega) (fun k hk=>(hv3.lt k hk).1);have hv5:=POwn.snoc hw5;obtain⟨q50,q51,q52⟩:=jQ (HR5 _ hB5) HG1.out)
     have HL5:(d.take k++[(⟨3,pn,⟨#[]⟩⟩:PcV)]).length=k+1:=by rw[List.length_append,HLK.out];rfl
     refine wp_loop_rounds 2 ?_
     rw[rounds_succ]
     go_wp2
     rw[rounds_succ]
     go_wp2_with (at_builtin;refine wpList_append_own _ rfl _ _ 47 rfl w.heap.size 94 i0 _ 3 32 Tryz.underlying47 hi hz0 hz1 hz2 rfl (by decide) _ _ _ rfl (hv5.alloc _) ⟨_,0,none⟩ 1 1 (pcL ⟨1,qn,⟨#[]⟩⟩) rfl rfl (aW _ _ _) (dJ _) (by unfold maxLen;have hlk5:=HL5;omega) (by have hlk5:=HL5;omega) (by have:=hB5.size;simp;omega) ?_;intro v6 w6 hw6 hg6 _;have hB6:=(hB5.alloc hB5.size (.cells (pcL ⟨1,qn,⟨#[]⟩⟩).toArray 94)).grown hg6 (by have:=hB5.size;simp;omega) (fun k hk=>(hv5.lt k hk).1);have hv6:=POwn.snoc hw6)
     exact⟨RfI.intro (k+1+1) v6 rfl rfl (by rw[HLE.out];omega) (by rw[fQ HG1.out,fQ HG.out,HPT.out];exact hv6) hB6,by simp[intOf];rw[HLE.out];omega⟩
    ·have hle:d.length=k+1:=by omega
     have d8:decide ((k:Int)+1<d.length)=false:=by simp;omega
     have HLE:=Lib.hid hle
     clear hlk hg hr hp1 hptx hpt hcell hle hlate
     go_wp2
     refine wp_loop_rounds 2 ?_
     rw[rounds_succ]
     go_wp2_with (at_builtin;refine Lib.wpList_append_own_stringF _ rfl _ _ 162 9 rfl wr.heap.size 5 j0 Tryz.underlying162 Tryz.underlying9 hj jz0 jz1 jz2 _ _ _ rfl (World.ownsRowF_nil _ _ _ _) pt rfl (by unfold maxLen;omega) (by omega) (by omega) ?_;intro tv w3 htv hgt hnn;have hB3:Below wr.heap.size wr w3:=(Below.refl _ wr).grown hgt (Nat.le_refl _) (fun k hk=>by cases hk);have hv3:=aI hv hB3;have hB3':=hB.trans (hB3.mono hB.size);rw[jC,Nat.zero_add] at htv;obtain⟨ta,tc,rfl⟩:=lU htv;have hcv:=jY (l:=pt.data.toList) htv Array.length_toList;rw[oD] at hcv;clear hnn hgt;have c13:=(hB3.cell (p:=⟨b,off+k*3+1,none⟩) hb).trans c1;skip)
     rw[rounds_succ]
     go_wp2_with (at_builtin;refine wpList_append_own _ rfl _ _ 47 rfl w.heap.size 94 i0 _ 3 32 Tryz.underlying47 hi hz0 hz1 hz2 rfl (by decide) _ _ _ rfl (hv3.alloc _) ⟨_,0,none⟩ 1 1 (pcL ⟨3,pn,⟨#[]⟩⟩) rfl rfl (aW _ _ _) (dJ _) (by unfold maxLen;have hlk:=HLK.out;omega) (by have hlk:=HLK.out;omega) (by have:=hB3'.size;simp;omega) ?_;intro v5 w5 hw5 hg5 _;have hB5:=(hB3'.alloc hB3'.size (.cells (pcL ⟨3,pn,⟨#[]⟩⟩).toArray 94)).grown hg5 (by have:=hB3'.size;simp;omega) (fun k hk=>(hv3.lt k hk).1);have hv5:=POwn.snoc hw5)
     refine wp_loop_rounds 1 ?_
     rw[rounds_succ]
     go_wp2
     exact⟨RfI.intro (k+1) v5 rfl rfl (by rw[HLE.out];omega) (by rw[fQ HG.out,HPT.out];exact hv5) hB5,by simp[intOf];rw[HLE.out];omega⟩
  ·obtain rfl:k=d.length:=by omega
   rw[List.take_length] at hv
   obtain⟨av,cv,rfl⟩:=aC hv
   go_wp2
   go_returns
   exact⟨_,rfl,hv,hB⟩
section
variable {P:Program}
theorem vY (w:World) (base:Nat) (t u ty e:TypeId) (i:TypeInfo) (ht:P.underlying t=some (.slice e)) (hu:P.underlying u=some .string) (hi:P.info? e=some i) (hz:i.zero=some (.int .u8 0))
  (hsize:i.size=1) (hby:i.bytes=1) (v:Value) (n:Nat) (xs:List Value) (hown:w.ownsRow base e 1 v n xs) (s:ByteArray) (h63:n+s.size≤maxLen) (hbytes:n+s.size≤140737488355328) (hbase:base≤w.heap.size) :
  ∃ v' w',(Builtin.append_ #[t,u] ty #[v,.string s]).run P w = .ok v' w'∧w'.ownsRow base e 1 v' (n+s.size) (xs++strCells s)∧w.grownBy w' v.ownBlock∧(v'.ownBlock=v.ownBlock∨v'.ownBlock=some w.heap.size):=by
 obtain⟨v',w',h1,h2,h3,h4⟩:=Lib.run_append_own_string (P:=P) w base t u ty e i ht hu hi hz hsize hby v n xs hown s h63 hbytes hbase
 refine⟨v',w',h1,h2,h3,?_⟩
 have hxl:xs.length=n:=by simpa using hown.1
 rcases hown.2 with⟨rfl,rfl⟩ | ⟨g,cap,cur,rfl,hbg,hg,hnc,hcm,hcs,htake⟩
 ·by_cases hm:s.size=0
  ·exact .inl (by rw[h4.2 ⟨rfl,hm⟩])
  ·have hr:=run_append_nil_string (P:=P) w t u ty e i (.int .u8 0) ht hu hi hz s (by omega) (by unfold maxLen at h63;omega) (by rw[hby];omega)
   rw[h1] at hr
   injection hr with hr _
   exact .inr (by rw[hr];rfl)
 ·by_cases hroom:n+s.size≤cap
  ·have hr:=Lib.run_append_room_string (P:=P) w t u ty e i ht hu hi hsize g n cap cur hg s hroom (by rw[show cur.size=cap by simpa using hcs];exact hroom)
   rw[h1] at hr
   injection hr with hr _
   exact .inl (by rw[hr];rfl)
  ·have holds:∀ j u,xs[j]? = some u→w.cell? ((⟨g,0,none⟩:Addr).add j)=some u:=hown.cells (g:=g) rfl
   have hr:=Lib.run_append_grow_string (P:=P) w t u ty e i (.int .u8 0) ht hu hi hz ⟨g,0,none⟩ n cap xs (by rw[hsize];simpa using hxl) holds s (by omega) (by unfold maxLen at h63;omega) (by rw[hby];exact growslice_fits (by omega) (by omega))
   rw[h1] at hr
   injection hr with hr _
   exact .inr (by rw[hr];rfl)
theorem fH (w:World) {ops:Array Oper} {rest:List Oper} {o:Oper} {a:Act} {Q:Exit→Act→World→Prop} (hgd:o.guard=none) (sl x:Operand) (t u:TypeId)
  (ho:o.op = .call { callee := .builtin .append,args := #[sl,x],argTypes := #[t,u] })
  (base:Nat) (e:TypeId) (i:TypeInfo) (ht:P.underlying t=some (.slice e)) (hu:P.underlying u=some .string) (hi:P.info? e=some i) (hz:i.zero=some (.int .u8 0))
  (hsize:i.size=1) (hby:i.bytes=1)
  (v:Value) (n:Nat) (xs:List Value) (hs:a.eval sl=v) (hown:w.ownsRow base e 1 v n xs) (s:ByteArray) (hx:a.eval x = .string s)
  (h63:n+s.size≤maxLen) (hbytes:n+s.size≤140737488355328) (hbase:base≤w.heap.size)
  (h:∀ v' w',w'.ownsRow base e 1 v' (n+s.size) (xs++strCells s)→w.grownBy w' v.ownBlock→(v'.ownBlock=v.ownBlock∨v'.ownBlock=some w.heap.size)→wpList P ops Q rest (a.put o.dst v') w'):wpList P ops Q (o::rest) a w:=by
 refine wpList_plain hgd fun K hK => ?_
 obtain⟨v',w',hr,h2,h3,h4⟩:=vY (P:=P) w base t u o.type e i ht hu hi hz hsize hby v n xs hown s h63 hbytes hbase
 unfold Oper.wp execOp
 simp only[ho,resolve,invoke,builtin,Sem.run_bind,Sem.run_pure,Result.andThen_ok,List.map_toArray,List.map_cons,List.map_nil,hs,hx,hr]
 exact hK _ _ (h v' w' h2 h3 h4)
end
abbrev BOwn (W:World) (B:Nat) (v:Value) (l:List UInt8):Prop:=W.ownsRow B 5 1 v l.length (Lib.byteCells l)
def Apart (v v2:Value):Prop:=∀ g,v2.ownBlock=some g→v.ownBlock≠some g
theorem aGo {w:World} {B s n:Nat} {e:TypeId} {v:Value} {xs:List Value} (h:w.ownsRow B e s v n xs):∀ k,v.ownBlock=some k→k<w.heap.size:=fun k hk=>(h.lt k hk).2
theorem yQ {w w':World} {B s n:Nat} {e:TypeId} {v:Value} {xs:List Value} (h:w.ownsRow B e s v n xs) (hk:∀ k,k<w.heap.size→v.ownBlock=some k→w'.heap[k]? = w.heap[k]?):w'.ownsRow B e s v n xs:=by
 refine⟨h.1,?_⟩
 rcases h.2 with hn | ⟨g,cap,cur,rfl,hB,hg,rest⟩
 ·exact .inl hn
 ·exact .inr ⟨g,cap,cur,rfl,hB,(hk g (gAz hg).1 rfl).trans hg,rest⟩
theorem uH {w w':World} {B:Nat} {v v' v2:Value} {l l2:List UInt8} {s:ByteArray} (h:BOwn w B v l) (h2:BOwn w B v2 l2) (ha:Apart v v2) (hB:B≤w.heap.size) (ho:w'.ownsRow B 5 1 v' (l.length+s.size) (Lib.byteCells l++strCells s)) (hg:w.grownBy w' v.ownBlock) (hv:v'.ownBlock=v.ownBlock∨v'.ownBlock=some w.heap.size) :
  BOwn w' B v' (l++s.data.toList)∧BOwn w' B v2 l2∧Apart v' v2∧Below B w w':=by
 refine⟨?_,yQ h2 (fun k hk1 hk2=>hg.block k hk1 (fun e=>ha k hk2 e.symm)),?_,(Below.refl B w).grown hg hB (fun k hk=>(h.lt k hk).1)⟩
 ·show w'.ownsRow B 5 1 v' (l++s.data.toList).length (Lib.byteCells (l++s.data.toList))
  rw[Lib.byteCells_append,List.length_append,show s.data.toList.length=s.size from Array.length_toList]
  exact ho
 ·intro g hg2
  rcases hv with e | e
  ·rw[e];exact ha g hg2
  ·rw[e];intro e2;injection e2 with e2
   have:=aGo h2 g hg2;omega
theorem Apart.symm {v v2:Value} (h:Apart v v2):Apart v2 v:=fun g hg hg2=>h g hg2 hg
theorem BOwn.f {W:World} {B:Nat} {v:Value} {l:List UInt8} (h:BOwn W B v l):W.ownsRowF B 5 1 v l.length (Lib.byteCells l):=World.ownsRowF_of h
theorem yR {d:List PcV} (h:DOK d) (k:Nat):∀ j,k+j≤d.length→sumN (d.take k)≤sumN (d.take (k+j))
 |0,_=>Int.le_refl _
 |j+1,hj=>by
  have hx:=gEz (show k+j<d.length by omega)
  generalize d[k+j]=p at hx
  have:=(gB (h.2 p (mGz hx)).1).1
  rw[show k+(j+1)=k+j+1 by omega,kX hx]
  have:=yR h k j (by omega)
  omega
theorem aPs {d:List PcV} (h:DOK d) {k:Nat} (hk:k≤d.length):sumN (d.take k)≤sumN d:=by
 have:=yR h k (d.length-k) (by omega)
 rwa [show k+(d.length-k)=d.length by omega,List.take_length] at this
theorem aE1 {s:List UInt8} {d:List PcV} (h:DOK d) {k:Nat} {p:PcV} (hx:d[k]? = some p) (hr:(paF s (d.take k)).rest=s.drop (sumN (d.take k)).toNat) :
  (paF s (d.take (k+1))).rest=s.drop (sumN (d.take (k+1))).toNat ∧
  (p.kind=1→(paF s (d.take (k+1))).out=(paF s (d.take k)).out++p.text.data.toList++(s.drop (sumN (d.take k)).toNat).take p.n.toNat∧(paF s (d.take (k+1))).gone=(paF s (d.take k)).gone) ∧
  (p.kind≠1→(paF s (d.take (k+1))).out=(paF s (d.take k)).out++p.text.data.toList∧(paF s (d.take (k+1))).gone=(paF s (d.take k)).gone++(s.drop (sumN (d.take k)).toNat).take p.n.toNat):=by
 have hp:=(h.2 p (mGz hx)).1
 have hb:=(lT h k (Nat.le_of_lt (gLz hx).1)).1.1
 have hn:=(gB hp).1
 have hnil:p.text.size=0→p.text.data.toList=[]:=fun h0=>List.eq_nil_of_length_eq_zero (by rw[Array.length_toList];exact h0)
 rw[aL8 hx,kX hx]
 have hsum:(sumN (d.take k)+p.n).toNat=(sumN (d.take k)).toNat+p.n.toNat:=by omega
 rw[hsum,← List.drop_drop,← hr]
 unfold pcP at hp
 rcases hp with⟨h1 | h1,h2,h3⟩ | ⟨h1,h2,h3⟩
 ·unfold dU
  rw[if_pos h1]
  exact⟨rfl,fun _=>⟨by rw[hnil h3,List.append_nil],rfl⟩,fun h=>absurd h1 h⟩
 ·unfold dU
  rw[if_neg (by omega),if_neg (by omega)]
  exact⟨rfl,fun h=>by omega,fun _=>⟨by rw[hnil h3,List.append_nil],rfl⟩⟩
 ·unfold dU
  rw[if_neg (by omega),if_pos h1,h2]
  exact⟨rfl,fun h=>by omega,fun _=>⟨rfl,by simp⟩⟩
def RpI (w:World) (s:ByteArray) (ad:Option Addr) (d:List PcV) (c:Nat) (a:Act) (wr:World):Prop :=
 ∃ (k:Nat) (vo vg:Value) (u:Nat→Value),a={ tmps := #[.string s,.slice ad d.length c,u 2,u 3,u 4,u 5,vo,vg,.int .i64 (sumN (d.take k)),.int .i64 k,u 10,u 11,u 12,u 13,u 14,u 15,u 16,u 17,u 18,u 19,u 20,u 21,u 22,u 23,u 24,u 25,u 26,u 27,u 28,u 29,u 30,u 31,u 32,u 33,u 34,u 35,u 36,u 37,u 38,u 39,u 40,u 41,u 42,u 43,u 44,u 45,u 46,u 47,u 48,u 49,u 50,u 51,u 52,u 53,u 54,u 55,u 56,u 57,u 58,u 59,u 60,u 61,u 62,u 63],defers:=[] }∧k≤d.length∧BOwn wr w.heap.size vo (paF s.data.toList (d.take k)).out∧BOwn wr w.heap.size vg (paF s.data.toList (d.take k)).gone∧Apart vo vg∧(paF s.data.toList (d.take k)).rest=s.data.toList.drop (sumN (d.take k)).toNat∧((paF s.data.toList (d.take k)).out.length≤k*200000∧(paF s.data.toList (d.take k)).gone.length≤k*200000)∧Below w.heap.size w wr
theorem RpI.intro {w:World} {s:ByteArray} {ad:Option Addr} {d:List PcV} {c:Nat} {a:Act} {wr:World} (k:Nat) (vo vg:Value) {uu:Nat→Value} (_:uu=fun i=>a.tmps.getD i undef) (h:a={ tmps := #[.string s,.slice ad d.length c,uu 2,uu 3,uu 4,uu 5,vo,vg,.int .i64 (sumN (d.take k)),.int .i64 k,uu 10,uu 11,uu 12,uu 13,uu 14,uu 15,uu 16,uu 17,uu 18,uu 19,uu 20,uu 21,uu 22,uu 23,uu 24,uu 25,uu 26,uu 27,uu 28,uu 29,uu 30,uu 31,uu 32,uu 33,uu 34,uu 35,uu 36,uu 37,uu 38,uu 39,uu 40,uu 41,uu 42,uu 43,uu 44,uu 45,uu 46,uu 47,uu 48,uu 49,uu 50,uu 51,uu 52,uu 53,uu 54,uu 55,uu 56,uu 57,uu 58,uu 59,uu 60,uu 61,uu 62,uu 63],defers:=[] }) (hk:k≤d.length) (h1:BOwn wr w.heap.size vo (paF s.data.toList (d.take k)).out) (h2:BOwn wr w.heap.size vg (paF s.data.toList (d.take k)).gone) (h3:Apart vo vg) (h4:(paF s.data.toList (d.take k)).rest=s.data.toList.drop (sumN (d.take k)).toNat) (h5:(paF s.data.toList (d.take k)).out.length≤k*200000∧(paF s.data.toList (d.take k)).gone.length≤k*200000) (hB:Below w.heap.size w wr):RpI w s ad d c a wr:=⟨k,vo,vg,uu,h,hk,h1,h2,h3,h4,h5,hB⟩
theorem vZ {W:World} {b off:Nat} {d:List PcV} (h:PRow W (some ⟨b,off,none⟩) d):PCs W b off d:=by
 rcases h with⟨h1,_⟩ | ⟨b',off',h1,_,h3⟩
 ·cases h1
 ·injection h1 with h1;injection h1 with e1 e2 _;subst e1;subst e2;exact h3
theorem aPt (s:ByteArray) (a n:Int) (ha:0≤a) (hn:0≤n):(s.extract a.toNat (a+n).toNat).data.toList=(s.data.toList.drop a.toNat).take n.toNat:=by
 rw[show (a+n).toNat=a.toNat+n.toNat by omega]
 simp[ByteArray.data_extract]
theorem aCd (s:ByteArray) (ad:Option Addr) (c:Nat) (d:List PcV) (w:World) (hr:PRow w ad d) (hd:DOK d) (hc:d.length≤c) (hs:s.size≤100000) (hfit:sumN d≤s.size) :
  Calls Tryz.prog 273 #[.string s,.slice ad d.length c] w fun e w'=>∃ x,e = .returned (.tuple #[.string ⟨(paF s.data.toList d).out.toArray⟩,.string x])∧Below w.heap.size w w':=by
 obtain⟨j0,hj,jz0,jz1,jz2⟩:=info_parts aD2
 have h4:=hd.1
 go_enter Tryz.func273,Tryz.ntmps273
 go_wp2
 refine wp_loop (RpI w s ad d c) (fun a _=>d.length-(intOf (a.tmps.getD 9 undef)).toNat) ?_ ?_
 ·exact RpI.intro 0 (.slice none 0 0) (.slice none 0 0) rfl rfl (by omega) (World.ownsRow_nil _ _ _ _) (World.ownsRow_nil _ _ _ _) (fun g hg=>by cases hg) rfl (by simp[paF]) (Below.refl _ _)
 ·rintro a wr ⟨k,vo,vg,u,rfl,hk,hvo,hvg,hap,hrest,⟨hlo,hlg⟩,hB⟩
  obtain⟨⟨x0,x1⟩,_⟩:=lT hd k hk
  by_cases hlt:k<d.length
  ·have hg:=gEz hlt
   generalize d[k]=p at hg
   obtain⟨hp1,hp2,hp3⟩:=hd.2 p (mGz hg)
   obtain⟨hn0,hkd⟩:=gB hp1
   obtain⟨st1,st2,st3⟩:=aE1 hd hg hrest
   have hle:=aPs hd (show k+1≤d.length by omega)
   have hsn:=kX hg
   have hcut:=aPt s (sumN (d.take k)) p.n x0 hn0
   rw[hsn] at hle
   have HSN:=Lib.hid hsn
   have HR5:∀ W,Below w.heap.size w W→PRow W ad d:=fun W hW=>hr.on hW
   rcases hr.on hB with⟨_,h2⟩ | ⟨b,off,rfl,hb,hcell⟩
   ·rw[h2] at hlt;simp at hlt
   obtain⟨c0,c1,c2⟩:=jQ hcell hg
   have hpcs:PCs wr b off d:=hcell
   generalize hS:sumN (d.take k)=S at *
   generalize hX:paF s.data.toList (d.take k)=X at *
   have hwr:IntKind.i64.wrap (S+p.n)=S+p.n:=IntWalk.i64_in _ (by omega)
   have hsp:0≤S+p.n:=by omega
   have hcl:(s.extract S.toNat (S+p.n).toNat).size≤100000:=by rw[ByteArray.size_extract];omega
   have hrl:(s.extract S.toNat (S+p.n).toNat).size=(s.extract S.toNat (S+p.n).toNat).data.toList.length:=Array.length_toList.symm
   have hBz:=hB.size
   have HG:=Lib.hid hg
   have hpt:p.text.data.toList.length=p.text.size:=Array.length_toList
   have HCUT:=Lib.hid hcut
   have HL1:=Lib.hid (show (X.out++p.text.data.toList).length+(s.extract S.toNat (S+p.n).toNat).size≤2000000∧X.gone.length+(s.extract S.toNat (S+p.n).toNat).size≤2000000 by rw[List.length_append,hpt];omega)
   have HRL:=Lib.hid hrl
   have HPT:=Lib.hid hpt
   have HX:=Lib.hid hX
   have HS:=Lib.hid hS
   clear hcut hrl hpt hX hS hsn hg hpcs hcell hr hp1 hrest
   by_cases e:p.kind=1
   ·have e1:(p.kind == 1)=true:=by simpa using e
    obtain⟨s1,s2⟩:=st2 e
    have HS1:=Lib.hid s1;have HS2:=Lib.hid s2;have HS3:=Lib.hid st1
    clear s1 s2 st1 st2 st3 e
    go_wp2_with (first | (at_builtin;refine fH _ rfl _ _ 162 9 rfl w.heap.size 5 j0 Tryz.underlying162 Tryz.underlying9 hj jz0 jz1 jz2 _ _ _ rfl hvo1 (s.extract S.toNat (S+p.n).toNat) rfl (by have:=HL1.out;unfold maxLen;omega) (by have:=HL1.out;omega) hBz1 ?_;intro v2 w2 ho2 hg2 hv2;obtain⟨hvo2,hvg2,hap2,hb2⟩:=uH hvo1 hvg1 hap1 hBz1 ho2 hg2 hv2;have hB2:=hB1.trans hb2;obtain⟨r0,r1,r2⟩:=jQ (vZ (HR5 _ hB2)) HG.out) | (at_builtin;refine fH _ rfl _ _ 162 9 rfl w.heap.size 5 j0 Tryz.underlying162 Tryz.underlying9 hj jz0 jz1 jz2 _ _ _ rfl hvo p.text rfl (by unfold maxLen;omega) (by omega) hBz ?_;intro v1 w1 ho1 hg1 hv1;obtain⟨hvo1,hvg1,hap1,hb1⟩:=uH hvo hvg hap hBz ho1 hg1 hv1;have hB1:=hB.trans hb1;have hBz1:=hB1.size;obtain⟨q0,q1,q2⟩:=jQ (vZ (HR5 _ hB1)) HG.out))
    exact⟨RpI.intro (k+1) v2 vg rfl (by rw[HSN.out];rfl) (by omega) (by rw[HS1.out,← HCUT.out];exact hvo2) (by rw[HS2.out];exact hvg2) hap2 HS3.out (by
     rw[HS1.out,HS2.out,← HCUT.out,List.length_append,List.length_append,HPT.out,← HRL.out];omega) hB2,by simp[intOf];omega⟩
   ·have e1:(p.kind == 1)=false:=by simpa using e
    obtain⟨s1,s2⟩:=st3 e
    have HS1:=Lib.hid s1;have HS2:=Lib.hid s2;have HS3:=Lib.hid st1
    clear s1 s2 st1 st2 st3 e
    go_wp2_with (first | (at_builtin;refine fH _ rfl _ _ 162 9 rfl w.heap.size 5 j0 Tryz.underlying162 Tryz.underlying9 hj jz0 jz1 jz2 _ _ _ rfl hvg1 (s.extract S.toNat (S+p.n).toNat) rfl (by have:=HL1.out;unfold maxLen;omega) (by have:=HL1.out;omega) hBz1 ?_;intro v2 w2 ho2 hg2 hv2;obtain⟨hvg2,hvo2,hap2,hb2⟩:=uH hvg1 hvo1 hap1.symm hBz1 ho2 hg2 hv2;have hB2:=hB1.trans hb2;obtain⟨r0,r1,r2⟩:=jQ (vZ (HR5 _ hB2)) HG.out) | (at_builtin;refine fH _ rfl _ _ 162 9 rfl w.heap.size 5 j0 Tryz.underlying162 Tryz.underlying9 hj jz0 jz1 jz2 _ _ _ rfl hvo p.text rfl (by unfold maxLen;omega) (by omega) hBz ?_;intro v1 w1 ho1 hg1 hv1;obtain⟨hvo1,hvg1,hap1,hb1⟩:=uH hvo hvg hap hBz ho1 hg1 hv1;have hB1:=hB.trans hb1;have hBz1:=hB1.size;obtain⟨q0,q1,q2⟩:=jQ (vZ (HR5 _ hB1)) HG.out))
    exact⟨RpI.intro (k+1) v1 v2 rfl (by rw[HSN.out];rfl) (by omega) (by rw[HS1.out];exact hvo2) (by rw[HS2.out,← HCUT.out];exact hvg2) hap2.symm HS3.out (by
     rw[HS1.out,HS2.out,← HCUT.out,List.length_append,List.length_append,HPT.out,← HRL.out];omega) hB2,by simp[intOf];omega⟩
  ·obtain rfl:k=d.length:=by omega
   rw[List.take_length] at hvo hvg hrest
   obtain⟨ao,co,rfl⟩:=aC hvo
   obtain⟨ag,cg,rfl⟩:=aC hvg
   have k1:(convert 162 9 (.slice ao (paF s.data.toList d).out.length co)).run Tryz.prog wr.drew = .ok (.string ⟨(paF s.data.toList d).out.toArray⟩) wr.drew:=pM (World.ownsRowF_of (aI hvo (Below.refl _ _).drew))
   have k2:(convert 162 9 (.slice ag (paF s.data.toList d).gone.length cg)).run Tryz.prog wr.drew = .ok (.string ⟨(paF s.data.toList d).gone.toArray⟩) wr.drew:=pM (World.ownsRowF_of (aI hvg (Below.refl _ _).drew))
   have hB2:=hB.drew
   clear hvo hvg hrest hr
   obtain⟨xo,hXo⟩:∃ xo,(paF s.data.toList d).out=xo:=⟨_,rfl⟩
   obtain⟨xg,hXg⟩:∃ xg,(paF s.data.toList d).gone=xg:=⟨_,rfl⟩
   rw[hXo] at k1 ⊢
   rw[hXg] at k2 ⊢
   have HXO:=Lib.hid hXo
   clear hXo hXg
   go_wp2
   refine aP (S:=fun W=>(convert 162 9 (.slice ao xo.length co)).run Tryz.prog W = .ok (.string ⟨xo.toArray⟩) W∧(convert 162 9 (.slice ag xg.length cg)).run Tryz.prog W = .ok (.string ⟨xg.toArray⟩) W) ?_ (fun hHeld => ?_)
   ·exact⟨k1,k2⟩
   iterate 6 ((first | refine aJ ?_ | refine np_q ?_ | refine aL 0 ?_);(try simp only[nSO]))
   refine np_z ?_
   go_wp2
   go_returns
   exact⟨⟨xg.toArray⟩,by rw[HXO.out];rfl,hB2⟩
theorem aE2 (s:ByteArray) (a:Option Addr) (c:Nat) (d:List PcV) (w:World) (hr:PRow w a d) (hd:DOK d) (hc:d.length≤c) (hs:sumN d=s.size) :
  Calls Tryz.prog 272 #[.string s,.slice a d.length c] w fun e w'=>e = .returned (.int .i64 0)∧Below w.heap.size w w':=by
 have h1:=oO a c d w hr hd hc
 rw[hs] at h1
 have H1:=Lib.hid h1
 clear h1 hs
 go_enter Tryz.func272,Tryz.ntmps272
 go_wp2_with (first | (go_at_call 269;refine H1.out.mono ?_;rintro e w1 ⟨rfl,hB1⟩))
 go_returns
 exact⟨rfl,hB1⟩
theorem aCe (s:ByteArray) (at_ n:Int) (x:ByteArray) (a:Option Addr) (c:Nat) (w:World) (hrep:iP s.size at_ n x) (hr:PRow w a (repD s.size at_ n x)) (hc:(repD s.size at_ n x).length≤c) :
  Calls Tryz.prog 231 #[.string s,.slice a (repD s.size at_ n x).length c] w fun e w'=>e = .returned (.tuple #[.string (repT s at_ n x),.int .i64 0])∧Below w.heap.size w w':=by
 obtain⟨_,hout⟩:=aRd s at_ n x hrep
 obtain⟨hd,hsn,_⟩:=rC hrep
 have hsz:s.size≤100000:=by have:=hrep.2.2.2.1;omega
 have hf:=aE2 s a c (repD s.size at_ n x) w hr hd hc hsn
 have hp:=fun W (hW:PRow W a (repD s.size at_ n x))=>aCd s a c (repD s.size at_ n x) W hW hd hc hsz (by omega)
 have he:(⟨(paF s.data.toList (repD s.size at_ n x)).out.toArray⟩:ByteArray)=repT s at_ n x:=by rw[hout]
 rw[he] at hp
 have HF:=Lib.hid hf;have HP:=Lib.hid hp
 clear hf hp he hout hsn hd
 generalize repD s.size at_ n x=D at *
 go_enter Tryz.func231,Tryz.ntmps231
 go_wp2_with (first | (go_at_call 272;refine HF.out.mono ?_;rintro e w1 ⟨rfl,hB1⟩) | (go_at_call 273;refine (HP.out _ (hr.on hB1)).mono ?_;rintro e w2 ⟨x1,rfl,hB2⟩))
 go_returns
 exact⟨rfl,hB1.trans (hB2.mono hB1.size)⟩
theorem aPu {n at_ k:Int} {t:ByteArray} (h:iP n at_ k t):Alt (repD n at_ k t):=by
 obtain⟨h1,h2,h3,h4,h5,h6⟩:=h
 unfold repD
 rcases h6 with⟨rfl,hx⟩ | ⟨hk,hx⟩
 ·by_cases ha:0<at_<;>by_cases hr:0<n-at_-0<;>rw[if_pos hx,if_neg (show ¬ (0:Int)<0 by omega)]<;>simp only[ha,hr,if_true,if_false,List.append_nil,List.nil_append,List.cons_append,List.append_assoc]
  all_goals
   refine⟨fun j p q hp hq => ?_,fun j p hp hne => ?_⟩
   ·rcases j with _ | _ | _ | j<;>simp at hp hq<;>subst hp<;>subst hq<;>simp
   ·rcases j with _ | _ | _ | j<;>simp at hp<;>subst hp<;>simp at hne ⊢
 ·by_cases ha:0<at_<;>by_cases hr:0<n-at_-k<;>rw[if_neg (show ¬ t.size≠0 by omega),if_pos hk]<;>simp only[ha,hr,if_true,if_false,List.append_nil,List.nil_append,List.cons_append,List.append_assoc]
  all_goals
   refine⟨fun j p q hp hq => ?_,fun j p hp hne => ?_⟩
   ·rcases j with _ | _ | _ | j<;>simp at hp hq<;>subst hp<;>subst hq<;>simp
   ·rcases j with _ | _ | _ | j<;>simp at hp<;>subst hp<;>simp at hne ⊢
end Go.Proofs.YtdeiocppghhfdaaGreat
