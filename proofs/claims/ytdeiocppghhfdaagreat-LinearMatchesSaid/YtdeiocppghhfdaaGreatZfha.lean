/- Texts, one behind another. -/
import Derived.Test.YtdeiocppghhfdaaGreatZfaa
import Derived.WalkKit
import Derived.WalkSpells
import Derived.WalkLawsBesides
import Derived.Lib.Hide
import Derived.Handy
import Derived.Deep.QuietTactic
import Derived.BigQuiet
import Derived.Deep.MidRow
import Derived.Deep.WholeRow
import Derived.RangeFuncNested
import Derived.RangeFuncBound
import Derived.RangeFuncCalls
import Derived.RangeFuncLeaves
import Derived.RangeFuncFrom
import Derived.Shelf.Abstract
import Derived.Shelf.RegionOpen
import Derived.OwnWalkIn
import Derived.TacticsInMore
import Derived.LoopNIn
import Derived.LoopIn
set_option linter.unusedVariables false
set_option linter.unusedSimpArgs false
set_option maxRecDepth 100000
set_option maxHeartbeats 40000000
namespace Go.Proofs.YtdeiocppghhfdaaGreat.Hs
open Go.RowKit
structure dZ where
 kind:Int
 n:Int
 text:ByteArray
deriving DecidableEq,Inhabited
def gL (p:dZ):List Value:=[.int .u8 p.kind,.int .i64 p.n,.string p.text]
structure aA where
 thread:Int
 index:Int
 okind:Int
 oslot:Int
 oat:Int
 on:Int
 oid:Int
 ograv:Int
 otext:ByteArray
 invoked:Int
 took:Int
 rank:Int
 answered:Int
 steps:Int
 err:Int
 rev:Int
 rslot:Int
 rat:Int
 rgrav:Int
 rtext:ByteArray
 mb:Int
 mr:Int
 ml:Int
 ik:Int
 ifrom:Int
 ito:Int
 ps:List dZ
 da:Option Addr
 dc:Nat
deriving DecidableEq,Inhabited
def aA.pure (c:aA):aA:={ c with da:=none,dc:=0 }
def aB (c:aA):List Value:=[.int .i64 c.thread,.int .i64 c.index,.int .u8 c.okind,.int .i64 c.oslot,.int .i64 c.oat,.int .i64 c.on,.int .u32 c.oid,.int .u8 c.ograv,.string c.otext,.int .i64 c.invoked,.int .i64 c.took,.int .i64 c.rank,.int .i64 c.answered,.int .i64 c.steps,.int .i64 c.err,.int .i64 c.rev,.int .i64 c.rslot,.int .i64 c.rat,.int .u8 c.rgrav,.string c.rtext,.int .i64 c.mb,.int .i64 c.mr,.int .i64 c.ml,.int .u8 c.ik,.int .i64 c.ifrom,.int .i64 c.ito,.slice c.da c.ps.length c.dc]
def resL (c:aA):List Value:=[.int .i64 c.err,.int .i64 c.rev,.int .i64 c.rslot,.int .i64 c.rat,.int .u8 c.rgrav,.string c.rtext,.int .i64 c.mb,.int .i64 c.mr,.int .i64 c.ml,.int .u8 c.ik,.int .i64 c.ifrom,.int .i64 c.ito,.slice c.da c.ps.length c.dc]
theorem fI (c:aA):(aB c)[0]? = some (.int .i64 c.thread):=rfl
theorem rJ (c:aA):(aB c)[1]? = some (.int .i64 c.index):=rfl
theorem aGx (c:aA):(aB c)[2]? = some (.int .u8 c.okind):=rfl
theorem aGy (c:aA):(aB c)[3]? = some (.int .i64 c.oslot):=rfl
theorem aGz (c:aA):(aB c)[4]? = some (.int .i64 c.oat):=rfl
theorem aG0 (c:aA):(aB c)[5]? = some (.int .i64 c.on):=rfl
theorem aG1 (c:aA):(aB c)[6]? = some (.int .u32 c.oid):=rfl
theorem aG2 (c:aA):(aB c)[7]? = some (.int .u8 c.ograv):=rfl
theorem aG3 (c:aA):(aB c)[8]? = some (.string c.otext):=rfl
theorem aAv (c:aA):(aB c)[9]? = some (.int .i64 c.invoked):=rfl
theorem iU (c:aA):(aB c)[10]? = some (.int .i64 c.took):=rfl
theorem iV (c:aA):(aB c)[11]? = some (.int .i64 c.rank):=rfl
theorem fC (c:aA):(aB c)[12]? = some (.int .i64 c.answered):=rfl
theorem aCy (c:aA):(aB c)[13]? = some (.int .i64 c.steps):=rfl
theorem aCz (c:aA):(aB c)[14]? = some (.int .i64 c.err):=rfl
theorem aC0 (c:aA):(aB c)[15]? = some (.int .i64 c.rev):=rfl
theorem aC1 (c:aA):(aB c)[16]? = some (.int .i64 c.rslot):=rfl
theorem aC2 (c:aA):(aB c)[17]? = some (.int .i64 c.rat):=rfl
theorem aC3 (c:aA):(aB c)[18]? = some (.int .u8 c.rgrav):=rfl
theorem aC4 (c:aA):(aB c)[19]? = some (.string c.rtext):=rfl
theorem aC5 (c:aA):(aB c)[20]? = some (.int .i64 c.mb):=rfl
theorem aC6 (c:aA):(aB c)[21]? = some (.int .i64 c.mr):=rfl
theorem aC7 (c:aA):(aB c)[22]? = some (.int .i64 c.ml):=rfl
theorem aC8 (c:aA):(aB c)[23]? = some (.int .u8 c.ik):=rfl
theorem aC9 (c:aA):(aB c)[24]? = some (.int .i64 c.ifrom):=rfl
theorem aDa (c:aA):(aB c)[25]? = some (.int .i64 c.ito):=rfl
theorem jS (c:aA):(aB c)[26]? = some (.slice c.da c.ps.length c.dc):=rfl
theorem aNf (c:aA):(resL c)[0]? = some (.int .i64 c.err):=rfl
theorem aNg (c:aA):(resL c)[1]? = some (.int .i64 c.rev):=rfl
theorem aNh (c:aA):(resL c)[2]? = some (.int .i64 c.rslot):=rfl
theorem aNi (c:aA):(resL c)[3]? = some (.int .i64 c.rat):=rfl
theorem aNj (c:aA):(resL c)[4]? = some (.int .u8 c.rgrav):=rfl
theorem aNk (c:aA):(resL c)[5]? = some (.string c.rtext):=rfl
theorem aNl (c:aA):(resL c)[6]? = some (.int .i64 c.mb):=rfl
theorem aNm (c:aA):(resL c)[7]? = some (.int .i64 c.mr):=rfl
theorem aNn (c:aA):(resL c)[8]? = some (.int .i64 c.ml):=rfl
theorem aNo (c:aA):(resL c)[9]? = some (.int .u8 c.ik):=rfl
theorem aG4 (c:aA):(resL c)[10]? = some (.int .i64 c.ifrom):=rfl
theorem aG5 (c:aA):(resL c)[11]? = some (.int .i64 c.ito):=rfl
theorem aG6 (c:aA):(resL c)[12]? = some (.slice c.da c.ps.length c.dc):=rfl
theorem dM (c:aA):(aB c).length=27:=rfl
theorem bD (c:aA):(resL c).length=13:=rfl
theorem aG7 (c:aA) (h:0<(aB c).length):(aB c)[0]'h = .int .i64 c.thread:=rfl
theorem aG8 (c:aA) (h:1<(aB c).length):(aB c)[1]'h = .int .i64 c.index:=rfl
theorem aG9 (c:aA) (h:2<(aB c).length):(aB c)[2]'h = .int .u8 c.okind:=rfl
theorem aHa (c:aA) (h:3<(aB c).length):(aB c)[3]'h = .int .i64 c.oslot:=rfl
theorem aHb (c:aA) (h:4<(aB c).length):(aB c)[4]'h = .int .i64 c.oat:=rfl
theorem aHc (c:aA) (h:5<(aB c).length):(aB c)[5]'h = .int .i64 c.on:=rfl
theorem aHd (c:aA) (h:6<(aB c).length):(aB c)[6]'h = .int .u32 c.oid:=rfl
theorem aHe (c:aA) (h:7<(aB c).length):(aB c)[7]'h = .int .u8 c.ograv:=rfl
theorem aHf (c:aA) (h:8<(aB c).length):(aB c)[8]'h = .string c.otext:=rfl
theorem aHg (c:aA) (h:9<(aB c).length):(aB c)[9]'h = .int .i64 c.invoked:=rfl
theorem aDb (c:aA) (h:10<(aB c).length):(aB c)[10]'h = .int .i64 c.took:=rfl
theorem aDc (c:aA) (h:11<(aB c).length):(aB c)[11]'h = .int .i64 c.rank:=rfl
theorem aDd (c:aA) (h:12<(aB c).length):(aB c)[12]'h = .int .i64 c.answered:=rfl
theorem aDe (c:aA) (h:13<(aB c).length):(aB c)[13]'h = .int .i64 c.steps:=rfl
theorem aDf (c:aA) (h:14<(aB c).length):(aB c)[14]'h = .int .i64 c.err:=rfl
theorem aDg (c:aA) (h:15<(aB c).length):(aB c)[15]'h = .int .i64 c.rev:=rfl
theorem aDh (c:aA) (h:16<(aB c).length):(aB c)[16]'h = .int .i64 c.rslot:=rfl
theorem aDi (c:aA) (h:17<(aB c).length):(aB c)[17]'h = .int .i64 c.rat:=rfl
theorem aDj (c:aA) (h:18<(aB c).length):(aB c)[18]'h = .int .u8 c.rgrav:=rfl
theorem aDk (c:aA) (h:19<(aB c).length):(aB c)[19]'h = .string c.rtext:=rfl
theorem aDl (c:aA) (h:20<(aB c).length):(aB c)[20]'h = .int .i64 c.mb:=rfl
theorem aDm (c:aA) (h:21<(aB c).length):(aB c)[21]'h = .int .i64 c.mr:=rfl
theorem aDn (c:aA) (h:22<(aB c).length):(aB c)[22]'h = .int .i64 c.ml:=rfl
theorem aDo (c:aA) (h:23<(aB c).length):(aB c)[23]'h = .int .u8 c.ik:=rfl
theorem aDp (c:aA) (h:24<(aB c).length):(aB c)[24]'h = .int .i64 c.ifrom:=rfl
theorem aDq (c:aA) (h:25<(aB c).length):(aB c)[25]'h = .int .i64 c.ito:=rfl
theorem rM (c:aA) (h:26<(aB c).length):(aB c)[26]'h = .slice c.da c.ps.length c.dc:=rfl
theorem aNp (c:aA) (h:0<(resL c).length):(resL c)[0]'h = .int .i64 c.err:=rfl
theorem aNq (c:aA) (h:1<(resL c).length):(resL c)[1]'h = .int .i64 c.rev:=rfl
theorem aNr (c:aA) (h:2<(resL c).length):(resL c)[2]'h = .int .i64 c.rslot:=rfl
theorem aNs (c:aA) (h:3<(resL c).length):(resL c)[3]'h = .int .i64 c.rat:=rfl
theorem aNt (c:aA) (h:4<(resL c).length):(resL c)[4]'h = .int .u8 c.rgrav:=rfl
theorem aNu (c:aA) (h:5<(resL c).length):(resL c)[5]'h = .string c.rtext:=rfl
theorem aNv (c:aA) (h:6<(resL c).length):(resL c)[6]'h = .int .i64 c.mb:=rfl
theorem aNw (c:aA) (h:7<(resL c).length):(resL c)[7]'h = .int .i64 c.mr:=rfl
theorem aNx (c:aA) (h:8<(resL c).length):(resL c)[8]'h = .int .i64 c.ml:=rfl
theorem aNy (c:aA) (h:9<(resL c).length):(resL c)[9]'h = .int .u8 c.ik:=rfl
theorem aHh (c:aA) (h:10<(resL c).length):(resL c)[10]'h = .int .i64 c.ifrom:=rfl
theorem aHi (c:aA) (h:11<(resL c).length):(resL c)[11]'h = .int .i64 c.ito:=rfl
theorem aHj (c:aA) (h:12<(resL c).length):(resL c)[12]'h = .slice c.da c.ps.length c.dc:=rfl
theorem aD {W:World} {b:Nat} {L:List Value} {t:TypeId} (h:W.heap[b]? = some (.cells L.toArray t (0,0))) (j:Nat):W.cell? ⟨b,j,none⟩=L[j]? := by rw[cell_of_row W b j _ t (0,0) h];simp
theorem eB {W:World} {b:Nat} {L:List Value} {t:TypeId} (h:W.heap[b]? = some (.cells L.toArray t (0,0))) (j:Nat):W.frozen? ⟨b,j,none⟩=false:=by simp[World.frozen?,h]
theorem yY {W:World} {b:Nat} {L:List Value} {t:TypeId} (h:W.heap[b]? = some (.cells L.toArray t (0,0))):W.rangeAt b 0 L:=fun j v hv=>by rw[Nat.zero_add,aD h,hv]
theorem bE (W:World) (L:List Value) (t:TypeId):(W.alloc (.cells L.toArray t)).heap[W.heap.size]? = some (.cells L.toArray t (0,0)):=heap_alloc_new W _
theorem aZ {W:World} {b:Nat} {o:Obj} (h:W.heap[b]? = some o) (o':Obj):(W.alloc o').heap[b]? = some o:=(Below.heap_alloc W o' b (gAz h).1).trans h
theorem aU {W W':World} {b:Nat} {o:Obj} (h:W.heap[b]? = some o) {B:Nat} (hb:Below B W W') (hB:b<B):W'.heap[b]? = some o:=(hb.block b hB).trans h
def aM (v:Value):Sem Value:=Instr.loadAt 56 v
theorem aN (v:Value):Instr.loadAt 56 v=aM v:=rfl
theorem dD {W:World} {b:Nat} (c:aA) (h:W.heap[b]? = some (.cells (aB c).toArray 56 (0,0))):(aM (.pointer (some ⟨b,0,none⟩))).run Tryz.prog W = .ok (.agg (aB c).toArray) W :=
 run_loadAt_mid W b 0 56 (aB c) _ (yY h) Tryz.underlying56 rfl (by kernel_rfl)
theorem bX (W:World) (c:aA):(aM (.pointer (some ⟨W.heap.size,0,none⟩))).run Tryz.prog (W.alloc (.cells (aB c).toArray 56)) = .ok (.agg (aB c).toArray) (W.alloc (.cells (aB c).toArray 56)):=dD c (bE W _ _)
theorem bB (W:World) (c:aA) (o:Obj):(aM (.pointer (some ⟨W.heap.size,0,none⟩))).run Tryz.prog ((W.alloc (.cells (aB c).toArray 56)).alloc o) = .ok (.agg (aB c).toArray) ((W.alloc (.cells (aB c).toArray 56)).alloc o):=dD c (aZ (bE W _ _) o)
theorem aX (W:World) (c:aA) (o:Obj):(aM (.pointer (some ⟨W.heap.size+1,0,none⟩))).run Tryz.prog ((W.alloc o).alloc (.cells (aB c).toArray 56)) = .ok (.agg (aB c).toArray) ((W.alloc o).alloc (.cells (aB c).toArray 56)):=dD c (by have:=bE (W.alloc o) (aB c) 56;rwa [World.size_alloc] at this)
def uL (v:Value):Sem Value:=Instr.loadAt 51 v
theorem aR (v:Value):Instr.loadAt 51 v=uL v:=rfl
theorem lD {W:World} {b:Nat} (c:aA) (h:W.heap[b]? = some (.cells (aB c).toArray 56 (0,0))):(uL (.pointer (some ⟨b,14,none⟩))).run Tryz.prog W = .ok (.agg (resL c).toArray) W :=
 run_loadAt_mid W b 14 51 (resL c) _ (fun j v hv=>by
  rw[aD h]
  have:(resL c)[j]? = (aB c)[14+j]? := by
   rw[show resL c=(aB c).drop 14 from rfl,List.getElem?_drop]
  rw[← this]
  exact hv) Tryz.underlying51 rfl (by kernel_rfl)
theorem bH (W:World) (c:aA):(uL (.pointer (some ⟨W.heap.size,14,none⟩))).run Tryz.prog (W.alloc (.cells (aB c).toArray 56)) = .ok (.agg (resL c).toArray) (W.alloc (.cells (aB c).toArray 56)):=lD c (bE W _ _)
theorem pU (c:aA):(aB c).toArray.all (·.oneCell')=true:=by simp[aB,Value.oneCell']
theorem cK (W:World) (c:aA):(storeCells ⟨W.heap.size,0,none⟩ (aB c)).run Tryz.prog (W.alloc (.cells #[.int .i64 0,.int .i64 0,.int .u8 0,.int .i64 0,.int .i64 0,.int .i64 0,.int .u32 0,.int .u8 0,.string ⟨#[]⟩,.int .i64 0,.int .i64 0,.int .i64 0,.int .i64 0,.int .i64 0,.int .i64 0,.int .i64 0,.int .i64 0,.int .i64 0,.int .u8 0,.string ⟨#[]⟩,.int .i64 0,.int .i64 0,.int .i64 0,.int .u8 0,.int .i64 0,.int .i64 0,.slice none 0 0] 56)) = .ok () (W.alloc (.cells (aB c).toArray 56)):=by
 have h:=run_storeCells_new (P := Tryz.prog) W 56 #[.int .i64 0,.int .i64 0,.int .u8 0,.int .i64 0,.int .i64 0,.int .i64 0,.int .u32 0,.int .u8 0,.string ⟨#[]⟩,.int .i64 0,.int .i64 0,.int .i64 0,.int .i64 0,.int .i64 0,.int .i64 0,.int .i64 0,.int .i64 0,.int .i64 0,.int .u8 0,.string ⟨#[]⟩,.int .i64 0,.int .i64 0,.int .i64 0,.int .u8 0,.int .i64 0,.int .i64 0,.slice none 0 0] (aB c).toArray (by kernel_rfl) rfl (pU c)
 simpa using h
theorem aQq {W w1:World} (hb:Below W.heap.size W w1):(∀ b o,b<W.heap.size→w1.cell? ⟨b,o,none⟩=W.cell? ⟨b,o,none⟩)∧(∀ b o,b<W.heap.size→w1.frozen? ⟨b,o,none⟩=W.frozen? ⟨b,o,none⟩) :=
 ⟨fun b o h=>hb.cell (p:=⟨b,o,none⟩) h,fun b o h=>hb.frozen (p:=⟨b,o,none⟩) h⟩
theorem aO {a b:Bool} (h:a=b):Ending.returned (.bool a) = .returned (.bool b):=by rw[h]
theorem lX (w:World) (o o':Obj):Below w.heap.size w ((w.alloc o).alloc o'):=((Below.refl _ _).alloc (Nat.le_refl _) o).alloc (by simp) o'
theorem dP:type_of% (And.intro fI <| And.intro rJ <| And.intro aGx <| And.intro aGy <| And.intro aGz <| And.intro aG0 <| And.intro aG1 <| And.intro aG2 <| And.intro aG3 <| And.intro aAv <| And.intro iU <| And.intro iV <| And.intro fC <| And.intro aCy <| And.intro aCz <| And.intro aC0 <| And.intro aC1 <| And.intro aC2 <| And.intro aC3 <| And.intro aC4 <| And.intro aC5 <| And.intro aC6 <| And.intro aC7 <| And.intro aC8 <| And.intro aC9 <| And.intro aDa <| And.intro jS <| And.intro aNf <| And.intro aNg <| And.intro aNh <| And.intro aNi <| And.intro aNj <| And.intro aNk <| And.intro aNl <| And.intro aNm <| And.intro aNn <| And.intro aNo <| And.intro aG4 <| And.intro aG5 <| And.intro aG6 <| And.intro aG7 <| And.intro aG8 <| And.intro aG9 <| And.intro aHa <| And.intro aHb <| And.intro aHc <| And.intro aHd <| And.intro aHe <| And.intro aHf <| And.intro aHg <| And.intro aDb <| And.intro aDc <| And.intro aDd <| And.intro aDe <| And.intro aDf <| And.intro aDg <| And.intro aDh <| And.intro aDi <| And.intro aDj <| And.intro aDk <| And.intro aDl <| And.intro aDm <| And.intro aDn <| And.intro aDo <| And.intro aDp <| And.intro aDq <| And.intro rM <| And.intro aNp <| And.intro aNq <| And.intro aNr <| And.intro aNs <| And.intro aNt <| And.intro aNu <| And.intro aNv <| And.intro aNw <| And.intro aNx <| And.intro aNy <| And.intro aHh <| And.intro aHi <| And.intro aHj <| And.intro dM bD):=And.intro fI <| And.intro rJ <| And.intro aGx <| And.intro aGy <| And.intro aGz <| And.intro aG0 <| And.intro aG1 <| And.intro aG2 <| And.intro aG3 <| And.intro aAv <| And.intro iU <| And.intro iV <| And.intro fC <| And.intro aCy <| And.intro aCz <| And.intro aC0 <| And.intro aC1 <| And.intro aC2 <| And.intro aC3 <| And.intro aC4 <| And.intro aC5 <| And.intro aC6 <| And.intro aC7 <| And.intro aC8 <| And.intro aC9 <| And.intro aDa <| And.intro jS <| And.intro aNf <| And.intro aNg <| And.intro aNh <| And.intro aNi <| And.intro aNj <| And.intro aNk <| And.intro aNl <| And.intro aNm <| And.intro aNn <| And.intro aNo <| And.intro aG4 <| And.intro aG5 <| And.intro aG6 <| And.intro aG7 <| And.intro aG8 <| And.intro aG9 <| And.intro aHa <| And.intro aHb <| And.intro aHc <| And.intro aHd <| And.intro aHe <| And.intro aHf <| And.intro aHg <| And.intro aDb <| And.intro aDc <| And.intro aDd <| And.intro aDe <| And.intro aDf <| And.intro aDg <| And.intro aDh <| And.intro aDi <| And.intro aDj <| And.intro aDk <| And.intro aDl <| And.intro aDm <| And.intro aDn <| And.intro aDo <| And.intro aDp <| And.intro aDq <| And.intro rM <| And.intro aNp <| And.intro aNq <| And.intro aNr <| And.intro aNs <| And.intro aNt <| And.intro aNu <| And.intro aNv <| And.intro aNw <| And.intro aNx <| And.intro aNy <| And.intro aHh <| And.intro aHi <| And.intro aHj <| And.intro dM bD
attribute [local go_sem, local simp] dP
attribute [local go_sem ↓] aN aR
attribute [local go_sem] bX bB aX bH cK
def befB (c d:aA):Bool:=decide (0≤c.answered) && decide (c.answered<d.invoked)
theorem pV (c d:aA) (w:World):Calls Tryz.prog 106 #[.agg (aB c).toArray,.agg (aB d).toArray] w fun e w'=>e = .returned (.bool (befB c d))∧Below w.heap.size w w':=by
 go_enter Tryz.func106,Tryz.ntmps106
 go_wp2
 all_goals (go_ret;exact⟨aO (by unfold befB;rw[Bool.eq_iff_iff];simp;omega),lX _ _ _⟩)
theorem kG (c d:aA) (w:World):Calls Tryz.prog 126 #[.agg (aB c).toArray,.agg (aB d).toArray] w fun e w'=>e = .returned (.bool (befB c d))∧Below w.heap.size w w':=by
 go_enter Tryz.func126,Tryz.ntmps126
 go_wp2
 all_goals (go_ret;exact⟨aO (by unfold befB;rw[Bool.eq_iff_iff];simp;omega),lX _ _ _⟩)
def nI (c:aA):Bool:=decide (c.ps.length=0∧c.err=0∧c.rev=0∧c.rslot=0∧c.rat=0∧c.rgrav=0∧c.rtext.toList=[]∧c.mb=0∧c.mr=0∧c.ml=0∧c.ik=0∧c.ifrom=0∧c.ito=0)
theorem aJl (c:aA) (w:World):Calls Tryz.prog 186 #[.agg (resL c).toArray] w fun e w'=>e = .returned (.bool (nI c))∧Below w.heap.size w w':=by
 go_enter Tryz.func186,Tryz.ntmps186
 go_wp2
 all_goals (go_ret;exact⟨aO (by unfold nI;rw[Bool.eq_iff_iff];simp[*]),(Below.refl _ _).alloc (Nat.le_refl _) _⟩)
structure aA.Ok (c:aA):Prop where
 i0 : -9223372036854775808≤c.invoked
 i1:c.invoked≤9223372036854775807
 a0 : -9223372036854775808≤c.answered
 a1:c.answered≤9223372036854775807
 s0 : -9223372036854775808≤c.steps
 s1:c.steps≤9223372036854775807
 t0 : -9223372036854775808≤c.took
 t1:c.took≤9223372036854775807
 r0 : -9223372036854775808≤c.rank
 r1:c.rank≤9223372036854775807
 kd:0≤c.okind∧c.okind≤255
 id:0≤c.oid∧c.oid≤4294967295
 gr:0≤c.ograv
 sl : -9223372036854775808≤c.oslot∧c.oslot≤9223372036854775807
 at_ : -9223372036854775808≤c.oat∧c.oat≤9223372036854775807
 nn : -9223372036854775808≤c.on∧c.on≤9223372036854775807
def iC (c:aA):Bool :=
 decide (0≤c.thread∧c.thread<16∧0≤c.index∧0≤c.invoked ∧ -1≤c.took ∧ -1≤c.answered∧0≤c.rank∧0≤c.steps ∧
  ((0≤c.took∧c.invoked≤c.took)∨(c.took<0∧c.rank=0∧nI c=true)) ∧
  ((c.answered<0∧c.steps=0)∨(0≤c.answered∧0≤c.took∧c.took≤c.answered∧c.invoked≤c.answered∧1≤c.steps∧c.steps-1≤c.answered-c.invoked∧(c.answered=c.invoked∨2≤c.steps))))
theorem aFp (c:aA) (hc:c.Ok) (w:World):Calls Tryz.prog 129 #[.agg (aB c).toArray] w fun e w'=>e = .returned (.bool (iC c))∧Below w.heap.size w w':=by
 obtain⟨hi0,hi1,ha0,ha1,hs0,hs1,ht0,ht1,hr0,hr1,_⟩:=hc
 have cp:=fun W=>aJl c W
 obtain⟨p,hp⟩:∃ p,nI c=p:=⟨_,rfl⟩
 rw[hp] at cp
 have Hp:=Lib.hid hp
 clear hp
 go_enter Tryz.func129,Tryz.ntmps129
 go_wp2_with (go_at_call 186;refine (cp _).mono ?_;rintro e w1 ⟨rfl,hb1⟩;obtain⟨hcl,hfz⟩:=aQq hb1)
 all_goals go_returns
 all_goals refine⟨aO ?_,by first | exact ((Below.refl _ _).alloc (Nat.le_refl _) _) | exact ((Below.refl _ _).alloc (Nat.le_refl _) _).trans (hb1.mono (by simp))⟩
 all_goals (have hp:=Hp.out;clear Hp cp;unfold iC;rw[hp];clear hp;cases p<;>(rw[Bool.eq_iff_iff];simp at *;try omega))
def dF (c d:aA):Bool :=
 decide ((0≤c.invoked∧(c.invoked=d.invoked∨c.invoked=d.answered))∨(0≤c.answered∧(c.answered=d.invoked∨c.answered=d.answered)) ∨
  (0≤c.took∧c.took=d.took∧c.rank=d.rank) ∨
  (c.thread≠d.thread∧((0≤c.took∧(c.took=d.invoked∨c.took=d.answered))∨(0≤d.took∧(d.took=c.invoked∨d.took=c.answered)))))
theorem aJm (c d:aA) (w:World):Calls Tryz.prog 130 #[.agg (aB c).toArray,.agg (aB d).toArray] w fun e w'=>e = .returned (.bool (dF c d))∧Below w.heap.size w w':=by
 have i0:∀ w,(Instr.index 218 (.agg #[.int .i64 c.invoked,.int .i64 c.answered]) (.int .i64 0)).run Tryz.prog w = .ok (.int .i64 c.invoked) w:=fun _=>by kernel_rfl
 have i1:∀ w,(Instr.index 218 (.agg #[.int .i64 c.invoked,.int .i64 c.answered]) (.int .i64 1)).run Tryz.prog w = .ok (.int .i64 c.answered) w:=fun _=>by kernel_rfl
 go_enter Tryz.func130,Tryz.ntmps130
 go_wp2
 refine wp_loop_rounds 3 ?_
 rw[rounds_succ]
 go_wp2
 repeat any_goals (rw[rounds_succ];go_wp2)
 all_goals go_returns
 all_goals refine⟨aO ?_,lX _ _ _⟩
 all_goals (clear i0 i1;unfold dF;rw[Bool.eq_iff_iff];simp at *;try omega)
end Go.Proofs.YtdeiocppghhfdaaGreat.Hs
namespace Go.Proofs.YtdeiocppghhfdaaGreat.Hs
open Go.RowKit Go.Shelf
attribute [local go_sem] Oper.semAt_some
attribute [local go_sem, local simp] dP
attribute [local go_sem ↓] aN aR
attribute [local go_sem] bX bB aX bH cK
def fF (cs:List aA):List Value:=cs.flatMap aB
theorem nJ (c:aA) (cs:List aA):fF (c::cs)=aB c++fF cs:=rfl
theorem pW (cs:List aA):(fF cs).length=cs.length*27:=by
 induction cs with
 |nil=>rfl
 |cons c cs ih=>rw[nJ,List.length_append,ih,dM,List.length_cons];omega
theorem wR:∀ (cs:List aA) (k j:Nat) (c:aA),cs[k]? = some c→j<27→(fF cs)[k*27+j]? = (aB c)[j]?
 |[],k,j,c,h,_=>by simp at h
 |a::cs,0,j,c,h,hj=>by
  simp at h
  subst h
  rw[nJ,List.getElem?_append_left (by rw[dM];omega)]
  congr 1;omega
 |a::cs,k+1,j,c,h,hj=>by
  rw[nJ,List.getElem?_append_right (by rw[dM];omega),dM,show (k+1)*27+j-27=k*27+j from by omega]
  exact wR cs k j c (by simpa using h) hj
theorem cO {w:World} {a:Addr} {v:Value} (h:w.cell? a=some v):a.block<w.heap.size:=by
 rcases Nat.lt_or_ge a.block w.heap.size with h' | h'
 ·exact h'
 ·simp[World.cell?,Array.getElem?_eq_none h'] at h
def CAt (w:World) (b off:Nat) (cs:List aA):Prop:=∀ j u,(fF cs)[j]? = some u→w.cell? ⟨b,off+j,none⟩=some u
theorem CAt.on {w w':World} {b off:Nat} {cs:List aA} (h:CAt w b off cs) (hb:Below w.heap.size w w'):CAt w' b off cs:=fun j u hj=>by
 rw[hb.cell (cO (h j u hj))];exact h j u hj
theorem CAt.below {w w':World} {b off B:Nat} {cs:List aA} (h:CAt w b off cs) (hb:Below B w w') (hB:b<B):CAt w' b off cs:=fun j u hj=>by
 rw[hb.cell (p:=⟨b,off+j,none⟩) hB];exact h j u hj
theorem CAt.cell {w:World} {b off:Nat} {cs:List aA} (h:CAt w b off cs) {k:Nat} {c:aA} (hk:cs[k]? = some c) (j:Nat) (hj:j<27):w.cell? ⟨b,off+k*27+j,none⟩=(aB c)[j]? := by
 have h1:=wR cs k j c hk hj
 obtain⟨u,hu⟩:∃ u,(aB c)[j]? = some u:=⟨_,gEz (by rw[dM];omega)⟩
 rw[hu] at h1 ⊢
 rw[Nat.add_assoc]
 exact h _ _ h1
theorem CAt.load {w:World} {b off:Nat} {cs:List aA} (h:CAt w b off cs) {k:Nat} {c:aA} (hk:cs[k]? = some c):(aM (.pointer (some ⟨b,off+k*27,none⟩))).run Tryz.prog w = .ok (.agg (aB c).toArray) w :=
 run_loadAt_mid w b (off+k*27) 56 (aB c) _ (fun j v hv=>by
  rw[h.cell hk j (by have:=(gLz hv).1;rwa [dM] at this)]
  exact hv) Tryz.underlying56 rfl (by kernel_rfl)
theorem CAt.size {w:World} {b off:Nat} {cs:List aA} (h:CAt w b off cs) (hn:0<cs.length):b<w.heap.size:=by
 obtain⟨u,hu⟩:∃ u,(fF cs)[0]? = some u:=⟨_,gEz (by rw[pW];omega)⟩
 exact cO (h 0 u hu)
theorem CAt.take {w:World} {b off:Nat} {cs:List aA} (h:CAt w b off cs) (n:Nat):CAt w b off (cs.take n):=fun j u hj=>by
 refine h j u ?_
 have e:fF cs=fF (cs.take n)++fF (cs.drop n):=by
  unfold fF
  rw[← List.flatMap_append,List.take_append_drop]
 rw[e,List.getElem?_append_left (gLz hj).1]
 exact hj
def dR (t:Int):List aA→Nat→List Nat
 |[],_=>[]
 |c::cs,k=>if c.thread=t then k::dR t cs (k+1) else dR t cs (k+1)
theorem aFq {t:Int} {cs:List aA} {k:Nat} {c:aA} (h:cs[k]? = some c):dR t (cs.drop k) k=if c.thread=t then k::dR t (cs.drop (k+1)) (k+1) else dR t (cs.drop (k+1)) (k+1):=by
 obtain⟨hlt,rfl⟩:=gLz h
 rw[List.drop_eq_getElem_cons hlt]
 rfl
theorem aRt (p:Option Addr) (n c:Nat) (t:Int) (w:World):Calls Tryz.prog 110 #[.int .i64 t,.slice p n c] w fun e w'=>e = .returned (.func (.func 159) #[] #[.pointer (some ⟨w.heap.size+1,0,none⟩),.pointer (some ⟨w.heap.size,0,none⟩)])∧(w.alloc (.cells #[.int .i64 t] 3)).alloc (.cells #[.slice p n c] 25)=w':=by
 go_enter Tryz.func110,Tryz.ntmps110
 go_wp2
 go_ret
 exact⟨rfl,rfl⟩
structure eP (q:Nat→Prop) (X Y:World):Prop where
 size:X.heap.size≤Y.heap.size
 block:∀ k,q k→Y.heap[k]? = X.heap[k]?
theorem eP.refl (q:Nat→Prop) (X:World):eP q X X:=⟨Nat.le_refl _,fun _ _=>rfl⟩
theorem eP.trans {q:Nat→Prop} {A B C:World} (h:eP q A B) (k:eP q B C):eP q A C:=⟨Nat.le_trans h.size k.size,fun i hi=>(k.block i hi).trans (h.block i hi)⟩
theorem eP.cell {q:Nat→Prop} {X Y:World} (h:eP q X Y) {p:Addr} (hp:q p.block):Y.cell? p=X.cell? p:=World.cell?_of_block (w:=X) (h.block p.block hp)
theorem eP.of_below {q:Nat→Prop} {X Y:World} (h:Below X.heap.size X Y) (hq:∀ k,q k→k<X.heap.size):eP q X Y:=⟨h.size,fun k hk=>h.block k (hq k hk)⟩
theorem eP.alloc {q:Nat→Prop} {X:World} (hq:∀ k,q k→k<X.heap.size) (o:Obj):eP q X (X.alloc o) := .of_below ((Below.refl _ _).alloc (Nat.le_refl _) _) hq
theorem eP.set {q:Nat→Prop} {X:World} {p:Addr} (hq:¬ q p.block) (v:Value):eP q X (X.setCell p v):=⟨by simp[World.setCell],fun k hk=>Below.heap_setCell X p v k (fun e=>hq (e ▸ hk))⟩
theorem aQc {q:Nat→Prop} {w:World} (hq:∀ k,q k→k<w.heap.size) (W:World) (l:Nat) (o o':Obj) (hl:w.heap.size≤l) (_:W.heap[l]? = some o) (_:o.isCells=false) (_:o.isWalk=false):eP q W (W.putObj l o') :=
 ⟨by simp[World.putObj],fun k hk=>World.putObj_heap_other (fun e=>by have:=hq k hk;omega)⟩
theorem CAt.keep {w w':World} {b off:Nat} {cs:List aA} {q:Nat→Prop} (h:CAt w b off cs) (hb:eP q w w') (hq:q b):CAt w' b off cs:=fun j u hj=>by
 rw[hb.cell (p:=⟨b,off+j,none⟩) hq];exact h j u hj
def mU (L:List Nat) (J Jx:List Nat→World→Prop) (e:Ending) (W':World):Prop:=(∃ v,e = .returned v)∧((∃ ys,ys=L∧J ys W')∨(∃ pre,pre <+: L∧Jx pre W'))
theorem aRu (n:Nat) (hn:1≤n) (l Bl Bt b off cap:Nat) (q:Nat→Prop) (cs:List aA) (t:Int) (hs:cs.length≤1000000) (J Jx:List Nat→World→Prop)
  (hY:∀ pre x W,J pre W→pre.length<cs.length→x<cs.length→YieldAt Fence.wide (n-1) Tryz.prog l #[.int .i64 (x:Int)] W fun e W' =>
   (e = .returned (.bool true)∧J (pre++[x]) W'∧eP q W W')∨(e = .returned (.bool false)∧Jx (pre++[x]) W'))
  (W:World) (hA:∀ pre X o,J pre X→J pre (X.alloc o)) (hBl:W.cell? ⟨Bl,0,none⟩=some (.slice (some ⟨b,off,none⟩) cs.length cap)) (hBt:W.cell? ⟨Bt,0,none⟩=some (.int .i64 t)) (hC:CAt W b off cs) (h0:∀ k,q k→k<W.heap.size) (h2:q Bt) (h3:q b) (hJ:J [] W) :
  CallsIn Fence.wide n Tryz.prog 159 #[.func (.yield l) #[] #[],.pointer (some ⟨Bl,0,none⟩),.pointer (some ⟨Bt,0,none⟩)] W (mU (dR t cs 0) J Jx):=by
 refine callsIn_of_wp Tryz.func159 rfl trivial ?_ rfl
 simp only[Tryz.ntmps159,List.size_toArray,List.length_cons,List.length_nil,Nat.reduceAdd,Nat.reduceSub,Array.replicate_succ,Array.replicate_zero,List.push_toArray,List.append_toArray,List.nil_append,List.cons_append]
 gi_wp2
 gi_loopw [8] (fun i wr=>∃ (k:Nat) (pre:List Nat),i = .int .i64 k∧k≤cs.length∧pre++dR t (cs.drop k) k=dR t cs 0∧pre.length≤k∧J pre wr∧eP q W wr) (fun i wr=>cs.length-(intOf i).toNat)
 case atStart=>exact⟨0,[],rfl,by omega,by simp,by simp,hJ,eP.refl _ _⟩
 case round =>
  obtain⟨k,pre,rfl,hk,hp,hlen,hJ',hB⟩:=hrel
  have Hp:=Lib.hid hp;clear hp
  by_cases hlt:k<cs.length
  ·obtain⟨c,hc⟩:∃ c,cs[k]? = some c:=⟨_,gEz hlt⟩
   have hst:=aFq (t:=t) hc
   have Hst:=Lib.hid hst;clear hst
   have hld:=(hC.keep hB h3).load hc
   have hBx:=hB.trans (eP.alloc (fun k hk=>Nat.lt_of_lt_of_le (h0 k hk) hB.size) (.cells (aB c).toArray 56))
   have hct:=(hBx.cell (p:=⟨Bt,0,none⟩) h2).trans hBt
   have hJa:=hA pre wr (.cells (aB c).toArray 56) hJ'
   have Hc:=Lib.hid hc;clear hc
   by_cases hb:c.thread=t
   ·obtain⟨fn,tmps,assign,body,hy,hR⟩:=hY pre k _ hJa (by omega) hlt
    have hd:(c.thread == t)=true:=by simpa using hb
    gi_wp2
    refine hR.mono ?_
    rintro e W1 (⟨rfl,hJ1,hk1⟩ | ⟨rfl,hJ1⟩)
    ·gi_wp2
     go_roundw
     case rel=>exact⟨k+1,pre++[k],by go_num,by omega,by rw[← Hp.out,Hst.out,if_pos hb,List.append_assoc];rfl,by simp;omega,hJ1,hBx.trans hk1⟩
     case measure=>simp[intOf];omega
    ·gi_wp2
     refine bodyPost_ret (results_none rfl _ _ _) rfl ?_
     exact⟨⟨_,rfl⟩,.inr ⟨pre++[k],⟨dR t (cs.drop (k+1)) (k+1),by rw[← Hp.out,Hst.out,if_pos hb,List.append_assoc];rfl⟩,hJ1⟩⟩
   ·have hd:(c.thread == t)=false:=by simpa using hb
    gi_wp2
    refine⟨fun _ h=>(by cases h),?_⟩
    gi_wp2
    go_roundw
    case rel=>exact⟨k+1,pre,by go_num,by omega,by rw[← Hp.out,Hst.out,if_neg hb],by omega,hJa,hBx⟩
    case measure=>simp[intOf];omega
  ·gi_wp2
   go_end0
   refine⟨⟨_,rfl⟩,.inl ⟨_,rfl,?_⟩⟩
   have hkk:k=cs.length:=by omega
   rw[← Hp.out,hkk]
   simpa [dR] using hJ'
theorem aQd (n:Nat) (l Bl Bt:Nat) (t:Int) (c:Nat) (J Jx:List Nat→World→Prop)
  (W:World) (hBl:W.cell? ⟨Bl,0,none⟩=some (.slice none 0 c)) (hJ:J [] W) :
  CallsIn Fence.wide n Tryz.prog 159 #[.func (.yield l) #[] #[],.pointer (some ⟨Bl,0,none⟩),.pointer (some ⟨Bt,0,none⟩)] W (mU (dR t [] 0) J Jx):=by
 refine callsIn_of_wp Tryz.func159 rfl trivial ?_ rfl
 simp only[Tryz.ntmps159,List.size_toArray,List.length_cons,List.length_nil,Nat.reduceAdd,Nat.reduceSub,Array.replicate_succ,Array.replicate_zero,List.push_toArray,List.append_toArray,List.nil_append,List.cons_append]
 gi_wp2
 refine wpIn_loop_once ?_
 gi_wp2
 go_end0
 exact⟨⟨_,rfl⟩,.inl ⟨_,rfl,hJ⟩⟩
abbrev InC (n:Nat):Type:={ k:Nat // k<n }
def CRow (w:World) (p:Option Addr) (cap:Nat) (cs:List aA):Prop:=(p=none∧cap=0∧cs=[])∨∃ b off,p=some ⟨b,off,none⟩∧cs.length≤cap∧b<w.heap.size∧CAt w b off cs
theorem CRow.on {w w':World} {p:Option Addr} {cap:Nat} {cs:List aA} (h:CRow w p cap cs) (hb:Below w.heap.size w w'):CRow w' p cap cs:=by
 rcases h with h | ⟨b,off,h1,h2,h3,h4⟩
 ·exact .inl h
 ·exact .inr ⟨b,off,h1,h2,Nat.lt_of_lt_of_le h3 hb.size,h4.on hb⟩
theorem aNz (n:Nat) (hn:1≤n) (Bl Bt cap:Nat) (q:Nat→Prop) (p:Option Addr) (cs:List aA) (t:Int) (hs:cs.length≤1000000) (w:World) (hBl:w.cell? ⟨Bl,0,none⟩=some (.slice p cs.length cap)) (hBt:w.cell? ⟨Bt,0,none⟩=some (.int .i64 t))
  (hC:CRow w p cap cs) (h0:∀ k,q k→k<w.heap.size) (h1:Bl<w.heap.size) (h2:q Bt) (h3:∀ b off,p=some ⟨b,off,none⟩→q b) :
  SeqStopsK Fence.wide n Tryz.prog 159 #[.pointer (some ⟨Bl,0,none⟩),.pointer (some ⟨Bt,0,none⟩)] (fun x:InC cs.length => #[Value.int .i64 (x.1:Int)]) (eP q) (fun ys=>ys.map (·.1)=dR t cs 0) (fun _=>True) cs.length w:=by
 intro l J Jx W hW hAJ hAJx hY hJ
 have hbl:=(hW.cell (p:=⟨Bl,0,none⟩) h1).trans hBl
 have hbt:=(hW.cell (p:=⟨Bt,0,none⟩) (h0 _ h2)).trans hBt
 have key:CallsIn Fence.wide n Tryz.prog 159 #[.func (.yield l) #[] #[],.pointer (some ⟨Bl,0,none⟩),.pointer (some ⟨Bt,0,none⟩)] W (mU (dR t cs 0) (fun xs W=>∃ ys:List (InC cs.length),ys.map (·.1)=xs∧J ys W) (fun xs W=>∃ ys:List (InC cs.length),ys.map (·.1)=xs∧Jx ys W)):=by
  rcases hC with⟨rfl,rfl,rfl⟩ | ⟨b,off,rfl,hcap,hb,hcat⟩
  ·exact aQd n l Bl Bt t 0 _ _ W hbl ⟨[],rfl,hJ⟩
  ·refine aRu n hn l Bl Bt b off cap q cs t hs _ _ ?_ W ?_ hbl hbt (hcat.below hW hb) (fun k hk=>Nat.lt_of_lt_of_le (h0 k hk) hW.size) h2 (h3 b off rfl) ⟨[],rfl,hJ⟩
   ·rintro pre x W ⟨ys,rfl,hj⟩ hlen hx
    refine (hY ys ⟨x,hx⟩ W hj (by simpa using hlen)).mono ?_
    rintro e W' (⟨rfl,hj',hk⟩ | ⟨rfl,hj'⟩)
    ·exact .inl ⟨rfl,⟨_,by simp,hj'⟩,hk⟩
    ·exact .inr ⟨rfl,⟨_,by simp,hj'⟩⟩
   ·rintro pre X o ⟨ys,rfl,hj⟩
    exact⟨ys,rfl,hAJ ys X _ none hj (World.grownBy_alloc X o none) (fun r e=>by cases e)⟩
 refine key.mono ?_
 rintro e W' ⟨hv,⟨_,rfl,ys,hy,hj⟩ | ⟨_,hp,ys,rfl,hj⟩⟩
 ·exact⟨hv,.inl ⟨ys,hy,hj⟩⟩
 ·exact⟨hv,.inr ⟨ys,trivial,hj⟩⟩
theorem aJn (N:Nat) (n:Nat) (hn:1≤n) (Bl Bt cap:Nat) (q:Nat→Prop) (p:Option Addr) (cs:List aA) (hN:cs.length=N) (t:Int) (hs:N≤1000000) (w:World) (hBl:w.cell? ⟨Bl,0,none⟩=some (.slice p N cap)) (hBt:w.cell? ⟨Bt,0,none⟩=some (.int .i64 t))
  (hC:CRow w p cap cs) (h0:∀ k,q k→k<w.heap.size) (h1:Bl<w.heap.size) (h2:q Bt) (h3:∀ b off,p=some ⟨b,off,none⟩→q b) :
  SeqStopsK Fence.wide n Tryz.prog 159 #[.pointer (some ⟨Bl,0,none⟩),.pointer (some ⟨Bt,0,none⟩)] (fun x:InC N => #[Value.int .i64 (x.1:Int)]) (eP q) (fun ys=>ys.map (·.1)=dR t cs 0) (fun _=>True) N w:=by
 subst hN
 exact aNz n hn Bl Bt cap q p cs t hs w hBl hBt hC h0 h1 h2 h3
end Go.Proofs.YtdeiocppghhfdaaGreat.Hs
