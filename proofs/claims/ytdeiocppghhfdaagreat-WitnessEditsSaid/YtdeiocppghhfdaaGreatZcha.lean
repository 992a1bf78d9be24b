/- Texts, one behind another. -/
import Derived.Test.YtdeiocppghhfdaaGreatChecked
import Derived.WalkKit
import Derived.WalkSpells
import Derived.WalkLawsBesides
import Derived.Lib.Hide
import Derived.Handy
import Derived.Deep.QuietTactic
import Derived.BigQuiet
import Derived.Deep.MidRow
import Derived.Deep.WholeRow
import Derived.RangeFuncNested
import Derived.RangeFuncBound
import Derived.RangeFuncCalls
import Derived.RangeFuncLeaves
import Derived.RangeFuncFrom
import Derived.Shelf.Abstract
import Derived.Shelf.RegionOpen
import Derived.OwnWalkIn
import Derived.TacticsInMore
import Derived.LoopNIn
import Derived.LoopIn
set_option linter.unusedVariables false
set_option linter.unusedSimpArgs false
set_option maxRecDepth 100000
set_option maxHeartbeats 8000000
namespace Go.Proofs.YtdeiocppghhfdaaGreat.Hs
open Go.RowKit
structure PieceV where
 kind : Int
 n : Int
 text : ByteArray
deriving DecidableEq, Inhabited
def pieceL (p : PieceV) : List Value := [.int .u8 p.kind, .int .i64 p.n, .string p.text]
structure CallV where
 thread : Int
 index : Int
 okind : Int
 oslot : Int
 oat : Int
 on : Int
 oid : Int
 ograv : Int
 otext : ByteArray
 invoked : Int
 took : Int
 rank : Int
 answered : Int
 steps : Int
 err : Int
 rev : Int
 rslot : Int
 rat : Int
 rgrav : Int
 rtext : ByteArray
 mb : Int
 mr : Int
 ml : Int
 ik : Int
 ifrom : Int
 ito : Int
 ps : List PieceV
 da : Option Addr
 dc : Nat
deriving DecidableEq, Inhabited
def CallV.pure (c : CallV) : CallV := { c with da := none, dc := 0 }
def callL (c : CallV) : List Value := [.int .i64 c.thread, .int .i64 c.index, .int .u8 c.okind, .int .i64 c.oslot, .int .i64 c.oat, .int .i64 c.on, .int .u32 c.oid, .int .u8 c.ograv, .string c.otext, .int .i64 c.invoked, .int .i64 c.took, .int .i64 c.rank, .int .i64 c.answered, .int .i64 c.steps, .int .i64 c.err, .int .i64 c.rev, .int .i64 c.rslot, .int .i64 c.rat, .int .u8 c.rgrav, .string c.rtext, .int .i64 c.mb, .int .i64 c.mr, .int .i64 c.ml, .int .u8 c.ik, .int .i64 c.ifrom, .int .i64 c.ito, .slice c.da c.ps.length c.dc]
def resL (c : CallV) : List Value := [.int .i64 c.err, .int .i64 c.rev, .int .i64 c.rslot, .int .i64 c.rat, .int .u8 c.rgrav, .string c.rtext, .int .i64 c.mb, .int .i64 c.mr, .int .i64 c.ml, .int .u8 c.ik, .int .i64 c.ifrom, .int .i64 c.ito, .slice c.da c.ps.length c.dc]
theorem callL_0 (c : CallV) : (callL c)[0]? = some (.int .i64 c.thread) := rfl
theorem callL_1 (c : CallV) : (callL c)[1]? = some (.int .i64 c.index) := rfl
theorem callL_2 (c : CallV) : (callL c)[2]? = some (.int .u8 c.okind) := rfl
theorem callL_3 (c : CallV) : (callL c)[3]? = some (.int .i64 c.oslot) := rfl
theorem callL_4 (c : CallV) : (callL c)[4]? = some (.int .i64 c.oat) := rfl
theorem callL_5 (c : CallV) : (callL c)[5]? = some (.int .i64 c.on) := rfl
theorem callL_6 (c : CallV) : (callL c)[6]? = some (.int .u32 c.oid) := rfl
theorem callL_7 (c : CallV) : (callL c)[7]? = some (.int .u8 c.ograv) := rfl
theorem callL_8 (c : CallV) : (callL c)[8]? = some (.string c.otext) := rfl
theorem callL_9 (c : CallV) : (callL c)[9]? = some (.int .i64 c.invoked) := rfl
theorem callL_10 (c : CallV) : (callL c)[10]? = some (.int .i64 c.took) := rfl
theorem callL_11 (c : CallV) : (callL c)[11]? = some (.int .i64 c.rank) := rfl
theorem callL_12 (c : CallV) : (callL c)[12]? = some (.int .i64 c.answered) := rfl
theorem callL_13 (c : CallV) : (callL c)[13]? = some (.int .i64 c.steps) := rfl
theorem callL_14 (c : CallV) : (callL c)[14]? = some (.int .i64 c.err) := rfl
theorem callL_15 (c : CallV) : (callL c)[15]? = some (.int .i64 c.rev) := rfl
theorem callL_16 (c : CallV) : (callL c)[16]? = some (.int .i64 c.rslot) := rfl
theorem callL_17 (c : CallV) : (callL c)[17]? = some (.int .i64 c.rat) := rfl
theorem callL_18 (c : CallV) : (callL c)[18]? = some (.int .u8 c.rgrav) := rfl
theorem callL_19 (c : CallV) : (callL c)[19]? = some (.string c.rtext) := rfl
theorem callL_20 (c : CallV) : (callL c)[20]? = some (.int .i64 c.mb) := rfl
theorem callL_21 (c : CallV) : (callL c)[21]? = some (.int .i64 c.mr) := rfl
theorem callL_22 (c : CallV) : (callL c)[22]? = some (.int .i64 c.ml) := rfl
theorem callL_23 (c : CallV) : (callL c)[23]? = some (.int .u8 c.ik) := rfl
theorem callL_24 (c : CallV) : (callL c)[24]? = some (.int .i64 c.ifrom) := rfl
theorem callL_25 (c : CallV) : (callL c)[25]? = some (.int .i64 c.ito) := rfl
theorem callL_26 (c : CallV) : (callL c)[26]? = some (.slice c.da c.ps.length c.dc) := rfl
theorem resL_0 (c : CallV) : (resL c)[0]? = some (.int .i64 c.err) := rfl
theorem resL_1 (c : CallV) : (resL c)[1]? = some (.int .i64 c.rev) := rfl
theorem resL_2 (c : CallV) : (resL c)[2]? = some (.int .i64 c.rslot) := rfl
theorem resL_3 (c : CallV) : (resL c)[3]? = some (.int .i64 c.rat) := rfl
theorem resL_4 (c : CallV) : (resL c)[4]? = some (.int .u8 c.rgrav) := rfl
theorem resL_5 (c : CallV) : (resL c)[5]? = some (.string c.rtext) := rfl
theorem resL_6 (c : CallV) : (resL c)[6]? = some (.int .i64 c.mb) := rfl
theorem resL_7 (c : CallV) : (resL c)[7]? = some (.int .i64 c.mr) := rfl
theorem resL_8 (c : CallV) : (resL c)[8]? = some (.int .i64 c.ml) := rfl
theorem resL_9 (c : CallV) : (resL c)[9]? = some (.int .u8 c.ik) := rfl
theorem resL_10 (c : CallV) : (resL c)[10]? = some (.int .i64 c.ifrom) := rfl
theorem resL_11 (c : CallV) : (resL c)[11]? = some (.int .i64 c.ito) := rfl
theorem resL_12 (c : CallV) : (resL c)[12]? = some (.slice c.da c.ps.length c.dc) := rfl
theorem callL_len (c : CallV) : (callL c).length = 27 := rfl
theorem resL_len (c : CallV) : (resL c).length = 13 := rfl
theorem callG_0 (c : CallV) (h : 0 < (callL c).length) : (callL c)[0]'h = .int .i64 c.thread := rfl
theorem callG_1 (c : CallV) (h : 1 < (callL c).length) : (callL c)[1]'h = .int .i64 c.index := rfl
theorem callG_2 (c : CallV) (h : 2 < (callL c).length) : (callL c)[2]'h = .int .u8 c.okind := rfl
theorem callG_3 (c : CallV) (h : 3 < (callL c).length) : (callL c)[3]'h = .int .i64 c.oslot := rfl
theorem callG_4 (c : CallV) (h : 4 < (callL c).length) : (callL c)[4]'h = .int .i64 c.oat := rfl
theorem callG_5 (c : CallV) (h : 5 < (callL c).length) : (callL c)[5]'h = .int .i64 c.on := rfl
theorem callG_6 (c : CallV) (h : 6 < (callL c).length) : (callL c)[6]'h = .int .u32 c.oid := rfl
theorem callG_7 (c : CallV) (h : 7 < (callL c).length) : (callL c)[7]'h = .int .u8 c.ograv := rfl
theorem callG_8 (c : CallV) (h : 8 < (callL c).length) : (callL c)[8]'h = .string c.otext := rfl
theorem callG_9 (c : CallV) (h : 9 < (callL c).length) : (callL c)[9]'h = .int .i64 c.invoked := rfl
theorem callG_10 (c : CallV) (h : 10 < (callL c).length) : (callL c)[10]'h = .int .i64 c.took := rfl
theorem callG_11 (c : CallV) (h : 11 < (callL c).length) : (callL c)[11]'h = .int .i64 c.rank := rfl
theorem callG_12 (c : CallV) (h : 12 < (callL c).length) : (callL c)[12]'h = .int .i64 c.answered := rfl
theorem callG_13 (c : CallV) (h : 13 < (callL c).length) : (callL c)[13]'h = .int .i64 c.steps := rfl
theorem callG_14 (c : CallV) (h : 14 < (callL c).length) : (callL c)[14]'h = .int .i64 c.err := rfl
theorem callG_15 (c : CallV) (h : 15 < (callL c).length) : (callL c)[15]'h = .int .i64 c.rev := rfl
theorem callG_16 (c : CallV) (h : 16 < (callL c).length) : (callL c)[16]'h = .int .i64 c.rslot := rfl
theorem callG_17 (c : CallV) (h : 17 < (callL c).length) : (callL c)[17]'h = .int .i64 c.rat := rfl
theorem callG_18 (c : CallV) (h : 18 < (callL c).length) : (callL c)[18]'h = .int .u8 c.rgrav := rfl
theorem callG_19 (c : CallV) (h : 19 < (callL c).length) : (callL c)[19]'h = .string c.rtext := rfl
theorem callG_20 (c : CallV) (h : 20 < (callL c).length) : (callL c)[20]'h = .int .i64 c.mb := rfl
theorem callG_21 (c : CallV) (h : 21 < (callL c).length) : (callL c)[21]'h = .int .i64 c.mr := rfl
theorem callG_22 (c : CallV) (h : 22 < (callL c).length) : (callL c)[22]'h = .int .i64 c.ml := rfl
theorem callG_23 (c : CallV) (h : 23 < (callL c).length) : (callL c)[23]'h = .int .u8 c.ik := rfl
theorem callG_24 (c : CallV) (h : 24 < (callL c).length) : (callL c)[24]'h = .int .i64 c.ifrom := rfl
theorem callG_25 (c : CallV) (h : 25 < (callL c).length) : (callL c)[25]'h = .int .i64 c.ito := rfl
theorem callG_26 (c : CallV) (h : 26 < (callL c).length) : (callL c)[26]'h = .slice c.da c.ps.length c.dc := rfl
theorem resG_0 (c : CallV) (h : 0 < (resL c).length) : (resL c)[0]'h = .int .i64 c.err := rfl
theorem resG_1 (c : CallV) (h : 1 < (resL c).length) : (resL c)[1]'h = .int .i64 c.rev := rfl
theorem resG_2 (c : CallV) (h : 2 < (resL c).length) : (resL c)[2]'h = .int .i64 c.rslot := rfl
theorem resG_3 (c : CallV) (h : 3 < (resL c).length) : (resL c)[3]'h = .int .i64 c.rat := rfl
theorem resG_4 (c : CallV) (h : 4 < (resL c).length) : (resL c)[4]'h = .int .u8 c.rgrav := rfl
theorem resG_5 (c : CallV) (h : 5 < (resL c).length) : (resL c)[5]'h = .string c.rtext := rfl
theorem resG_6 (c : CallV) (h : 6 < (resL c).length) : (resL c)[6]'h = .int .i64 c.mb := rfl
theorem resG_7 (c : CallV) (h : 7 < (resL c).length) : (resL c)[7]'h = .int .i64 c.mr := rfl
theorem resG_8 (c : CallV) (h : 8 < (resL c).length) : (resL c)[8]'h = .int .i64 c.ml := rfl
theorem resG_9 (c : CallV) (h : 9 < (resL c).length) : (resL c)[9]'h = .int .u8 c.ik := rfl
theorem resG_10 (c : CallV) (h : 10 < (resL c).length) : (resL c)[10]'h = .int .i64 c.ifrom := rfl
theorem resG_11 (c : CallV) (h : 11 < (resL c).length) : (resL c)[11]'h = .int .i64 c.ito := rfl
theorem resG_12 (c : CallV) (h : 12 < (resL c).length) : (resL c)[12]'h = .slice c.da c.ps.length c.dc := rfl
theorem blk_cell {W : World} {b : Nat} {L : List Value} {t : TypeId} (h : W.heap[b]? = some (.cells L.toArray t (0, 0))) (j : Nat) : W.cell? ⟨b, j, none⟩ = L[j]? := by rw [cell_of_row W b j _ t (0, 0) h]; simp
theorem blk_frozen {W : World} {b : Nat} {L : List Value} {t : TypeId} (h : W.heap[b]? = some (.cells L.toArray t (0, 0))) (j : Nat) : W.frozen? ⟨b, j, none⟩ = false := by simp [World.frozen?, h]
theorem blk_range {W : World} {b : Nat} {L : List Value} {t : TypeId} (h : W.heap[b]? = some (.cells L.toArray t (0, 0))) : W.rangeAt b 0 L := fun j v hv => by rw [Nat.zero_add, blk_cell h, hv]
theorem blk_new (W : World) (L : List Value) (t : TypeId) : (W.alloc (.cells L.toArray t)).heap[W.heap.size]? = some (.cells L.toArray t (0, 0)) := heap_alloc_new W _
theorem blk_old {W : World} {b : Nat} {o : Obj} (h : W.heap[b]? = some o) (o' : Obj) : (W.alloc o').heap[b]? = some o := (Below.heap_alloc W o' b (Array.getElem?_eq_some_iff.1 h).1).trans h
theorem blk_below {W W' : World} {b : Nat} {o : Obj} (h : W.heap[b]? = some o) {B : Nat} (hb : Below B W W') (hB : b < B) : W'.heap[b]? = some o := (hb.block b hB).trans h
def loadCall (v : Value) : Sem Value := Instr.loadAt 56 v
theorem loadCall_eq (v : Value) : Instr.loadAt 56 v = loadCall v := rfl
theorem ld_call {W : World} {b : Nat} (c : CallV) (h : W.heap[b]? = some (.cells (callL c).toArray 56 (0, 0))) : (loadCall (.pointer (some ⟨b, 0, none⟩))).run Tryz.prog W = .ok (.agg (callL c).toArray) W :=
 run_loadAt_mid W b 0 56 (callL c) _ (blk_range h) Tryz.underlying56 rfl (by kernel_rfl)
theorem ld_new (W : World) (c : CallV) : (loadCall (.pointer (some ⟨W.heap.size, 0, none⟩))).run Tryz.prog (W.alloc (.cells (callL c).toArray 56)) = .ok (.agg (callL c).toArray) (W.alloc (.cells (callL c).toArray 56)) := ld_call c (blk_new W _ _)
theorem ld_first (W : World) (c : CallV) (o : Obj) : (loadCall (.pointer (some ⟨W.heap.size, 0, none⟩))).run Tryz.prog ((W.alloc (.cells (callL c).toArray 56)).alloc o) = .ok (.agg (callL c).toArray) ((W.alloc (.cells (callL c).toArray 56)).alloc o) := ld_call c (blk_old (blk_new W _ _) o)
theorem ld_second (W : World) (c : CallV) (o : Obj) : (loadCall (.pointer (some ⟨W.heap.size + 1, 0, none⟩))).run Tryz.prog ((W.alloc o).alloc (.cells (callL c).toArray 56)) = .ok (.agg (callL c).toArray) ((W.alloc o).alloc (.cells (callL c).toArray 56)) := ld_call c (by have := blk_new (W.alloc o) (callL c) 56; rwa [World.size_alloc] at this)
def loadRes (v : Value) : Sem Value := Instr.loadAt 51 v
theorem loadRes_eq (v : Value) : Instr.loadAt 51 v = loadRes v := rfl
theorem ldr_call {W : World} {b : Nat} (c : CallV) (h : W.heap[b]? = some (.cells (callL c).toArray 56 (0, 0))) : (loadRes (.pointer (some ⟨b, 14, none⟩))).run Tryz.prog W = .ok (.agg (resL c).toArray) W :=
 run_loadAt_mid W b 14 51 (resL c) _ (fun j v hv => by
  rw [blk_cell h]
  have : (resL c)[j]? = (callL c)[14 + j]? := by
   rw [show resL c = (callL c).drop 14 from rfl, List.getElem?_drop]
  rw [← this]
  exact hv) Tryz.underlying51 rfl (by kernel_rfl)
theorem ldr_new (W : World) (c : CallV) : (loadRes (.pointer (some ⟨W.heap.size, 14, none⟩))).run Tryz.prog (W.alloc (.cells (callL c).toArray 56)) = .ok (.agg (resL c).toArray) (W.alloc (.cells (callL c).toArray 56)) := ldr_call c (blk_new W _ _)
theorem callL_ones (c : CallV) : (callL c).toArray.all (·.oneCell') = true := by simp [callL, Value.oneCell']
theorem st_new (W : World) (c : CallV) : (storeCells ⟨W.heap.size, 0, none⟩ (callL c)).run Tryz.prog (W.alloc (.cells #[.int .i64 0, .int .i64 0, .int .u8 0, .int .i64 0, .int .i64 0, .int .i64 0, .int .u32 0, .int .u8 0, .string ⟨#[]⟩, .int .i64 0, .int .i64 0, .int .i64 0, .int .i64 0, .int .i64 0, .int .i64 0, .int .i64 0, .int .i64 0, .int .i64 0, .int .u8 0, .string ⟨#[]⟩, .int .i64 0, .int .i64 0, .int .i64 0, .int .u8 0, .int .i64 0, .int .i64 0, .slice none 0 0] 56)) = .ok () (W.alloc (.cells (callL c).toArray 56)) := by
 have h := run_storeCells_new (P := Tryz.prog) W 56 #[.int .i64 0, .int .i64 0, .int .u8 0, .int .i64 0, .int .i64 0, .int .i64 0, .int .u32 0, .int .u8 0, .string ⟨#[]⟩, .int .i64 0, .int .i64 0, .int .i64 0, .int .i64 0, .int .i64 0, .int .i64 0, .int .i64 0, .int .i64 0, .int .i64 0, .int .u8 0, .string ⟨#[]⟩, .int .i64 0, .int .i64 0, .int .i64 0, .int .u8 0, .int .i64 0, .int .i64 0, .slice none 0 0] (callL c).toArray (by kernel_rfl) rfl (callL_ones c)
 simpa using h
theorem bcell {W w1 : World} (hb : Below W.heap.size W w1) : (∀ b o, b < W.heap.size → w1.cell? ⟨b, o, none⟩ = W.cell? ⟨b, o, none⟩) ∧ (∀ b o, b < W.heap.size → w1.frozen? ⟨b, o, none⟩ = W.frozen? ⟨b, o, none⟩) :=
 ⟨fun b o h => hb.cell (p := ⟨b, o, none⟩) h, fun b o h => hb.frozen (p := ⟨b, o, none⟩) h⟩
theorem ret_bool {a b : Bool} (h : a = b) : Ending.returned (.bool a) = .returned (.bool b) := by rw [h]
theorem ret_int {k : IntKind} {a b : Int} (h : a = b) : Ending.returned (.int k a) = .returned (.int k b) := by rw [h]
theorem below2 (w : World) (o o' : Obj) : Below w.heap.size w ((w.alloc o).alloc o') := ((Below.refl _ _).alloc (Nat.le_refl _) o).alloc (by simp) o'
attribute [local go_sem, local simp] callL_0 callL_1 callL_2 callL_3 callL_4 callL_5 callL_6 callL_7 callL_8 callL_9 callL_10 callL_11 callL_12 callL_13 callL_14 callL_15 callL_16 callL_17 callL_18 callL_19 callL_20 callL_21 callL_22 callL_23 callL_24 callL_25 callL_26 resL_0 resL_1 resL_2 resL_3 resL_4 resL_5 resL_6 resL_7 resL_8 resL_9 resL_10 resL_11 resL_12 callG_0 callG_1 callG_2 callG_3 callG_4 callG_5 callG_6 callG_7 callG_8 callG_9 callG_10 callG_11 callG_12 callG_13 callG_14 callG_15 callG_16 callG_17 callG_18 callG_19 callG_20 callG_21 callG_22 callG_23 callG_24 callG_25 callG_26 resG_0 resG_1 resG_2 resG_3 resG_4 resG_5 resG_6 resG_7 resG_8 resG_9 resG_10 resG_11 resG_12 callL_len resL_len
attribute [local go_sem ↓] loadCall_eq loadRes_eq
attribute [local go_sem] ld_new ld_first ld_second ldr_new st_new
def befB (c d : CallV) : Bool := decide (0 ≤ c.answered) && decide (c.answered < d.invoked)
theorem before_any (c d : CallV) (w : World) : Calls Tryz.prog 106 #[.agg (callL c).toArray, .agg (callL d).toArray] w fun e w' => e = .returned (.bool (befB c d)) ∧ Below w.heap.size w w' := by
 go_enter Tryz.func106, Tryz.ntmps106
 go_wp2
 all_goals (go_ret; exact ⟨ret_bool (by unfold befB; rw [Bool.eq_iff_iff]; simp; omega), below2 _ _ _⟩)
def plainB (c : CallV) : Bool := decide (c.ps.length = 0 ∧ c.err = 0 ∧ c.rev = 0 ∧ c.rslot = 0 ∧ c.rat = 0 ∧ c.rgrav = 0 ∧ c.rtext.toList = [] ∧ c.mb = 0 ∧ c.mr = 0 ∧ c.ml = 0 ∧ c.ik = 0 ∧ c.ifrom = 0 ∧ c.ito = 0)
theorem plain_any (c : CallV) (w : World) : Calls Tryz.prog 186 #[.agg (resL c).toArray] w fun e w' => e = .returned (.bool (plainB c)) ∧ Below w.heap.size w w' := by
 go_enter Tryz.func186, Tryz.ntmps186
 go_wp2
 all_goals (go_ret; exact ⟨ret_bool (by unfold plainB; rw [Bool.eq_iff_iff]; simp [*]), (Below.refl _ _).alloc (Nat.le_refl _) _⟩)
end Go.Proofs.YtdeiocppghhfdaaGreat.Hs
namespace Go.Proofs.YtdeiocppghhfdaaGreat.Hs
open Go.RowKit
attribute [local go_sem, local simp] callL_0 callL_1 callL_2 callL_3 callL_4 callL_5 callL_6 callL_7 callL_8 callL_9 callL_10 callL_11 callL_12 callL_13 callL_14 callL_15 callL_16 callL_17 callL_18 callL_19 callL_20 callL_21 callL_22 callL_23 callL_24 callL_25 callL_26 resL_0 resL_1 resL_2 resL_3 resL_4 resL_5 resL_6 resL_7 resL_8 resL_9 resL_10 resL_11 resL_12 callG_0 callG_1 callG_2 callG_3 callG_4 callG_5 callG_6 callG_7 callG_8 callG_9 callG_10 callG_11 callG_12 callG_13 callG_14 callG_15 callG_16 callG_17 callG_18 callG_19 callG_20 callG_21 callG_22 callG_23 callG_24 callG_25 callG_26 resG_0 resG_1 resG_2 resG_3 resG_4 resG_5 resG_6 resG_7 resG_8 resG_9 resG_10 resG_11 resG_12 callL_len resL_len
attribute [local go_sem ↓] loadCall_eq loadRes_eq
attribute [local go_sem] ld_new ld_first ld_second ldr_new st_new
structure CallV.Ok (c : CallV) : Prop where
 i0 : -9223372036854775808 ≤ c.invoked
 i1 : c.invoked ≤ 9223372036854775807
 a0 : -9223372036854775808 ≤ c.answered
 a1 : c.answered ≤ 9223372036854775807
 s0 : -9223372036854775808 ≤ c.steps
 s1 : c.steps ≤ 9223372036854775807
 t0 : -9223372036854775808 ≤ c.took
 t1 : c.took ≤ 9223372036854775807
 r0 : -9223372036854775808 ≤ c.rank
 r1 : c.rank ≤ 9223372036854775807
 kd : 0 ≤ c.okind ∧ c.okind ≤ 255
 id : 0 ≤ c.oid ∧ c.oid ≤ 4294967295
 gr : 0 ≤ c.ograv
 sl : -9223372036854775808 ≤ c.oslot ∧ c.oslot ≤ 9223372036854775807
 at_ : -9223372036854775808 ≤ c.oat ∧ c.oat ≤ 9223372036854775807
 nn : -9223372036854775808 ≤ c.on ∧ c.on ≤ 9223372036854775807
def formedB (c : CallV) : Bool :=
 decide (0 ≤ c.thread ∧ c.thread < 16 ∧ 0 ≤ c.index ∧ 0 ≤ c.invoked ∧ -1 ≤ c.took ∧ -1 ≤ c.answered ∧ 0 ≤ c.rank ∧ 0 ≤ c.steps ∧
  ((0 ≤ c.took ∧ c.invoked ≤ c.took) ∨ (c.took < 0 ∧ c.rank = 0 ∧ plainB c = true)) ∧
  ((c.answered < 0 ∧ c.steps = 0) ∨ (0 ≤ c.answered ∧ 0 ≤ c.took ∧ c.took ≤ c.answered ∧ c.invoked ≤ c.answered ∧ 1 ≤ c.steps ∧ c.steps - 1 ≤ c.answered - c.invoked ∧ (c.answered = c.invoked ∨ 2 ≤ c.steps))))
theorem formed_any (c : CallV) (hc : c.Ok) (w : World) : Calls Tryz.prog 129 #[.agg (callL c).toArray] w fun e w' => e = .returned (.bool (formedB c)) ∧ Below w.heap.size w w' := by
 obtain ⟨hi0, hi1, ha0, ha1, hs0, hs1, ht0, ht1, hr0, hr1, _⟩ := hc
 have cp := fun W => plain_any c W
 obtain ⟨p, hp⟩ : ∃ p, plainB c = p := ⟨_, rfl⟩
 rw [hp] at cp
 have Hp := Lib.hid hp
 clear hp
 go_enter Tryz.func129, Tryz.ntmps129
 go_wp2_with (go_at_call 186; refine (cp _).mono ?_; rintro e w1 ⟨rfl, hb1⟩; obtain ⟨hcl, hfz⟩ := bcell hb1)
 all_goals go_returns
 all_goals refine ⟨ret_bool ?_, by first | exact ((Below.refl _ _).alloc (Nat.le_refl _) _) | exact ((Below.refl _ _).alloc (Nat.le_refl _) _).trans (hb1.mono (by simp))⟩
 all_goals (have hp := Hp.out; clear Hp cp; unfold formedB; rw [hp]; clear hp; cases p <;> (rw [Bool.eq_iff_iff]; simp at *; try omega))
def clashB (c d : CallV) : Bool :=
 decide ((0 ≤ c.invoked ∧ (c.invoked = d.invoked ∨ c.invoked = d.answered)) ∨ (0 ≤ c.answered ∧ (c.answered = d.invoked ∨ c.answered = d.answered)) ∨
  (0 ≤ c.took ∧ c.took = d.took ∧ c.rank = d.rank) ∨
  (c.thread ≠ d.thread ∧ ((0 ≤ c.took ∧ (c.took = d.invoked ∨ c.took = d.answered)) ∨ (0 ≤ d.took ∧ (d.took = c.invoked ∨ d.took = c.answered)))))
theorem clash_any (c d : CallV) (w : World) : Calls Tryz.prog 130 #[.agg (callL c).toArray, .agg (callL d).toArray] w fun e w' => e = .returned (.bool (clashB c d)) ∧ Below w.heap.size w w' := by
 have i0 : ∀ w, (Instr.index 218 (.agg #[.int .i64 c.invoked, .int .i64 c.answered]) (.int .i64 0)).run Tryz.prog w = .ok (.int .i64 c.invoked) w := fun _ => by kernel_rfl
 have i1 : ∀ w, (Instr.index 218 (.agg #[.int .i64 c.invoked, .int .i64 c.answered]) (.int .i64 1)).run Tryz.prog w = .ok (.int .i64 c.answered) w := fun _ => by kernel_rfl
 go_enter Tryz.func130, Tryz.ntmps130
 go_wp2
 refine wp_loop_rounds 3 ?_
 rw [rounds_succ]
 go_wp2
 repeat any_goals (rw [rounds_succ]; go_wp2)
 all_goals go_returns
 all_goals refine ⟨ret_bool ?_, below2 _ _ _⟩
 all_goals (clear i0 i1; unfold clashB; rw [Bool.eq_iff_iff]; simp at *; try omega)
end Go.Proofs.YtdeiocppghhfdaaGreat.Hs
namespace Go.Proofs.YtdeiocppghhfdaaGreat.Hs
open Go.RowKit Go.Shelf
attribute [local go_sem] Oper.semAt_some
attribute [local go_sem, local simp] callL_0 callL_1 callL_2 callL_3 callL_4 callL_5 callL_6 callL_7 callL_8 callL_9 callL_10 callL_11 callL_12 callL_13 callL_14 callL_15 callL_16 callL_17 callL_18 callL_19 callL_20 callL_21 callL_22 callL_23 callL_24 callL_25 callL_26 resL_0 resL_1 resL_2 resL_3 resL_4 resL_5 resL_6 resL_7 resL_8 resL_9 resL_10 resL_11 resL_12 callG_0 callG_1 callG_2 callG_3 callG_4 callG_5 callG_6 callG_7 callG_8 callG_9 callG_10 callG_11 callG_12 callG_13 callG_14 callG_15 callG_16 callG_17 callG_18 callG_19 callG_20 callG_21 callG_22 callG_23 callG_24 callG_25 callG_26 resG_0 resG_1 resG_2 resG_3 resG_4 resG_5 resG_6 resG_7 resG_8 resG_9 resG_10 resG_11 resG_12 callL_len resL_len
attribute [local go_sem ↓] loadCall_eq loadRes_eq
attribute [local go_sem] ld_new ld_first ld_second ldr_new st_new
def callsL (cs : List CallV) : List Value := cs.flatMap callL
theorem callsL_cons (c : CallV) (cs : List CallV) : callsL (c :: cs) = callL c ++ callsL cs := rfl
theorem callsL_len (cs : List CallV) : (callsL cs).length = cs.length * 27 := by
 induction cs with
 | nil => rfl
 | cons c cs ih => rw [callsL_cons, List.length_append, ih, callL_len, List.length_cons]; omega
theorem callsL_get : ∀ (cs : List CallV) (k j : Nat) (c : CallV), cs[k]? = some c → j < 27 → (callsL cs)[k * 27 + j]? = (callL c)[j]?
 | [], k, j, c, h, _ => by simp at h
 | a :: cs, 0, j, c, h, hj => by
  simp at h
  subst h
  rw [callsL_cons, List.getElem?_append_left (by rw [callL_len]; omega)]
  congr 1; omega
 | a :: cs, k + 1, j, c, h, hj => by
  rw [callsL_cons, List.getElem?_append_right (by rw [callL_len]; omega), callL_len, show (k + 1) * 27 + j - 27 = k * 27 + j from by omega]
  exact callsL_get cs k j c (by simpa using h) hj
theorem cell_size {w : World} {a : Addr} {v : Value} (h : w.cell? a = some v) : a.block < w.heap.size := by
 rcases Nat.lt_or_ge a.block w.heap.size with h' | h'
 ·exact h'
 ·simp [World.cell?, Array.getElem?_eq_none h'] at h
def CAt (w : World) (b off : Nat) (cs : List CallV) : Prop := ∀ j u, (callsL cs)[j]? = some u → w.cell? ⟨b, off + j, none⟩ = some u
theorem CAt.on {w w' : World} {b off : Nat} {cs : List CallV} (h : CAt w b off cs) (hb : Below w.heap.size w w') : CAt w' b off cs := fun j u hj => by
 rw [hb.cell (cell_size (h j u hj))]; exact h j u hj
theorem CAt.below {w w' : World} {b off B : Nat} {cs : List CallV} (h : CAt w b off cs) (hb : Below B w w') (hB : b < B) : CAt w' b off cs := fun j u hj => by
 rw [hb.cell (p := ⟨b, off + j, none⟩) hB]; exact h j u hj
theorem CAt.cell {w : World} {b off : Nat} {cs : List CallV} (h : CAt w b off cs) {k : Nat} {c : CallV} (hk : cs[k]? = some c) (j : Nat) (hj : j < 27) : w.cell? ⟨b, off + k * 27 + j, none⟩ = (callL c)[j]? := by
 have h1 := callsL_get cs k j c hk hj
 obtain ⟨u, hu⟩ : ∃ u, (callL c)[j]? = some u := ⟨_, List.getElem?_eq_getElem (by rw [callL_len]; omega)⟩
 rw [hu] at h1 ⊢
 rw [Nat.add_assoc]
 exact h _ _ h1
theorem CAt.load {w : World} {b off : Nat} {cs : List CallV} (h : CAt w b off cs) {k : Nat} {c : CallV} (hk : cs[k]? = some c) : (loadCall (.pointer (some ⟨b, off + k * 27, none⟩))).run Tryz.prog w = .ok (.agg (callL c).toArray) w :=
 run_loadAt_mid w b (off + k * 27) 56 (callL c) _ (fun j v hv => by
  rw [h.cell hk j (by have := (List.getElem?_eq_some_iff.1 hv).1; rwa [callL_len] at this)]
  exact hv) Tryz.underlying56 rfl (by kernel_rfl)
theorem CAt.size {w : World} {b off : Nat} {cs : List CallV} (h : CAt w b off cs) (hn : 0 < cs.length) : b < w.heap.size := by
 obtain ⟨u, hu⟩ : ∃ u, (callsL cs)[0]? = some u := ⟨_, List.getElem?_eq_getElem (by rw [callsL_len]; omega)⟩
 exact cell_size (h 0 u hu)
theorem CAt.take {w : World} {b off : Nat} {cs : List CallV} (h : CAt w b off cs) (n : Nat) : CAt w b off (cs.take n) := fun j u hj => by
 refine h j u ?_
 have e : callsL cs = callsL (cs.take n) ++ callsL (cs.drop n) := by
  unfold callsL
  rw [← List.flatMap_append, List.take_append_drop]
 rw [e, List.getElem?_append_left (List.getElem?_eq_some_iff.1 hj).1]
 exact hj
def thIdx (t : Int) : List CallV → Nat → List Nat
 | [], _ => []
 | c :: cs, k => if c.thread = t then k :: thIdx t cs (k + 1) else thIdx t cs (k + 1)
theorem thIdx_step {t : Int} {cs : List CallV} {k : Nat} {c : CallV} (h : cs[k]? = some c) : thIdx t (cs.drop k) k = if c.thread = t then k :: thIdx t (cs.drop (k + 1)) (k + 1) else thIdx t (cs.drop (k + 1)) (k + 1) := by
 obtain ⟨hlt, rfl⟩ := List.getElem?_eq_some_iff.1 h
 rw [List.drop_eq_getElem_cons hlt]
 rfl
theorem of_any (p : Option Addr) (n c : Nat) (t : Int) (w : World) : Calls Tryz.prog 110 #[.int .i64 t, .slice p n c] w fun e w' => e = .returned (.func (.func 159) #[] #[.pointer (some ⟨w.heap.size + 1, 0, none⟩), .pointer (some ⟨w.heap.size, 0, none⟩)]) ∧ (w.alloc (.cells #[.int .i64 t] 3)).alloc (.cells #[.slice p n c] 25) = w' := by
 go_enter Tryz.func110, Tryz.ntmps110
 go_wp2
 go_ret
 exact ⟨rfl, rfl⟩
structure KeepB (q : Nat → Prop) (X Y : World) : Prop where
 size : X.heap.size ≤ Y.heap.size
 block : ∀ k, q k → Y.heap[k]? = X.heap[k]?
theorem KeepB.refl (q : Nat → Prop) (X : World) : KeepB q X X := ⟨Nat.le_refl _, fun _ _ => rfl⟩
theorem KeepB.trans {q : Nat → Prop} {A B C : World} (h : KeepB q A B) (k : KeepB q B C) : KeepB q A C := ⟨Nat.le_trans h.size k.size, fun i hi => (k.block i hi).trans (h.block i hi)⟩
theorem KeepB.cell {q : Nat → Prop} {X Y : World} (h : KeepB q X Y) {p : Addr} (hp : q p.block) : Y.cell? p = X.cell? p := World.cell?_of_block (w := X) (h.block p.block hp)
theorem KeepB.of_below {q : Nat → Prop} {X Y : World} (h : Below X.heap.size X Y) (hq : ∀ k, q k → k < X.heap.size) : KeepB q X Y := ⟨h.size, fun k hk => h.block k (hq k hk)⟩
theorem KeepB.alloc {q : Nat → Prop} {X : World} (hq : ∀ k, q k → k < X.heap.size) (o : Obj) : KeepB q X (X.alloc o) := .of_below ((Below.refl _ _).alloc (Nat.le_refl _) _) hq
theorem KeepB.set {q : Nat → Prop} {X : World} {p : Addr} (hq : ¬ q p.block) (v : Value) : KeepB q X (X.setCell p v) := ⟨by simp [World.setCell], fun k hk => Below.heap_setCell X p v k (fun e => hq (e ▸ hk))⟩
theorem keepB_b {q : Nat → Prop} {w : World} (hq : ∀ k, q k → k < w.heap.size) (W : World) (l : Nat) (o o' : Obj) (hl : w.heap.size ≤ l) (_ : W.heap[l]? = some o) (_ : o.isCells = false) (_ : o.isWalk = false) : KeepB q W (W.putObj l o') :=
 ⟨by simp [World.putObj], fun k hk => World.putObj_heap_other (fun e => by have := hq k hk; omega)⟩
theorem CAt.keep {w w' : World} {b off : Nat} {cs : List CallV} {q : Nat → Prop} (h : CAt w b off cs) (hb : KeepB q w w') (hq : q b) : CAt w' b off cs := fun j u hj => by
 rw [hb.cell (p := ⟨b, off + j, none⟩) hq]; exact h j u hj
def IterPost (L : List Nat) (J Jx : List Nat → World → Prop) (e : Ending) (W' : World) : Prop := (∃ v, e = .returned v) ∧ ((∃ ys, ys = L ∧ J ys W') ∨ (∃ pre, pre <+: L ∧ Jx pre W'))
theorem of1_in (n : Nat) (hn : 1 ≤ n) (l Bl Bt b off cap : Nat) (q : Nat → Prop) (cs : List CallV) (t : Int) (hs : cs.length ≤ 1000000) (J Jx : List Nat → World → Prop)
  (hY : ∀ pre x W, J pre W → pre.length < cs.length → x < cs.length → YieldAt Fence.wide (n - 1) Tryz.prog l #[.int .i64 (x : Int)] W fun e W' =>
   (e = .returned (.bool true) ∧ J (pre ++ [x]) W' ∧ KeepB q W W') ∨ (e = .returned (.bool false) ∧ Jx (pre ++ [x]) W'))
  (W : World) (hA : ∀ pre X o, J pre X → J pre (X.alloc o)) (hBl : W.cell? ⟨Bl, 0, none⟩ = some (.slice (some ⟨b, off, none⟩) cs.length cap)) (hBt : W.cell? ⟨Bt, 0, none⟩ = some (.int .i64 t)) (hC : CAt W b off cs) (h0 : ∀ k, q k → k < W.heap.size) (h2 : q Bt) (h3 : q b) (hJ : J [] W) :
  CallsIn Fence.wide n Tryz.prog 159 #[.func (.yield l) #[] #[], .pointer (some ⟨Bl, 0, none⟩), .pointer (some ⟨Bt, 0, none⟩)] W (IterPost (thIdx t cs 0) J Jx) := by
 refine callsIn_of_wp Tryz.func159 rfl trivial ?_ rfl
 simp only [Tryz.ntmps159, List.size_toArray, List.length_cons, List.length_nil, Nat.reduceAdd, Nat.reduceSub, Array.replicate_succ, Array.replicate_zero, List.push_toArray, List.append_toArray, List.nil_append, List.cons_append]
 gi_wp2
 gi_loopw [8] (fun i wr => ∃ (k : Nat) (pre : List Nat), i = .int .i64 k ∧ k ≤ cs.length ∧ pre ++ thIdx t (cs.drop k) k = thIdx t cs 0 ∧ pre.length ≤ k ∧ J pre wr ∧ KeepB q W wr) (fun i wr => cs.length - (intOf i).toNat)
 case atStart => exact ⟨0, [], rfl, by omega, by simp, by simp, hJ, KeepB.refl _ _⟩
 case round =>
  obtain ⟨k, pre, rfl, hk, hp, hlen, hJ', hB⟩ := hrel
  have Hp := Lib.hid hp; clear hp
  by_cases hlt : k < cs.length
  ·obtain ⟨c, hc⟩ : ∃ c, cs[k]? = some c := ⟨_, List.getElem?_eq_getElem hlt⟩
   have hst := thIdx_step (t := t) hc
   have Hst := Lib.hid hst; clear hst
   have hld := (hC.keep hB h3).load hc
   have hBx := hB.trans (KeepB.alloc (fun k hk => Nat.lt_of_lt_of_le (h0 k hk) hB.size) (.cells (callL c).toArray 56))
   have hct := (hBx.cell (p := ⟨Bt, 0, none⟩) h2).trans hBt
   have hJa := hA pre wr (.cells (callL c).toArray 56) hJ'
   have Hc := Lib.hid hc; clear hc
   by_cases hb : c.thread = t
   ·obtain ⟨fn, tmps, assign, body, hy, hR⟩ := hY pre k _ hJa (by omega) hlt
    have hd : (c.thread == t) = true := by simpa using hb
    gi_wp2
    refine hR.mono ?_
    rintro e W1 (⟨rfl, hJ1, hk1⟩ | ⟨rfl, hJ1⟩)
    ·gi_wp2
     go_roundw
     case rel => exact ⟨k + 1, pre ++ [k], by go_num, by omega, by rw [← Hp.out, Hst.out, if_pos hb, List.append_assoc]; rfl, by simp; omega, hJ1, hBx.trans hk1⟩
     case measure => simp [intOf]; omega
    ·gi_wp2
     refine bodyPost_ret (results_none rfl _ _ _) rfl ?_
     exact ⟨⟨_, rfl⟩, .inr ⟨pre ++ [k], ⟨thIdx t (cs.drop (k + 1)) (k + 1), by rw [← Hp.out, Hst.out, if_pos hb, List.append_assoc]; rfl⟩, hJ1⟩⟩
   ·have hd : (c.thread == t) = false := by simpa using hb
    gi_wp2
    refine ⟨fun _ h => (by cases h), ?_⟩
    gi_wp2
    go_roundw
    case rel => exact ⟨k + 1, pre, by go_num, by omega, by rw [← Hp.out, Hst.out, if_neg hb], by omega, hJa, hBx⟩
    case measure => simp [intOf]; omega
  ·gi_wp2
   go_end0
   refine ⟨⟨_, rfl⟩, .inl ⟨_, rfl, ?_⟩⟩
   have hkk : k = cs.length := by omega
   rw [← Hp.out, hkk]
   simpa [thIdx] using hJ'
theorem of1_nil (n : Nat) (l Bl Bt : Nat) (t : Int) (c : Nat) (J Jx : List Nat → World → Prop)
  (W : World) (hBl : W.cell? ⟨Bl, 0, none⟩ = some (.slice none 0 c)) (hJ : J [] W) :
  CallsIn Fence.wide n Tryz.prog 159 #[.func (.yield l) #[] #[], .pointer (some ⟨Bl, 0, none⟩), .pointer (some ⟨Bt, 0, none⟩)] W (IterPost (thIdx t [] 0) J Jx) := by
 refine callsIn_of_wp Tryz.func159 rfl trivial ?_ rfl
 simp only [Tryz.ntmps159, List.size_toArray, List.length_cons, List.length_nil, Nat.reduceAdd, Nat.reduceSub, Array.replicate_succ, Array.replicate_zero, List.push_toArray, List.append_toArray, List.nil_append, List.cons_append]
 gi_wp2
 refine wpIn_loop_once ?_
 gi_wp2
 go_end0
 exact ⟨⟨_, rfl⟩, .inl ⟨_, rfl, hJ⟩⟩
abbrev InC (n : Nat) : Type := { k : Nat // k < n }
def CRow (w : World) (p : Option Addr) (cap : Nat) (cs : List CallV) : Prop := (p = none ∧ cap = 0 ∧ cs = []) ∨ ∃ b off, p = some ⟨b, off, none⟩ ∧ cs.length ≤ cap ∧ b < w.heap.size ∧ CAt w b off cs
theorem CRow.on {w w' : World} {p : Option Addr} {cap : Nat} {cs : List CallV} (h : CRow w p cap cs) (hb : Below w.heap.size w w') : CRow w' p cap cs := by
 rcases h with h | ⟨b, off, h1, h2, h3, h4⟩
 ·exact .inl h
 ·exact .inr ⟨b, off, h1, h2, Nat.lt_of_lt_of_le h3 hb.size, h4.on hb⟩
theorem of_stops (n : Nat) (hn : 1 ≤ n) (Bl Bt cap : Nat) (q : Nat → Prop) (p : Option Addr) (cs : List CallV) (t : Int) (hs : cs.length ≤ 1000000) (w : World) (hBl : w.cell? ⟨Bl, 0, none⟩ = some (.slice p cs.length cap)) (hBt : w.cell? ⟨Bt, 0, none⟩ = some (.int .i64 t))
  (hC : CRow w p cap cs) (h0 : ∀ k, q k → k < w.heap.size) (h1 : Bl < w.heap.size) (h2 : q Bt) (h3 : ∀ b off, p = some ⟨b, off, none⟩ → q b) :
  SeqStopsK Fence.wide n Tryz.prog 159 #[.pointer (some ⟨Bl, 0, none⟩), .pointer (some ⟨Bt, 0, none⟩)] (fun x : InC cs.length => #[Value.int .i64 (x.1 : Int)]) (KeepB q) (fun ys => ys.map (·.1) = thIdx t cs 0) (fun _ => True) cs.length w := by
 intro l J Jx W hW hAJ hAJx hY hJ
 have hbl := (hW.cell (p := ⟨Bl, 0, none⟩) h1).trans hBl
 have hbt := (hW.cell (p := ⟨Bt, 0, none⟩) (h0 _ h2)).trans hBt
 have key : CallsIn Fence.wide n Tryz.prog 159 #[.func (.yield l) #[] #[], .pointer (some ⟨Bl, 0, none⟩), .pointer (some ⟨Bt, 0, none⟩)] W (IterPost (thIdx t cs 0) (fun xs W => ∃ ys : List (InC cs.length), ys.map (·.1) = xs ∧ J ys W) (fun xs W => ∃ ys : List (InC cs.length), ys.map (·.1) = xs ∧ Jx ys W)) := by
  rcases hC with ⟨rfl, rfl, rfl⟩ | ⟨b, off, rfl, hcap, hb, hcat⟩
  ·exact of1_nil n l Bl Bt t 0 _ _ W hbl ⟨[], rfl, hJ⟩
  ·refine of1_in n hn l Bl Bt b off cap q cs t hs _ _ ?_ W ?_ hbl hbt (hcat.below hW hb) (fun k hk => Nat.lt_of_lt_of_le (h0 k hk) hW.size) h2 (h3 b off rfl) ⟨[], rfl, hJ⟩
   ·rintro pre x W ⟨ys, rfl, hj⟩ hlen hx
    refine (hY ys ⟨x, hx⟩ W hj (by simpa using hlen)).mono ?_
    rintro e W' (⟨rfl, hj', hk⟩ | ⟨rfl, hj'⟩)
    ·exact .inl ⟨rfl, ⟨_, by simp, hj'⟩, hk⟩
    ·exact .inr ⟨rfl, ⟨_, by simp, hj'⟩⟩
   ·rintro pre X o ⟨ys, rfl, hj⟩
    exact ⟨ys, rfl, hAJ ys X _ none hj (World.grownBy_alloc X o none) (fun r e => by cases e)⟩
 refine key.mono ?_
 rintro e W' ⟨hv, ⟨_, rfl, ys, hy, hj⟩ | ⟨_, hp, ys, rfl, hj⟩⟩
 ·exact ⟨hv, .inl ⟨ys, hy, hj⟩⟩
 ·exact ⟨hv, .inr ⟨ys, trivial, hj⟩⟩
theorem of_stopsN (N : Nat) (n : Nat) (hn : 1 ≤ n) (Bl Bt cap : Nat) (q : Nat → Prop) (p : Option Addr) (cs : List CallV) (hN : cs.length = N) (t : Int) (hs : N ≤ 1000000) (w : World) (hBl : w.cell? ⟨Bl, 0, none⟩ = some (.slice p N cap)) (hBt : w.cell? ⟨Bt, 0, none⟩ = some (.int .i64 t))
  (hC : CRow w p cap cs) (h0 : ∀ k, q k → k < w.heap.size) (h1 : Bl < w.heap.size) (h2 : q Bt) (h3 : ∀ b off, p = some ⟨b, off, none⟩ → q b) :
  SeqStopsK Fence.wide n Tryz.prog 159 #[.pointer (some ⟨Bl, 0, none⟩), .pointer (some ⟨Bt, 0, none⟩)] (fun x : InC N => #[Value.int .i64 (x.1 : Int)]) (KeepB q) (fun ys => ys.map (·.1) = thIdx t cs 0) (fun _ => True) N w := by
 subst hN
 exact of_stops n hn Bl Bt cap q p cs t hs w hBl hBt hC h0 h1 h2 h3
end Go.Proofs.YtdeiocppghhfdaaGreat.Hs
