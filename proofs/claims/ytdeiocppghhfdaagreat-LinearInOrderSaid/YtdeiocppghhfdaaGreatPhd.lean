/- The texts HsH. -/
import Derived.Test.YtdeiocppghhfdaaGreatPug
import Derived.Test.YtdeiocppghhfdaaGreatPhb
import Derived.Test.YtdeiocppghhfdaaGreatPhc
namespace Go.Proofs.YtdeiocppghhfdaaGreat.Hs
set_option linter.unusedVariables false
set_option linter.unusedSimpArgs false
set_option maxRecDepth 100000
set_option maxHeartbeats 8000000
open Go.RowKit Go.Lib Go.Shelf
open KitI (iv IRow own_below infoI)
attribute [local go_sem, local simp] callL_0 callL_1 callL_2 callL_3 callL_4 callL_5 callL_6 callL_7 callL_8 callL_9 callL_10 callL_11 callL_12 callL_13 callL_14 callL_15 callL_16 callL_17 callL_18 callL_19 callL_20 callL_21 callL_22 callL_23 callL_24 callL_25 callL_26 resL_0 resL_1 resL_2 resL_3 resL_4 resL_5 resL_6 resL_7 resL_8 resL_9 resL_10 resL_11 resL_12 callG_0 callG_1 callG_2 callG_3 callG_4 callG_5 callG_6 callG_7 callG_8 callG_9 callG_10 callG_11 callG_12 callG_13 callG_14 callG_15 callG_16 callG_17 callG_18 callG_19 callG_20 callG_21 callG_22 callG_23 callG_24 callG_25 callG_26 resG_0 resG_1 resG_2 resG_3 resG_4 resG_5 resG_6 resG_7 resG_8 resG_9 resG_10 resG_11 resG_12 callL_len resL_len
attribute [local go_sem ↓] loadCall_eq loadRes_eq
attribute [local go_sem] ld_new ld_first ld_second ldr_new st_new
def ordE (n : Nat) : List Int → List Int → Int
  | _, [] => 0
  | seen, x :: r => if x < 0 ∨ (n : Int) ≤ x then 3 else if x ∈ seen then 9 else ordE n (seen ++ [x]) r
def plc (l : List Int) (i : Nat) : Int := if (i : Int) ∈ l then (l.idxOf (i : Int) : Int) + 1 else 0
theorem plc_nil (i : Nat) : plc [] i = 0 := rfl
theorem plc_snoc_same {l : List Int} {i : Nat} (h : (i : Int) ∉ l) : plc (l ++ [(i : Int)]) i = (l.length : Int) + 1 := by
  unfold plc
  rw [if_pos (by simp), List.idxOf_append, if_neg h]
  simp
theorem plc_snoc_other {l : List Int} {i : Nat} {x : Int} (h : x ≠ (i : Int)) : plc (l ++ [x]) i = plc l i := by
  unfold plc
  by_cases hi : (i : Int) ∈ l
  · rw [if_pos hi, if_pos (by simp [hi]), List.idxOf_append, if_pos hi]
  · rw [if_neg hi, if_neg (by simp [hi]; exact fun e => h e.symm)]
theorem plc_zero {l : List Int} {i : Nat} : plc l i = 0 ↔ (i : Int) ∉ l := by
  unfold plc
  split
  · rename_i h
    constructor
    · intro e; omega
    · intro e; exact absurd h e
  · rename_i h
    exact ⟨fun _ => h, fun _ => rfl⟩
def pairB (order : List Int) (cs : List CallV) (i j : Nat) : Bool :=
  match cs[i]?, cs[j]? with
  | some a, some b => !(decide (plc order j ≠ 0) && befB a b && (decide (plc order i = 0) || decide (plc order j < plc order i)))
  | _, _ => true
def okPairs (order : List Int) (cs : List CallV) : Bool := (List.range cs.length).all fun i => (List.range cs.length).all fun j => pairB order cs i j
def agreesP (order : List Int) (cs : List CallV) : Bool × Int :=
  if (checkP cs).2 = 0 then (if ordE cs.length [] order = 0 then (okPairs order cs, 0) else (false, ordE cs.length [] order)) else (false, 22)
theorem ordE_step {n : Nat} {order : List Int} : ∀ {k : Nat}, ordE n (order.take k) (order.drop k) = ordE n [] order → ∀ x, order[k]? = some x → ordE n (order.take k) (order.drop k) = if x < 0 ∨ (n : Int) ≤ x then 3 else if x ∈ order.take k then 9 else ordE n (order.take (k + 1)) (order.drop (k + 1)) := by
  intro k _ x hx
  obtain ⟨hlt, rfl⟩ := List.getElem?_eq_some_iff.1 hx
  rw [List.drop_eq_getElem_cons hlt]
  show (if _ then _ else if _ then _ else ordE n (order.take k ++ [order[k]]) (order.drop (k + 1))) = _
  rw [List.take_succ_eq_append_getElem hlt]
theorem pairs_no {order : List Int} {cs : List CallV} {i j : Nat} (hi : i < cs.length) (hj : j < cs.length) (h : pairB order cs i j = false) : okPairs order cs = false := by
  unfold okPairs
  rw [List.all_eq_false]
  refine ⟨i, List.mem_range.2 hi, ?_⟩
  rw [Bool.not_eq_true, List.all_eq_false]
  exact ⟨j, List.mem_range.2 hj, by simp [h]⟩
theorem pairs_yes {order : List Int} {cs : List CallV} (h : ∀ i j, i < cs.length → j < cs.length → pairB order cs i j = true) : okPairs order cs = true := by
  unfold okPairs
  rw [List.all_eq_true]
  intro i hi
  rw [List.all_eq_true]
  intro j hj
  exact h i j (List.mem_range.1 hi) (List.mem_range.1 hj)
theorem ret_be {a c : Bool} {b d : Int} (h : a = c) (h2 : b = d) : Ending.returned (.tuple #[.bool a, .int .i64 b]) = .returned (.tuple #[.bool c, .int .i64 d]) := by rw [h, h2]
def plV (order : List Int) (n : Nat) : List Value := (List.range n).map fun i => .int .i64 (plc order i)
theorem plV_at {order : List Int} {n i : Nat} (h : i < n) : (plV order n)[i]? = some (.int .i64 (plc order i)) := by unfold plV; simp [h]
theorem plV_set {order : List Int} {n i : Nat} (h : (i : Int) ∉ order) : (plV order n).set i (.int .i64 ((order.length : Int) + 1)) = plV (order ++ [(i : Int)]) n := by
  unfold plV
  apply List.ext_getElem?
  intro j
  by_cases hj : j < n
  · by_cases e : i = j
    · subst e
      rw [List.getElem?_set_self (by simpa using hj)]
      simp [hj, plc_snoc_same h]
    · rw [List.getElem?_set_ne e]
      simp [hj, plc_snoc_other (l := order) (i := j) (x := (i : Int)) (by omega)]
  · rw [List.getElem?_eq_none (by simp; omega), List.getElem?_eq_none (by simp; omega)]
structure AInv (w : World) (p : Option Addr) (cs : List CallV) (order : List Int) (g base : Nat) (W : World) : Prop where
  row : ∀ b off, p = some ⟨b, off, none⟩ → CAt W b off cs
  own : W.ownsRow base 3 1 (.slice (some ⟨g, 0, none⟩) cs.length cs.length) cs.length (plV order cs.length)
  bl : Below w.heap.size w W
theorem AInv.on {w : World} {p : Option Addr} {cs : List CallV} {order : List Int} {g base : Nat} {W W' : World} (h : AInv w p cs order g base W) (hb : Below W.heap.size W W') : AInv w p cs order g base W' :=
  ⟨fun b off e => (h.row b off e).on hb, own_below h.own hb, h.bl.trans (hb.mono h.bl.size)⟩
def ORel (w : World) (p : Option Addr) (cs : List CallV) (order : List Int) (g base : Nat) (po : Option Addr) (i : Value) (wr : World) : Prop :=
  ∃ k : Nat, i = .int .i64 k ∧ k ≤ order.length ∧ ordE cs.length (order.take k) (order.drop k) = ordE cs.length [] order ∧ AInv w p cs (order.take k) g base wr ∧ (∀ b off, po = some ⟨b, off, none⟩ → ∀ j u, order[j]? = some u → wr.cell? ⟨b, off + j, none⟩ = some (iv u))
def AgI (w : World) (p po : Option Addr) (cap co : Nat) (cs : List CallV) (order : List Int) (g : Nat) (a : Act) (wr : World) : Prop :=
  ∃ (i : Nat) (u : Nat → Value), a = { tmps := #[.slice po order.length co, .slice p cs.length cap, u 2, u 3, u 4, u 5, u 6, u 7, .slice (some ⟨g, 0, none⟩) cs.length cs.length, u 9, u 10, u 11, u 12, u 13, u 14, u 15, u 16, u 17, u 18, u 19, u 20, u 21, u 22, u 23, u 24, u 25, u 26, u 27, u 28, u 29, u 30, u 31, u 32, u 33, u 34, u 35, u 36, u 37, u 38, u 39, u 40, u 41, u 42, u 43, u 44, u 45, u 46, u 47, u 48, u 49, u 50, u 51, .slice p cs.length cap, .int .i64 cs.length, .int .i64 i, u 55, u 56, u 57, u 58, u 59, u 60, u 61, u 62, u 63, u 64, u 65, u 66, u 67, u 68, u 69, u 70, u 71, u 72, u 73, u 74, u 75, u 76, u 77, u 78, u 79, u 80, u 81, u 82, u 83, u 84, u 85, u 86, u 87, u 88, u 89, u 90, u 91, u 92, u 93, u 94, u 95], defers := [] } ∧ i ≤ cs.length ∧ (∀ x y, x < i → y < cs.length → pairB order cs x y = true) ∧ AInv w p cs order g g wr
theorem AgI.intro {w : World} {p po : Option Addr} {cap co : Nat} {cs : List CallV} {order : List Int} {g : Nat} {a : Act} {wr : World} (i : Nat) (h : a = { tmps := #[.slice po order.length co, .slice p cs.length cap, a.tmps.getD 2 undef, a.tmps.getD 3 undef, a.tmps.getD 4 undef, a.tmps.getD 5 undef, a.tmps.getD 6 undef, a.tmps.getD 7 undef, .slice (some ⟨g, 0, none⟩) cs.length cs.length, a.tmps.getD 9 undef, a.tmps.getD 10 undef, a.tmps.getD 11 undef, a.tmps.getD 12 undef, a.tmps.getD 13 undef, a.tmps.getD 14 undef, a.tmps.getD 15 undef, a.tmps.getD 16 undef, a.tmps.getD 17 undef, a.tmps.getD 18 undef, a.tmps.getD 19 undef, a.tmps.getD 20 undef, a.tmps.getD 21 undef, a.tmps.getD 22 undef, a.tmps.getD 23 undef, a.tmps.getD 24 undef, a.tmps.getD 25 undef, a.tmps.getD 26 undef, a.tmps.getD 27 undef, a.tmps.getD 28 undef, a.tmps.getD 29 undef, a.tmps.getD 30 undef, a.tmps.getD 31 undef, a.tmps.getD 32 undef, a.tmps.getD 33 undef, a.tmps.getD 34 undef, a.tmps.getD 35 undef, a.tmps.getD 36 undef, a.tmps.getD 37 undef, a.tmps.getD 38 undef, a.tmps.getD 39 undef, a.tmps.getD 40 undef, a.tmps.getD 41 undef, a.tmps.getD 42 undef, a.tmps.getD 43 undef, a.tmps.getD 44 undef, a.tmps.getD 45 undef, a.tmps.getD 46 undef, a.tmps.getD 47 undef, a.tmps.getD 48 undef, a.tmps.getD 49 undef, a.tmps.getD 50 undef, a.tmps.getD 51 undef, .slice p cs.length cap, .int .i64 cs.length, .int .i64 i, a.tmps.getD 55 undef, a.tmps.getD 56 undef, a.tmps.getD 57 undef, a.tmps.getD 58 undef, a.tmps.getD 59 undef, a.tmps.getD 60 undef, a.tmps.getD 61 undef, a.tmps.getD 62 undef, a.tmps.getD 63 undef, a.tmps.getD 64 undef, a.tmps.getD 65 undef, a.tmps.getD 66 undef, a.tmps.getD 67 undef, a.tmps.getD 68 undef, a.tmps.getD 69 undef, a.tmps.getD 70 undef, a.tmps.getD 71 undef, a.tmps.getD 72 undef, a.tmps.getD 73 undef, a.tmps.getD 74 undef, a.tmps.getD 75 undef, a.tmps.getD 76 undef, a.tmps.getD 77 undef, a.tmps.getD 78 undef, a.tmps.getD 79 undef, a.tmps.getD 80 undef, a.tmps.getD 81 undef, a.tmps.getD 82 undef, a.tmps.getD 83 undef, a.tmps.getD 84 undef, a.tmps.getD 85 undef, a.tmps.getD 86 undef, a.tmps.getD 87 undef, a.tmps.getD 88 undef, a.tmps.getD 89 undef, a.tmps.getD 90 undef, a.tmps.getD 91 undef, a.tmps.getD 92 undef, a.tmps.getD 93 undef, a.tmps.getD 94 undef, a.tmps.getD 95 undef], defers := [] })
    (hi : i ≤ cs.length) (hg : ∀ x y, x < i → y < cs.length → pairB order cs x y = true) (hA : AInv w p cs order g g wr) : AgI w p po cap co cs order g a wr := ⟨i, fun i => a.tmps.getD i undef, h, hi, hg, hA⟩
structure PInv (w : World) (b off : Nat) (cs : List CallV) (order : List Int) (g ga : Nat) (c : CallV) (W : World) : Prop where
  blk : CallBlk W ga c
  inv : AInv w (some ⟨b, off, none⟩) cs order g g W
theorem PInv.on {w : World} {b off : Nat} {cs : List CallV} {order : List Int} {g ga : Nat} {c : CallV} {W W' : World} (h : PInv w b off cs order g ga c W) (hb : Below W.heap.size W W') : PInv w b off cs order g ga c W' :=
  ⟨blk_below h.blk hb (Array.getElem?_eq_some_iff.1 h.blk).1, h.inv.on hb⟩
def QInv (w : World) (b off : Nat) (cs : List CallV) (order : List Int) (g ga : Nat) (c : CallV) (gb : Nat) (d : CallV) (W : World) : Prop := PInv w b off cs order g ga c W ∧ CallBlk W gb d
theorem QInv.on {w : World} {b off : Nat} {cs : List CallV} {order : List Int} {g ga gb : Nat} {c d : CallV} {W W' : World} (h : QInv w b off cs order g ga c gb d W) (hb : Below W.heap.size W W') : QInv w b off cs order g ga c gb d W' :=
  ⟨h.1.on hb, blk_below h.2 hb (Array.getElem?_eq_some_iff.1 h.2).1⟩
theorem QInv.drew {w : World} {b off : Nat} {cs : List CallV} {order : List Int} {g ga gb : Nat} {c d : CallV} {W : World} (h : QInv w b off cs order g ga c gb d W) : QInv w b off cs order g ga c gb d W.drew := h.on (Below.refl _ _).drew
def AgJ (w : World) (b off : Nat) (po : Option Addr) (cap co : Nat) (cs : List CallV) (order : List Int) (g i ga : Nat) (c : CallV) (a : Act) (wr : World) : Prop :=
  ∃ (j : Nat) (u : Nat → Value), a = { tmps := #[.slice po order.length co, .slice (some ⟨b, off, none⟩) cs.length cap, u 2, u 3, u 4, u 5, u 6, u 7, .slice (some ⟨g, 0, none⟩) cs.length cs.length, u 9, u 10, .int .i64 i, .pointer (some ⟨ga, 0, none⟩), u 13, u 14, u 15, u 16, u 17, u 18, u 19, u 20, u 21, u 22, u 23, u 24, u 25, u 26, u 27, u 28, u 29, u 30, u 31, u 32, u 33, u 34, u 35, u 36, u 37, u 38, u 39, u 40, u 41, u 42, u 43, u 44, u 45, u 46, u 47, u 48, u 49, u 50, u 51, .slice (some ⟨b, off, none⟩) cs.length cap, .int .i64 cs.length, .int .i64 i, u 55, u 56, u 57, u 58, .slice (some ⟨b, off, none⟩) cs.length cap, .int .i64 cs.length, .int .i64 j, u 62, u 63, u 64, u 65, u 66, u 67, u 68, u 69, u 70, u 71, u 72, u 73, u 74, u 75, u 76, u 77, u 78, u 79, u 80, u 81, u 82, u 83, u 84, u 85, u 86, u 87, u 88, u 89, u 90, u 91, u 92, u 93, u 94, u 95], defers := [] } ∧ j ≤ cs.length ∧ (∀ y, y < j → pairB order cs i y = true) ∧ PInv w b off cs order g ga c wr
theorem AgJ.intro {w : World} {b off : Nat} {po : Option Addr} {cap co : Nat} {cs : List CallV} {order : List Int} {g i ga : Nat} {c : CallV} {a : Act} {wr : World} (j : Nat) (h : a = { tmps := #[.slice po order.length co, .slice (some ⟨b, off, none⟩) cs.length cap, a.tmps.getD 2 undef, a.tmps.getD 3 undef, a.tmps.getD 4 undef, a.tmps.getD 5 undef, a.tmps.getD 6 undef, a.tmps.getD 7 undef, .slice (some ⟨g, 0, none⟩) cs.length cs.length, a.tmps.getD 9 undef, a.tmps.getD 10 undef, .int .i64 i, .pointer (some ⟨ga, 0, none⟩), a.tmps.getD 13 undef, a.tmps.getD 14 undef, a.tmps.getD 15 undef, a.tmps.getD 16 undef, a.tmps.getD 17 undef, a.tmps.getD 18 undef, a.tmps.getD 19 undef, a.tmps.getD 20 undef, a.tmps.getD 21 undef, a.tmps.getD 22 undef, a.tmps.getD 23 undef, a.tmps.getD 24 undef, a.tmps.getD 25 undef, a.tmps.getD 26 undef, a.tmps.getD 27 undef, a.tmps.getD 28 undef, a.tmps.getD 29 undef, a.tmps.getD 30 undef, a.tmps.getD 31 undef, a.tmps.getD 32 undef, a.tmps.getD 33 undef, a.tmps.getD 34 undef, a.tmps.getD 35 undef, a.tmps.getD 36 undef, a.tmps.getD 37 undef, a.tmps.getD 38 undef, a.tmps.getD 39 undef, a.tmps.getD 40 undef, a.tmps.getD 41 undef, a.tmps.getD 42 undef, a.tmps.getD 43 undef, a.tmps.getD 44 undef, a.tmps.getD 45 undef, a.tmps.getD 46 undef, a.tmps.getD 47 undef, a.tmps.getD 48 undef, a.tmps.getD 49 undef, a.tmps.getD 50 undef, a.tmps.getD 51 undef, .slice (some ⟨b, off, none⟩) cs.length cap, .int .i64 cs.length, .int .i64 i, a.tmps.getD 55 undef, a.tmps.getD 56 undef, a.tmps.getD 57 undef, a.tmps.getD 58 undef, .slice (some ⟨b, off, none⟩) cs.length cap, .int .i64 cs.length, .int .i64 j, a.tmps.getD 62 undef, a.tmps.getD 63 undef, a.tmps.getD 64 undef, a.tmps.getD 65 undef, a.tmps.getD 66 undef, a.tmps.getD 67 undef, a.tmps.getD 68 undef, a.tmps.getD 69 undef, a.tmps.getD 70 undef, a.tmps.getD 71 undef, a.tmps.getD 72 undef, a.tmps.getD 73 undef, a.tmps.getD 74 undef, a.tmps.getD 75 undef, a.tmps.getD 76 undef, a.tmps.getD 77 undef, a.tmps.getD 78 undef, a.tmps.getD 79 undef, a.tmps.getD 80 undef, a.tmps.getD 81 undef, a.tmps.getD 82 undef, a.tmps.getD 83 undef, a.tmps.getD 84 undef, a.tmps.getD 85 undef, a.tmps.getD 86 undef, a.tmps.getD 87 undef, a.tmps.getD 88 undef, a.tmps.getD 89 undef, a.tmps.getD 90 undef, a.tmps.getD 91 undef, a.tmps.getD 92 undef, a.tmps.getD 93 undef, a.tmps.getD 94 undef, a.tmps.getD 95 undef], defers := [] })
    (hj : j ≤ cs.length) (hg : ∀ y, y < j → pairB order cs i y = true) (hP : PInv w b off cs order g ga c wr) : AgJ w b off po cap co cs order g i ga c a wr := ⟨j, fun i => a.tmps.getD i undef, h, hj, hg, hP⟩
theorem agj_next {order : List Int} {cs : List CallV} {i j : Nat} (h : ∀ y, y < j → pairB order cs i y = true) (hp : pairB order cs i j = true) : ∀ y, y < j + 1 → pairB order cs i y = true := fun y hy => by
  by_cases e : y = j
  · rw [e]; exact hp
  · exact h y (by omega)
def IRd (w : World) (po : Option Addr) (zs : List Int) : Prop := zs = [] ∨ ∃ b off, po = some ⟨b, off, none⟩ ∧ ∀ j u, zs[j]? = some u → w.cell? ⟨b, off + j, none⟩ = some (iv u)
theorem IRd.of {w : World} {po : Option Addr} {n c : Nat} {zs : List Int} (h : IRow w (.slice po n c) zs) : IRd w po zs := by
  rcases h with ⟨_, h⟩ | ⟨b, off, c', h, hc⟩
  · exact .inl h
  · injection h with h _ _; exact .inr ⟨b, off, h, hc⟩
theorem IRd.on {w w' : World} {po : Option Addr} {zs : List Int} (h : IRd w po zs) (hb : Below w.heap.size w w') : IRd w' po zs := by
  rcases h with h | ⟨b, off, h, hc⟩
  · exact .inl h
  · exact .inr ⟨b, off, h, fun j u hj => (hb.cell (KitI.cell_size (hc j u hj))).trans (hc j u hj)⟩
set_option linter.unusedSimpArgs false in
theorem agrees_ok (p po : Option Addr) (cap co : Nat) (cs : List CallV) (order : List Int) (w : World) (hC : CRow w p cap cs) (hO : IRd w po order) (hs : cs.length ≤ 1000000) (hs2 : order.length ≤ 1000000) (hok : ∀ c ∈ cs, c.Ok) (h0 : (checkP cs).2 = 0) :
    Calls Tryz.prog 55 #[.slice po order.length co, .slice p cs.length cap] w fun e w' => e = .returned (.tuple #[.bool (agreesP order cs).1, .int .i64 (agreesP order cs).2]) ∧ Below w.heap.size w w' := by
  obtain ⟨i0, hi, hz0, hz1, hz2⟩ := info_parts infoI
  have ck := check_any p cap cs w hC hs hok
  obtain ⟨k1, hk1⟩ : ∃ k1, (checkP cs).1 = k1 := ⟨_, rfl⟩
  rw [hk1, h0] at ck
  have H0 := Lib.hid h0
  clear h0 hk1
  have hag : agreesP order cs = if ordE cs.length [] order = 0 then (okPairs order cs, 0) else (false, ordE cs.length [] order) := by unfold agreesP; rw [if_pos H0.out]
  have Hag := Lib.hid hag
  clear hag
  go_enter Tryz.func55, Tryz.ntmps55
  go_wp2_with fail
  refine ck.mono ?_
  clear ck
  rintro e w1 ⟨rfl, hB1⟩
  obtain ⟨w2, hmk, hown, hgr⟩ := run_make_full (P := Tryz.prog) w1 w1.heap.size 28 3 i0 (.int .i64 0) 1 Tryz.underlying28 hi hz0 hz1 .i64 .i64 cs.length (by rw [hz2]; omega) (by unfold maxLen; omega) (Nat.le_refl _)
  have hB2 := hB1.grown hgr hB1.size (fun k hk => by cases hk)
  have hb2 : Below w1.heap.size w1 w2 := (Below.refl _ _).grown hgr (Nat.le_refl _) (fun k hk => by cases hk)
  have hpl : (madeCells (Value.cells (.int .i64 0)) (cs.length * 1)).toList = plV [] cs.length := by
    rw [Nat.mul_one]
    have e : Value.cells (.int .i64 0) = #[.int .i64 0] := rfl
    rw [e, toList_madeCells_one]
    unfold plV
    apply List.ext_getElem?
    intro j
    by_cases hj : j < cs.length
    · simp [hj, plc_nil]
    · rw [List.getElem?_eq_none (by simp; omega), List.getElem?_eq_none (by simp; omega)]
  rw [hpl] at hown
  have hA : AInv w p cs [] w1.heap.size w1.heap.size w2 := ⟨fun b off e => by
    rcases hC with ⟨h, _⟩ | ⟨b', off', h, _, hbb, hc⟩
    · rw [h] at e; cases e
    · rw [h] at e; cases e; exact hc.on hB2, hown, hB2⟩
  have hO2 : ∀ b off, po = some ⟨b, off, none⟩ → ∀ j u, order[j]? = some u → w2.cell? ⟨b, off + j, none⟩ = some (iv u) := by
    intro b off e j u hj
    rcases hO with h2 | ⟨b', off', h, hc⟩
    · rw [h2] at hj; simp at hj
    · rw [e] at h
      simp only [Option.some.injEq, Addr.mk.injEq, and_true] at h
      obtain ⟨rfl, rfl⟩ := h
      rw [hB2.cell (KitI.cell_size (hc j u hj))]
      exact hc j u hj
  have hz1 : w1.heap.size ≤ w2.heap.size := hgr.size
  have hgw : w.heap.size ≤ w1.heap.size := hB1.size
  have Hgw := Lib.hid hgw
  have hpB : ∀ b off, p = some (⟨b, off, none⟩ : Addr) → b < w1.heap.size := fun b off e => by
    rcases hC with ⟨h, _⟩ | ⟨b', off', h, _, hbb, hc⟩
    · rw [h] at e; cases e
    · rw [h] at e; cases e; omega
  have hoB : ∀ b off, po = some (⟨b, off, none⟩ : Addr) → ∀ {k : Nat}, k < order.length → b < w1.heap.size := fun b off e k hk => by
    rcases hO with h2 | ⟨b', off', h, hc⟩
    · rw [h2] at hk; simp at hk
    · rw [e] at h
      simp only [Option.some.injEq, Addr.mk.injEq, and_true] at h
      obtain ⟨rfl, rfl⟩ := h
      have := KitI.cell_size (hc k _ (List.getElem?_eq_getElem hk))
      simp at this
      omega
  have HpB := Lib.hid hpB
  have HoB := Lib.hid hoB
  have hkeep : ∀ (W : World) (n : Nat) (v : Value) (q : Addr), q.block < w1.heap.size → (W.setCell ⟨w1.heap.size, n, none⟩ v).cell? q = W.cell? q := fun W n v q hq => ((Below.refl _ _).setCell (p := ⟨w1.heap.size, n, none⟩) (Nat.le_refl _) v).cell hq
  have HKeep := Lib.hid hkeep
  clear hgw hpB hoB hkeep
  generalize hg1 : w1.heap.size = g at *
  have Hg1 := Lib.hid hg1
  clear hg1 hown hgr hpl hB1 hB2 hb2
  go_wp2
  go_loopw [28] (fun i wr => ORel w p cs order g g po i wr) (fun i wr => order.length - (intOf i).toNat)
  case atStart => exact ⟨0, rfl, by omega, rfl, hA, hO2⟩
  case round =>
    clear hA hO2 hmk
    obtain ⟨k, rfl, hk, he, hA, hO2⟩ := hrel
    by_cases hlt : k < order.length
    · obtain ⟨x, hx⟩ : ∃ x, order[k]? = some x := ⟨_, List.getElem?_eq_getElem hlt⟩
      have hst := ordE_step he x hx
      rw [he] at hst
      obtain ⟨bo, oo, rfl⟩ : ∃ bo oo, po = some ⟨bo, oo, none⟩ := by
        rcases hO with h2 | ⟨b', off', h, _⟩
        · rw [h2] at hlt; simp at hlt
        · exact ⟨b', off', h⟩
      have cx := hO2 bo oo rfl k x hx
      unfold iv at cx
      have Hx := Lib.hid hx
      have HO2 := Lib.hid hO2
      clear hO2 hO he hx
      by_cases hr : x < 0 ∨ (cs.length : Int) ≤ x
      · rw [if_pos hr] at hst
        have Hst := Lib.hid hst
        have hres : agreesP order cs = (false, 3) := by rw [Hag.out, Hst.out]; rfl
        have Hres := Lib.hid hres
        clear hst hres
        by_cases hx0 : x < 0
        · clear hr
          go_wp2
          go_returns
          exact ⟨ret_be (by rw [Hres.out]) (by rw [Hres.out]), hA.bl⟩
        · have hx1 : (cs.length : Int) ≤ x := by omega
          have hx2 : 0 ≤ x := by omega
          clear hr hx0
          go_wp2
          go_returns
          exact ⟨ret_be (by rw [Hres.out]) (by rw [Hres.out]), hA.bl⟩
      · rw [if_neg hr] at hst
        obtain ⟨n, rfl⟩ : ∃ n : Nat, x = n := ⟨x.toNat, by omega⟩
        have hn : n < cs.length := by omega
        have cz := hA.own.cellAt n (by omega)
        rw [plV_at hn] at cz
        have fz := hA.own.frozenAt n
        by_cases hm : (n : Int) ∈ order.take k
        · rw [if_pos hm] at hst
          have Hst := Lib.hid hst
          have hz : ¬ plc (order.take k) n = 0 := fun e => (plc_zero.1 e) hm
          have hz2 : (plc (order.take k) n != 0) = true := by simpa using hz
          have hres : agreesP order cs = (false, 9) := by rw [Hag.out, Hst.out]; rfl
          have Hres := Lib.hid hres
          clear hst hr hm hres hz
          go_wp2
          go_returns
          exact ⟨ret_be (by rw [Hres.out]) (by rw [Hres.out]), hA.bl⟩
        · rw [if_neg hm] at hst
          have hz : plc (order.take k) n = 0 := plc_zero.2 hm
          rw [hz] at cz
          have hset := plV_set (n := cs.length) hm
          have hlen : (order.take k).length = k := by rw [List.length_take]; omega
          rw [hlen] at hset
          have hst2 := hA.own.stored n (.int .i64 ((k : Int) + 1))
          rw [hset] at hst2
          have htk : order.take k ++ [(n : Int)] = order.take (k + 1) := by rw [List.take_add_one, Hx.out]; rfl
          rw [htk] at hst2
          have hbl := hA.bl
          have Hst := Lib.hid hst
          have HA := Lib.hid hA
          clear hst hr hm hz hset hlen htk hA
          go_wp2
          have hA' : AInv w p cs (order.take (k + 1)) g g (wr.setCell ⟨g, n, none⟩ (.int .i64 ((k : Int) + 1))) :=
            ⟨fun b off e j u hj => by rw [HKeep.out wr n _ _ (HpB.out b off e)]; exact HA.out.row b off e j u hj, hst2.1, hbl.setCell (by simpa using Hgw.out) _⟩
          have hO' : ∀ b off, some (⟨bo, oo, none⟩ : Addr) = some ⟨b, off, none⟩ → ∀ j u, order[j]? = some u → (wr.setCell ⟨g, n, none⟩ (.int .i64 ((k : Int) + 1))).cell? ⟨b, off + j, none⟩ = some (iv u) :=
            fun b off e j u hj => by rw [HKeep.out wr n _ _ (HoB.out b off e hlt)]; exact HO2.out b off e j u hj
          exact ⟨⟨k + 1, by go_num, by omega, Hst.out.symm, hA', hO'⟩, by simp [intOf]; omega⟩
    · have hkk : k = order.length := by omega
      rw [hkk, List.take_length, List.drop_length] at he
      rw [hkk, List.take_length] at hA
      have hres : agreesP order cs = (okPairs order cs, 0) := by rw [Hag.out, if_pos (he.symm.trans (by simp [ordE]))]
      have Hres := Lib.hid hres
      clear hres he hO2 hkk hk hO
      go_wp2
      refine wp_loop (AgI w p po cap co cs order g) (fun a _ => cs.length - (intOf (a.tmps.getD 54 undef)).toNat) ?_ ?_
      · exact AgI.intro 0 rfl (by omega) (fun x y hx => by omega) hA
      · clear hA
        rintro a wo ⟨i, u, rfl, hi9, hgood, hA⟩
        have Hg := Lib.hid hgood
        clear hgood
        by_cases hlt : i < cs.length
        · obtain ⟨c, hc⟩ : ∃ c, cs[i]? = some c := ⟨_, List.getElem?_eq_getElem hlt⟩
          obtain ⟨b, off, rfl⟩ : ∃ b off, p = some ⟨b, off, none⟩ := by
            rcases hC with ⟨_, _, h⟩ | ⟨b, off, h, _⟩
            · rw [h] at hlt; simp at hlt
            · exact ⟨b, off, h⟩
          have hcap : cs.length ≤ cap := by
            rcases hC with ⟨h, _⟩ | ⟨_, _, h, hh, _⟩
            · cases h
            · exact hh
          have hld := (hA.row b off rfl).load hc
          have Hc := Lib.hid hc
          have hBq : Below wo.heap.size wo (wo.alloc (.cells (callL c).toArray 56)) := (Below.refl _ _).alloc (Nat.le_refl _) _
          have hA2 := hA.on hBq
          have hblk := blk_new wo (callL c) 56
          clear hc hA hC
          go_wp2
          refine wp_loop (AgJ w b off po cap co cs order g i wo.heap.size c) (fun a _ => cs.length - (intOf (a.tmps.getD 61 undef)).toNat) ?_ ?_
          · exact AgJ.intro 0 rfl (by omega) (fun y hy => by omega) ⟨hblk, hA2⟩
          · clear hA2 hBq hblk hld
            rintro a wr ⟨j, u, rfl, hj9, hgood, hP⟩
            have Hj := Lib.hid hgood
            clear hgood
            by_cases hjl : j < cs.length
            · obtain ⟨d, hd⟩ : ∃ d, cs[j]? = some d := ⟨_, List.getElem?_eq_getElem hjl⟩
              have hld := (hP.inv.row b off rfl).load hd
              have hBq : Below wr.heap.size wr (wr.alloc (.cells (callL d).toArray 56)) := (Below.refl _ _).alloc (Nat.le_refl _) _
              have hblk := blk_new wr (callL d) 56
              have hP2 := hP.on hBq
              have hpair : pairB order cs i j = !(decide (plc order j ≠ 0) && befB c d && (decide (plc order i = 0) || decide (plc order j < plc order i))) := by unfold pairB; rw [Hc.out, hd]
              have kx : ∀ W, QInv w b off cs order g wo.heap.size c wr.heap.size d W → (loadCall (.pointer (some ⟨wo.heap.size, 0, none⟩))).run Tryz.prog W = .ok (.agg (callL c).toArray) W ∧ (loadCall (.pointer (some ⟨wr.heap.size, 0, none⟩))).run Tryz.prog W = .ok (.agg (callL d).toArray) W ∧ W.cell? ⟨g, j, none⟩ = some (.int .i64 (plc order j)) ∧ W.cell? ⟨g, i, none⟩ = some (.int .i64 (plc order i)) := fun W h =>
                ⟨ld_call c h.1.blk, ld_call d h.2, by have := h.1.inv.own.cellAt j (by omega); rwa [plV_at hjl] at this, by have := h.1.inv.own.cellAt i (by omega); rwa [plV_at hlt] at this⟩
              have Kx := Lib.hid kx
              have hQ : QInv w b off cs order g wo.heap.size c wr.heap.size d (wr.alloc (.cells (callL d).toArray 56)) := ⟨hP2, hblk⟩
              obtain ⟨q1, q2, q3, q4⟩ := kx _ hQ
              have bc := fun W => before_any c d W
              clear kx hd hP2 hBq hblk hP
              generalize hzj : plc order j = zj at *
              generalize hzi : plc order i = zi at *
              generalize hx : befB c d = x at *
              have Hpair := Lib.hid hpair
              clear hpair hzj hzi hx
              by_cases hz0 : zj = 0
              · have e1 : (zj != 0) = false := by simpa using hz0
                have hp : pairB order cs i j = true := by rw [Hpair.out]; simp [hz0]
                have Hp := Lib.hid hp
                clear hp hz0
                go_wp2
                refine wp_region_noPanic ?_
                refine wp_region_held_drew (S := fun W => ((loadCall (.pointer (some ⟨wo.heap.size, 0, none⟩))).run Tryz.prog W = .ok (.agg (callL c).toArray) W ∧ (loadCall (.pointer (some ⟨wr.heap.size, 0, none⟩))).run Tryz.prog W = .ok (.agg (callL d).toArray) W ∧ W.cell? ⟨g, j, none⟩ = some (.int .i64 zj) ∧ W.cell? ⟨g, i, none⟩ = some (.int .i64 zi)) ∧ QInv w b off cs order g wo.heap.size c wr.heap.size d W) (by kernel_rfl) ?_ (fun hHeld => ?_)
                · exact ⟨Kx.out _ hQ.drew, hQ.drew⟩
                iterate 8 (first | (refine np_sn ?_; (try simp only [nSO])) | ((first | refine np_n ?_ ?_ ?_ | refine np_t 0 ?_ ?_ ?_); rotate_left 1; (· (intro w hSw; (try dsimp only at hSw); go_simp; all_goals with_reducible rfl)); (try simp only [nSO])))
                first | (refine np_s 8 ?_; (try simp only [nSO])) | (refine np_step (i := 8) rfl (by kernel_rfl) (fun K hK => ?_); rw [if_pos (by rfl)]; go_simp; (fail); (try go_wp2_with fail); refine hK.out _ _ ?_ (fun hHeld => ?_); (· (exact ⟨Kx.out _ hQ.drew, hQ.drew⟩)); clear hK K; (try simp only [nSO]))
                iterate 19 (first | (refine np_sn ?_; (try simp only [nSO])) | (refine np_n ?_ ?_ ?_; rotate_left 1; (· (intro w hSw; (try dsimp only at hSw); go_simp; all_goals with_reducible rfl)); (try simp only [nSO])))
                refine wpAnyH_done (by kernel_rfl) ?_ _
                refine NoPanic.normal ?_
                have hQ5 := hQ.drew
                have hP5 := hQ5.1
                clear hQ q1 q2 q3 q4
                go_wp2
                exact ⟨AgJ.intro (j + 1) rfl (by omega) (agj_next Hj.out Hp.out) hP5, by simp [intOf]; omega⟩
              · have e1 : (zj != 0) = true := by simpa using hz0
                cases x with
                | false =>
                  have hp : pairB order cs i j = true := by rw [Hpair.out]; simp
                  have Hp := Lib.hid hp
                  clear hp hz0
                  go_wp2
                  refine wp_region_noPanic ?_
                  refine wp_region_held_drew (S := fun W => ((loadCall (.pointer (some ⟨wo.heap.size, 0, none⟩))).run Tryz.prog W = .ok (.agg (callL c).toArray) W ∧ (loadCall (.pointer (some ⟨wr.heap.size, 0, none⟩))).run Tryz.prog W = .ok (.agg (callL d).toArray) W ∧ W.cell? ⟨g, j, none⟩ = some (.int .i64 zj) ∧ W.cell? ⟨g, i, none⟩ = some (.int .i64 zi)) ∧ QInv w b off cs order g wo.heap.size c wr.heap.size d W) (by kernel_rfl) ?_ (fun hHeld => ?_)
                  · first | exact ⟨Kx.out _ hQ.drew, hQ.drew⟩ | exact ⟨Kx.out _ (hQ.drew.on hbc), hQ.drew.on hbc⟩
                  iterate 8 (first | (refine np_sn ?_; (try simp only [nSO])) | ((first | refine np_n ?_ ?_ ?_ | refine np_t 0 ?_ ?_ ?_); rotate_left 1; (· (intro w hSw; (try dsimp only at hSw); go_simp; all_goals with_reducible rfl)); (try simp only [nSO])))
                  first | (refine np_s 8 ?_; (try simp only [nSO])) | (refine np_step (i := 8) rfl (by kernel_rfl) (fun K hK => ?_); rw [if_pos (by rfl)]; go_simp; ((go_at_call 106; refine (bc _).mono ?_; rintro e w1 ⟨rfl, hbc⟩)); (try go_wp2_with fail); refine hK.out _ _ ?_ (fun hHeld => ?_); (· (first | exact ⟨Kx.out _ hQ.drew, hQ.drew⟩ | exact ⟨Kx.out _ (hQ.drew.on hbc), hQ.drew.on hbc⟩)); clear hK K; (try simp only [nSO]))
                  iterate 19 (first | (refine np_sn ?_; (try simp only [nSO])) | (refine np_n ?_ ?_ ?_; rotate_left 1; (· (intro w hSw; (try dsimp only at hSw); go_simp; all_goals with_reducible rfl)); (try simp only [nSO])))
                  refine wpAnyH_done (by kernel_rfl) ?_ _
                  refine NoPanic.normal ?_
                  have hQ5 := hQ.drew.on hbc
                  have hP5 := hQ5.1
                  clear hQ q1 q2 q3 q4
                  go_wp2
                  exact ⟨AgJ.intro (j + 1) rfl (by omega) (agj_next Hj.out Hp.out) hP5, by simp [intOf]; omega⟩
                | true =>
                  by_cases hi0 : zi = 0
                  · have e2 : (zi == 0) = true := by simpa using hi0
                    have hp : pairB order cs i j = false := by rw [Hpair.out]; simp [hz0, hi0]
                    have Hp := Lib.hid hp
                    clear hp hz0 hi0
                    go_wp2
                    refine wp_region_noPanic ?_
                    refine wp_region_held_drew (S := fun W => ((loadCall (.pointer (some ⟨wo.heap.size, 0, none⟩))).run Tryz.prog W = .ok (.agg (callL c).toArray) W ∧ (loadCall (.pointer (some ⟨wr.heap.size, 0, none⟩))).run Tryz.prog W = .ok (.agg (callL d).toArray) W ∧ W.cell? ⟨g, j, none⟩ = some (.int .i64 zj) ∧ W.cell? ⟨g, i, none⟩ = some (.int .i64 zi)) ∧ QInv w b off cs order g wo.heap.size c wr.heap.size d W) (by kernel_rfl) ?_ (fun hHeld => ?_)
                    · first | exact ⟨Kx.out _ hQ.drew, hQ.drew⟩ | exact ⟨Kx.out _ (hQ.drew.on hbc), hQ.drew.on hbc⟩
                    iterate 8 (first | (refine np_sn ?_; (try simp only [nSO])) | ((first | refine np_n ?_ ?_ ?_ | refine np_t 0 ?_ ?_ ?_); rotate_left 1; (· (intro w hSw; (try dsimp only at hSw); go_simp; all_goals with_reducible rfl)); (try simp only [nSO])))
                    first | (refine np_s 8 ?_; (try simp only [nSO])) | (refine np_step (i := 8) rfl (by kernel_rfl) (fun K hK => ?_); rw [if_pos (by rfl)]; go_simp; ((go_at_call 106; refine (bc _).mono ?_; rintro e w1 ⟨rfl, hbc⟩)); (try go_wp2_with fail); refine hK.out _ _ ?_ (fun hHeld => ?_); (· (first | exact ⟨Kx.out _ hQ.drew, hQ.drew⟩ | exact ⟨Kx.out _ (hQ.drew.on hbc), hQ.drew.on hbc⟩)); clear hK K; (try simp only [nSO]))
                    iterate 19 (first | (refine np_sn ?_; (try simp only [nSO])) | (refine np_n ?_ ?_ ?_; rotate_left 1; (· (intro w hSw; (try dsimp only at hSw); go_simp; all_goals with_reducible rfl)); (try simp only [nSO])))
                    refine wpAnyH_done (by kernel_rfl) ?_ _
                    refine NoPanic.normal ?_
                    have hQ5 := hQ.drew.on hbc
                    have hbl := hQ5.1.inv.bl
                    have hno := pairs_no hlt hjl Hp.out
                    have Hno := Lib.hid hno
                    clear hQ q1 q2 q3 q4 hno
                    go_wp2
                    go_returns
                    exact ⟨ret_be (by rw [Hres.out, Hno.out]) (by rw [Hres.out]), hbl⟩
                  · have e2 : (zi == 0) = false := by simpa using hi0
                    by_cases hzz : zj < zi
                    · have e3 : decide (zj < zi) = true := by simpa using hzz
                      have hp : pairB order cs i j = false := by rw [Hpair.out]; simp [hz0, hzz]
                      have Hp := Lib.hid hp
                      clear hp hz0 hi0
                      go_wp2
                      refine wp_region_noPanic ?_
                      refine wp_region_held_drew (S := fun W => ((loadCall (.pointer (some ⟨wo.heap.size, 0, none⟩))).run Tryz.prog W = .ok (.agg (callL c).toArray) W ∧ (loadCall (.pointer (some ⟨wr.heap.size, 0, none⟩))).run Tryz.prog W = .ok (.agg (callL d).toArray) W ∧ W.cell? ⟨g, j, none⟩ = some (.int .i64 zj) ∧ W.cell? ⟨g, i, none⟩ = some (.int .i64 zi)) ∧ QInv w b off cs order g wo.heap.size c wr.heap.size d W) (by kernel_rfl) ?_ (fun hHeld => ?_)
                      · first | exact ⟨Kx.out _ hQ.drew, hQ.drew⟩ | exact ⟨Kx.out _ (hQ.drew.on hbc), hQ.drew.on hbc⟩
                      iterate 8 (first | (refine np_sn ?_; (try simp only [nSO])) | ((first | refine np_n ?_ ?_ ?_ | refine np_t 0 ?_ ?_ ?_); rotate_left 1; (· (intro w hSw; (try dsimp only at hSw); go_simp; all_goals with_reducible rfl)); (try simp only [nSO])))
                      first | (refine np_s 8 ?_; (try simp only [nSO])) | (refine np_step (i := 8) rfl (by kernel_rfl) (fun K hK => ?_); rw [if_pos (by rfl)]; go_simp; ((go_at_call 106; refine (bc _).mono ?_; rintro e w1 ⟨rfl, hbc⟩)); (try go_wp2_with fail); refine hK.out _ _ ?_ (fun hHeld => ?_); (· (first | exact ⟨Kx.out _ hQ.drew, hQ.drew⟩ | exact ⟨Kx.out _ (hQ.drew.on hbc), hQ.drew.on hbc⟩)); clear hK K; (try simp only [nSO]))
                      iterate 19 (first | (refine np_sn ?_; (try simp only [nSO])) | (refine np_n ?_ ?_ ?_; rotate_left 1; (· (intro w hSw; (try dsimp only at hSw); go_simp; all_goals with_reducible rfl)); (try simp only [nSO])))
                      refine wpAnyH_done (by kernel_rfl) ?_ _
                      refine NoPanic.normal ?_
                      have hQ5 := hQ.drew.on hbc
                      have hbl := hQ5.1.inv.bl
                      have hno := pairs_no hlt hjl Hp.out
                      have Hno := Lib.hid hno
                      clear hQ q1 q2 q3 q4 hno
                      go_wp2
                      go_returns
                      exact ⟨ret_be (by rw [Hres.out, Hno.out]) (by rw [Hres.out]), hbl⟩
                    · have e3 : decide (zj < zi) = false := by simpa using hzz
                      have hp : pairB order cs i j = true := by rw [Hpair.out]; simp [hi0, hzz]
                      have Hp := Lib.hid hp
                      clear hp hz0 hi0
                      go_wp2
                      refine wp_region_noPanic ?_
                      refine wp_region_held_drew (S := fun W => ((loadCall (.pointer (some ⟨wo.heap.size, 0, none⟩))).run Tryz.prog W = .ok (.agg (callL c).toArray) W ∧ (loadCall (.pointer (some ⟨wr.heap.size, 0, none⟩))).run Tryz.prog W = .ok (.agg (callL d).toArray) W ∧ W.cell? ⟨g, j, none⟩ = some (.int .i64 zj) ∧ W.cell? ⟨g, i, none⟩ = some (.int .i64 zi)) ∧ QInv w b off cs order g wo.heap.size c wr.heap.size d W) (by kernel_rfl) ?_ (fun hHeld => ?_)
                      · first | exact ⟨Kx.out _ hQ.drew, hQ.drew⟩ | exact ⟨Kx.out _ (hQ.drew.on hbc), hQ.drew.on hbc⟩
                      iterate 8 (first | (refine np_sn ?_; (try simp only [nSO])) | ((first | refine np_n ?_ ?_ ?_ | refine np_t 0 ?_ ?_ ?_); rotate_left 1; (· (intro w hSw; (try dsimp only at hSw); go_simp; all_goals with_reducible rfl)); (try simp only [nSO])))
                      first | (refine np_s 8 ?_; (try simp only [nSO])) | (refine np_step (i := 8) rfl (by kernel_rfl) (fun K hK => ?_); rw [if_pos (by rfl)]; go_simp; ((go_at_call 106; refine (bc _).mono ?_; rintro e w1 ⟨rfl, hbc⟩)); (try go_wp2_with fail); refine hK.out _ _ ?_ (fun hHeld => ?_); (· (first | exact ⟨Kx.out _ hQ.drew, hQ.drew⟩ | exact ⟨Kx.out _ (hQ.drew.on hbc), hQ.drew.on hbc⟩)); clear hK K; (try simp only [nSO]))
                      iterate 19 (first | (refine np_sn ?_; (try simp only [nSO])) | (refine np_n ?_ ?_ ?_; rotate_left 1; (· (intro w hSw; (try dsimp only at hSw); go_simp; all_goals with_reducible rfl)); (try simp only [nSO])))
                      refine wpAnyH_done (by kernel_rfl) ?_ _
                      refine NoPanic.normal ?_
                      have hQ5 := hQ.drew.on hbc
                      have hP5 := hQ5.1
                      clear hQ q1 q2 q3 q4
                      go_wp2
                      exact ⟨AgJ.intro (j + 1) rfl (by omega) (agj_next Hj.out Hp.out) hP5, by simp [intOf]; omega⟩
            · have hjj : j = cs.length := by omega
              subst hjj
              go_wp2
              refine ⟨AgI.intro (i + 1) rfl (by omega) (fun x y hx hy => ?_) hP.inv, by simp [intOf]; omega⟩
              by_cases e : x = i
              · rw [e]; exact Hj.out y hy
              · exact Hg.out x y (by omega) hy
        · have hkk : i = cs.length := by omega
          have hyes : okPairs order cs = true := pairs_yes (fun x y hx hy => Hg.out x y (by omega) hy)
          have Hyes := Lib.hid hyes
          clear hyes
          go_wp2
          go_returns
          exact ⟨ret_be (by rw [Hres.out, Hyes.out]) (by rw [Hres.out]), hA.bl⟩
theorem agrees_bad (p po : Option Addr) (cap co : Nat) (cs : List CallV) (order : List Int) (w : World) (hC : CRow w p cap cs) (hs : cs.length ≤ 1000000) (hok : ∀ c ∈ cs, c.Ok) (h0 : (checkP cs).2 = 22) :
    Calls Tryz.prog 55 #[.slice po order.length co, .slice p cs.length cap] w fun e w' => e = .returned (.tuple #[.bool (agreesP order cs).1, .int .i64 (agreesP order cs).2]) ∧ Below w.heap.size w w' := by
  have ck := check_any p cap cs w hC hs hok
  obtain ⟨k1, hk1⟩ : ∃ k1, (checkP cs).1 = k1 := ⟨_, rfl⟩
  rw [hk1, h0] at ck
  have hres : agreesP order cs = (false, 22) := by unfold agreesP; rw [if_neg (by rw [h0]; decide)]
  rw [hres]
  clear h0 hk1 hres
  go_enter Tryz.func55, Tryz.ntmps55
  go_wp2_with fail
  refine ck.mono ?_
  clear ck
  rintro e w1 ⟨rfl, hB1⟩
  go_wp2
  go_returns
  exact ⟨rfl, hB1⟩
theorem agrees_any (p po : Option Addr) (cap co : Nat) (cs : List CallV) (order : List Int) (w : World) (hC : CRow w p cap cs) (hO : IRd w po order) (hs : cs.length ≤ 1000000) (hs2 : order.length ≤ 1000000) (hok : ∀ c ∈ cs, c.Ok) :
    Calls Tryz.prog 55 #[.slice po order.length co, .slice p cs.length cap] w fun e w' => e = .returned (.tuple #[.bool (agreesP order cs).1, .int .i64 (agreesP order cs).2]) ∧ Below w.heap.size w w' := by
  rcases check_two cs with h0 | h22
  · exact agrees_ok p po cap co cs order w hC hO hs hs2 hok h0
  · exact agrees_bad p po cap co cs order w hC hs hok h22
end Go.Proofs.YtdeiocppghhfdaaGreat.Hs
