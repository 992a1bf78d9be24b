/- Texts, one behind another. -/
import Derived.Test.YtdeiocppghhfdaaGreatZbaq
import Derived.Test.YtdeiocppghhfdaaGreatZbar
import Derived.Deep.MidRow
set_option linter.unusedVariables false
set_option linter.unusedSimpArgs false
set_option maxRecDepth 100000
set_option maxHeartbeats 8000000
namespace Go.Proofs.YtdeiocppghhfdaaGreat
open Go.RowKit Go.Lib Go.Shelf
attribute [local go_sem, local simp] resF resL_len resL_ne rset0 rset1 rset2 rset3 rset4 rset5
theorem rset6 (r : ResV) (x : Int) : (resL r).set 6 (.int .i64 x) = resL { r with m1 := x } := rfl
theorem rset7 (r : ResV) (x : Int) : (resL r).set 7 (.int .i64 x) = resL { r with m2 := x } := rfl
theorem rset8 (r : ResV) (x : Int) : (resL r).set 8 (.int .i64 x) = resL { r with m3 := x } := rfl
def segA (cur : Array Value) (o : Nat) (L : List Value) : Array Value := (cur.toList.take o ++ L ++ cur.toList.drop (o + L.length)).toArray
theorem seg_same {cur : Array Value} {o : Nat} {L : List Value} (h : (cur.toList.drop o).take L.length = L) : segA cur o L = cur := by
 unfold segA
 have e : L ++ cur.toList.drop (o + L.length) = cur.toList.drop o := by
  have := List.take_append_drop L.length (cur.toList.drop o)
  rw [h, List.drop_drop] at this
  exact this
 rw [List.append_assoc, e, List.take_append_drop]
theorem seg_size {cur : Array Value} {o : Nat} {L : List Value} (h : o + L.length ≤ cur.size) : (segA cur o L).size = cur.size := by
 unfold segA; simp; omega
theorem seg_at {cur : Array Value} {o : Nat} {L : List Value} (h : o + L.length ≤ cur.size) : ((segA cur o L).toList.drop o).take L.length = L := by
 unfold segA
 have e : (cur.toList.take o).length = o := by rw [List.length_take, Array.length_toList]; omega
 rw [List.append_assoc, List.drop_append_of_le_length (by rw [e]; exact Nat.le_refl _), List.drop_of_length_le (by rw [e]; exact Nat.le_refl _), List.nil_append, List.take_left]
theorem seg_set {cur : Array Value} {o i : Nat} {L : List Value} {u : Value} (h : o + L.length ≤ cur.size) (hl : (cur.toList.drop o).take L.length = L) (hi : i < L.length) : cur.setIfInBounds (o + i) u = segA cur o (L.set i u) := by
 apply Array.toList_inj.1
 have e0 : cur.toList = cur.toList.take o ++ (L ++ cur.toList.drop (o + L.length)) := by
  have := List.take_append_drop L.length (cur.toList.drop o)
  rw [hl, List.drop_drop] at this
  rw [this, List.take_append_drop]
 have e : (cur.toList.take o).length = o := by rw [List.length_take, Array.length_toList]; omega
 rw [Array.toList_setIfInBounds]
 show cur.toList.set (o + i) u = (cur.toList.take o ++ L.set i u ++ cur.toList.drop (o + (L.set i u).length)).toArray.toList
 rw [List.length_set]
 conv => lhs; rw [e0]
 rw [List.set_append_right (o + i) u (by rw [e]; omega), e, Nat.add_sub_cancel_left, List.set_append_left i u hi]
 simp
structure SnAt (W : World) (g o : Nat) (cur : Array Value) (x : SnM) : Prop where
 blk : W.heap[g]? = some (.cells cur 168 (0, 0))
 sz : o + 4 ≤ cur.size
 seg : (cur.toList.drop o).take 4 = snL x
 marks : MOwn W 0 x.mv x.s.marks
theorem SnAt.cells {W : World} {g o : Nat} {cur : Array Value} {x : SnM} (h : SnAt W g o cur x) : (W.cell? ⟨g, o, none⟩ = some (.bool x.s.held) ∧ W.cell? ⟨g, o + 1, none⟩ = some (.string x.s.text) ∧ W.cell? ⟨g, o + 2, none⟩ = some x.mv ∧ W.cell? ⟨g, o + 3, none⟩ = some (.int .i64 x.s.cursor)) ∧
  (W.frozen? ⟨g, o, none⟩ = false ∧ W.frozen? ⟨g, o + 1, none⟩ = false ∧ W.frozen? ⟨g, o + 2, none⟩ = false ∧ W.frozen? ⟨g, o + 3, none⟩ = false) := by
 have hc : ∀ i u, (snL x)[i]? = some u → W.cell? ⟨g, o + i, none⟩ = some u := by
  intro i u hu
  rw [← h.seg] at hu
  have hi : i < 4 := by
   by_cases hi : i < 4
   ·exact hi
   ·rw [List.getElem?_take, if_neg (by omega)] at hu; cases hu
  rw [List.getElem?_take_of_lt hi, List.getElem?_drop, Array.getElem?_toList] at hu
  simp [World.cell?, h.blk, hu]
 exact ⟨⟨hc 0 _ rfl, hc 1 _ rfl, hc 2 _ rfl, hc 3 _ rfl⟩, by simp [World.frozen?, h.blk], by simp [World.frozen?, h.blk], by simp [World.frozen?, h.blk], by simp [World.frozen?, h.blk]⟩
theorem SnAt.below {W W' : World} {g o : Nat} {cur : Array Value} {x : SnM} (h : SnAt W g o cur x) (hb : Below W.heap.size W W') : SnAt W' g o cur x :=
 ⟨(hb.block g (Array.getElem?_eq_some_iff.1 h.blk).1).trans h.blk, h.sz, h.seg, own_below6 h.marks hb⟩
def SnPost (g o : Nat) (cur : Array Value) (w : World) (x : SnM) (R : ResV × SnV) (e : Ending) (w' : World) : Prop := e = .returned (.agg (resL R.1).toArray) ∧ ∃ x' : SnM, x'.s = R.2 ∧ SnAt w' g o (segA cur o (snL x')) x' ∧ KeepF (fun k => k = g) w w'
theorem SnAt.same {W : World} {g o : Nat} {cur : Array Value} {x : SnM} (h : SnAt W g o cur x) : SnAt W g o (segA cur o (snL x)) x := by
 have e : segA cur o (snL x) = cur := seg_same (by have := h.seg; exact this)
 rw [e]; exact h
theorem SnAt.set3 {W : World} {g o : Nat} {cur : Array Value} {x : SnM} (h : SnAt W g o cur x) (p : Int) : SnAt (W.setCell ⟨g, o + 3, none⟩ (.int .i64 p)) g o (segA cur o (snL ⟨{ x.s with cursor := p }, x.mv⟩)) ⟨{ x.s with cursor := p }, x.mv⟩ := by
 have hl : (cur.toList.drop o).take (snL x).length = snL x := h.seg
 have hs : o + (snL x).length ≤ cur.size := h.sz
 have e := seg_set (u := .int .i64 p) hs hl (show 3 < (snL x).length from (by show 3 < 4; omega))
 have hs2 : o + (snL ⟨{ x.s with cursor := p }, x.mv⟩).length ≤ cur.size := h.sz
 refine ⟨?_, by rw [seg_size hs2]; exact h.sz, seg_at hs2, own_keep h.marks h.blk (by decide) (fun k _ hk => setCell_ne _ _ _ _ hk)⟩
 have : (W.setCell ⟨g, o + 3, none⟩ (.int .i64 p)).heap[g]? = some (.cells (cur.setIfInBounds (o + 3) (.int .i64 p)) 168 (0, 0)) := by
  simp [World.setCell, Array.getElem?_modify, h.blk]
 rw [this, e]; rfl
theorem blk_ne {W : World} {g r : Nat} {cur cs : Array Value} (h : W.heap[g]? = some (.cells cur 168 (0, 0))) (hr : W.heap[r]? = some (.cells cs 51 (0, 0))) : g ≠ r := by
 rintro rfl; rw [h] at hr; injection hr with hr; injection hr with _ h2 _; exact absurd h2 (by decide)
theorem SnAt.row {W : World} {g o r : Nat} {cur cs : Array Value} {x : SnM} (h : SnAt W g o cur x) (hr : W.heap[r]? = some (.cells cs 51 (0, 0))) (R : Array Value) : SnAt (W.setRow r R) g o cur x :=
 ⟨(setRow_other _ _ _ _ (blk_ne h.blk hr)).trans h.blk, h.sz, h.seg, own_keep h.marks hr (by decide) (fun k _ hk => setRow_other _ _ _ _ hk)⟩
theorem snp6 {s : SnV} {q : OpV} (h : q.kind = 6) : snpS s q = ({ m1 := s.text.size, m2 := cntB begB s.text.data.toList, m3 := cntB feedB s.text.data.toList }, s) := by unfold snpS; rw [if_pos h]
theorem snp7 {s : SnV} {q : OpV} (h : q.kind = 7) : snpS s q = if (s.text.size : Int) < q.at_ ∨ (s.text.size : Int) - q.at_ < q.n then (failR 3, s) else ({ text := cutT s.text q.at_ q.n }, s) := by unfold snpS; rw [if_neg (by omega), if_pos h]
theorem snp8 {s : SnV} {q : OpV} (h : q.kind = 8) : snpS s q = ({ err := (runeS s.text.data.toList q.n).2, at_ := (runeS s.text.data.toList q.n).1 }, s) := by unfold snpS; rw [if_neg (by omega), if_neg (by omega), if_pos h]
theorem snp9 {s : SnV} {q : OpV} (h : q.kind = 9) : snpS s q = ({ err := (lineS s.text.data.toList q.n).2, at_ := (lineS s.text.data.toList q.n).1 }, s) := by unfold snpS; rw [if_neg (by omega), if_neg (by omega), if_neg (by omega), if_pos h]
theorem snp10 {s : SnV} {q : OpV} (h : q.kind = 10) : snpS s q = (match findM q.id s.marks with | none => (failR 7, s) | some m => ({ at_ := m.at_, grav := m.grav }, s)) := by unfold snpS; rw [if_neg (by omega), if_neg (by omega), if_neg (by omega), if_neg (by omega), if_pos h]; cases findM q.id s.marks <;> rfl
theorem snp11 {s : SnV} {q : OpV} (h : q.kind = 11) : snpS s q = if (s.text.size : Int) < q.at_ then (failR 3, s) else ({ at_ := q.at_ }, { s with cursor := q.at_ }) := by unfold snpS; rw [if_neg (by omega), if_neg (by omega), if_neg (by omega), if_neg (by omega), if_neg (by omega), if_pos h]
theorem snp12 {s : SnV} {q : OpV} (h : q.kind = 12) : snpS s q = ({ text := cutT s.text s.cursor (min q.n (s.text.size - s.cursor)), at_ := s.cursor + min q.n (s.text.size - s.cursor) }, { s with cursor := s.cursor + min q.n (s.text.size - s.cursor) }) := by unfold snpS; rw [if_neg (by omega), if_neg (by omega), if_neg (by omega), if_neg (by omega), if_neg (by omega), if_neg (by omega), if_pos h]
theorem snp13 {s : SnV} {q : OpV} (h : q.kind = 13) : snpS s q = ({}, zeroSn) := by unfold snpS; rw [if_neg (by omega), if_neg (by omega), if_neg (by omega), if_neg (by omega), if_neg (by omega), if_neg (by omega), if_neg (by omega)]
theorem seg_cons {cur : Array Value} {o : Nat} {v : Value} {r : List Value} (h : o < cur.size) : segA (cur.setIfInBounds o v) (o + 1) r = segA cur o (v :: r) := by
 unfold segA
 have hl : o < cur.toList.length := by rw [Array.length_toList]; exact h
 have e : (cur.toList.take o).length = o := by rw [List.length_take]; omega
 have e1 : (cur.toList.set o v).take (o + 1) = cur.toList.take o ++ [v] := by
  rw [List.set_eq_take_append_cons_drop, if_pos hl, List.take_append, e, Nat.add_sub_cancel_left, List.take_of_length_le (by omega)]
  rfl
 rw [Array.toList_setIfInBounds, e1, List.drop_set_of_lt (by omega), List.length_cons, show o + 1 + r.length = o + (r.length + 1) by omega]
 simp only [List.append_assoc, List.cons_append, List.nil_append]
theorem setCells_blk {g : Nat} {T : TypeId} : ∀ (L : List Value) (o : Nat) (cur : Array Value) (W : World), W.heap[g]? = some (.cells cur T (0, 0)) → o + L.length ≤ cur.size → (W.setCells g o L).heap[g]? = some (.cells (segA cur o L) T (0, 0))
 | [], o, cur, W, h, hs => by
  have e : segA cur o [] = cur := seg_same rfl
  rw [e]; exact h
 | v :: r, o, cur, W, h, hs => by
  have hs' : o + (r.length + 1) ≤ cur.size := hs
  rw [World.setCells, ← seg_cons (by omega)]
  refine setCells_blk r (o + 1) (cur.setIfInBounds o v) _ ?_ (by rw [Array.size_setIfInBounds]; omega)
  simp [World.setCell, Array.getElem?_modify, h]
theorem setCells_ne {g : Nat} : ∀ (L : List Value) (o : Nat) (W : World) (k : Nat), k ≠ g → (W.setCells g o L).heap[k]? = W.heap[k]?
 | [], _, _, _, _ => rfl
 | v :: r, o, W, k, h => by rw [World.setCells, setCells_ne r (o + 1) _ k h, setCell_ne _ _ _ _ h]
theorem setCells_os (g : Nat) : ∀ (L : List Value) (o : Nat) (W : World), (W.setCells g o L).os = W.os ∧ (W.setCells g o L).tape = W.tape ∧ (W.setCells g o L).output = W.output ∧ (W.setCells g o L).heap.size = W.heap.size
 | [], _, _ => ⟨rfl, rfl, rfl, rfl⟩
 | v :: r, o, W => by
  obtain ⟨h1, h2, h3, h4⟩ := setCells_os g r (o + 1) (W.setCell ⟨g, o, none⟩ v)
  rw [World.setCells]
  exact ⟨h1, h2, h3, h4.trans (setCell_size _ _ _)⟩
theorem KeepF.cells (w : World) (g o : Nat) (L : List Value) : KeepF (fun k => k = g) w (w.setCells g o L) := by
 obtain ⟨h1, h2, h3, h4⟩ := setCells_os g L o w
 exact ⟨h1, h2, h3, Nat.le_of_eq h4.symm, fun k _ hk => setCells_ne L o w k hk⟩
theorem SnAt.drew {W : World} {g o : Nat} {cur : Array Value} {x : SnM} (h : SnAt W g o cur x) : SnAt W.drew g o cur x := ⟨h.blk, h.sz, h.seg, h.marks⟩
theorem SnAt.there {W : World} {g o : Nat} {cur : Array Value} {x : SnM} (h : SnAt W g o cur x) : W.there g o 4 := by
 have hs := h.sz
 intro j hj
 refine ⟨?_, by simp [World.frozen?, h.blk]⟩
 simp only [World.cell?, h.blk]
 simp
 omega
theorem snF (a : Bool) (t : ByteArray) (v : Value) (p : Int) : Value.agg #[.bool a, .string t, v, .int .i64 p] = .agg (snL ⟨⟨a, t, [], p⟩, v⟩).toArray := rfl
theorem snL_len (x : SnM) : (snL x).length = 4 := rfl
theorem snL_ne (x : SnM) : snL x ≠ [] := by simp [snL]
theorem SnAt.st {W : World} {g o : Nat} {cur : Array Value} {x : SnM} (h : SnAt W g o cur x) (y : SnM) (hy : y.mv.oneCell' = true) : (storeCells ⟨g, o, none⟩ (snL y)).run Tryz.prog W = .ok () (W.setCells g o (snL y)) := by
 have ht := h.there
 have := run_storeCells_cells (P := Tryz.prog) g o (snL y) 0 W (fun j hj => (ht j hj).1) (fun j hj => (ht j hj).2) (fun v hv => by
  simp only [snL, List.mem_cons, List.not_mem_nil, or_false] at hv
  rcases hv with rfl | rfl | rfl | rfl
  ·rfl
  ·rfl
  ·exact hy
  ·rfl)
 exact this
@[irreducible] def putSn (W : World) (g o : Nat) (y : SnM) : World := W.setCells g o (snL y)
theorem putSn_eq (W : World) (g o : Nat) (y : SnM) : putSn W g o y = W.setCells g o (snL y) := by unfold putSn; rfl
theorem SnAt.stP {W : World} {g o : Nat} {cur : Array Value} {x : SnM} (h : SnAt W g o cur x) (y : SnM) (hy : y.mv.oneCell' = true) : (storeCells ⟨g, o, none⟩ (snL y)).run Tryz.prog W = .ok () (putSn W g o y) := by rw [putSn_eq]; exact h.st y hy
theorem putSn_ne (W : World) (g o : Nat) (y : SnM) (k : Nat) (h : k ≠ g) : (putSn W g o y).heap[k]? = W.heap[k]? := by rw [putSn_eq]; exact setCells_ne _ _ _ _ h
theorem KeepF.putSn (w : World) (g o : Nat) (y : SnM) : KeepF (fun k => k = g) w (putSn w g o y) := by rw [putSn_eq]; exact KeepF.cells _ _ _ _
theorem SnAt.setAll {W : World} {g o : Nat} {cur : Array Value} {x y : SnM} (h : SnAt W g o cur x) (hy : MOwn W 0 y.mv y.s.marks) : SnAt (W.setCells g o (snL y)) g o (segA cur o (snL y)) y := by
 have hs : o + (snL y).length ≤ cur.size := h.sz
 exact ⟨setCells_blk _ _ _ _ h.blk hs, by rw [seg_size hs]; exact h.sz, seg_at hs, own_keep hy h.blk (by decide) (fun k _ hk => setCells_ne _ _ _ _ hk)⟩
theorem SnAt.put {W : World} {g o : Nat} {cur : Array Value} {x y : SnM} (h : SnAt W g o cur x) (hy : MOwn W 0 y.mv y.s.marks) : SnAt (putSn W g o y) g o (segA cur o (snL y)) y := by rw [putSn_eq]; exact h.setAll hy
theorem SnAt.post2 {w v u : World} {g o r : Nat} {cur cs : Array Value} {x : SnM} {s' : SnV} (hN : ∃ x' : SnM, x'.s = s' ∧ SnAt u g o (segA cur o (snL x')) x') (hB : Below w.heap.size w v) (hK : KeepF (fun k => k = g) v u) (hz : u.heap[r]? = some (.cells cs 51 (0, 0))) (hr : w.heap.size ≤ r) (R : Array Value) :
  ∃ x' : SnM, x'.s = s' ∧ SnAt (u.setRow r R) g o (segA cur o (snL x')) x' ∧ KeepF (fun k => k = g) w (u.setRow r R) := by
 obtain ⟨x', h1, h2⟩ := hN
 exact ⟨x', h1, h2.row hz R, ((KeepF.of_below hB).trans hK).row hr R⟩
theorem SnAt.post {w v : World} {g o r : Nat} {cur cs : Array Value} {x : SnM} (h : SnAt w g o cur x) (hB : Below w.heap.size w v) (hz : v.heap[r]? = some (.cells cs 51 (0, 0))) (hr : w.heap.size ≤ r) (R : Array Value) :
  ∃ x' : SnM, x'.s = x.s ∧ SnAt (v.setRow r R) g o (segA cur o (snL x')) x' ∧ KeepF (fun k => k = g) w (v.setRow r R) :=
 ⟨x, rfl, ((h.below hB).row hz R).same, (KeepF.of_below hB).row hr R⟩
end Go.Proofs.YtdeiocppghhfdaaGreat
