/- The texts RbE RbG RbF. -/
import Derived.Test.YtlealeecmmpckaaGreatKxf
import Derived.Test.YtlealeecmmpckaaGreatKuh
import Derived.Test.YtlealeecmmpckaaGreatKug
import Derived.Test.YtlealeecmmpckaaGreatKul
import Derived.Test.YtlealeecmmpckaaGreatKxg
namespace Go.Proofs.YtlealeecmmpckaaGreat
set_option linter.unusedVariables false
set_option linter.unusedSimpArgs false
set_option maxRecDepth 100000
set_option maxHeartbeats 8000000
open Go.RowKit Go.Lib Go.Shelf
attribute [local go_sem, local simp] resF resL_len resL_ne rset0 rset1 rset2 rset3 rset4 rset5
structure RnAt (W : World) (g o : Nat) (cur : Array Value) (x : SnM) : Prop where
  blk : W.heap[g]? = some (.cells cur 114 (0, 0))
  sz : o + 4 ≤ cur.size
  seg : (cur.toList.drop o).take 4 = snL x
  marks : MOwn W 0 x.mv x.s.marks
theorem RnAt.cells {W : World} {g o : Nat} {cur : Array Value} {x : SnM} (h : RnAt W g o cur x) : (W.cell? ⟨g, o, none⟩ = some (.bool x.s.held) ∧ W.cell? ⟨g, o + 1, none⟩ = some (.string x.s.text) ∧ W.cell? ⟨g, o + 2, none⟩ = some x.mv ∧ W.cell? ⟨g, o + 3, none⟩ = some (.int .i64 x.s.cursor)) ∧
    (W.frozen? ⟨g, o, none⟩ = false ∧ W.frozen? ⟨g, o + 1, none⟩ = false ∧ W.frozen? ⟨g, o + 2, none⟩ = false ∧ W.frozen? ⟨g, o + 3, none⟩ = false) := by
  have hc : ∀ i u, (snL x)[i]? = some u → W.cell? ⟨g, o + i, none⟩ = some u := by
    intro i u hu
    rw [← h.seg] at hu
    have hi : i < 4 := by
      by_cases hi : i < 4
      · exact hi
      · rw [List.getElem?_take, if_neg (by omega)] at hu; cases hu
    rw [List.getElem?_take_of_lt hi, List.getElem?_drop, Array.getElem?_toList] at hu
    simp [World.cell?, h.blk, hu]
  exact ⟨⟨hc 0 _ rfl, hc 1 _ rfl, hc 2 _ rfl, hc 3 _ rfl⟩, by simp [World.frozen?, h.blk], by simp [World.frozen?, h.blk], by simp [World.frozen?, h.blk], by simp [World.frozen?, h.blk]⟩
theorem RnAt.below {W W' : World} {g o : Nat} {cur : Array Value} {x : SnM} (h : RnAt W g o cur x) (hb : Below W.heap.size W W') : RnAt W' g o cur x :=
  ⟨(hb.block g (Array.getElem?_eq_some_iff.1 h.blk).1).trans h.blk, h.sz, h.seg, own_below6 h.marks hb⟩
theorem RnAt.same {W : World} {g o : Nat} {cur : Array Value} {x : SnM} (h : RnAt W g o cur x) : RnAt W g o (segA cur o (snL x)) x := by
  have e : segA cur o (snL x) = cur := seg_same (by have := h.seg; exact this)
  rw [e]; exact h
theorem RnAt.set3 {W : World} {g o : Nat} {cur : Array Value} {x : SnM} (h : RnAt W g o cur x) (p : Int) : RnAt (W.setCell ⟨g, o + 3, none⟩ (.int .i64 p)) g o (segA cur o (snL ⟨{ x.s with cursor := p }, x.mv⟩)) ⟨{ x.s with cursor := p }, x.mv⟩ := by
  have hl : (cur.toList.drop o).take (snL x).length = snL x := h.seg
  have hs : o + (snL x).length ≤ cur.size := h.sz
  have e := seg_set (u := .int .i64 p) hs hl (show 3 < (snL x).length from (by show 3 < 4; omega))
  have hs2 : o + (snL ⟨{ x.s with cursor := p }, x.mv⟩).length ≤ cur.size := h.sz
  refine ⟨?_, by rw [seg_size hs2]; exact h.sz, seg_at hs2, own_keep h.marks h.blk (by decide) (fun k _ hk => setCell_ne _ _ _ _ hk)⟩
  have : (W.setCell ⟨g, o + 3, none⟩ (.int .i64 p)).heap[g]? = some (.cells (cur.setIfInBounds (o + 3) (.int .i64 p)) 114 (0, 0)) := by
    simp [World.setCell, Array.getElem?_modify, h.blk]
  rw [this, e]; rfl
theorem rblk_ne {W : World} {g r : Nat} {cur cs : Array Value} (h : W.heap[g]? = some (.cells cur 114 (0, 0))) (hr : W.heap[r]? = some (.cells cs 36 (0, 0))) : g ≠ r := by
  rintro rfl; rw [h] at hr; injection hr with hr; injection hr with _ h2 _; exact absurd h2 (by decide)
theorem RnAt.row {W : World} {g o r : Nat} {cur cs : Array Value} {x : SnM} (h : RnAt W g o cur x) (hr : W.heap[r]? = some (.cells cs 36 (0, 0))) (R : Array Value) : RnAt (W.setRow r R) g o cur x :=
  ⟨(setRow_other _ _ _ _ (rblk_ne h.blk hr)).trans h.blk, h.sz, h.seg, own_keep h.marks hr (by decide) (fun k _ hk => setRow_other _ _ _ _ hk)⟩
theorem RnAt.drew {W : World} {g o : Nat} {cur : Array Value} {x : SnM} (h : RnAt W g o cur x) : RnAt W.drew g o cur x := ⟨h.blk, h.sz, h.seg, h.marks⟩
theorem RnAt.there {W : World} {g o : Nat} {cur : Array Value} {x : SnM} (h : RnAt W g o cur x) : W.there g o 4 := by
  have hs := h.sz
  intro j hj
  refine ⟨?_, by simp [World.frozen?, h.blk]⟩
  simp only [World.cell?, h.blk]
  simp
  omega
theorem RnAt.st {W : World} {g o : Nat} {cur : Array Value} {x : SnM} (h : RnAt W g o cur x) (y : SnM) (hy : y.mv.oneCell' = true) : (storeCells ⟨g, o, none⟩ (snL y)).run Tryz.prog W = .ok () (W.setCells g o (snL y)) := by
  have ht := h.there
  have := run_storeCells_cells (P := Tryz.prog) g o (snL y) 0 W (fun j hj => (ht j hj).1) (fun j hj => (ht j hj).2) (fun v hv => by
    simp only [snL, List.mem_cons, List.not_mem_nil, or_false] at hv
    rcases hv with rfl | rfl | rfl | rfl
    · rfl
    · rfl
    · exact hy
    · rfl)
  exact this
theorem RnAt.stP {W : World} {g o : Nat} {cur : Array Value} {x : SnM} (h : RnAt W g o cur x) (y : SnM) (hy : y.mv.oneCell' = true) : (storeCells ⟨g, o, none⟩ (snL y)).run Tryz.prog W = .ok () (putSn W g o y) := by rw [putSn_eq]; exact h.st y hy
theorem RnAt.setAll {W : World} {g o : Nat} {cur : Array Value} {x y : SnM} (h : RnAt W g o cur x) (hy : MOwn W 0 y.mv y.s.marks) : RnAt (W.setCells g o (snL y)) g o (segA cur o (snL y)) y := by
  have hs : o + (snL y).length ≤ cur.size := h.sz
  exact ⟨setCells_blk _ _ _ _ h.blk hs, by rw [seg_size hs]; exact h.sz, seg_at hs, own_keep hy h.blk (by decide) (fun k _ hk => setCells_ne _ _ _ _ hk)⟩
theorem RnAt.put {W : World} {g o : Nat} {cur : Array Value} {x y : SnM} (h : RnAt W g o cur x) (hy : MOwn W 0 y.mv y.s.marks) : RnAt (putSn W g o y) g o (segA cur o (snL y)) y := by rw [putSn_eq]; exact h.setAll hy
def RM.putSlot (M : RM) (c k : Nat) (S : SeM) (x : SnM) : RM := { M with seats := M.seats.set c { S with sl := S.sl.set k x } }
def RM.putSub (M : RM) (c : Nat) (S : SeM) : RM := { M with seats := M.seats.set c { S with sub := true } }
theorem RM.seat_st {M : RM} {c : Nat} {S : SeM} (h : M.seats[c]? = some S) : M.st.seat c = S.st := by
  unfold MS.seat RM.st; rw [List.getD_eq_getElem?_getD, List.getElem?_map, h]; rfl
theorem RM.putSlot_st {M : RM} {c k : Nat} {S : SeM} {x : SnM} (h : M.seats[c]? = some S) : (M.putSlot c k S x).st = M.st.putSlot c k x.s := by
  unfold MS.putSlot MS.put
  rw [RM.seat_st h]
  show (⟨M.text, M.marks, M.number, M.closed, M.readers, (M.seats.set c { S with sl := S.sl.set k x }).map (·.st)⟩ : MS) = ⟨M.text, M.marks, M.number, M.closed, M.readers, (M.seats.map (·.st)).set c _⟩
  rw [List.map_set]
  show (⟨M.text, M.marks, M.number, M.closed, M.readers, (M.seats.map (·.st)).set c ⟨S.sub, (S.sl.set k x).map (·.s)⟩⟩ : MS) = ⟨M.text, M.marks, M.number, M.closed, M.readers, (M.seats.map (·.st)).set c ⟨S.sub, (S.sl.map (·.s)).set k x.s⟩⟩
  rw [List.map_set]
theorem RM.putSub_st {M : RM} {c : Nat} {S : SeM} (h : M.seats[c]? = some S) : (M.putSub c S).st = M.st.put c { M.st.seat c with sub := true } := by
  rw [RM.seat_st h]
  show (⟨M.text, M.marks, M.number, M.closed, M.readers, (M.seats.set c { S with sub := true }).map (·.st)⟩ : MS) = ⟨M.text, M.marks, M.number, M.closed, M.readers, (M.seats.map (·.st)).set c _⟩
  rw [List.map_set]
  rfl
theorem set_same_map {α β : Type} {l : List α} {c : Nat} {S S' : α} (f : α → β) (hS : l[c]? = some S) (hf : f S' = f S) : (l.set c S').map f = l.map f := by
  obtain ⟨hc, hSe⟩ := List.getElem?_eq_some_iff.1 hS
  rw [List.map_set, hf]
  refine List.ext_getElem? fun i => ?_
  rw [List.getElem?_set]
  split
  · rename_i e; subst e; rw [List.getElem?_map, hS, List.length_map, if_pos hc]; rfl
  · rfl
structure RSeat (W : World) (M : RM) (c : Nat) (S : SeM) (gs cs g cp gb cb : Nat) (cur : Array Value) : Prop where
  sv : M.sv = .slice (some ⟨gs, 0, none⟩) M.seats.length cs
  v : S.v = .slice (some ⟨g, 0, none⟩) S.sl.length cp
  bv : M.bv = .slice (some ⟨gb, 0, none⟩) M.seats.length cb
  b0 : W.cell? ⟨gb, c, none⟩ = some (.bool S.sub)
  bf : W.frozen? ⟨gb, c, none⟩ = false
  c1 : W.cell? ⟨gs, c, none⟩ = some (.slice (some ⟨g, 0, none⟩) S.sl.length cp)
  cap : S.sl.length ≤ cp
  blk : W.heap[g]? = some (.cells cur 114 (0, 0))
  bblk : ∃ cb, W.heap[gb]? = some (.cells cb 4 (0, 0))
  sblk : ∃ cb, W.heap[gs]? = some (.cells cb 109 (0, 0))
  sn : ∀ k x, S.sl[k]? = some x → RnAt W g (k * 4) cur x
theorem own_rblk {w : World} {B s n g cp : Nat} {ad : Option Nat} {o : Nat} {e : TypeId} {n' : Nat} {xs : List Value} (h : w.ownsRow B e s (.slice (some ⟨g, o, ad⟩) n' cp) n xs) : ∃ cu, w.heap[g]? = some (.cells cu e (0, 0)) := by
  rcases h.2 with ⟨e1, _⟩ | ⟨g', _, cu, e1, _, hg, _⟩
  · injection e1 with e1; cases e1
  · injection e1 with e1; injection e1 with e1; injection e1 with e1; subst e1; exact ⟨cu, hg⟩
theorem RdAt.seatAt {W : World} {b : Nat} {M : RM} (h : RdAt W b M) {c : Nat} {S : SeM} (hS : M.seats[c]? = some S) : ∃ gs cs g cp gb cb cur, RSeat W M c S gs cs g cp gb cb cur := by
  have hmem := List.mem_of_getElem? hS
  have h1 := h.snaps
  have h2 := h.slots S hmem
  have h3 := h.subs
  have hlen : M.seats.length ≠ 0 := by have := (List.getElem?_eq_some_iff.1 hS).1; omega
  rcases h1.2 with ⟨_, e2⟩ | ⟨gs, cs, curS, e1, _⟩
  · exact absurd e2 hlen
  rcases h3.2 with ⟨_, e2⟩ | ⟨gb, cb, curB, e3, _⟩
  · exact absurd e2 hlen
  rcases h2.2 with ⟨e2, _⟩ | ⟨g, cp, cur, e2, _, hg, q1, q2, q3, q4⟩
  · exact absurd (by rw [e2]; rfl) (h.some_.2 S hmem)
  rw [e1] at h1
  rw [e3] at h3
  have hv := e2
  have b2 := own_cell h3 c (.bool S.sub) (by show (subL M.seats)[c]? = _; unfold subL; rw [List.getElem?_map, hS]; rfl)
  refine ⟨gs, cs, g, cp, gb, cb, cur, e1, hv, e3, b2.1, b2.2, ?_, q1, hg, own_rblk h3, own_rblk h1, fun k x hx => ?_⟩
  · refine (own_cell h1 c _ ?_).1
    show (rowL M.seats)[c]? = _
    unfold rowL; rw [List.getElem?_map, hS]; simp [hv]
  · obtain ⟨hk, _⟩ := List.getElem?_eq_some_iff.1 hx
    have hle : k * 4 + 4 ≤ S.sl.length * 4 := by omega
    refine ⟨hg, by rw [q3]; omega, ?_, h.smarks S hmem x (List.mem_of_getElem? hx)⟩
    rw [← slL_seg S.sl k x hx, ← q4, List.drop_take, List.take_take]
    congr 1
    omega
theorem RSeat.below {W W' : World} {M : RM} {c : Nat} {S : SeM} {gs cs g cp gb cb : Nat} {cur : Array Value} (h : RSeat W M c S gs cs g cp gb cb cur) (hb : Below W.heap.size W W') : RSeat W' M c S gs cs g cp gb cb cur :=
  ⟨h.sv, h.v, h.bv, cell_below h.b0 hb, frz_below h.b0 h.bf hb, cell_below h.c1 hb, h.cap, (hb.block g (Array.getElem?_eq_some_iff.1 h.blk).1).trans h.blk, by obtain ⟨cb, hc⟩ := h.bblk; exact ⟨cb, (hb.block gb (Array.getElem?_eq_some_iff.1 hc).1).trans hc⟩, by obtain ⟨cb, hc⟩ := h.sblk; exact ⟨cb, (hb.block gs (Array.getElem?_eq_some_iff.1 hc).1).trans hc⟩, fun k x hx => (h.sn k x hx).below hb⟩
theorem RSeat.ne {W : World} {b : Nat} {M : RM} (h : RdAt W b M) {c : Nat} {S : SeM} {gs cs g cp gb cb : Nat} {cur : Array Value} (hA : RSeat W M c S gs cs g cp gb cb cur) : b ≠ g ∧ gs ≠ g ∧ gb ≠ g ∧ b ≠ gb ∧ gs ≠ gb := by
  obtain ⟨_, h1⟩ := hA.bblk
  obtain ⟨_, h2⟩ := hA.sblk
  have h3 := h.blk
  have h4 := hA.blk
  refine ⟨?_, ?_, ?_, ?_, ?_⟩
  · rintro rfl; rw [h3] at h4; injection h4 with h4; injection h4 with _ h4 _; exact absurd h4 (by decide)
  · rintro rfl; rw [h2] at h4; injection h4 with h4; injection h4 with _ h4 _; exact absurd h4 (by decide)
  · rintro rfl; rw [h1] at h4; injection h4 with h4; injection h4 with _ h4 _; exact absurd h4 (by decide)
  · rintro rfl; rw [h3] at h1; injection h1 with h1; injection h1 with _ h1 _; exact absurd h1 (by decide)
  · rintro rfl; rw [h2] at h1; injection h1 with h1; injection h1 with _ h1 _; exact absurd h1 (by decide)
theorem RdAt.putSlot {W W' : World} {b : Nat} {M : RM} (h : RdAt W b M) {c k : Nat} {S : SeM} (hS : M.seats[c]? = some S) {gs cs g cp gb cb : Nat} {cur : Array Value} (hA : RSeat W M c S gs cs g cp gb cb cur) {x x' : SnM} (hx : S.sl[k]? = some x)
    (h' : RnAt W' g (k * 4) (segA cur (k * 4) (snL x')) x') (hK : KeepF (fun k => k = g) W W') : RdAt W' b (M.putSlot c k S x') := by
  have hmem := List.mem_of_getElem? hS
  obtain ⟨hk, _⟩ := List.getElem?_eq_some_iff.1 hx
  have hkb : ∀ k, k < W.heap.size → k ≠ g → W'.heap[k]? = W.heap[k]? := fun k hk hn => hK.block k hk hn
  have hlen : (M.seats.set c { S with sl := S.sl.set k x' }).length = M.seats.length := List.length_set ..
  have hmap : (M.seats.set c { S with sl := S.sl.set k x' }).map (·.v.ownBlock) = M.seats.map (·.v.ownBlock) := set_same_map _ hS rfl
  have hsub : subL (M.seats.set c { S with sl := S.sl.set k x' }) = subL M.seats := set_same_map _ hS rfl
  have hrow : rowL (M.seats.set c { S with sl := S.sl.set k x' }) = rowL M.seats := set_same_map _ hS rfl
  refine ⟨?_, own_keep h.marks hA.blk (by decide) hkb, ?_, ?_, ?_, ?_, ⟨h.some_.1, ?_⟩, ?_⟩
  · have e : rdL (M.putSlot c k S x') = rdL M := by unfold rdL RM.putSlot; simp only [hlen]
    rw [e]; exact (hkb b (Array.getElem?_eq_some_iff.1 h.blk).1 (hA.ne h).1).trans h.blk
  · show W'.ownsRow 0 _ 1 M.bv (M.seats.set c _).length (subL (M.seats.set c _))
    rw [hlen, hsub]
    exact own_keep h.subs hA.blk (by decide) hkb
  · show W'.ownsRow 0 _ 1 M.sv (M.seats.set c _).length (rowL (M.seats.set c _))
    rw [hlen, hrow]
    exact own_keep h.snaps hA.blk (by decide) hkb
  · intro S' hS'
    rcases mem_set_or hS' with rfl | ⟨d, hd, hS'⟩
    · show W'.ownsRow 0 _ 4 S.v (S.sl.set k x').length (slL (S.sl.set k x'))
      have h2 := h.slots S hmem
      rw [hA.v] at h2 ⊢
      rw [List.length_set, slL_set _ _ _ hk]
      exact own_seg h2 hA.blk k hk (snL x') rfl h'.blk
    · exact own_other (h.slots S' (List.mem_of_getElem? hS')) hK (by have := nodup_ne h.nodup hS hS' hd; rw [hA.v] at this; exact this)
  · intro S' hS' y hy
    rcases mem_set_or hS' with rfl | ⟨d, hd, hS'⟩
    · rcases mem_set_or hy with rfl | ⟨j, hj, hy⟩
      · exact h'.marks
      · exact own_keep (h.smarks S hmem y (List.mem_of_getElem? hy)) hA.blk (by decide) hkb
    · exact own_keep (h.smarks S' (List.mem_of_getElem? hS') y hy) hA.blk (by decide) hkb
  · intro S' hS'
    rcases mem_set_or hS' with rfl | ⟨d, hd, hS'⟩
    · exact h.some_.2 S hmem
    · exact h.some_.2 S' (List.mem_of_getElem? hS')
  · show ((M.seats.set c _).map (·.v.ownBlock)).Nodup
    rw [hmap]; exact h.nodup
theorem RdAt.putSub {W : World} {b : Nat} {M : RM} (h : RdAt W b M) {c : Nat} {S : SeM} (hS : M.seats[c]? = some S) {gs cs g cp gb cb : Nat} {cur : Array Value} (hA : RSeat W M c S gs cs g cp gb cb cur) : RdAt (W.setCell ⟨gb, c, none⟩ (.bool true)) b (M.putSub c S) := by
  have hmem := List.mem_of_getElem? hS
  obtain ⟨hc, hSe⟩ := List.getElem?_eq_some_iff.1 hS
  have h1 := h.subs
  rw [hA.bv] at h1
  obtain ⟨curS, hgs⟩ := own_rblk h1
  have hkb : ∀ k, k < W.heap.size → k ≠ gb → (W.setCell ⟨gb, c, none⟩ (.bool true)).heap[k]? = W.heap[k]? := fun k _ hk => setCell_ne _ _ _ _ hk
  have hlen : (M.seats.set c { S with sub := true }).length = M.seats.length := List.length_set ..
  have hmap : (M.seats.set c { S with sub := true }).map (·.v.ownBlock) = M.seats.map (·.v.ownBlock) := set_same_map _ hS rfl
  have hrow : rowL (M.seats.set c { S with sub := true }) = rowL M.seats := set_same_map _ hS rfl
  have hsub : subL (M.seats.set c { S with sub := true }) = (subL M.seats).set c (.bool true) := by unfold subL; rw [List.map_set]
  refine ⟨?_, own_keep h.marks hgs (by decide) hkb, ?_, ?_, ?_, ?_, ⟨h.some_.1, ?_⟩, ?_⟩
  · have e : rdL (M.putSub c S) = rdL M := by unfold rdL RM.putSub; simp only [hlen]
    rw [e]; exact (hkb b (Array.getElem?_eq_some_iff.1 h.blk).1 (hA.ne h).2.2.2.1).trans h.blk
  · show (W.setCell ⟨gb, c, none⟩ (.bool true)).ownsRow 0 _ 1 M.bv (M.seats.set c _).length (subL (M.seats.set c _))
    rw [hlen, hsub, hA.bv]
    exact (own_set1 h1 c (by omega) (.bool true)).1
  · show (W.setCell ⟨gb, c, none⟩ (.bool true)).ownsRow 0 _ 1 M.sv (M.seats.set c _).length (rowL (M.seats.set c _))
    rw [hlen, hrow]
    exact own_keep h.snaps hgs (by decide) hkb
  · intro S' hS'
    rcases mem_set_or hS' with rfl | ⟨d, hd, hS'⟩
    · exact own_keep (h.slots S hmem) hgs (by decide) hkb
    · exact own_keep (h.slots S' (List.mem_of_getElem? hS')) hgs (by decide) hkb
  · intro S' hS' y hy
    rcases mem_set_or hS' with rfl | ⟨d, hd, hS'⟩
    · exact own_keep (h.smarks S hmem y hy) hgs (by decide) hkb
    · exact own_keep (h.smarks S' (List.mem_of_getElem? hS') y hy) hgs (by decide) hkb
  · intro S' hS'
    rcases mem_set_or hS' with rfl | ⟨d, hd, hS'⟩
    · exact h.some_.2 S hmem
    · exact h.some_.2 S' (List.mem_of_getElem? hS')
  · show ((M.seats.set c _).map (·.v.ownBlock)).Nodup
    rw [hmap]; exact h.nodup
theorem RdAt.c7 {W : World} {b : Nat} {M : RM} (h : RdAt W b M) {v : Value} (hv : M.sv = v) : W.cell? ⟨b, 7, none⟩ = some v := by rw [← hv]; exact h.cs.2.2.2.2.2.2.2
theorem RdAt.c6 {W : World} {b : Nat} {M : RM} (h : RdAt W b M) {v : Value} (hv : M.bv = v) : W.cell? ⟨b, 6, none⟩ = some v := by rw [← hv]; exact h.cs.2.2.2.2.2.2.1
theorem rfp_slot {b c k0 : Nat} {M : RM} {S : SeM} {x : SnM} (hS : M.seats[c]? = some S) (k : Nat) : (M.putSlot c k0 S x).fp b k → M.fp b k := by
  have hmem := List.mem_of_getElem? hS
  rintro (h | h | ⟨S', hS', h⟩)
  · exact .inl h
  · exact .inr (.inl h)
  · rcases mem_set_or hS' with rfl | ⟨d, hd, hS'⟩
    · exact .inr (.inr ⟨S, hmem, h⟩)
    · exact .inr (.inr ⟨S', List.mem_of_getElem? hS', h⟩)
theorem rfp_sub {b c : Nat} {M : RM} {S : SeM} (hS : M.seats[c]? = some S) (k : Nat) : (M.putSub c S).fp b k → M.fp b k := by
  have hmem := List.mem_of_getElem? hS
  rintro (h | h | ⟨S', hS', h⟩)
  · exact .inl h
  · exact .inr (.inl h)
  · rcases mem_set_or hS' with rfl | ⟨d, hd, hS'⟩
    · exact .inr (.inr ⟨S, hmem, h⟩)
    · exact .inr (.inr ⟨S', List.mem_of_getElem? hS', h⟩)
end Go.Proofs.YtlealeecmmpckaaGreat
namespace Go.Proofs.YtlealeecmmpckaaGreat
set_option linter.unusedVariables false
set_option linter.unusedSimpArgs false
set_option maxRecDepth 100000
set_option maxHeartbeats 8000000
open Go.RowKit Go.Lib Go.Shelf
attribute [local go_sem, local simp] resF resL_len resL_ne rset0 rset1 rset2 rset3 rset4 rset5
def loadRs (v : Value) : Sem Value := Instr.loadAt 36 v
theorem loadRs_eq (v : Value) : Instr.loadAt 36 v = loadRs v := rfl
theorem ld_rs {W : World} {b : Nat} (R : ResV) (h : W.heap[b]? = some (.cells (resL R).toArray 36 (0, 0))) : (loadRs (.pointer (some ⟨b, 0, none⟩))).run Tryz.prog W = .ok (.agg (resL R).toArray) W :=
  run_loadAt_mid W b 0 36 (resL R) _ (fun j v hv => by rw [Nat.zero_add, cell_of_row W b j _ _ (0, 0) h]; simpa using hv) Tryz.underlying36 rfl (by kernel_rfl)
theorem rs_set {W : World} {r : Nat} {R R' : ResV} (h : W.heap[r]? = some (.cells (resL R).toArray 36 (0, 0))) (i : Nat) (v : Value) (he : (resL R).set i v = resL R') : (W.setCell ⟨r, i, none⟩ v).heap[r]? = some (.cells (resL R').toArray 36 (0, 0)) := by
  have := blk_set h i v
  rw [he] at this
  exact this
theorem rs_frz {W : World} {r : Nat} {R : ResV} (h : W.heap[r]? = some (.cells (resL R).toArray 36 (0, 0))) (i : Nat) : W.frozen? ⟨r, i, none⟩ = false := by simp [World.frozen?, h]
theorem rs_cell {W : World} {r : Nat} {R : ResV} (h : W.heap[r]? = some (.cells (resL R).toArray 36 (0, 0))) : W.cell? ⟨r, 3, none⟩ = some (.int .i64 R.at_) ∧ W.cell? ⟨r, 4, none⟩ = some (.int .u8 R.grav) ∧ W.cell? ⟨r, 5, none⟩ = some (.string R.text) ∧ W.cell? ⟨r, 6, none⟩ = some (.int .i64 R.m1) ∧ W.cell? ⟨r, 7, none⟩ = some (.int .i64 R.m2) ∧ W.cell? ⟨r, 8, none⟩ = some (.int .i64 R.m3) := by
  refine ⟨?_, ?_, ?_, ?_, ?_, ?_⟩ <;> simp [World.cell?, h, resL]
theorem below_hi {B : Nat} {w W : World} (h : Below B w W) (k i : Nat) (v : Value) (hk : B ≤ k) : Below B w (W.setCell ⟨k, i, none⟩ v) :=
  ⟨h.os, h.tape, h.output, by rw [setCell_size]; exact h.size, fun j hj => (setCell_ne _ _ _ _ (by show j ≠ k; omega)).trans (h.block j hj)⟩
theorem keepf_hi {F : Nat → Prop} {w W : World} (h : KeepF F w W) (k i : Nat) (v : Value) (hk : w.heap.size ≤ k) : KeepF F w (W.setCell ⟨k, i, none⟩ v) :=
  ⟨h.os, h.tape, h.output, by rw [setCell_size]; exact h.size, fun j hj hn => (setCell_ne _ _ _ _ (by show j ≠ k; omega)).trans (h.block j hj hn)⟩
theorem rn_other {W : World} {g o r : Nat} {cur cs : Array Value} {x : SnM} (h : RnAt W g o cur x) (hz : W.heap[r]? = some (.cells cs 36 (0, 0))) (i : Nat) (v : Value) : RnAt (W.setCell ⟨r, i, none⟩ v) g o cur x :=
  ⟨(setCell_ne _ _ _ _ (rblk_ne h.blk hz)).trans h.blk, h.sz, h.seg, own_keep h.marks hz (by decide) (fun k _ hk => setCell_ne _ _ _ _ hk)⟩
structure RdS (w : World) (o : OpV) (b c : Nat) (M : RM) (S : SeM) (gs cs g cp gb cb : Nat) (cur : Array Value) (W : World) : Prop where
  hE : Ed2 w o (w.heap.size + 1) W
  hM : RdAt W b M
  hA : RSeat W M c S gs cs g cp gb cb cur
theorem RdS.on {w W W' : World} {o : OpV} {b c : Nat} {M : RM} {S : SeM} {gs cs g cp gb cb : Nat} {cur : Array Value} (h : RdS w o b c M S gs cs g cp gb cb cur W) (hb : Below W.heap.size W W') : RdS w o b c M S gs cs g cp gb cb cur W' := ⟨h.hE.on hb, h.hM.below hb, h.hA.below hb⟩
theorem RdS.start (w : World) (o : OpV) {b c : Nat} {M : RM} {S : SeM} (h : RdAt w b M) (hS : M.seats[c]? = some S) : ∃ gs cs g cp gb cb cur, RdS w o b c M S gs cs g cp gb cb cur ((w.alloc (.cells #[.int .u8 o.kind, .int .i64 o.slot, .int .i64 o.at_, .int .i64 o.n, .int .u32 o.id, .int .u8 o.grav, .string o.text] 28)).alloc (.cells (resL {}).toArray 36)) := by
  have hE := ed2_start w o
  have hM := h.below hE.bl
  obtain ⟨gs, cs, g, cp, gb, cb, cur, hA⟩ := hM.seatAt hS
  exact ⟨gs, cs, g, cp, gb, cb, cur, hE, hM, hA⟩
theorem RdS.md {w W : World} {o : OpV} {b c : Nat} {M : RM} {S : SeM} {gs cs g cp gb cb : Nat} {cur : Array Value} (h : RdS w o b c M S gs cs g cp gb cb cur W) : W.cell? ⟨b, 1, none⟩ = some (.int .i64 M.readers) ∧ W.cell? ⟨b, 7, none⟩ = some (.slice (some ⟨gs, 0, none⟩) M.seats.length cs) ∧ W.cell? ⟨gs, c, none⟩ = some (.slice (some ⟨g, 0, none⟩) S.sl.length cp) := ⟨h.hM.cs.2.1, h.hM.c7 h.hA.sv, h.hA.c1⟩
theorem RdS.sn {w W : World} {o : OpV} {b c : Nat} {M : RM} {S : SeM} {gs cs g cp gb cb : Nat} {cur : Array Value} (h : RdS w o b c M S gs cs g cp gb cb cur W) {k : Nat} {x : SnM} (hx : S.sl[k]? = some x) : (W.cell? ⟨g, k * 4, none⟩ = some (.bool x.s.held) ∧ W.cell? ⟨g, k * 4 + 1, none⟩ = some (.string x.s.text) ∧ W.cell? ⟨g, k * 4 + 2, none⟩ = some x.mv ∧ W.cell? ⟨g, k * 4 + 3, none⟩ = some (.int .i64 x.s.cursor)) ∧
    (W.frozen? ⟨g, k * 4, none⟩ = false ∧ W.frozen? ⟨g, k * 4 + 1, none⟩ = false ∧ W.frozen? ⟨g, k * 4 + 2, none⟩ = false ∧ W.frozen? ⟨g, k * 4 + 3, none⟩ = false) := (h.hA.sn k x hx).cells
theorem RdS.close {w W : World} {o : OpV} {b c : Nat} {M : RM} {S : SeM} {gs cs g cp gb cb : Nat} {cur : Array Value} (h : RdS w o b c M S gs cs g cp gb cb cur W) (hS : M.seats[c]? = some S) {k : Nat} {x : SnM} (hx : S.sl[k]? = some x) (R : ResV) (row : Array Value) :
    RPost b w (R, M.st.putSlot c k x.s) M (.returned (.agg (resL R).toArray)) (W.setRow (w.heap.size + 1) row) :=
  ⟨rfl, M.putSlot c k S x, (h.hM.putSlot hS h.hA hx (h.hA.sn k x hx).same (KeepF.refl _ _)).row h.hE.res _, RM.putSlot_st hS, (KeepF.of_below h.hE.bl).row (by omega) _, fun k hk => .inl (rfp_slot hS k hk)⟩
theorem RdS.closeF {w W : World} {o : OpV} {b c : Nat} {M : RM} {S : SeM} {gs cs g cp gb cb : Nat} {cur : Array Value} (h : RdS w o b c M S gs cs g cp gb cb cur W) (e : Int) (row : Array Value) :
    RPost b w (failR e, M.st) M (.returned (.agg (resL (failR e)).toArray)) (W.setRow (w.heap.size + 1) row) :=
  ⟨rfl, M, h.hM.row h.hE.res _, rfl, (KeepF.of_below h.hE.bl).row (by omega) _, fun k hk => .inl hk⟩
theorem RdS.close2 {w W V : World} {o : OpV} {b c : Nat} {M : RM} {S : SeM} {gs cs g cp gb cb : Nat} {cur : Array Value} (h : RdS w o b c M S gs cs g cp gb cb cur W) (hS : M.seats[c]? = some S) {k : Nat} {x x' : SnM} (hx : S.sl[k]? = some x) (hN : RnAt V g (k * 4) (segA cur (k * 4) (snL x')) x') (hK : KeepF (fun k => k = g) W V) (R : ResV) (row : Array Value) :
    RPost b w (R, M.st.putSlot c k x'.s) M (.returned (.agg (resL R).toArray)) (V.setRow (w.heap.size + 1) row) := by
  have hg : w.heap.size + 1 ≠ g := fun e => by have h1 := h.hE.res; rw [e, h.hA.blk] at h1; injection h1 with h1; injection h1 with _ h2 _; exact absurd h2 (by decide)
  have hz := (hK.block (w.heap.size + 1) (Array.getElem?_eq_some_iff.1 h.hE.res).1 hg).trans h.hE.res
  have hfp : M.fp b g := .inr (.inr ⟨S, List.mem_of_getElem? hS, by rw [h.hA.v]; rfl⟩)
  exact ⟨rfl, M.putSlot c k S x', (h.hM.putSlot hS h.hA hx hN hK).row hz _, RM.putSlot_st hS, ((KeepF.of_below h.hE.bl).trans (hK.fp (F := M.fp b) hfp)).row (by omega) _, fun k hk => .inl (rfp_slot hS k hk)⟩
theorem RdS.mk2 {w W V : World} {o : OpV} {b c : Nat} {M : RM} {S : SeM} {gs cs g cp gb cb : Nat} {cur : Array Value} (h : RdS w o b c M S gs cs g cp gb cb cur W) {r q : Nat} {i a v : Int} (hB : Below W.heap.size W V) (hr : V.heap[r]? = some (.cells (resL {}).toArray 36 (0, 0))) (hrB : W.heap.size ≤ r)
    (hq : V.heap[q]? = some (.cells #[.int .u32 i, .int .i64 a, .int .u8 v] 81 (0, 0))) :
    ((V.cell? ⟨q, 1, none⟩ = some (.int .i64 a) ∧ V.cell? ⟨q, 2, none⟩ = some (.int .u8 v)) ∧ (V.cell? ⟨r, 3, none⟩ = some (.int .i64 0) ∧ V.cell? ⟨r, 4, none⟩ = some (.int .u8 0)) ∧ V.frozen? ⟨r, 3, none⟩ = false ∧ V.frozen? ⟨r, 4, none⟩ = false) ∧
    (((V.setCell ⟨r, 3, none⟩ (.int .i64 a)).cell? ⟨q, 2, none⟩ = some (.int .u8 v) ∧ (V.setCell ⟨r, 3, none⟩ (.int .i64 a)).cell? ⟨r, 4, none⟩ = some (.int .u8 0)) ∧ (V.setCell ⟨r, 3, none⟩ (.int .i64 a)).frozen? ⟨r, 4, none⟩ = false) ∧
    (((V.setCell ⟨r, 4, none⟩ (.int .u8 v)).cell? ⟨q, 1, none⟩ = some (.int .i64 a) ∧ (V.setCell ⟨r, 4, none⟩ (.int .u8 v)).cell? ⟨r, 3, none⟩ = some (.int .i64 0)) ∧ (V.setCell ⟨r, 4, none⟩ (.int .u8 v)).frozen? ⟨r, 3, none⟩ = false) ∧
    (RdS w o b c M S gs cs g cp gb cb cur ((V.setCell ⟨r, 3, none⟩ (.int .i64 a)).setCell ⟨r, 4, none⟩ (.int .u8 v)).drew ∧ ((V.setCell ⟨r, 3, none⟩ (.int .i64 a)).setCell ⟨r, 4, none⟩ (.int .u8 v)).drew.heap[r]? = some (.cells (resL { at_ := a, grav := v }).toArray 36 (0, 0))) ∧
    (RdS w o b c M S gs cs g cp gb cb cur ((V.setCell ⟨r, 4, none⟩ (.int .u8 v)).setCell ⟨r, 3, none⟩ (.int .i64 a)).drew ∧ ((V.setCell ⟨r, 4, none⟩ (.int .u8 v)).setCell ⟨r, 3, none⟩ (.int .i64 a)).drew.heap[r]? = some (.cells (resL { at_ := a, grav := v }).toArray 36 (0, 0))) := by
  have hne : q ≠ r := by rintro rfl; rw [hq] at hr; injection hr with hr; injection hr with _ h2 _; exact absurd h2 (by decide)
  have h3 := rs_set hr 3 (.int .i64 a) (rset3 {} a)
  have h4 := rs_set hr 4 (.int .u8 v) (rset4 {} v)
  have h34 := rs_set h3 4 (.int .u8 v) (rset4 _ v)
  have h43 := rs_set h4 3 (.int .i64 a) (rset3 _ a)
  have q3 := (setCell_ne V ⟨r, 3, none⟩ (.int .i64 a) q hne).trans hq
  have q4 := (setCell_ne V ⟨r, 4, none⟩ (.int .u8 v) q hne).trans hq
  have c0 := rs_cell hr
  have c3 := rs_cell h3
  have c4 := rs_cell h4
  refine ⟨⟨⟨by simp [World.cell?, hq], by simp [World.cell?, hq]⟩, ⟨c0.1, c0.2.1⟩, rs_frz hr 3, rs_frz hr 4⟩, ⟨⟨by simp [World.cell?, q3], c3.2.1⟩, rs_frz h3 4⟩, ⟨⟨by simp [World.cell?, q4], c4.1⟩, rs_frz h4 3⟩, ⟨h.on (below_hi (below_hi hB r 3 _ hrB) r 4 _ hrB).drew, h34⟩, ⟨h.on (below_hi (below_hi hB r 4 _ hrB) r 3 _ hrB).drew, h43⟩⟩
theorem mkL_ne (m : MkV) : mkL m ≠ [] := by simp [mkL]
theorem mkL_all1 (m : MkV) : (mkL m).toArray.all (·.oneCell') = true := by simp [mkL, Value.oneCell']
theorem mnew_pkg (W : World) (m : MkV) : ∃ V, (storeCells ⟨W.heap.size, 0, none⟩ (mkL m)).run Tryz.prog (W.alloc (.cells #[.int .u32 0, .int .i64 0, .int .u8 0] 81)) = .ok () V ∧ V.heap[W.heap.size]? = some (.cells #[.int .u32 m.id, .int .i64 m.at_, .int .u8 m.grav] 81 (0, 0)) ∧ Below W.heap.size W V := by
  have hz := heap_alloc_new W (.cells #[.int .u32 0, .int .i64 0, .int .u8 0] 81)
  exact ⟨_, run_st hz rfl (mkL m) rfl (mkL_all1 m), setRow_heap _ _ _ _ _ _ hz, below_row ((Below.refl _ W).alloc (Nat.le_refl _) _) (Nat.le_refl _) _⟩
theorem mput_pkg {W : World} {g : Nat} (hz : W.heap[g]? = some (.cells #[.int .u32 0, .int .i64 0, .int .u8 0] 81 (0, 0))) (m : MkV) : ∃ V, (storeCells ⟨g, 0, none⟩ (mkL m)).run Tryz.prog W = .ok () V ∧ V.heap[g]? = some (.cells #[.int .u32 m.id, .int .i64 m.at_, .int .u8 m.grav] 81 (0, 0)) ∧ (∀ k, k ≠ g → V.heap[k]? = W.heap[k]?) ∧ (∀ {B : Nat} {w0 : World}, Below B w0 W → B ≤ g → Below B w0 V) :=
  ⟨_, run_st hz rfl (mkL m) rfl (mkL_all1 m), setRow_heap _ _ _ _ _ _ hz, fun k hk => setRow_other _ _ _ _ hk, fun h hl => below_row h hl _⟩
theorem rune_err {l : List UInt8} {n : Int} (h : (runeS l n).2 ≠ 0) : (runeS l n).1 = 0 := by
  unfold runeS at h ⊢
  split
  · rfl
  · rename_i h1
    rw [if_neg h1] at h
    split <;> rename_i h2
    · rw [h2] at h; exact absurd rfl h
    · rw [h2] at h
      split <;> rename_i h3
      · dsimp only at h; rw [if_pos h3] at h; exact absurd rfl h
      · rfl
theorem line_err {l : List UInt8} {n : Int} (h : (lineS l n).2 ≠ 0) : (lineS l n).1 = 0 := by
  unfold lineS at h ⊢
  split
  · rfl
  · rename_i h1
    rw [if_neg h1] at h
    split
    · rfl
    · rename_i h2
      rw [if_neg h2] at h
      split <;> rename_i h3
      · rw [h3] at h; exact absurd rfl h
      · rfl
end Go.Proofs.YtlealeecmmpckaaGreat
namespace Go.Proofs.YtlealeecmmpckaaGreat
set_option linter.unusedVariables false
set_option linter.unusedSimpArgs false
set_option maxRecDepth 100000
set_option maxHeartbeats 8000000
open Go.RowKit Go.Lib Go.Shelf
attribute [local go_sem, local simp] sset0 sset1 sset2 resF resL_len resL_ne rset0 rset1 rset2 rset3 rset4 rset5 snF snL_len snL_ne
theorem racquire_any (b c : Nat) (M : RM) (w : World) (h : RdAt w b M) (S : SeM) (hS : M.seats[c]? = some S) (hl : S.sl.length = M.readers) (hr8 : M.readers ≤ 8) (hcl : M.seats.length ≤ 8) (hs : M.closed = false) :
    Calls Tryz.prog 61 #[.pointer (some ⟨b, 0, none⟩), .int .i64 (c : Int)] w (RPost b w (acqS M.st c) M) := by
  obtain ⟨hc, _⟩ := List.getElem?_eq_some_iff.1 hS
  have hz0 := heap_alloc_new w (.cells (resL {}).toArray 36)
  have hB0 : Below w.heap.size w (w.alloc (.cells (resL {}).toArray 36)) := (Below.refl _ w).alloc (Nat.le_refl _) _
  have hM0 := h.below hB0
  obtain ⟨gs, cs, g, cp, gb, cb, cur, hA⟩ := hM0.seatAt hS
  have e0 : M.st.seat c = S.st := RM.seat_st hS
  obtain ⟨hbg, hgsg, _⟩ := hA.ne hM0
  obtain ⟨am, cm, hmv⟩ := own_slice hM0.marks
  have c7 := hM0.c7 hA.sv
  have c1 := hM0.cs.2.1
  have r1 := hA.c1
  have HM0 := Lib.hid hM0
  have HL := Lib.hid hl
  clear hl hM0
  go_enter Tryz.func61, Tryz.ntmps61
  go_wp2
  generalize hW0 : w.alloc (.cells (resL {}).toArray 36) = W0 at *
  go_loopw [5, 6, 7, 8, 9, 10, 11, 12, 13, 14, 15, 16, 17, 18, 19, 20, 21, 22, 23, 24, 25] (fun i x6 x7 x8 x9 x10 x11 x12 x13 x14 x15 x16 x17 x18 x19 x20 x21 x22 x23 x24 x25 wr => ∃ k : Nat, i = .int .i64 k ∧ k ≤ S.sl.length ∧ (∀ j, j < k → ∀ x, S.sl[j]? = some x → x.s.held = true) ∧ wr = W0) (fun i x6 x7 x8 x9 x10 x11 x12 x13 x14 x15 x16 x17 x18 x19 x20 x21 x22 x23 x24 x25 wr => S.sl.length - (intOf i).toNat)
  case atStart => exact ⟨0, rfl, by omega, fun j hj => absurd hj (by omega), rfl⟩
  case round =>
    obtain ⟨k, rfl, hk, hf, rfl⟩ := hrel
    have HF := Lib.hid hf; clear hf
    have hl := HL.out
    by_cases hlt : k < S.sl.length
    · have hx := List.getElem?_eq_getElem hlt
      generalize S.sl[k] = x at hx
      have hSn := hA.sn k x hx
      obtain ⟨⟨s0, s1, s2, s3⟩, _⟩ := hSn.cells
      have hlt2 : k < M.readers := by omega
      have hcap := hA.cap
      clear hl
      cases hh : x.s.held with
      | true =>
        rw [hh] at s0
        go_wp2
        go_roundw
        case rel => exact ⟨k + 1, by go_num, by omega, fun j hj y hy => (by
          by_cases hjk : j = k
          · subst hjk; rw [hx] at hy; injection hy with hy; subst hy; exact hh
          · exact HF.out j (by omega) y hy), trivial⟩
        case measure => simp [intOf]; omega
      | false =>
        rw [hh] at s0
        have hR : acqS M.st c = ({ slot := k, rev := M.number }, M.st.putSlot c k ⟨true, M.text, M.marks, 0⟩) := by
          unfold acqS
          rw [if_neg (by show ¬ (M.closed = true); simp [hs]), e0]
          have hn : S.st.slots.findIdx? (fun s => !s.held) = some k := by
            rw [List.findIdx?_eq_some_iff_getElem]
            have h2 : S.st.slots.length = S.sl.length := List.length_map ..
            have h3 : ∀ j (hj : j < S.st.slots.length), S.st.slots[j] = (S.sl[j]'(by omega)).s := fun j hj => List.getElem_map ..
            refine ⟨by omega, ?_, fun j hj => ?_⟩
            · rw [h3]
              have := (List.getElem?_eq_some_iff.1 hx).2
              rw [this, hh]; rfl
            · rw [h3 j (by omega)]
              have := HF.out j hj _ (List.getElem?_eq_getElem (by omega))
              simp [this]
          rw [hn]
          rfl
        rw [hR]
        have kx : ∀ W, KeepF (fun k => k = g) wr W → W.cell? ⟨b, 7, none⟩ = some (.slice (some ⟨gs, 0, none⟩) M.seats.length cs) ∧ W.cell? ⟨gs, c, none⟩ = some (.slice (some ⟨g, 0, none⟩) S.sl.length cp) ∧ W.cell? ⟨b, 2, none⟩ = some (.string M.text) ∧ W.cell? ⟨b, 3, none⟩ = some (.slice am M.marks.length cm) := fun W hW =>
          ⟨hW.cell hbg c7, hW.cell hgsg r1, hW.cell hbg HM0.out.cs.2.2.1, hW.cell hbg (HM0.out.c3 hmv)⟩
        have Kx := Lib.hid kx
        clear kx
        have hx0 : KeepF (fun k => k = g) wr wr.drew := (KeepF.refl _ _).drew
        have hA7 := hA.below (Below.refl _ _).drew
        have hM7 := Lib.hid (HM0.out.below (Below.refl _ _).drew)
        have hsn := (hA7.sn k x hx).stP ⟨⟨true, M.text, [], 0⟩, .slice am M.marks.length cm⟩ rfl
        clear hbg hgsg
        go_wp2
        refine wp_region_noPanic ?_
        refine wp_region_held_drew (S := fun W => W.cell? ⟨b, 7, none⟩ = some (.slice (some ⟨gs, 0, none⟩) M.seats.length cs) ∧ W.cell? ⟨gs, c, none⟩ = some (.slice (some ⟨g, 0, none⟩) S.sl.length cp) ∧ W.cell? ⟨b, 2, none⟩ = some (.string M.text) ∧ W.cell? ⟨b, 3, none⟩ = some (.slice am M.marks.length cm)) (by kernel_rfl) ?_ (fun hHeld => ?_)
        · first | exact Kx.out _ hx3 | exact Kx.out _ hx0
        iterate 18 (((first | refine np_n ?_ ?_ ?_ | refine np_t 0 ?_ ?_ ?_); rotate_left 1; (· (intro w hSw; (try dsimp only at hSw); go_simp; all_goals with_reducible rfl)); (try simp only [nSO])))
        (refine np_step (i := 18) rfl (by kernel_rfl) (fun K hK => ?_); rw [if_pos (by rfl)]; go_simp; ((have hx3 := hx0.trans (KeepF.putSn wr.drew g (k * 4) ⟨⟨true, M.text, [], 0⟩, .slice am M.marks.length cm⟩))); (try go_wp2_with fail); refine hK.out _ _ ?_ (fun hHeld => ?_); (· (first | exact Kx.out _ hx3 | exact Kx.out _ hx0)); clear hK K; (try simp only [nSO]))
        refine wpAnyH_done (by kernel_rfl) ?_ _
        refine NoPanic.normal ?_
        have hN8 := (hA7.sn k x hx).put (y := ⟨⟨true, M.text, M.marks, 0⟩, .slice am M.marks.length cm⟩) (by have := hM7.out.marks; rw [hmv] at this; exact this)
        rw [putSn_marks wr.drew g (k * 4) true M.text M.marks [] 0 (.slice am M.marks.length cm)] at hN8
        have hK8 := KeepF.putSn wr.drew g (k * 4) ⟨⟨true, M.text, [], 0⟩, .slice am M.marks.length cm⟩
        have hM8 := hM7.out.putSlot hS hA7 hx hN8 hK8
        have hz8 := (putSn_ne wr.drew g (k * 4) ⟨⟨true, M.text, [], 0⟩, .slice am M.marks.length cm⟩ _ (rblk_ne hA7.blk hz0).symm).trans hz0
        have hst := res_st hz8 rfl
        have d4 : (putSn wr.drew g (k * 4) ⟨⟨true, M.text, [], 0⟩, .slice am M.marks.length cm⟩).cell? ⟨b, 4, none⟩ = some (.int .i64 M.number) := hM8.cs.2.2.2.2.1
        have hfp : M.fp b g := .inr (.inr ⟨S, List.mem_of_getElem? hS, by rw [hA7.v]; rfl⟩)
        clear hHeld hsn Kx
        go_wp2
        exact ⟨rfl, _, results_cell_row rfl _ _ _ _ _ _ _ rfl (setRow_heap _ _ _ _ _ _ hz8) Tryz.underlying36 rfl (by kernel_rfl), (by first | rfl | rw [hR]), _, hM8.row hz8 _, (by first | exact RM.putSlot_st hS | (rw [hR]; exact RM.putSlot_st hS)), ((KeepF.of_below hB0.drew).trans (hK8.fp (F := M.fp b) hfp)).row (Nat.le_refl _) _, fun k hk => .inl (rfp_slot hS k hk)⟩
    · have hR : acqS M.st c = (failR 15, M.st) := by
        unfold acqS
        rw [if_neg (by show ¬ (M.closed = true); simp [hs]), e0]
        have hn : S.st.slots.findIdx? (fun s => !s.held) = none := by
          rw [List.findIdx?_eq_none_iff]
          intro s hsm
          obtain ⟨x, hxm, rfl⟩ := List.mem_map.1 hsm
          obtain ⟨j, hj, hxe⟩ := List.getElem_of_mem hxm
          have := HF.out j (by omega) x (by rw [List.getElem?_eq_getElem hj, hxe])
          simp [this]
        rw [hn]
      have hlt2 : ¬ k < M.readers := by omega
      clear hl
      rw [hR]
      go_wp2_with (go_at_call 56; refine (rfail_any _ _).mono ?_; rintro e v7 ⟨rfl, hb7⟩; have hz7 := (hb7.block w.heap.size (Array.getElem?_eq_some_iff.1 hz0).1).trans hz0; have hst := res_st hz7 rfl)
      exact ⟨rfl, _, results_cell_row rfl _ _ _ _ _ _ _ rfl (setRow_heap _ _ _ _ _ _ hz7) Tryz.underlying36 rfl (by kernel_rfl), (by first | rfl | rw [hR]), M, (HM0.out.below hb7).row hz7 _, (by first | rfl | rw [hR]), (KeepF.of_below (hB0.trans (hb7.mono hB0.size))).row (Nat.le_refl _) _, fun k hk => .inl hk⟩
end Go.Proofs.YtlealeecmmpckaaGreat
