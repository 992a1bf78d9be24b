/- Texts, one behind another. -/
import Derived.Test.YtdeiocppghhfdaaGreatZcaj
import Derived.Test.YtdeiocppghhfdaaGreatZcak
import Derived.Test.YtdeiocppghhfdaaGreatZcai
import Derived.Shelf.Spec.SlicesInsertGrow
import Derived.RangeFuncNested
import Derived.RangeFuncBound
import Derived.RangeFuncCalls
import Derived.RangeFuncLeaves
import Derived.RangeFuncFrom
set_option linter.unusedVariables false
set_option linter.unusedSimpArgs false
set_option maxRecDepth 100000
set_option maxHeartbeats 8000000
namespace Go.Proofs.YtdeiocppghhfdaaGreat
open Go.RowKit Go.Lib Go.Shelf
theorem run_copyS {P : Program} (w : World) (dT sT ty elem : TypeId) (s : Nat) (g o dLen dCap : Nat) (a : Addr) (sLen sCap : Nat) (cur : Array Value) (t : TypeId) (cs : List Value) (k : Nat)
  (hu : P.underlying dT = some (.slice elem)) (hs : (P.info? elem).map (·.size) = some s)
  (hg : w.heap[g]? = some (.cells cur t (0, 0))) (hk : k = Nat.min sLen dLen) (hn : cs.length = k * s)
  (hsrc : ∀ j v, cs[j]? = some v → w.cell? (a.add j) = some v) (hfit : o + cs.length ≤ cur.size) (h1 : ∀ v ∈ cs, v.oneCell' = true) :
  (Builtin.copy_ #[dT, sT] ty #[.slice (some ⟨g, o, none⟩) dLen dCap, .slice (some a) sLen sCap]).run P w =
   .ok (goInt k) (w.setRow g (cur.toList.take o ++ cs ++ cur.toList.drop (o + cs.length)).toArray) := by
 have hl := run_loadCells_list (P := P) w a cs hsrc
 have hst := run_storeCells_at P g o t cs 0 cur w hg (by simpa using hfit) h1
 cases hq : P.info? elem with
 | none => simp [hq] at hs
 | some i =>
  have hi : i.size = s := by simpa [hq] using hs
  simp [Builtin.copy_, run_underlying hu, Builtin.lenOf, Builtin.firstCells, sizeOf, typeInfo, hq, hi, ← hk, ← hn, hl, hst]
theorem szMk : (Tryz.prog.info? 74).map (·.size) = some 3 := by kernel_rfl
theorem blk_cells {w : World} {b : Nat} {L : List Value} {T : TypeId} (h : w.heap[b]? = some (.cells L.toArray T (0, 0))) (j : Nat) (u : Value) (hu : L[j]? = some u) : w.cell? ((⟨b, 0, none⟩ : Addr).add j) = some u := by
 rw [Addr.add_lit, Nat.zero_add]
 simp only [World.cell?, h]
 simpa using hu
def insL (l : List MkV) (i : Nat) (m : MkV) : List MkV := l.take i ++ m :: l.drop i
theorem insL_len (l : List MkV) (i : Nat) (m : MkV) (hi : i ≤ l.length) : (insL l i m).length = l.length + 1 := by
 unfold insL; simp; omega
theorem ins_end (B vb : Nat) (v : Value) (l : List MkV) (m : MkV) (w : World) (hown : MOwn w B v l) (hv : w.heap[vb]? = some (.cells (mkL m).toArray 74 (0, 0))) (hs : l.length ≤ 1000) (hB : B ≤ w.heap.size) :
  Calls Tryz.prog 243 #[v, .int .i64 l.length, .slice (some ⟨vb, 0, none⟩) 1 1] w fun e w' => ∃ v', e = .returned v' ∧ MOwn w' B v' (insL l l.length m) ∧ Below B w w' := by
 obtain ⟨i0, hi, hz0, hz1, hz2⟩ := info_parts infoMk
 have hI : insL l l.length m = l ++ [m] := by unfold insL; simp
 have HI := Lib.hid hI; clear hI
 obtain ⟨ao, c, rfl⟩ := own_slice hown
 obtain ⟨_, hc⟩ := mrow_own rfl hown
 have hd : ((l.length : Int) == (l.length : Int)) = true := by simp
 have hnil : ao = none → l.length = 0 ∧ c = 0 := fun h => by
  subst h
  rcases hown.2 with ⟨h1, h2⟩ | ⟨g, cap, cur, h1, _⟩
  ·injection h1 with _ _ h3; exact ⟨h2, h3⟩
  ·injection h1 with h1; cases h1
 go_enter Tryz.func243, Tryz.ntmps243
 go_wp2_with (at_builtin; refine wpList_append_own _ rfl _ _ 65 rfl B 74 i0 _ 3 24 Tryz.underlying65 hi hz0 hz1 hz2 rfl (by decide) _ _ _ rfl hown ⟨vb, 0, none⟩ 1 1 (mkL m) rfl rfl (blk_cells hv) (mkL_ones m) (by unfold maxLen; omega) (by omega) hB ?_; intro v' w3 hown' hgrow _)
 all_goals
  obtain ⟨ao', c', rfl⟩ := own_slice hown'
  go_returns
  rw [HI.out]
  refine ⟨_, rfl, ?_, (Below.refl B w).grown hgrow hB (fun k hk => (hown.lt k hk).1)⟩
  unfold MOwn
  rw [List.length_append, mksL_app, mksL_one]
  exact hown'
theorem ins_cells (cur : List Value) (l : List MkV) (m : MkV) (i : Nat) (hi : i ≤ l.length) (hc : cur.take (l.length * 3) = mksL l) (hl : (l.length + 1) * 3 ≤ cur.length) :
  ((cur.take ((i + 1) * 3) ++ (mksL l).drop (i * 3) ++ cur.drop ((i + 1) * 3 + ((mksL l).drop (i * 3)).length)).take (i * 3) ++ mkL m ++ (cur.take ((i + 1) * 3) ++ (mksL l).drop (i * 3) ++ cur.drop ((i + 1) * 3 + ((mksL l).drop (i * 3)).length)).drop (i * 3 + (mkL m).length)).take ((l.length + 1) * 3) = mksL (insL l i m) := by
 have h1 : (mksL l).drop (i * 3) = mksL (l.drop i) := mksL_drop l i hi
 have h2 : cur.take (i * 3) = mksL (l.take i) := by
  rw [← mksL_take l i hi, ← hc, List.take_take, Nat.min_eq_left (by omega)]
 have hlen : ((mksL l).drop (i * 3)).length = (l.length - i) * 3 := by rw [List.length_drop, mksL_len]; omega
 rw [hlen]
 have e1 : (cur.take ((i + 1) * 3) ++ (mksL l).drop (i * 3) ++ cur.drop ((i + 1) * 3 + (l.length - i) * 3)).take (i * 3) = mksL (l.take i) := by
  rw [List.append_assoc, List.take_append_of_le_length (by rw [List.length_take]; omega), List.take_take, Nat.min_eq_left (by omega), h2]
 have e2 : (cur.take ((i + 1) * 3) ++ (mksL l).drop (i * 3) ++ cur.drop ((i + 1) * 3 + (l.length - i) * 3)).drop (i * 3 + (mkL m).length) = (mksL l).drop (i * 3) ++ cur.drop ((i + 1) * 3 + (l.length - i) * 3) := by
  rw [List.append_assoc, List.drop_left' (by rw [List.length_take, mkL_len]; omega)]
 rw [e1, e2, h1]
 unfold insL
 rw [mksL_app, show m :: l.drop i = [m] ++ l.drop i from rfl, mksL_app, mksL_one, ← List.append_assoc, ← List.append_assoc]
 rw [List.take_left' (by simp only [List.length_append, mksL_len, mkL_len, List.length_take, List.length_drop]; omega)]
theorem ins_shift (B g cap vb : Nat) (l : List MkV) (i : Nat) (m : MkV) (w : World) (hown : MOwn w B (.slice (some ⟨g, 0, none⟩) l.length cap) l) (hv : w.heap[vb]? = some (.cells (mkL m).toArray 74 (0, 0))) (hs : l.length ≤ 1000) (hi : i < l.length) (hroom : l.length + 1 ≤ cap) (hvg : vb ≠ g) :
  Calls Tryz.prog 243 #[.slice (some ⟨g, 0, none⟩) l.length cap, .int .i64 i, .slice (some ⟨vb, 0, none⟩) 1 1] w fun e w' => ∃ v', e = .returned v' ∧ MOwn w' B v' (insL l i m) ∧ Below B w w' := by
 obtain ⟨cur, hBg, hg, hcm, hcs, hct⟩ : ∃ cur, B ≤ g ∧ w.heap[g]? = some (.cells cur 74 (0, 0)) ∧ cap ≤ maxLen ∧ cur.size = cap * 3 ∧ cur.toList.take (l.length * 3) = mksL l := by
  rcases hown.2 with ⟨h1, _⟩ | ⟨g', cap', cur, h1, hBg, hg, _, h3, h4, h5⟩
  ·injection h1 with h1; cases h1
  ·injection h1 with h1 _ h6; injection h1 with h1; injection h1 with h1 _ _; subst h1; subst h6
   exact ⟨cur, hBg, hg, h3, h4, h5⟩
 unfold maxLen at hcm
 generalize hn : l.length = n at *
 have hz2 : ¬ ((i : Int) = (n : Int)) := by omega
 have hdl : ((mksL l).drop (i * 3)).length = (n - i) * 3 := by rw [List.length_drop, mksL_len, hn]; omega
 have hcl : cur.toList.length = cap * 3 := by simpa using hcs
 have hov : ∀ lb cb, (callFunc 281 #[.slice (some ⟨vb, 0, none⟩) 1 1, .slice (some ⟨g, (i + 1) * 3, none⟩) lb cb]).run Tryz.prog w = .ok (.value (.bool false)) w := fun lb cb => by
  rw [run_callFunc_extern Tryz.func281 (by kernel_rfl) (by kernel_rfl) (by kernel_rfl) (e := Extern.SlicesOverlaps.overlaps #[65, 65] #[4]) (by kernel_rfl),
   Lib.run_overlaps_apart w 65 4 74 Tryz.underlying65 3 (fun w => Tryz.sizeOf74 w) ⟨vb, 0, none⟩ ⟨g, (i + 1) * 3, none⟩ 1 1 lb cb hvg 74 74 3 (cap * 3) (by simp [World.shape?, hv, mkL_len]) (by simp [World.shape?, hg, hcs]) (by omega) (by simp [World.frozen?, hv]) (by simp [World.frozen?, hv])]
  rfl
 have hcp1 : ∀ ty dc sc, (Builtin.copy_ #[65, 65] ty #[.slice (some ⟨g, (i + 1) * 3, none⟩) (n + 1 - (i + 1)) dc, .slice (some ⟨g, i * 3, none⟩) (n + 1 - i) sc]).run Tryz.prog w.drew = .ok (goInt (n - i : Nat)) (w.drew.setRow g (cur.toList.take ((i + 1) * 3) ++ (mksL l).drop (i * 3) ++ cur.toList.drop ((i + 1) * 3 + ((mksL l).drop (i * 3)).length)).toArray) := fun ty dc sc =>
  run_copyS w.drew _ _ ty 74 3 g ((i + 1) * 3) (n + 1 - (i + 1)) dc ⟨g, i * 3, none⟩ (n + 1 - i) sc cur _ ((mksL l).drop (i * 3)) (n - i) Tryz.underlying65 szMk hg (by simp only [Nat.min_def]; split <;> omega) hdl
   (fun j v hj => by
    rw [Addr.add_lit]
    rw [List.getElem?_drop, ← hct, List.getElem?_take] at hj
    split at hj
    ·simp only [World.cell?]; rw [show w.drew.heap[g]? = _ from hg]; simpa using hj
    ·cases hj) (by rw [hdl]; omega) (fun v hv => mksL_ones l v (List.mem_of_mem_drop hv))
 generalize hC1 : (cur.toList.take ((i + 1) * 3) ++ (mksL l).drop (i * 3) ++ cur.toList.drop ((i + 1) * 3 + ((mksL l).drop (i * 3)).length)).toArray = C1 at hcp1
 have hC1l : C1.size = cap * 3 := by rw [← hC1]; simp only [List.size_toArray, List.length_append, hdl, List.length_take, List.length_drop, hcl]; omega
 have hcp2 : ∀ (W : World), W.heap = (w.drew.setRow g C1).heap → ∀ ty dc, (Builtin.copy_ #[65, 65] ty #[.slice (some ⟨g, i * 3, none⟩) (n + 1 - i) dc, .slice (some ⟨vb, 0, none⟩) 1 1]).run Tryz.prog W = .ok (goInt (1 : Nat)) (W.setRow g (C1.toList.take (i * 3) ++ mkL m ++ C1.toList.drop (i * 3 + (mkL m).length)).toArray) := fun W hW ty dc =>
  run_copyS W _ _ ty 74 3 g (i * 3) (n + 1 - i) dc ⟨vb, 0, none⟩ 1 1 C1 _ (mkL m) 1 Tryz.underlying65 szMk (by rw [hW]; exact setRow_heap _ _ _ _ _ _ hg) (by simp only [Nat.min_def]; split <;> omega) rfl
   (blk_cells (by rw [hW]; exact (setRow_other _ _ _ _ hvg).trans hv)) (by rw [mkL_len, hC1l]; omega) (mkL_ones m)
 generalize hC2 : (C1.toList.take (i * 3) ++ mkL m ++ C1.toList.drop (i * 3 + (mkL m).length)).toArray = C2 at hcp2
 have hC2l : C2.size = cap * 3 := by
  have : C1.toList.length = cap * 3 := by simpa using hC1l
  rw [← hC2]; simp only [List.size_toArray, List.length_append, mkL_len, List.length_take, List.length_drop, this]; omega
 have hfin : C2.toList.take ((n + 1) * 3) = mksL (insL l i m) := by
  rw [← hC2, ← hC1]
  have := ins_cells cur.toList l m i (by omega) (by rw [hn]; exact hct) (by rw [hn, hcl]; omega)
  rw [hn] at this
  exact this
 have hw1 : IntKind.i64.wrap ((i : Int) + 1) = (i : Int) + 1 := IntWalk.i64_in _ (by omega)
 have hw2 : IntKind.i64.wrap ((n : Int) + 1) = (n : Int) + 1 := IntWalk.i64_in _ (by omega)
 have htn : ((i : Int) + 1).toNat = i + 1 := by omega
 have htn2 : ((n : Int) + 1).toNat = n + 1 := by omega
 have hb2 : ¬ (cap = i + 1) := by omega
 have hb4 : ¬ (cap = i) := by omega
 have hb1 : (0 : Int) ≤ (i : Int) + 1 := by omega
 have hb3 : (i : Int) ≤ (n : Int) + 1 := by omega
 have hin : i ≤ n := by omega
 have hd1 : ((i : Int) == (n : Int)) = false := by simpa using hz2
 have hIL := insL_len l i m (by omega)
 have H := Lib.hid (And.intro hfin (And.intro hC2l hIL)); clear hfin hC2l hIL hC1 hC2 hC1l hdl hcl hct hcs
 have mixed : Tryz.prog.follows Departure.mixedOrders = true := by kernel_rfl
 go_enter Tryz.func243, Tryz.ntmps243
 go_wp2_with (simp only [hov])
 go_region_law_o (refine step_copy_runI rfl _ _ 65 65 rfl (.slice (some ⟨g, (i + 1) * 3, none⟩) (n + 1 - (i + 1)) (cap - (i + 1))) (.slice (some ⟨g, i * 3, none⟩) (n + 1 - i) (cap - i)) (by simp [Act.eval, Act.put]) (by simp [Act.eval, Act.put]) (hcp1 _ _ _) ?_)
 all_goals go_wp2_with (at_builtin; refine wpList_copy_runI _ rfl _ _ 65 65 rfl _ _ rfl rfl (hcp2 _ rfl _ _) ?_)
 all_goals go_returns
 all_goals
  obtain ⟨h1, h2, h3⟩ := H.out
  refine ⟨_, rfl, ?_, below_row (below_row (Below.refl B w).drew hBg _) hBg _⟩
  unfold MOwn
  rw [h3, hn]
  exact ⟨by rw [mksL_len, h3, hn], .inr ⟨g, cap, C2, rfl, hBg, setRow_heap _ _ _ _ _ _ (setRow_heap _ _ _ _ _ _ hg), hroom, hcm, h2, h1⟩⟩
theorem grow_cells (ROW : List Value) (l : List MkV) (m : MkV) (i : Nat) (hi : i ≤ l.length) (h1 : ROW.take (i * 3) = mksL (l.take i)) (hl : (l.length + 1) * 3 ≤ ROW.length) :
  ((ROW.take (i * 3) ++ mkL m ++ ROW.drop (i * 3 + (mkL m).length)).take ((i + 1) * 3) ++ (mksL l).drop (i * 3) ++ (ROW.take (i * 3) ++ mkL m ++ ROW.drop (i * 3 + (mkL m).length)).drop ((i + 1) * 3 + ((mksL l).drop (i * 3)).length)).take ((l.length + 1) * 3) = mksL (insL l i m) := by
 have h2 : (mksL l).drop (i * 3) = mksL (l.drop i) := mksL_drop l i hi
 have e1 : (ROW.take (i * 3) ++ mkL m ++ ROW.drop (i * 3 + (mkL m).length)).take ((i + 1) * 3) = mksL (l.take i) ++ mkL m := by
  rw [List.take_left' (by simp only [List.length_append, List.length_take, mkL_len]; omega), h1]
 rw [e1, h2]
 unfold insL
 rw [mksL_app, show m :: l.drop i = [m] ++ l.drop i from rfl, mksL_app, mksL_one, ← List.append_assoc]
 rw [List.take_left' (by simp only [List.length_append, mksL_len, mkL_len, List.length_take, List.length_drop]; omega)]
theorem ins_grow (B g cap vb : Nat) (l : List MkV) (i : Nat) (m : MkV) (w : World) (hown : MOwn w B (.slice (some ⟨g, 0, none⟩) l.length cap) l) (hv : w.heap[vb]? = some (.cells (mkL m).toArray 74 (0, 0))) (hs : l.length ≤ 1000) (hi : i < l.length) (hroom : ¬ l.length + 1 ≤ cap) (hBw : B ≤ w.heap.size) :
  Calls Tryz.prog 243 #[.slice (some ⟨g, 0, none⟩) l.length cap, .int .i64 i, .slice (some ⟨vb, 0, none⟩) 1 1] w fun e w' => ∃ v', e = .returned v' ∧ MOwn w' B v' (insL l i m) ∧ Below B w w' := by
 obtain ⟨i0, hi0, hz0, hz1, hz2⟩ := info_parts infoMk
 obtain ⟨cur, hg, hnc, hct⟩ : ∃ cur, w.heap[g]? = some (.cells cur 74 (0, 0)) ∧ l.length ≤ cap ∧ cur.toList.take (l.length * 3) = mksL l := by
  rcases hown.2 with ⟨h1, _⟩ | ⟨g', cap', cur, h1, hBg, hg, h2, h3, h4, h5⟩
  ·injection h1 with h1; cases h1
  ·injection h1 with h1 _ h6; injection h1 with h1; injection h1 with h1 _ _; subst h1; subst h6
   exact ⟨cur, hg, h2, h5⟩
 have hcap : cap = l.length := by omega
 subst hcap
 generalize hn : l.length = n at *
 have hgw : g < w.heap.size := (Array.getElem?_eq_some_iff.1 hg).1
 have hvw : vb < w.heap.size := (Array.getElem?_eq_some_iff.1 hv).1
 have hik : i + (n + 1 - i) = n + 1 := by omega
 have htk : (mksL l).take (i * 3) = mksL (l.take i) := mksL_take l i (by omega)
 have htl : (mksL (l.take i)).length = i * 3 := by rw [mksL_len, List.length_take, hn, Nat.min_eq_left (by omega)]
 have hcell : ∀ (W : World), W.heap[g]? = w.heap[g]? → ∀ j v, (mksL l)[j]? = some v → W.cell? ⟨g, j, none⟩ = some v := fun W hW j v hj => by
  rw [← hct, List.getElem?_take] at hj
  split at hj
  ·simp only [World.cell?, hW, hg]; simpa using hj
  ·cases hj
 have hold : (Builtin.firstCells i0.size i (.slice (some ⟨g, 0, none⟩) i n)).run Tryz.prog w.drew = .ok (mksL (l.take i)).toArray w.drew := by
  rw [hz1]
  exact run_firstCells_some w.drew 3 i ⟨g, 0, none⟩ i n (mksL (l.take i)) htl (fun j v hj => by
   rw [Addr.add_lit, Nat.zero_add]
   rw [← htk, List.getElem?_take] at hj
   split at hj
   ·exact hcell w.drew rfl j v hj
   ·cases hj)
 have hkk : (n : Int) + 1 - (i : Int) = ((n + 1 - i : Nat) : Int) := by omega
 have hrz : ∀ ty, (Builtin.append_ #[65, 3] ty #[.slice (some ⟨g, 0, none⟩) i n, .int .i64 ((n : Int) + 1 - (i : Int))]).run Tryz.prog w =
   .ok (.slice (some ⟨w.heap.size, 0, none⟩) (n + 1) (grownCap w (n + 1) n 74)) (w.drew.alloc (.cells ((mksL (l.take i)).toArray ++ Builtin.zeroCells (Value.agg #[.int .u32 0, .int .i64 0, .int .u8 0]).cells (n + 1 - i) ++ Builtin.zeroCells (Value.agg #[.int .u32 0, .int .i64 0, .int .u8 0]).cells (grownCap w (n + 1) n 74 - (n + 1))) 74)) := fun ty => by
  have h := Lib.run_append_grow_zeros w 65 3 ty 74 i0 _ .i64 .i64 Tryz.underlying65 Tryz.underlying3 hi0 hz0 (some ⟨g, 0, none⟩) i n (mksL (l.take i)) hold (n + 1 - i) (by omega) (by omega) (by omega) (by omega) (by rw [hz2]; omega) (by rw [hz2, hik]; exact growslice_fits (by omega) (by omega))
  rw [hik] at h
  rw [hkk]
  exact h
 have hGn : n + 1 ≤ grownCap w (n + 1) n 74 := grownCap_ge w _ _ _
 have hG63 : grownCap w (n + 1) n 74 ≤ maxLen := grownCap_le_maxLen w (n + 1) n _ (by unfold maxLen; omega)
 generalize grownCap w (n + 1) n 74 = G at *
 obtain ⟨ROW, hROW⟩ : ∃ ROW : Array Value, ROW = (mksL (l.take i)).toArray ++ Builtin.zeroCells (Value.agg #[.int .u32 0, .int .i64 0, .int .u8 0]).cells (n + 1 - i) ++ Builtin.zeroCells (Value.agg #[.int .u32 0, .int .i64 0, .int .u8 0]).cells (G - (n + 1)) := ⟨_, rfl⟩
 rw [← hROW] at hrz
 have hRl : ROW.size = G * 3 := by
  rw [hROW]; simp [Builtin.zeroCells, Value.cells, htl]; omega
 have hRt : ROW.toList.take (i * 3) = mksL (l.take i) := by
  rw [hROW]; simp only [Array.toList_append]
  rw [List.append_assoc, List.take_left' htl]
 have hRL : ROW.toList.length = G * 3 := by simpa using hRl
 obtain ⟨W1, hW1⟩ : ∃ W1, W1 = w.drew.alloc (.cells ROW 74) := ⟨_, rfl⟩
 rw [← hW1] at hrz
 have hN1 : W1.heap[w.heap.size]? = some (.cells ROW 74 (0, 0)) := by rw [hW1]; exact heap_alloc_new w.drew _
 have hV1 : W1.heap[vb]? = some (.cells (mkL m).toArray 74 (0, 0)) := by rw [hW1]; exact (heap_alloc_old w.drew _ hvw).trans hv
 have hg1 : W1.heap[g]? = w.heap[g]? := by rw [hW1]; exact heap_alloc_old w.drew _ hgw
 have hcpA : ∀ (W : World), W.heap = W1.heap → ∀ ty dc, (Builtin.copy_ #[65, 65] ty #[.slice (some ⟨w.heap.size, i * 3, none⟩) (n + 1 - i) dc, .slice (some ⟨vb, 0, none⟩) 1 1]).run Tryz.prog W = .ok (goInt (1 : Nat)) (W.setRow w.heap.size (ROW.toList.take (i * 3) ++ mkL m ++ ROW.toList.drop (i * 3 + (mkL m).length)).toArray) := fun W hW ty dc =>
  run_copyS W _ _ ty 74 3 w.heap.size (i * 3) (n + 1 - i) dc ⟨vb, 0, none⟩ 1 1 ROW _ (mkL m) 1 Tryz.underlying65 szMk (by rw [hW]; exact hN1) (by simp only [Nat.min_def]; split <;> omega) rfl
   (blk_cells (by rw [hW]; exact hV1)) (by rw [mkL_len, hRl]; omega) (mkL_ones m)
 have hdl : ((mksL l).drop (i * 3)).length = (n - i) * 3 := by rw [List.length_drop, mksL_len, hn]; omega
 have hfin := grow_cells ROW.toList l m i (by omega) hRt (by rw [hn, hRL]; omega)
 rw [hn] at hfin
 generalize hRA : (ROW.toList.take (i * 3) ++ mkL m ++ ROW.toList.drop (i * 3 + (mkL m).length)) = RA at hcpA hfin
 have hRAl : RA.length = G * 3 := by rw [← hRA]; simp only [List.length_append, mkL_len, List.length_take, List.length_drop, hRL]; omega
 have hcpB : ∀ (W : World), W.heap = (W1.setRow w.heap.size RA.toArray).heap → ∀ ty dc sc, (Builtin.copy_ #[65, 65] ty #[.slice (some ⟨w.heap.size, (i + 1) * 3, none⟩) (n + 1 - (i + 1)) dc, .slice (some ⟨g, i * 3, none⟩) (n - i) sc]).run Tryz.prog W = .ok (goInt (n - i : Nat)) (W.setRow w.heap.size (RA.take ((i + 1) * 3) ++ (mksL l).drop (i * 3) ++ RA.drop ((i + 1) * 3 + ((mksL l).drop (i * 3)).length)).toArray) := fun W hW ty dc sc => by
  have h := run_copyS W 65 65 ty 74 3 w.heap.size ((i + 1) * 3) (n + 1 - (i + 1)) dc ⟨g, i * 3, none⟩ (n - i) sc RA.toArray _ ((mksL l).drop (i * 3)) (n - i) Tryz.underlying65 szMk (by rw [hW]; exact setRow_heap _ _ _ _ _ _ hN1) (by simp only [Nat.min_def]; split <;> omega) hdl
   (fun j v hj => by
    rw [Addr.add_lit]
    rw [List.getElem?_drop] at hj
    exact hcell W (by rw [hW]; exact (setRow_other _ _ _ _ (by omega)).trans hg1) _ v hj) (by rw [hdl]; simp only [List.size_toArray, hRAl]; omega) (fun v hv => mksL_ones l v (List.mem_of_mem_drop hv))
  exact h
 generalize hRB : (RA.take ((i + 1) * 3) ++ (mksL l).drop (i * 3) ++ RA.drop ((i + 1) * 3 + ((mksL l).drop (i * 3)).length)) = RB at hcpB hfin
 have hRBl : RB.length = G * 3 := by rw [← hRB]; simp only [List.length_append, hdl, List.length_take, List.length_drop, hRAl]; omega
 have hIL := insL_len l i m (by omega)
 have hw1 : IntKind.i64.wrap ((i : Int) + 1) = (i : Int) + 1 := IntWalk.i64_in _ (by omega)
 have hw2 : IntKind.i64.wrap ((n : Int) + 1) = (n : Int) + 1 := IntWalk.i64_in _ (by omega)
 have hw3 : IntKind.i64.wrap ((n : Int) + 1 - (i : Int)) = (n : Int) + 1 - (i : Int) := IntWalk.i64_in _ (by omega)
 have htn : ((i : Int) + 1).toNat = i + 1 := by omega
 have hb1 : (0 : Int) ≤ (i : Int) + 1 := by omega
 have hb3 : (i : Int) ≤ (n : Int) := by omega
 have hb5 : (i : Int) + 1 ≤ (n : Int) + 1 := by omega
 have hin : i ≤ n := by omega
 have hGi : ¬ (G = i) := by omega
 have hGim : ¬ (G = i + 1) := by omega
 have hci : ¬ (n = i) := by omega
 have hd1 : ((i : Int) == (n : Int)) = false := by simp; omega
 have hB1 : Below B w W1 := by rw [hW1]; exact (Below.refl B w).drew.alloc hBw _
 have H := Lib.hid (And.intro hfin (And.intro hRBl (And.intro hIL (And.intro hN1 hGn)))); clear hfin hRBl hIL hRA hRB hRAl hRL hRl hRt hROW hdl hct hold htk htl hkk hik hcell hN1 hV1 hg1 hg hv hGn
 have mixed : Tryz.prog.follows Departure.mixedOrders = true := by kernel_rfl
 go_enter Tryz.func243, Tryz.ntmps243
 go_wp2_with (first
  | (at_builtin; refine Lib.wpList_append_run _ rfl _ _ _ _ rfl _ _ rfl rfl _ _ (hrz _) ?_)
  | (at_builtin; refine wpList_copy_runI _ rfl _ _ 65 65 rfl _ _ rfl rfl (hcpA _ rfl _ _) ?_)
  | (at_builtin; refine wpList_copy_runI _ rfl _ _ 65 65 rfl _ _ rfl rfl (hcpB _ rfl _ _ _) ?_))
 go_region_law_o (refine step_copy_runI rfl _ _ 65 65 rfl (.slice (some ⟨w.heap.size, (i + 1) * 3, none⟩) (n + 1 - (i + 1)) (G - (i + 1))) (.slice (some ⟨g, i * 3, none⟩) (n - i) (n - i)) (by simp [Act.eval, Act.put]) (by simp [Act.eval, Act.put]) (hcpB _ (by rw [hW1]; rfl) _ _ _) ?_)
 all_goals go_wp2
 all_goals go_returns
 all_goals
  obtain ⟨h1, h2, h3, h4, h5⟩ := H.out
  have h4' : ((w.alloc (.cells ROW 74)).drew.setRow w.heap.size RA.toArray).drew.heap[w.heap.size]? = some (.cells RA.toArray 74 (0, 0)) := setRow_heap _ _ _ _ _ _ (heap_alloc_new w _)
  refine ⟨_, rfl, ?_, below_row (below_row ((Below.refl B w).alloc hBw (.cells ROW 74)).drew hBw _).drew hBw _⟩
  unfold MOwn
  rw [h3, hn]
  exact ⟨by rw [mksL_len, h3, hn], .inr ⟨w.heap.size, G, RB.toArray, rfl, hBw, setRow_heap _ _ _ _ _ _ h4', h5, hG63, by simpa using h2, h1⟩⟩
theorem insert_any (B vb : Nat) (v : Value) (l : List MkV) (i : Nat) (m : MkV) (w : World) (hown : MOwn w B v l) (hv : w.heap[vb]? = some (.cells (mkL m).toArray 74 (0, 0))) (hs : l.length ≤ 1000) (hi : i ≤ l.length) (hB : B ≤ w.heap.size) (hvg : some vb ≠ v.ownBlock) :
  Calls Tryz.prog 243 #[v, .int .i64 i, .slice (some ⟨vb, 0, none⟩) 1 1] w fun e w' => ∃ v', e = .returned v' ∧ MOwn w' B v' (insL l i m) ∧ Below B w w' := by
 by_cases he : i = l.length
 ·subst he
  exact ins_end B vb v l m w hown hv hs hB
 ·rcases hown.2 with ⟨_, h0⟩ | ⟨g, cap, cur, rfl, _⟩
  ·omega
  ·by_cases hr : l.length + 1 ≤ cap
   ·exact ins_shift B g cap vb l i m w hown hv hs (by omega) hr (fun e => hvg (by simp [Value.ownBlock, e]))
   ·exact ins_grow B g cap vb l i m w hown hv hs (by omega) hr hB
end Go.Proofs.YtdeiocppghhfdaaGreat
namespace Go.Proofs.YtdeiocppghhfdaaGreat
open Go Go.RowKit
variable {F : Fence} {n : Nat} {P : Program} {w : World}
def SeqStopsB {α : Type} (F : Fence) (n : Nat) (P : Program) (g : Nat) (bs lb : Array Value) (encs : α → Array Value) (Kp : World → World → Prop) (S Sp : List α → Prop) (N : Nat) (w : World) : Prop :=
 ∀ (l : Nat) (J Jx : List α → World → Prop) (W : World), Below w.heap.size w W → AbidesFrom W.heap.size J → AbidesFrom W.heap.size Jx →
  (∀ pre x W1, J pre W1 → pre.length < N → YieldAt F (n - 1) P l (encs x) W1 fun e W' =>
   (e = .returned (.bool true) ∧ J (pre ++ [x]) W' ∧ Kp W1 W') ∨ (e = .returned (.bool false) ∧ Jx (pre ++ [x]) W')) →
  J [] W →
  CallsIn F n P g (bs ++ #[.func (.yield l) #[] #[]] ++ lb) W fun e W' => (∃ v, e = .returned v) ∧ ((∃ xs, S xs ∧ J xs W') ∨ (∃ pre, Sp pre ∧ Jx pre W'))
theorem rangeB {α : Type} {g : Operand} {ps : Array Tmp} {assign body : Code} {Q : Exit → Act → World → Prop} {a : Act} {w : World}
  (hro : F.round = none) (h1 : 1 ≤ n) {gf : Nat} {bs lb : Array Value} (hg : a.eval g = .func (.func gf) bs lb) (hFg : F.fn gf) (eg : ∀ args w, (callFunc gf args).run P w = .ok (.enter gf args) w)
  {encs : α → Array Value} {Kp : World → World → Prop} {S Sp : List α → Prop} {N : Nat} {w0 : World} (hseq : SeqStopsB F (n - 1) P gf bs lb encs Kp S Sp N w0)
  (hKt : ∀ {A B C : World}, Kp A B → Kp B C → Kp A C) (hKb : ∀ (W : World) (l : Nat) (o o' : Obj), w.heap.size ≤ l → W.heap[l]? = some o → o.isCells = false → o.isWalk = false → Kp W (W.putObj l o')) (hb0 : Below w0.heap.size w0 w) (hps : ∀ x, (encs x).size = ps.size)
  (I : List α → World → Prop) (Ix : Code → List α → World → Prop) (hI : OwnFrom w.heap.size I) (hIx : ∀ c, OwnFrom w.heap.size (Ix c)) (h0 : I [] w) (Ax : α → Act → World → Prop) (hAx : ∀ x a', OwnFrom w.heap.size (fun (_ : Unit) W => Ax x a' W))
  (hassign : ∀ (l : Nat) (pre : List α) (x : α) (W : World) (K : Act → World → Prop), I pre W → (∀ a' W', KeepsFrom w.heap.size W W' → Kp W W' → I pre W' → Ax x a' W' → K a' W') →
   assign.wpIn (F.inRound l) (n - 1 - 1) P (Exit.then K (fun _ _ _ => False)) { tmps := (ps.zip (encs x)).foldl (fun t (p, v) => t.setIfInBounds p v) a.tmps, defers := [] } W)
  (hbody : ∀ (l : Nat) (pre : List α) (x : α) (a' : Act) (W : World), w.heap.size ≤ l → (∃ r, W.heap[l]? = some (.loop r)) → I pre W → Ax x a' W → pre.length < N → body.wpIn (F.inRound l) (n - 1 - 1) P (ownPostG w.heap.size Kp I Ix (pre ++ [x]) W) a' W)
  (hdone : ∀ (D : Nat) (xs : List α) (W : World), w.heap.size ≤ D → S xs → I xs W → W.heap[D]? = some (.deferred (some [])) → Q .normal { a with defers := { target := .collected D, args := #[] } :: a.defers } W)
  (hstop : ∀ (D : Nat) (c : Code) (pre : List α) (W : World), w.heap.size ≤ D → Sp pre → Ix c pre W → W.heap[D]? = some (.deferred (some [])) → c.wpIn F n P Q { a with defers := { target := .collected D, args := #[] } :: a.defers } W) :
  (Code.rangeFunc g ps assign body).wpIn F n P Q a w := by
 refine wpIn_rangeFunc ?_
 intro fn hfn
 rw [hro]
 obtain ⟨rec, hrec⟩ : ∃ rec : LoopState → Option Code → Loop, rec = fun st pe => { state := st, pending := pe, fn, tmps := a.tmps, params := ps, assign, body, defers := w.heap.size } := ⟨_, rfl⟩
 obtain ⟨W1, hW1⟩ : ∃ W1, (w.alloc (.deferred (some []))).alloc (.loop (rec .ready none)) = W1 := ⟨_, rfl⟩
 have hL1 : W1.heap[w.heap.size + 1]? = some (.loop (rec .ready none)) := by
  rw [← hW1]; have := World.alloc_heap_new (w.alloc (.deferred (some []))) (.loop (rec .ready none)); rwa [World.size_alloc] at this
 have hK1 : W1.heap[w.heap.size]? = some (.deferred (some [])) := by
  rw [← hW1]; exact (Below.heap_alloc _ _ _ (by simp)).trans (World.alloc_heap_new w _)
 have hI1 : I [] W1 := by rw [← hW1]; exact hI.alloc _ (hI.alloc _ h0)
 have hb1 : Below w0.heap.size w0 W1 := by
  rw [← hW1]; exact hb0.trans ((((Below.refl _ w).alloc (Nat.le_refl _) _).alloc (by simp) _).mono hb0.size)
 refine ⟨w.heap.size + 1, [{ target := .collected w.heap.size, args := #[] }], W1, { target := .fn (.func gf) lb, args := bs ++ #[.func (.yield (w.heap.size + 1)) #[] #[]] }, W1, gf,
  bs ++ #[.func (.yield (w.heap.size + 1)) #[] #[]] ++ lb, W1, ?_, ?_, ?_, ?_, fun _ => h1, ?_⟩
 ·rw [← hW1, hrec]; exact run_enterLoop_outer _ _ _ _ _
 ·simp only [resolve, hg]
  simp [go_sem]
 ·intro f' hf'; simp [Target.leads] at hf'; subst hf'; exact hFg
 ·simp [invoke, go_sem, eg]
 ·have hnw : ∀ {A B : World} {row : Option Nat}, (∀ r, row = some r → W1.heap.size ≤ r ∧ ∃ o : Obj, A.heap[r]? = some o ∧ o.isWalk = true) → (∀ r, row = some r → w.heap.size ≤ r ∧ ∃ o : Obj, A.heap[r]? = some o ∧ o.isCells = false) :=
   fun hr r e => by obtain ⟨hB, o, ho, hw⟩ := hr r e; exact ⟨by rw [← hW1] at hB; simp at hB; omega, o, ho, Obj.not_cells_of_walk hw⟩
  refine (hseq (w.heap.size + 1)
   (fun pre W => I pre W ∧ W.heap[w.heap.size + 1]? = some (.loop (rec .ready none)) ∧ W.heap[w.heap.size]? = some (.deferred (some [])))
   (fun pre W => ∃ c, Ix c pre W ∧ W.heap[w.heap.size + 1]? = some (.loop (rec .done (some c))) ∧ W.heap[w.heap.size]? = some (.deferred (some [])))
   W1 hb1
   (fun s A B row hs hg' hr => ⟨hI s A B row hs.1 hg' (hnw (B := B) hr), (grownBy_keeps hg' (fun r e => (hr r e).2) hs.2.1 rfl).trans hs.2.1, (grownBy_keeps hg' (fun r e => (hr r e).2) hs.2.2 rfl).trans hs.2.2⟩)
   (fun s A B row hs hg' hr => by
    obtain ⟨c, hc, hl, hk⟩ := hs
    exact ⟨c, hIx c s A B row hc hg' (hnw (B := B) hr), (grownBy_keeps hg' (fun r e => (hr r e).2) hl rfl).trans hl, (grownBy_keeps hg' (fun r e => (hr r e).2) hk rfl).trans hk⟩)
   ?_ ⟨hI1, hL1, hK1⟩).mono ?_
  ·rintro pre x W ⟨hi, hl, hk⟩ hlen
   have hlt : w.heap.size + 1 < W.heap.size := (Array.getElem?_eq_some_iff.1 hl).1
   have hy := run_yield (P := P) (args := encs x) hl (by rw [hrec]; exact hps x)
   rw [hrec] at hy
   refine ⟨fn, _, assign, body, hy, roundIn_of_wpIn hfn (hassign _ pre x W _ hi ?_)⟩
   clear hy
   intro a' Wa hkfa hkpa hia hax
   replace hl := hkfa.same _ _ (by omega) hl rfl
   replace hk := hkfa.same _ _ (Nat.le_refl _) hk rfl
   replace hlt : w.heap.size + 1 < Wa.heap.size := (Array.getElem?_eq_some_iff.1 hl).1
   replace hi := hia
   clear hia
   revert hkpa hkfa
   generalize W = Wb
   intro hkfa hkpa
   obtain ⟨W, rfl⟩ : ∃ W, W = Wa := ⟨_, rfl⟩
   refine ⟨_, run_beginRound hl (by rw [hrec]), ?_⟩
   have hl2 : (W.putObj (w.heap.size + 1) (.loop { rec .ready none with state := .busy })).heap[w.heap.size + 1]? = some (.loop { rec .ready none with state := .busy }) := World.putObj_heap_same hlt
   have hk2 : (W.putObj (w.heap.size + 1) (.loop { rec .ready none with state := .busy })).heap[w.heap.size]? = some (.deferred (some [])) := (World.putObj_heap_other (by omega)).trans hk
   have hw2 : Kp W (W.putObj (w.heap.size + 1) (.loop { rec .ready none with state := .busy })) := hKb _ _ _ _ (by omega) hl rfl rfl
   refine wpIn_mono (hbody _ pre x a' _ (by omega) ⟨_, hl2⟩ (hI.putObj _ hi (by omega) hl rfl) ((hAx x a').putObj (s := ()) _ hax (by omega) hl rfl) hlen) ?_
   have fin : ∀ (jump : Option Code) (W3 : World), KeepsFrom w.heap.size (W.putObj (w.heap.size + 1) (.loop { rec .ready none with state := .busy })) W3 →
     (Instr.endRound (w.heap.size + 1) jump).run P W3 = .ok (.bool jump.isNone) (W3.putObj (w.heap.size + 1) (.loop (rec (if jump.isNone then .ready else .done) jump))) ∧
     W3.heap[w.heap.size + 1]? = some (.loop { rec .ready none with state := .busy }) ∧
     (W3.putObj (w.heap.size + 1) (.loop (rec (if jump.isNone then .ready else .done) jump))).heap[w.heap.size + 1]? = some (.loop (rec (if jump.isNone then .ready else .done) jump)) ∧
     (W3.putObj (w.heap.size + 1) (.loop (rec (if jump.isNone then .ready else .done) jump))).heap[w.heap.size]? = some (.deferred (some [])) := fun jump W3 hk3 => by
    have hl3 := hk3.same _ _ (by omega) hl2 rfl
    have := run_endRound (P := P) jump hl3
    rw [hrec] at this ⊢
    exact ⟨this, by rw [hrec] at hl3; exact hl3, World.putObj_heap_same (Array.getElem?_eq_some_iff.1 hl3).1, (World.putObj_heap_other (by omega)).trans (hk3.same _ _ (Nat.le_refl _) hk2 rfl)⟩
   rintro e a3 W3 hp
   cases e with
   | normal =>
    obtain ⟨hk3, hkp3, hi3⟩ := hp
    obtain ⟨hr, hl3, hl4, hk4⟩ := fin none W3 hk3
    exact ⟨_, _, hr, .inl ⟨rfl, ⟨hI.putObj _ hi3 (by omega) hl3 rfl, hl4, hk4⟩, hKt hkpa (hKt (hKt hw2 hkp3) (hKb _ _ _ _ (by omega) hl3 rfl rfl))⟩⟩
   | ret =>
    obtain ⟨hk3, hi3⟩ := hp
    obtain ⟨hr, hl3, hl4, hk4⟩ := fin (some .ret) W3 hk3
    exact ⟨_, _, hr, .inr ⟨rfl, .ret, (hIx _).putObj _ hi3 (by omega) hl3 rfl, hl4, hk4⟩⟩
   | exit id =>
    obtain ⟨hk3, hi3⟩ := hp
    obtain ⟨hr, hl3, hl4, hk4⟩ := fin (some (.exit id)) W3 hk3
    exact ⟨_, _, hr, .inr ⟨rfl, .exit id, (hIx _).putObj _ hi3 (by omega) hl3 rfl, hl4, hk4⟩⟩
   | goto t =>
    obtain ⟨hk3, hi3⟩ := hp
    obtain ⟨hr, hl3, hl4, hk4⟩ := fin (some (.goto t)) W3 hk3
    exact ⟨_, _, hr, .inr ⟨rfl, .goto t, (hIx _).putObj _ hi3 (by omega) hl3 rfl, hl4, hk4⟩⟩
   | panic ch => exact hp.elim
   | outgrown => exact hp.elim
  ·rintro e W2 ⟨⟨v, rfl⟩, (⟨xs, hS, hi, hl, hk⟩ | ⟨pre, hSp, c, hi, hl, hk⟩)⟩
   ·exact ⟨none, _, by have := run_endLoop (P := P) hl (by rw [hrec]; simp); rw [hrec] at this; exact this, hdone _ xs _ (Nat.le_refl _) hS (hI.putObj _ hi (by omega) hl rfl) ((World.putObj_heap_other (by omega)).trans hk)⟩
   ·exact ⟨some c, _, by have := run_endLoop (P := P) hl (by rw [hrec]; simp); rw [hrec] at this; exact this, hstop _ c pre _ (Nat.le_refl _) hSp ((hIx c).putObj _ hi (by omega) hl rfl) ((World.putObj_heap_other (by omega)).trans hk)⟩
end Go.Proofs.YtdeiocppghhfdaaGreat
