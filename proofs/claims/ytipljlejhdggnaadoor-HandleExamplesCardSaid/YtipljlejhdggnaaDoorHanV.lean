/- Before and Sort of the reference. -/
import Derived.Test.YtipljlejhdggnaaDoorHanT
namespace Go.Proofs.YtipljlejhdggnaaDoor
open Go.RowKit Go.Lib

set_option maxHeartbeats 1000000 in
theorem before_any (x y : UInt64) (W : World) : Calls Tryd.prog 45 #[.int .u64 (x.toNat : Int), .int .u64 (y.toNat : Int)] W fun e w' => e = .returned (.bool (ltH x y)) ∧ w' = W := by
  obtain ⟨a, ha⟩ : ∃ a, a = x.toNat := ⟨_, rfl⟩
  obtain ⟨b, hb⟩ : ∃ b, b = y.toNat := ⟨_, rfl⟩
  rw [← ha, ← hb]
  have Ha := Lib.hid ha
  have Hb := Lib.hid hb
  clear ha hb
  go_enter Tryd.func45, Tryd.ntmps45
  go_wp2
  all_goals go_returns
  all_goals refine ⟨ret_bool ?_, rfl⟩
  all_goals (unfold ltH; rw [← Ha.out, ← Hb.out]; clear Ha Hb; rw [Bool.eq_iff_iff]; simp at *; omega)

/-- The place of x in the row l. -/
def kOf (x : UInt64) : List UInt64 → Nat
  | [] => 0
  | a :: l => if ltH a x then kOf x l + 1 else 0
theorem kOf_le (x : UInt64) : ∀ l : List UInt64, kOf x l ≤ l.length
  | [] => Nat.le_refl _
  | a :: l => by
    unfold kOf
    have := kOf_le x l
    split <;> simp <;> omega
theorem kOf_lt (x : UInt64) : ∀ (l : List UInt64) (k : Nat) (a : UInt64), k < kOf x l → l[k]? = some a → ltH a x = true
  | [], k, a, h, _ => by simp [kOf] at h
  | b :: l, k, a, h, ha => by
    unfold kOf at h
    split at h
    · rename_i hb
      cases k with
      | zero => simp at ha; rw [← ha]; exact hb
      | succ k => exact kOf_lt x l k a (by omega) (by simpa using ha)
    · omega
theorem kOf_at (x : UInt64) : ∀ (l : List UInt64) (a : UInt64), l[kOf x l]? = some a → ltH a x = false
  | [], a, ha => by simp [kOf] at ha
  | b :: l, a, ha => by
    unfold kOf at ha
    split at ha
    · exact kOf_at x l a (by simpa using ha)
    · rename_i hb
      simp at ha
      rw [← ha]
      simpa using hb

def insH (l : List UInt64) (x : UInt64) : List UInt64 := (l.take (kOf x l) ++ [x]) ++ l.drop (kOf x l + (if l[kOf x l]? = some x then 1 else 0))
theorem insH_len (l : List UInt64) (x : UInt64) : (insH l x).length ≤ l.length + 1 := by
  unfold insH
  have := kOf_le x l
  simp
  split <;> omega
def refSet (l : List UInt64) : List UInt64 := l.foldl insH []
theorem refSet_snoc (l : List UInt64) (x : UInt64) : refSet (l ++ [x]) = insH (refSet l) x := by unfold refSet; simp
theorem refSet_len (l : List UInt64) : ∀ k, (refSet (l.take k)).length ≤ k := by
  intro k
  induction k with
  | zero => simp [refSet]
  | succ k ih =>
    by_cases h : k < l.length
    · rw [List.take_add_one, List.getElem?_eq_getElem h]
      simp only [Option.toList_some]
      rw [refSet_snoc]
      have := insH_len (refSet (l.take k)) l[k]
      omega
    · rw [List.take_of_length_le (by omega)] at ih ⊢
      omega

def ORel (w : World) (za : List UInt64) (o i : Value) (wr : World) : Prop := ∃ k : Nat, i = .int .i64 k ∧ k ≤ za.length ∧ wr.ownsRow w.heap.size 23 1 o (refSet (za.take k)).length ((refSet (za.take k)).map hv) ∧ Below w.heap.size w wr
def IRel (W1 : World) (out : List UInt64) (x : UInt64) (n i : Value) (wr : World) : Prop := ∃ k : Nat, i = .int .i64 k ∧ k ≤ kOf x out ∧ wr.ownsRow W1.heap.size 23 1 n k ((out.take k).map hv) ∧ Below W1.heap.size W1 wr

theorem own_mono {w : World} {base base' : Nat} {e : TypeId} {size : Nat} {v : Value} {n : Nat} {xs : List Value} (h : w.ownsRow base e size v n xs) (hb : base' ≤ base) : w.ownsRow base' e size v n xs := by
  refine ⟨h.1, ?_⟩
  rcases h.2 with h | ⟨g, cap, cur, h1, h2, h3⟩
  · exact .inl h
  · exact .inr ⟨g, cap, cur, h1, Nat.le_trans hb h2, h3⟩
theorem drop_cells {w : World} {base g n cap : Nat} {e : TypeId} {out : List UInt64} (h : w.ownsRow base e 1 (.slice (some ⟨g, 0, none⟩) n cap) n (out.map hv)) (q : Nat) : ∀ j u, ((out.drop q).map hv)[j]? = some u → w.cell? ((⟨g, q, none⟩ : Addr).add j) = some u := by
  intro j u hj
  have hn : n = out.length := by have := h.1; simp at this; omega
  rw [List.getElem?_map, List.getElem?_drop] at hj
  have hlt3 : q + j < n * 1 := by
    rcases Nat.lt_or_ge (q + j) out.length with h | h
    · omega
    · rw [List.getElem?_eq_none (by omega)] at hj; simp at hj
  rw [Addr.add_lit, h.cellAt _ hlt3, List.getElem?_map]
  exact hj
theorem ones_h (l : List UInt64) : ∀ u ∈ l.map hv, u.oneCell' = true := by
  intro u hu
  obtain ⟨z, _, rfl⟩ := List.mem_map.1 hu
  rfl
theorem own_cap {w : World} {base : Nat} {e : TypeId} {size g cap : Nat} {n m : Nat} {xs : List Value} (h : w.ownsRow base e size (.slice (some ⟨g, 0, none⟩) n cap) m xs) : n ≤ cap := by
  rcases h.2 with ⟨h1, _⟩ | ⟨g', cap', cur, h1, _, _, h3, _⟩
  · cases h1
  · cases h1; exact h3
theorem own_ways {w : World} {base : Nat} {e : TypeId} {size : Nat} {v : Value} {n : Nat} {xs : List Value} (h : w.ownsRow base e size v n xs) : (v = .slice none 0 0 ∧ n = 0) ∨ ∃ g cap, v = .slice (some ⟨g, 0, none⟩) n cap := by
  rcases h.2 with h | ⟨g, cap, cur, h1, _⟩
  · exact .inl h
  · exact .inr ⟨g, cap, h1⟩
theorem fin_row {w : World} {base base' : Nat} {e : TypeId} {v : Value} {n : Nat} {a b : List UInt64} {x : UInt64} (h : w.ownsRow base e 1 v n ((a.map hv ++ [.int .u64 (x.toNat : Int)]) ++ b.map hv)) (hb : base' ≤ base) (hn : n = ((a ++ [x]) ++ b).length) : w.ownsRow base' e 1 v ((a ++ [x]) ++ b).length (((a ++ [x]) ++ b).map hv) := by
  subst hn
  have h2 := own_mono h hb
  rw [List.map_append, List.map_append]
  exact h2

set_option maxHeartbeats 2000000 in
theorem refSort_some (w : World) (b off c : Nat) (za : List UInt64) (hs : za.length ≤ 1000000) (h : ∀ j u, za[j]? = some u → w.cell? ⟨b, off + j, none⟩ = some (hv u)) :
    Calls Tryd.prog 37 #[.slice (some ⟨b, off, none⟩) za.length c] w fun e w' => ∃ v, e = .returned v ∧ w'.ownsRow w.heap.size 23 1 v (refSet za).length ((refSet za).map hv) ∧ Below w.heap.size w w' := by
  obtain ⟨i0, hi, hz0, hz1, hz2⟩ := info_parts Tryd.infoH
  have H := Lib.hid h
  clear h
  go_enter Tryd.func37, Tryd.ntmps37
  go_wp2
  go_loopw [3, 4] (fun o i wr => ORel w za o i wr) (fun o i wr => za.length - (intOf i).toNat)
  case atStart => exact ⟨0, rfl, by omega, World.ownsRow_nil _ _ _ _, Below.refl _ _⟩
  case round =>
    obtain ⟨k, rfl, hk, hown, hB⟩ := hrel
    by_cases hlt : k < za.length
    · obtain ⟨x, hx⟩ : ∃ x, za[k]? = some x := ⟨_, List.getElem?_eq_getElem hlt⟩
      have cx0 := H.out k x hx
      have hb := cell_size cx0
      have hll := refSet_len za k
      have Hx := Lib.hid hx
      clear hx
      obtain ⟨out, hout⟩ : ∃ out, out = refSet (za.take k) := ⟨_, rfl⟩
      rw [← hout] at hown hll
      have Hout := Lib.hid hout
      clear hout
      have hxs : ∀ W, Below w.heap.size w W → W.cell? ⟨b, off + k, none⟩ = some (.int .u64 (x.toNat : Int)) := fun W hW => (hW.cell hb).trans cx0
      clear cx0
      have hle := kOf_le x out
      obtain ⟨W1, rfl⟩ : ∃ W1, W1 = wr := ⟨wr, rfl⟩
      go_wp2
      go_loopw [5, 6] (fun n i wx => IRel W1 out x n i wx) (fun n i wx => kOf x out - (intOf i).toNat)
      case atStart => exact ⟨0, rfl, by omega, World.ownsRow_nil _ _ _ _, Below.refl _ _⟩
      case round =>
        obtain ⟨q, rfl, hq, hn, hB1⟩ := hrel
        have hBx := hB.trans (hB1.mono hB.size)
        have cx := hxs _ hBx
        by_cases hqk : q < kOf x out
        · obtain ⟨y, hy⟩ : ∃ y, out[q]? = some y := ⟨_, List.getElem?_eq_getElem (by omega)⟩
          have hlt2 : q < out.length := by omega
          obtain ⟨g, cap, rfl⟩ : ∃ g cap, u3 = .slice (some ⟨g, 0, none⟩) out.length cap := by
            obtain ⟨m, hm⟩ : ∃ m, out.length = m + 1 := ⟨out.length - 1, by omega⟩
            rw [hm] at hown ⊢
            exact ownsRow_succ hown
          have ho := own_below hown hB1
          have cy : wr.cell? ⟨g, q, none⟩ = some (.int .u64 (y.toNat : Int)) := by
            rw [ho.cellAt q (by omega), List.getElem?_map, hy]; rfl
          have hbf := kOf_lt x out q y hqk hy
          have cb := fun W => before_any y x W
          rw [hbf] at cb
          have ez : (out.take (q + 1)).map hv = (out.take q).map hv ++ [hv y] := by
            rw [List.take_add_one, hy, List.map_append]; rfl
          have Ez := Lib.hid ez
          clear hy hbf ez ho
          go_wp2_with fail
          go_quiet (first | (go_at_call 45; refine Calls.quiet_of_same (cb _)))
          have hn' := own_below hn (below_drewN' _ nq)
          have hB2 := below_drewN hB1 nq
          go_wp2_with (at_builtin; refine wpList_append_own _ rfl _ _ 44 rfl W1.heap.size 23 i0 (.int .u64 0) 1 8 Tryd.underlying44 hi hz0 hz1 hz2 rfl (by decide) _ _ _ rfl (hn'.alloc _) ⟨_, 0, none⟩ 1 1 [.int .u64 (y.toNat : Int)] rfl rfl (cell_one_new _ _ _) (by simp [Value.oneCell']) (by unfold maxLen; omega) (by omega) (by have := hB2.size; simp at *; omega) ?_; intro v' w3 hown' hgrow _)
          have hB3 : Below W1.heap.size W1 w3 := (hB2.alloc hB2.size _).grown hgrow (by have := hB2.size; simp at *; omega) fun k hk => (hn'.lt k hk).1
          go_roundw
          case rel => exact ⟨q + 1, rfl, by omega, by rw [Ez.out]; exact hown', hB3⟩
          case measure => simp [intOf]; omega
        · have hqe : q = kOf x out := by omega
          have hqle : q ≤ out.length := by omega
          have Hqe := Lib.hid hqe
          have Hle := Lib.hid hle
          clear hqk hq hle
          by_cases hend : q = out.length
          · have hins : insH out x = (out.take (kOf x out) ++ [x]) ++ out.drop (kOf x out) := by
              unfold insH
              rw [← hqe, hend, List.getElem?_eq_none (Nat.le_refl _)]
              simp
            rw [← hqe] at hins
            have Hins := Lib.hid hins
            have hd : ¬ q < out.length := by omega
            clear hins hend hqe
            rcases own_ways hown with ⟨hv0, hl0⟩ | ⟨g, cap, rfl⟩
            · subst hv0
              have hq0 : q = 0 := by omega
              subst hq0
              go_wp2_with fail
              go_quiet (fail)
              have hn' := own_below hn (below_drewN' _ nq)
              have hB2 := below_drewN hB1 nq
              have cx2 := hxs _ (below_drewN hBx nq)
              go_wp2_with (at_builtin; refine wpList_append_own _ rfl _ _ 44 rfl W1.heap.size 23 i0 (.int .u64 0) 1 8 Tryd.underlying44 hi hz0 hz1 hz2 rfl (by decide) _ _ _ rfl (hn'.alloc _) ⟨_, 0, none⟩ 1 1 [.int .u64 (x.toNat : Int)] rfl rfl (cell_one_new _ _ _) (by simp [Value.oneCell']) (by unfold maxLen; omega) (by omega) (by have := hB2.size; simp at *; omega) ?_; intro v' w3 hown' hgrow _)
              have hB3 : Below W1.heap.size W1 w3 := (hB2.alloc hB2.size _).grown hgrow (by have := hB2.size; simp at *; omega) fun k hk => (hn'.lt k hk).1
              clear hgrow hn'
              go_wp2_with fail
              go_quiet (fail)
              have hB5 := below_drewN hB3 nq
              have hown5 := own_below hown' (below_drewN' _ nq)
              obtain ⟨g, cap, rfl⟩ := ownsRow_succ hown5
              have hcap := own_cap hown5
              have hap : ∀ ty, (Builtin.append_ #[44, 44] ty #[.slice (some ⟨g, 0, none⟩) (0 + 1) cap, .slice none 0 0]).run Tryd.prog (w3.drewN nq) = .ok (.slice (some ⟨g, 0, none⟩) (0 + 1) cap) (w3.drewN nq) := fun ty => run_append_owned_none _ _ _ ty _ i0 1 Tryd.underlying44 hi _ _ _ hown5
              rw [Nat.zero_add] at hap
              go_wp2
              have hB7 := hB.trans (hB5.mono hB.size)
              go_roundw
              case rel =>
                have h0 : out = [] := List.length_eq_zero_iff.1 hl0
                subst h0
                exact ⟨k + 1, rfl, by omega, by rw [List.take_add_one, Hx.out]; simp only [Option.toList_some]; rw [refSet_snoc, ← Hout.out, Hins.out]; exact fin_row (a := []) (b := []) (by simpa using hown5) hB.size rfl, hB7⟩
              case measure => simp [intOf]; omega
            · go_wp2_with fail
              go_quiet (fail)
              have hn' := own_below hn (below_drewN' _ nq)
              have hB2 := below_drewN hB1 nq
              have cx2 := hxs _ (below_drewN hBx nq)
              go_wp2_with (at_builtin; refine wpList_append_own _ rfl _ _ 44 rfl W1.heap.size 23 i0 (.int .u64 0) 1 8 Tryd.underlying44 hi hz0 hz1 hz2 rfl (by decide) _ _ _ rfl (hn'.alloc _) ⟨_, 0, none⟩ 1 1 [.int .u64 (x.toNat : Int)] rfl rfl (cell_one_new _ _ _) (by simp [Value.oneCell']) (by unfold maxLen; omega) (by omega) (by have := hB2.size; simp at *; omega) ?_; intro v' w3 hown' hgrow _)
              have hB3 : Below W1.heap.size W1 w3 := (hB2.alloc hB2.size _).grown hgrow (by have := hB2.size; simp at *; omega) fun k hk => (hn'.lt k hk).1
              clear hgrow hn'
              go_wp2_with fail
              go_quiet (fail)
              have hB5 := below_drewN hB3 nq
              have hown5 := own_below hown' (below_drewN' _ nq)
              have ho5 := own_below hown hB5
              have hlen5 : ((out.drop q).map hv).length = (out.length - q) * 1 := by simp
              by_cases hcq : q = cap
              · have hlen6 : ((out.drop q).map hv).length = (out.length - cap) * 1 := by rw [← hcq]; exact hlen5
                have hnews : ∀ j u, ((out.drop q).map hv)[j]? = some u → (w3.drewN nq).cell? ((⟨g, 0, none⟩ : Addr).add j) = some u := by
                  intro j u hj
                  rw [List.drop_eq_nil_of_le (by omega)] at hj
                  simp at hj
                go_wp2_with (at_builtin; refine wpList_append_own _ rfl _ _ 44 rfl W1.heap.size 23 i0 (.int .u64 0) 1 8 Tryd.underlying44 hi hz0 hz1 hz2 rfl (by decide) _ _ _ rfl hown5 ⟨g, 0, none⟩ _ _ ((out.drop q).map hv) rfl hlen6 hnews (ones_h _) (by unfold maxLen; omega) (by omega) (by have := hB5.size; omega) ?_; intro v'' w6 hown6 hgrow6 _)
                have hB6 : Below W1.heap.size W1 w6 := hB5.grown hgrow6 (by have := hB5.size; omega) fun k hk => (hown5.lt k hk).1
                have hB7 := hB.trans (hB6.mono hB.size)
                go_roundw
                case rel => exact ⟨k + 1, rfl, by omega, by rw [List.take_add_one, Hx.out]; simp only [Option.toList_some]; rw [refSet_snoc, ← Hout.out, Hins.out]; exact fin_row hown6 hB.size (by simp; omega), hB7⟩
                case measure => simp [intOf]; omega
              · have hnews := drop_cells ho5 q
                go_wp2_with (at_builtin; refine wpList_append_own _ rfl _ _ 44 rfl W1.heap.size 23 i0 (.int .u64 0) 1 8 Tryd.underlying44 hi hz0 hz1 hz2 rfl (by decide) _ _ _ rfl hown5 ⟨g, q, none⟩ _ _ ((out.drop q).map hv) rfl hlen5 hnews (ones_h _) (by unfold maxLen; omega) (by omega) (by have := hB5.size; omega) ?_; intro v'' w6 hown6 hgrow6 _)
                have hB6 : Below W1.heap.size W1 w6 := hB5.grown hgrow6 (by have := hB5.size; omega) fun k hk => (hown5.lt k hk).1
                have hB7 := hB.trans (hB6.mono hB.size)
                go_roundw
                case rel => exact ⟨k + 1, rfl, by omega, by rw [List.take_add_one, Hx.out]; simp only [Option.toList_some]; rw [refSet_snoc, ← Hout.out, Hins.out]; exact fin_row hown6 hB.size (by simp; omega), hB7⟩
                case measure => simp [intOf]; omega
          · obtain ⟨y, hy⟩ : ∃ y, out[q]? = some y := ⟨_, List.getElem?_eq_getElem (by omega)⟩
            have hlt2 : q < out.length := by omega
            obtain ⟨g, cap, rfl⟩ : ∃ g cap, u3 = .slice (some ⟨g, 0, none⟩) out.length cap := by
              obtain ⟨m, hm⟩ : ∃ m, out.length = m + 1 := ⟨out.length - 1, by omega⟩
              rw [hm] at hown ⊢
              exact ownsRow_succ hown
            have ho := own_below hown hB1
            have cy : wr.cell? ⟨g, q, none⟩ = some (.int .u64 (y.toNat : Int)) := by
              rw [ho.cellAt _ (by omega), List.getElem?_map, hy]; rfl
            have hbf := kOf_at x out y (hqe ▸ hy)
            have cb := fun W => before_any y x W
            rw [hbf] at cb
            have Hy := Lib.hid hy
            clear hy hbf hend hqe
            go_wp2_with fail
            go_quiet (first | (go_at_call 45; refine Calls.quiet_of_same (cb _)))
            have hn' := own_below hn (below_drewN' _ nq)
            have hB2 := below_drewN hB1 nq
            have cx2 := hxs _ (below_drewN hBx nq)
            go_wp2_with (at_builtin; refine wpList_append_own _ rfl _ _ 44 rfl W1.heap.size 23 i0 (.int .u64 0) 1 8 Tryd.underlying44 hi hz0 hz1 hz2 rfl (by decide) _ _ _ rfl (hn'.alloc _) ⟨_, 0, none⟩ 1 1 [.int .u64 (x.toNat : Int)] rfl rfl (cell_one_new _ _ _) (by simp [Value.oneCell']) (by unfold maxLen; omega) (by omega) (by have := hB2.size; simp at *; omega) ?_; intro v' w3 hown' hgrow _)
            have hB3 : Below W1.heap.size W1 w3 := (hB2.alloc hB2.size _).grown hgrow (by have := hB2.size; simp at *; omega) fun k hk => (hn'.lt k hk).1
            clear hgrow hn'
            have ho3 := own_below hown hB3
            have hcap : out.length ≤ cap := own_cap ho3
            have cy3 : w3.cell? ⟨g, q, none⟩ = some (.int .u64 (y.toNat : Int)) := by
              rw [ho3.cellAt _ (by omega), List.getElem?_map, Hy.out]; rfl
            have cx3 := hxs _ (hB.trans (hB3.mono hB.size))
            by_cases hyx : y = x
            · have hd : ((y.toNat : Int) == (x.toNat : Int)) = true := by rw [hyx]; simp
              have hins : insH out x = (out.take q ++ [x]) ++ out.drop (q + 1) := by
                unfold insH
                rw [← Hqe.out, Hy.out, hyx, if_pos rfl]
              have Hins := Lib.hid hins
              clear hins hyx ho3
              go_wp2_with fail
              go_quiet (fail)
              have hB5 := below_drewN hB3 nq
              have hown5 := own_below hown' (below_drewN' _ nq)
              have ho5 := own_below hown hB5
              have hlen5 : ((out.drop (q + 1)).map hv).length = (out.length - (q + 1)) * 1 := by simp
              by_cases hcq : q + 1 = cap
              · have hlen7 : ((out.drop (q + 1)).map hv).length = 0 * 1 := by simp; omega
                have hnews : ∀ j u, ((out.drop (q + 1)).map hv)[j]? = some u → (w3.drewN nq).cell? ((⟨g, 0, none⟩ : Addr).add j) = some u := by
                  intro j u hj
                  rw [List.drop_eq_nil_of_le (by omega)] at hj
                  simp at hj
                go_wp2_with (at_builtin; refine wpList_append_own _ rfl _ _ 44 rfl W1.heap.size 23 i0 (.int .u64 0) 1 8 Tryd.underlying44 hi hz0 hz1 hz2 rfl (by decide) _ _ _ rfl hown5 ⟨g, 0, none⟩ _ _ ((out.drop (q + 1)).map hv) rfl hlen7 hnews (ones_h _) (by unfold maxLen; omega) (by omega) (by have := hB5.size; omega) ?_; intro v'' w6 hown6 hgrow6 _)
                have hB6 : Below W1.heap.size W1 w6 := hB5.grown hgrow6 (by have := hB5.size; omega) fun k hk => (hown5.lt k hk).1
                have hB7 := hB.trans (hB6.mono hB.size)
                go_roundw
                case rel => exact ⟨k + 1, rfl, by omega, by rw [List.take_add_one, Hx.out]; simp only [Option.toList_some]; rw [refSet_snoc, ← Hout.out, Hins.out]; exact fin_row hown6 hB.size (by simp; omega), hB7⟩
                case measure => simp [intOf]; omega
              · have hnews := drop_cells ho5 (q + 1)
                go_wp2_with (at_builtin; refine wpList_append_own _ rfl _ _ 44 rfl W1.heap.size 23 i0 (.int .u64 0) 1 8 Tryd.underlying44 hi hz0 hz1 hz2 rfl (by decide) _ _ _ rfl hown5 ⟨g, q + 1, none⟩ _ _ ((out.drop (q + 1)).map hv) rfl hlen5 hnews (ones_h _) (by unfold maxLen; omega) (by omega) (by have := hB5.size; omega) ?_; intro v'' w6 hown6 hgrow6 _)
                have hB6 : Below W1.heap.size W1 w6 := hB5.grown hgrow6 (by have := hB5.size; omega) fun k hk => (hown5.lt k hk).1
                have hB7 := hB.trans (hB6.mono hB.size)
                go_roundw
                case rel => exact ⟨k + 1, rfl, by omega, by rw [List.take_add_one, Hx.out]; simp only [Option.toList_some]; rw [refSet_snoc, ← Hout.out, Hins.out]; exact fin_row hown6 hB.size (by simp; omega), hB7⟩
                case measure => simp [intOf]; omega
            · have hd : ((y.toNat : Int) == (x.toNat : Int)) = false := by
                rw [beq_eq_false_iff_ne]
                intro e
                exact hyx (UInt64.toNat_inj.1 (by omega))
              have hins : insH out x = (out.take q ++ [x]) ++ out.drop q := by
                unfold insH
                rw [← Hqe.out, Hy.out, if_neg (fun e => hyx (Option.some.inj e))]
                rfl
              have Hins := Lib.hid hins
              have hcq : ¬ q = cap := by omega
              clear hins hyx ho3
              go_wp2_with fail
              go_quiet (fail)
              have hB5 := below_drewN hB3 nq
              have hown5 := own_below hown' (below_drewN' _ nq)
              have ho5 := own_below hown hB5
              have hlen5 : ((out.drop q).map hv).length = (out.length - q) * 1 := by simp
              have hnews := drop_cells ho5 q
              go_wp2_with (at_builtin; refine wpList_append_own _ rfl _ _ 44 rfl W1.heap.size 23 i0 (.int .u64 0) 1 8 Tryd.underlying44 hi hz0 hz1 hz2 rfl (by decide) _ _ _ rfl hown5 ⟨g, q, none⟩ _ _ ((out.drop (q)).map hv) rfl hlen5 hnews (ones_h _) (by unfold maxLen; omega) (by omega) (by have := hB5.size; omega) ?_; intro v'' w6 hown6 hgrow6 _)
              have hB6 : Below W1.heap.size W1 w6 := hB5.grown hgrow6 (by have := hB5.size; omega) fun k hk => (hown5.lt k hk).1
              have hB7 := hB.trans (hB6.mono hB.size)
              go_roundw
              case rel => exact ⟨k + 1, rfl, by omega, by rw [List.take_add_one, Hx.out]; simp only [Option.toList_some]; rw [refSet_snoc, ← Hout.out, Hins.out]; exact fin_row hown6 hB.size (by simp; omega), hB7⟩
              case measure => simp [intOf]; omega
    · go_wp2
      go_returns
      have hkk : k = za.length := by omega
      subst hkk
      rw [List.take_length] at hown
      exact ⟨_, rfl, hown, hB⟩
end Go.Proofs.YtipljlejhdggnaaDoor
