/- quartokit's EqualHandles and CopyHandles; is, valid. -/
import Derived.Test.YtipljlejhdggnaaDoorHanS
import Derived.Handy
import Derived.Deep.AppendLies
import Derived.Deep.QuietTactic
import Derived.BigQuiet
import Derived.RangeFuncBox
import Derived.Maps.AppendAt
namespace Go.Proofs.YtipljlejhdggnaaDoor
open Go.RowKit Go.Lib

/-- A slice of handles that can be read. -/
def Row (w : World) (v : Value) (zs : List UInt64) : Prop :=
  (v = .slice none 0 0 ∧ zs = []) ∨ ∃ b off c, v = .slice (some ⟨b, off, none⟩) zs.length c ∧ ∀ j u, zs[j]? = some u → w.cell? ⟨b, off + j, none⟩ = some (hv u)

theorem Row.own {w : World} {base : Nat} {e : TypeId} {v : Value} {n : Nat} {zs : List UInt64} (h : w.ownsRow base e 1 v n (zs.map hv)) (hn : n = zs.length) : Row w v zs := by
  subst hn
  rcases h.2 with ⟨h1, h2⟩ | ⟨g, cap, cur, h1, _⟩
  · exact .inl ⟨h1, List.length_eq_zero_iff.1 h2⟩
  · refine .inr ⟨g, 0, cap, h1, fun j u hj => ?_⟩
    subst h1
    have hlt := (List.getElem?_eq_some_iff.1 hj).1
    rw [Nat.zero_add, h.cellAt j (by omega), List.getElem?_map, hj]
    rfl

theorem cell_size {w : World} {a : Addr} {v : Value} (h : w.cell? a = some v) : a.block < w.heap.size := by
  rcases Nat.lt_or_ge a.block w.heap.size with h' | h'
  · exact h'
  · simp [World.cell?, Array.getElem?_eq_none h'] at h
theorem Row.on {w w' : World} {v : Value} {zs : List UInt64} (h : Row w v zs) (hb : Below w.heap.size w w') : Row w' v zs := by
  rcases h with h | ⟨b, off, c, h1, h2⟩
  · exact .inl h
  · exact .inr ⟨b, off, c, h1, fun j u hj => by rw [hb.cell (cell_size (h2 j u hj))]; exact h2 j u hj⟩

def ERel (za zb : List UInt64) (w : World) (i : Value) (wr : World) : Prop := ∃ k n : Nat, i = .int .i64 k ∧ wr = w.drewN n ∧ k ≤ za.length ∧ za.take k = zb.take k
theorem below_drewN' (w : World) (n : Nat) : Below w.heap.size w (w.drewN n) := below_drewN (Below.refl _ _) n

theorem take_ext {α : Type} {a b : List α} {k : Nat} (x : α) (h1 : a[k]? = some x) (h2 : b[k]? = some x) (h : a.take k = b.take k) : a.take (k + 1) = b.take (k + 1) := by
  rw [List.take_add_one, List.take_add_one, h, h1, h2]

set_option maxHeartbeats 1000000 in
theorem eqh_some (w : World) (b1 o1 c1 b2 o2 c2 : Nat) (za zb : List UInt64) (hl : za.length = zb.length) (hs : za.length ≤ 1000000)
    (h1 : ∀ j u, za[j]? = some u → w.cell? ⟨b1, o1 + j, none⟩ = some (hv u)) (h2 : ∀ j u, zb[j]? = some u → w.cell? ⟨b2, o2 + j, none⟩ = some (hv u)) :
    Calls Tryd.prog 30 #[.slice (some ⟨b1, o1, none⟩) za.length c1, .slice (some ⟨b2, o2, none⟩) za.length c2] w fun e w' => e = .returned (.bool (decide (za = zb))) ∧ Below w.heap.size w w' := by
  have H1 := Lib.hid h1
  have H2 := Lib.hid h2
  have Hl := Lib.hid hl
  clear h1 h2 hl
  go_enter Tryd.func30, Tryd.ntmps30
  go_wp2
  go_loopw [5] (fun i wr => ERel za zb w i wr) (fun i wr => za.length - (intOf i).toNat)
  case atStart => exact ⟨0, 0, rfl, rfl, by omega, rfl⟩
  case round =>
    obtain ⟨k, n, rfl, rfl, hk, he⟩ := hrel
    have He := Lib.hid he; clear he
    by_cases hlt : k < za.length
    · obtain ⟨x, hx⟩ : ∃ x, za[k]? = some x := ⟨_, List.getElem?_eq_getElem hlt⟩
      obtain ⟨y, hy⟩ : ∃ y, zb[k]? = some y := ⟨_, List.getElem?_eq_getElem (by rw [← Hl.out]; exact hlt)⟩
      have cx := H1.out k x hx
      have cy := H2.out k y hy
      unfold hv at cx cy
      have Hx := Lib.hid hx
      have Hy := Lib.hid hy
      clear hx hy
      by_cases hxy : x = y
      · subst hxy
        go_wp2_with (go_quiet (fail))
        go_roundw
        case rel => exact ⟨k + 1, _, rfl, rfl, by omega, take_ext x Hx.out Hy.out He.out⟩
        case measure => simp [intOf]; omega
      · have hd : ((x.toNat : Int) == (y.toNat : Int)) = false := by
          rw [beq_eq_false_iff_ne]
          intro e
          exact hxy (UInt64.toNat_inj.1 (by omega))
        have hz : za ≠ zb := fun e => by
          have h1 := Hx.out
          rw [e, Hy.out] at h1
          exact hxy (Option.some.inj h1).symm
        have Hz := Lib.hid hz
        clear hxy hz
        go_wp2_with (go_quiet (fail))
        go_returns
        exact ⟨ret_bool (by simp [Hz.out]), below_drewN (below_drewN' _ _) _⟩
    · go_wp2
      go_returns
      refine ⟨ret_bool ?_, below_drewN' _ _⟩
      have hkk : k = za.length := by omega
      have := He.out
      rw [hkk, List.take_length, Hl.out, List.take_length] at this
      simp [this]

set_option maxHeartbeats 1000000 in
theorem eqh_any (w : World) (va vb : Value) (za zb : List UInt64) (ha : Row w va za) (hb : Row w vb zb) (hs : za.length ≤ 1000000) (hs2 : zb.length ≤ 1000000) :
    Calls Tryd.prog 30 #[va, vb] w fun e w' => e = .returned (.bool (decide (za = zb))) ∧ Below w.heap.size w w' := by
  by_cases hl : za.length = zb.length
  · rcases ha with ⟨rfl, rfl⟩ | ⟨b1, o1, c1, rfl, h1⟩
    · obtain rfl : zb = [] := List.length_eq_zero_iff.1 hl.symm
      clear hs hs2 hl
      rcases hb with ⟨rfl, _⟩ | ⟨b2, o2, c2, rfl, h2⟩
      all_goals
        go_enter Tryd.func30, Tryd.ntmps30
        go_wp2
        refine wp_loop_rounds 1 ?_
        rw [rounds_succ]
        go_wp2
        go_returns
        exact ⟨rfl, Below.refl _ _⟩
    · rcases hb with ⟨rfl, rfl⟩ | ⟨b2, o2, c2, rfl, h2⟩
      · obtain rfl : za = [] := List.length_eq_zero_iff.1 hl
        clear hs hs2 hl h1
        go_enter Tryd.func30, Tryd.ntmps30
        go_wp2
        refine wp_loop_rounds 1 ?_
        rw [rounds_succ]
        go_wp2
        go_returns
        exact ⟨rfl, Below.refl _ _⟩
      · rw [← hl]
        exact eqh_some w b1 o1 c1 b2 o2 c2 za zb hl hs h1 h2
  · have hz : decide (za = zb) = false := by
      rw [decide_eq_false_iff_not]
      intro e
      exact hl (by rw [e])
    rw [hz]
    obtain ⟨pa, ca, rfl⟩ : ∃ pa ca, va = .slice pa za.length ca := by
      rcases ha with ⟨rfl, rfl⟩ | ⟨b1, o1, c1, rfl, h1⟩
      · exact ⟨_, _, rfl⟩
      · exact ⟨_, _, rfl⟩
    obtain ⟨pb, cb, rfl⟩ : ∃ pb cb, vb = .slice pb zb.length cb := by
      rcases hb with ⟨rfl, rfl⟩ | ⟨b1, o1, c1, rfl, h1⟩
      · exact ⟨_, _, rfl⟩
      · exact ⟨_, _, rfl⟩
    have hd : ((za.length : Int) == (zb.length : Int)) = false := by
      rw [beq_eq_false_iff_ne]
      intro e
      exact hl (by omega)
    clear ha hb hz hl
    go_enter Tryd.func30, Tryd.ntmps30
    go_wp2
    go_returns
    exact ⟨rfl, Below.refl _ _⟩

theorem Tryd.infoH : (Tryd.prog.info? 23).map (fun i => (i.zero, i.size, i.bytes)) = some (some (.int .u64 0), 1, 8) := by kernel_rfl
theorem own_below {w w' : World} {base : Nat} {e : TypeId} {size : Nat} {v : Value} {n : Nat} {xs : List Value} (h : w.ownsRow base e size v n xs) (hb : Below w.heap.size w w') : w'.ownsRow base e size v n xs := by
  refine ⟨h.1, ?_⟩
  rcases h.2 with hn | ⟨g, cap, cur, rfl, hbs, hgg, rest⟩
  · exact .inl hn
  · exact .inr ⟨g, cap, cur, rfl, hbs, by rw [hb.block g (Array.getElem?_eq_some_iff.1 hgg).1]; exact hgg, rest⟩

def CRel (w : World) (za : List UInt64) (o i : Value) (wr : World) : Prop := ∃ k : Nat, i = .int .i64 k ∧ k ≤ za.length ∧ wr.ownsRow w.heap.size 23 1 o k ((za.take k).map hv) ∧ Below w.heap.size w wr

set_option maxHeartbeats 1000000 in
theorem copyh_any (w : World) (va : Value) (za : List UInt64) (ha : Row w va za) (hs : za.length ≤ 1000000) :
    Calls Tryd.prog 36 #[va] w fun e w' => ∃ v, e = .returned v ∧ w'.ownsRow w.heap.size 23 1 v za.length (za.map hv) ∧ Below w.heap.size w w' := by
  obtain ⟨i0, hi, hz0, hz1, hz2⟩ := info_parts Tryd.infoH
  rcases ha with ⟨rfl, rfl⟩ | ⟨b, off, c, rfl, h⟩
  · clear hi hz0 hz1 hz2 hs
    go_enter Tryd.func36, Tryd.ntmps36
    go_wp2
    refine wp_loop_rounds 1 ?_
    rw [rounds_succ]
    go_wp2
    go_returns
    exact ⟨_, rfl, World.ownsRow_nil _ _ _ _, Below.refl _ _⟩
  · have H := Lib.hid h
    clear h
    go_enter Tryd.func36, Tryd.ntmps36
    go_wp2
    go_loopw [3, 4] (fun o i wr => CRel w za o i wr) (fun o i wr => za.length - (intOf i).toNat)
    case atStart => exact ⟨0, rfl, by omega, World.ownsRow_nil _ _ _ _, Below.refl _ _⟩
    case round =>
      obtain ⟨k, rfl, hk, hown, hB⟩ := hrel
      by_cases hlt : k < za.length
      · obtain ⟨x, hx⟩ : ∃ x, za[k]? = some x := ⟨_, List.getElem?_eq_getElem hlt⟩
        have cx0 := H.out k x hx
        have cx := (hB.cell (cell_size cx0)).trans cx0
        unfold hv at cx
        have Hx := Lib.hid hx
        clear hx cx0
        have ez : (za.take (k + 1)).map hv = (za.take k).map hv ++ [hv x] := by
          rw [List.take_add_one, Hx.out, List.map_append]; rfl
        have Ez := Lib.hid ez
        clear ez
        go_wp2_with (at_builtin; refine wpList_append_own _ rfl _ _ 44 rfl w.heap.size 23 i0 (.int .u64 0) 1 8 Tryd.underlying44 hi hz0 hz1 hz2 rfl (by decide) _ _ _ rfl (hown.alloc _) ⟨_, 0, none⟩ 1 1 [.int .u64 (x.toNat : Int)] rfl rfl (cell_one_new _ _ _) (by simp [Value.oneCell']) (by unfold maxLen; omega) (by omega) (by have := hB.size; simp; omega) ?_; intro v' w3 hown' hgrow _)
        have hB3 : Below w.heap.size w w3 := (hB.alloc hB.size _).grown hgrow (by have := hB.size; simp; omega) fun k hk => (hown.lt k hk).1
        go_roundw
        case rel => exact ⟨k + 1, rfl, by omega, by rw [Ez.out]; exact hown', hB3⟩
        case measure => simp [intOf]; omega
      · go_wp2
        go_returns
        have hkk : k = za.length := by omega
        subst hkk
        rw [List.take_length] at hown
        exact ⟨_, rfl, hown, hB⟩
end Go.Proofs.YtipljlejhdggnaaDoor
