/- quartokit's EqualInts (and CopyInts): rows of integers. -/
import Derived.Test.YtjinnlmmlbmodaaChecked
import Derived.WalkKit
import Derived.WalkSpells
import Derived.WalkLawsBesides
import Derived.Lib.Hide
import Derived.Handy
import Derived.Deep.AppendLies
import Derived.Deep.QuietTactic
import Derived.BigQuiet
import Derived.RangeFuncBox
import Derived.Maps.AppendAt
namespace Go.Proofs.Ytjinnlmmlbmodaa.KitI
open Go.RowKit Go.Lib

def iv (x : Int) : Value := .int .i64 x
theorem ret_bool {a b : Bool} (h : a = b) : Ending.returned (.bool a) = .returned (.bool b) := by rw [h]
theorem cell_size {w : World} {a : Addr} {v : Value} (h : w.cell? a = some v) : a.block < w.heap.size := by
  rcases Nat.lt_or_ge a.block w.heap.size with h' | h'
  · exact h'
  · simp [World.cell?, Array.getElem?_eq_none h'] at h
/-- A slice of integers that can be read. -/
def IRow (w : World) (v : Value) (zs : List Int) : Prop :=
  (v = .slice none 0 0 ∧ zs = []) ∨ ∃ b off c, v = .slice (some ⟨b, off, none⟩) zs.length c ∧ ∀ j u, zs[j]? = some u → w.cell? ⟨b, off + j, none⟩ = some (iv u)
theorem IRow.own {w : World} {base : Nat} {e : TypeId} {v : Value} {n : Nat} {zs : List Int} (h : w.ownsRow base e 1 v n (zs.map iv)) (hn : n = zs.length) : IRow w v zs := by
  subst hn
  rcases h.2 with ⟨h1, h2⟩ | ⟨g, cap, cur, h1, _⟩
  · exact .inl ⟨h1, List.length_eq_zero_iff.1 h2⟩
  · refine .inr ⟨g, 0, cap, h1, fun j u hj => ?_⟩
    subst h1
    have hlt := (List.getElem?_eq_some_iff.1 hj).1
    rw [Nat.zero_add, h.cellAt j (by omega), List.getElem?_map, hj]
    rfl
theorem IRow.on {w w' : World} {v : Value} {zs : List Int} (h : IRow w v zs) (hb : Below w.heap.size w w') : IRow w' v zs := by
  rcases h with h | ⟨b, off, c, h1, h2⟩
  · exact .inl h
  · exact .inr ⟨b, off, c, h1, fun j u hj => by rw [hb.cell (cell_size (h2 j u hj))]; exact h2 j u hj⟩
theorem IRow.nil (w : World) : IRow w (.slice none 0 0) [] := .inl ⟨rfl, rfl⟩
theorem IRow.new (zs : List Int) (cs : Array Value) (T : TypeId) (n c : Nat) (hc : cs = (zs.map iv).toArray) (hl : n = zs.length) (W : World) : IRow (W.alloc (.cells cs T)) (.slice (some ⟨W.heap.size, 0, none⟩) n c) zs := by
  subst hc hl
  refine .inr ⟨_, 0, c, rfl, fun j u hj => ?_⟩
  rw [Nat.zero_add, World.cell?_alloc_new]
  simp [hj]

def ERel (za zb : List Int) (w : World) (i : Value) (wr : World) : Prop := ∃ k n : Nat, i = .int .i64 k ∧ wr = w.drewN n ∧ k ≤ za.length ∧ za.take k = zb.take k
theorem below_drewN' (w : World) (n : Nat) : Below w.heap.size w (w.drewN n) := below_drewN (Below.refl _ _) n
theorem take_ext {α : Type} {a b : List α} {k : Nat} (x : α) (h1 : a[k]? = some x) (h2 : b[k]? = some x) (h : a.take k = b.take k) : a.take (k + 1) = b.take (k + 1) := by
  rw [List.take_add_one, List.take_add_one, h, h1, h2]

set_option maxHeartbeats 1000000 in
theorem eqi_some (w : World) (b1 o1 c1 b2 o2 c2 : Nat) (za zb : List Int) (hl : za.length = zb.length) (hs : za.length ≤ 1000000)
    (h1 : ∀ j u, za[j]? = some u → w.cell? ⟨b1, o1 + j, none⟩ = some (iv u)) (h2 : ∀ j u, zb[j]? = some u → w.cell? ⟨b2, o2 + j, none⟩ = some (iv u)) :
    Calls Try.prog 25 #[.slice (some ⟨b1, o1, none⟩) za.length c1, .slice (some ⟨b2, o2, none⟩) za.length c2] w fun e w' => e = .returned (.bool (decide (za = zb))) ∧ Below w.heap.size w w' := by
  have H1 := Lib.hid h1
  have H2 := Lib.hid h2
  have Hl := Lib.hid hl
  clear h1 h2 hl
  go_enter Try.func25, Try.ntmps25
  go_wp2
  go_loopw [5] (fun i wr => ERel za zb w i wr) (fun i wr => za.length - (intOf i).toNat)
  case atStart => exact ⟨0, 0, rfl, rfl, by omega, rfl⟩
  case round =>
    obtain ⟨k, n, rfl, rfl, hk, he⟩ := hrel
    have He := Lib.hid he; clear he
    by_cases hlt : k < za.length
    · obtain ⟨x, hx⟩ : ∃ x, za[k]? = some x := ⟨_, List.getElem?_eq_getElem hlt⟩
      obtain ⟨y, hy⟩ : ∃ y, zb[k]? = some y := ⟨_, List.getElem?_eq_getElem (by rw [← Hl.out]; exact hlt)⟩
      have cx := H1.out k x hx
      have cy := H2.out k y hy
      unfold iv at cx cy
      have Hx := Lib.hid hx
      have Hy := Lib.hid hy
      clear hx hy
      by_cases hxy : x = y
      · subst hxy
        go_wp2_with (go_quiet (fail))
        go_roundw
        case rel => exact ⟨k + 1, _, rfl, rfl, by omega, take_ext x Hx.out Hy.out He.out⟩
        case measure => simp [intOf]; omega
      · have hd : (x == y) = false := by simpa using hxy
        have hz : za ≠ zb := fun e => by
          have h1 := Hx.out
          rw [e, Hy.out] at h1
          exact hxy (Option.some.inj h1).symm
        have Hz := Lib.hid hz
        clear hxy hz
        go_wp2_with (go_quiet (fail))
        go_returns
        exact ⟨ret_bool (by simp [Hz.out]), below_drewN (below_drewN' _ _) _⟩
    · go_wp2
      go_returns
      refine ⟨ret_bool ?_, below_drewN' _ _⟩
      have hkk : k = za.length := by omega
      have := He.out
      rw [hkk, List.take_length, Hl.out, List.take_length] at this
      simp [this]

set_option maxHeartbeats 1000000 in
theorem eqi_any (w : World) (va vb : Value) (za zb : List Int) (ha : IRow w va za) (hb : IRow w vb zb) (hs : za.length ≤ 1000000) (hs2 : zb.length ≤ 1000000) :
    Calls Try.prog 25 #[va, vb] w fun e w' => e = .returned (.bool (decide (za = zb))) ∧ Below w.heap.size w w' := by
  by_cases hl : za.length = zb.length
  · rcases ha with ⟨rfl, rfl⟩ | ⟨b1, o1, c1, rfl, h1⟩
    · obtain rfl : zb = [] := List.length_eq_zero_iff.1 hl.symm
      clear hs hs2 hl
      rcases hb with ⟨rfl, _⟩ | ⟨b2, o2, c2, rfl, h2⟩
      all_goals
        go_enter Try.func25, Try.ntmps25
        go_wp2
        refine wp_loop_rounds 1 ?_
        rw [rounds_succ]
        go_wp2
        go_returns
        exact ⟨rfl, Below.refl _ _⟩
    · rcases hb with ⟨rfl, rfl⟩ | ⟨b2, o2, c2, rfl, h2⟩
      · obtain rfl : za = [] := List.length_eq_zero_iff.1 hl
        clear hs hs2 hl h1
        go_enter Try.func25, Try.ntmps25
        go_wp2
        refine wp_loop_rounds 1 ?_
        rw [rounds_succ]
        go_wp2
        go_returns
        exact ⟨rfl, Below.refl _ _⟩
      · rw [← hl]
        exact eqi_some w b1 o1 c1 b2 o2 c2 za zb hl hs h1 h2
  · have hz : decide (za = zb) = false := by
      rw [decide_eq_false_iff_not]
      intro e
      exact hl (by rw [e])
    rw [hz]
    obtain ⟨pa, ca, rfl⟩ : ∃ pa ca, va = .slice pa za.length ca := by
      rcases ha with ⟨rfl, rfl⟩ | ⟨b1, o1, c1, rfl, h1⟩
      · exact ⟨_, _, rfl⟩
      · exact ⟨_, _, rfl⟩
    obtain ⟨pb, cb, rfl⟩ : ∃ pb cb, vb = .slice pb zb.length cb := by
      rcases hb with ⟨rfl, rfl⟩ | ⟨b1, o1, c1, rfl, h1⟩
      · exact ⟨_, _, rfl⟩
      · exact ⟨_, _, rfl⟩
    have hd : ((za.length : Int) == (zb.length : Int)) = false := by
      rw [beq_eq_false_iff_ne]
      intro e
      exact hl (by omega)
    clear ha hb hz hl
    go_enter Try.func25, Try.ntmps25
    go_wp2
    go_returns
    exact ⟨rfl, Below.refl _ _⟩

theorem infoI : (Try.prog.info? 3).map (fun i => (i.zero, i.size, i.bytes)) = some (some (.int .i64 0), 1, 8) := by kernel_rfl
theorem own_below {w w' : World} {base : Nat} {e : TypeId} {size : Nat} {v : Value} {n : Nat} {xs : List Value} (h : w.ownsRow base e size v n xs) (hb : Below w.heap.size w w') : w'.ownsRow base e size v n xs := by
  refine ⟨h.1, ?_⟩
  rcases h.2 with hn | ⟨g, cap, cur, rfl, hbs, hgg, rest⟩
  · exact .inl hn
  · exact .inr ⟨g, cap, cur, rfl, hbs, by rw [hb.block g (Array.getElem?_eq_some_iff.1 hgg).1]; exact hgg, rest⟩
end Go.Proofs.Ytjinnlmmlbmodaa.KitI
