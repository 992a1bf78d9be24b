/- Numbers that an argument bears; four calls that an argument bears. -/
import Derived.Test.YtjinnlmmlbmodaaHisOw
import Derived.Test.YtjinnlmmlbmodaaHisX
namespace Go.Proofs.Ytjinnlmmlbmodaa
open Go.RowKit Go.WideShapes Go.ChangeShapes Go.Deep
section
variable {H : Type} {enc : TypeId × Value → H} {w : World} {base : Nat} {spare : Nat → Bool} {held : Bool}
theorem open_iargs {b0 : Nat} {v : Value} {d : DataW H} {ps : List MemPlace} (hval : Value.okWide Try.prog w .any b0 40 v) (hd : DataW.Trod enc Try.prog w base spare held 40 v d ps) : ∃ (p : Option Addr) (cap : Nat) (l : List Int), v = .slice p l.length cap ∧ ArgInts w p l := by
  obtain ⟨fuel, hf⟩ := hd
  obtain ⟨a0, n0, c0, rfl⟩ := okWide_slice Try.underlying40 hval
  rcases open_slice Try.underlying40 hf with ⟨h1, _⟩ | ⟨a, len, cap, q, n, D, Pl, h1, hb, hlc, hcap, hq, _, hel⟩
  · simp [Value.cells] at h1
    obtain ⟨rfl, rfl, rfl⟩ := h1
    exact ⟨none, 0, [], rfl, .inl rfl⟩
  · simp [Value.cells] at h1
    obtain ⟨rfl, rfl, rfl⟩ := h1
    have hc1 : Try.prog.cellsOf 3 = 1 := by kernel_rfl
    rw [hc1] at hel
    have hlq : n0 ≤ q := by rw [hq]; split <;> omega
    obtain ⟨l, hl, hQ, hcell⟩ := rows_of (w := w) (base := base) (fun z : Int => [Value.int .i64 z]) 1 (fun _ => rfl) a (fun z => -9223372036854775808 ≤ z ∧ z ≤ 9223372036854775807) n0 (fun i hi => by
      obtain ⟨cs', h1, h2⟩ := hel i (by omega)
      obtain ⟨z, rfl, _, hz⟩ := DataW.trod_int Try.underlying3 h2
      exact ⟨z, h1, wf64 hz⟩)
    have hfl : ∀ (l : List Int) (j : Nat) (u : Int), l[j]? = some u → (l.flatMap fun z : Int => [Value.int .i64 z])[j]? = some (.int .i64 u) := by
      intro l j u h
      have e : (l.flatMap fun z : Int => [Value.int .i64 z]) = l.map (Value.int .i64) := (List.map_eq_flatMap ..).symm
      rw [e, List.getElem?_map, h]
      rfl
    refine ⟨_, _, l, by rw [hl], ?_⟩
    by_cases h0 : l = []
    · exact .inl h0
    · right
      obtain ⟨b, off, spot⟩ := a
      have hpos : 0 < l.length := by
        rcases l with _ | ⟨p, l⟩
        · exact absurd rfl h0
        · simp
      have g0 := hcell 0 _ (hfl l 0 _ (List.getElem?_eq_getElem hpos))
      have hspot : spot = none := by simpa [Addr.add] using World.cell?_spot g0
      subst hspot
      have hblk : b < w.heap.size := by
        have := cell_size g0
        simpa [Addr.add] using this
      have hml : maxLen < 9223372036854775808 := by unfold maxLen; omega
      exact ⟨b, off, rfl, hblk, fun j u hj => by have := hcell j _ (hfl l j u hj); rwa [add_plain] at this, by omega, hQ⟩
end
end Go.Proofs.Ytjinnlmmlbmodaa
