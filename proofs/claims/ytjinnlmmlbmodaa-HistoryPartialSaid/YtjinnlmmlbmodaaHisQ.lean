/- An array of four calls that an argument bears. -/
import Derived.Test.YtjinnlmmlbmodaaHisP
import Derived.OpenShut
namespace Go.Proofs.Ytjinnlmmlbmodaa
open Go.RowKit Go.WideShapes Go.ChangeShapes
theorem cut_four {cs : List Value} (h : cs.length = 108) : cs = (cs.drop 0).take 27 ++ ((cs.drop 27).take 27 ++ ((cs.drop 54).take 27 ++ (cs.drop 81).take 27)) := by
  apply List.ext_getElem?
  intro j
  simp only [List.getElem?_append, List.getElem?_take, List.getElem?_drop, List.length_take, List.length_drop, h]
  by_cases h1 : j < 27
  · simp [h1]
  · by_cases h2 : j < 54
    · rw [if_neg (by omega), if_pos (by omega), if_pos (by omega)]; congr 1; omega
    · by_cases h3 : j < 81
      · rw [if_neg (by omega), if_neg (by omega), if_pos (by omega), if_pos (by omega)]; congr 1; omega
      · by_cases h4 : j < 108
        · rw [if_neg (by omega), if_neg (by omega), if_neg (by omega), if_pos (by omega)]; congr 1; omega
        · rw [if_neg (by omega), if_neg (by omega), if_neg (by omega), if_neg (by omega), List.getElem?_eq_none (by omega)]
theorem four_cells {H : Type} {enc : TypeId × Value → H} {w : World} {base : Nat} {spare : Nat → Bool} {held : Bool} {fuel : Nat} {cs : List Value} {x : DataW H × List MemPlace} (h : DataW.trod enc Try.prog w base spare held fuel 44 cs = some x) :
    ∃ a b c d : CallV, cs = callsL [a, b, c, d] := by
  obtain ⟨xs, m, _, _, hl, hn, hx⟩ := DataW.trod_array Try.underlying44 h
  have hl2 : cs.length = 108 := hl.trans (by kernel_rfl)
  have hc : Try.prog.cellsOf 34 = 27 := by kernel_rfl
  have get : ∀ i, i < 4 → ∃ c : CallV, (cs.drop (i * 27)).take 27 = callL c := fun i hi => by
    have h1 := hx i hi
    rw [hc, List.getElem?_eq_getElem (by omega)] at h1
    exact call_cells h1
  obtain ⟨a, ha⟩ := get 0 (by omega)
  obtain ⟨b, hb⟩ := get 1 (by omega)
  obtain ⟨c, hc⟩ := get 2 (by omega)
  obtain ⟨d, hd⟩ := get 3 (by omega)
  refine ⟨a, b, c, d, (cut_four hl2).trans ?_⟩
  rw [show cs.drop 0 = cs.drop (0 * 27) from rfl, ha, show cs.drop 27 = cs.drop (1 * 27) from rfl, hb, show cs.drop 54 = cs.drop (2 * 27) from rfl, hc, show cs.drop 81 = cs.drop (3 * 27) from rfl, hd]
  simp [callsL]
end Go.Proofs.Ytjinnlmmlbmodaa
