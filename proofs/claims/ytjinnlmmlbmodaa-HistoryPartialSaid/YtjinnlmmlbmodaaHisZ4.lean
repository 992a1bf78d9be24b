/- Four calls that an argument bears. -/
import Derived.Test.YtjinnlmmlbmodaaHisPa
import Derived.Test.YtjinnlmmlbmodaaHisX
namespace Go.Proofs.Ytjinnlmmlbmodaa
open Go.RowKit Go.WideShapes Go.ChangeShapes Go.Deep
section
variable {H : Type} {enc : TypeId × Value → H} {w : World} {base : Nat} {spare : Nat → Bool} {held : Bool}
theorem four_open {fuel : Nat} {cs : List Value} {x : DataW H × List MemPlace} (h : DataW.trod enc Try.prog w base spare held fuel 44 cs = some x) :
    ∃ a b c d : CallV, cs = callsL [a, b, c, d] ∧ ∀ x ∈ [a, b, c, d], x.Ok := by
  obtain ⟨xs, m, _, _, hl, hn, hx⟩ := DataW.trod_array Try.underlying44 h
  have hl2 : cs.length = 108 := hl.trans (by kernel_rfl)
  have hc : Try.prog.cellsOf 34 = 27 := by kernel_rfl
  have get : ∀ i, i < 4 → ∃ c : CallV, (cs.drop (i * 27)).take 27 = callL c ∧ c.Ok := fun i hi => by
    have h1 := hx i hi
    rw [hc, List.getElem?_eq_getElem (by omega)] at h1
    obtain ⟨c, h2, h3, _⟩ := call_open h1
    exact ⟨c, h2, h3⟩
  obtain ⟨a, ha, oa⟩ := get 0 (by omega)
  obtain ⟨b, hb, ob⟩ := get 1 (by omega)
  obtain ⟨c, hc, oc⟩ := get 2 (by omega)
  obtain ⟨d, hd, od⟩ := get 3 (by omega)
  refine ⟨a, b, c, d, (cut_four hl2).trans ?_, fun x hx => ?_⟩
  · rw [show cs.drop 0 = cs.drop (0 * 27) from rfl, ha, show cs.drop 27 = cs.drop (1 * 27) from rfl, hb, show cs.drop 54 = cs.drop (2 * 27) from rfl, hc, show cs.drop 81 = cs.drop (3 * 27) from rfl, hd]
    simp [callsL]
  · simp only [List.mem_cons, List.not_mem_nil, or_false] at hx
    rcases hx with rfl | rfl | rfl | rfl
    · exact oa
    · exact ob
    · exact oc
    · exact od
theorem open_four {b0 : Nat} {v : Value} {d : DataW H} {ps : List MemPlace} (hval : Value.okWide Try.prog w .any b0 44 v) (hd : DataW.Trod enc Try.prog w base spare held 44 v d ps) : ∃ a b c e : CallV, v = .agg (callsL [a, b, c, e]).toArray ∧ ∀ x ∈ [a, b, c, e], x.Ok := by
  obtain ⟨cs, rfl, _⟩ : ∃ cs, v = .agg cs ∧ cs.size = Try.prog.cellsOf 44 := by
    simp only [Value.okWide, Try.underlying44] at hval
    obtain ⟨cs, h1, h2, _⟩ := hval
    exact ⟨cs, h1, h2⟩
  obtain ⟨fuel, hf⟩ := hd
  obtain ⟨a, b, c, e, hc, ho⟩ := four_open hf
  have hc2 : cs.toList = callsL [a, b, c, e] := hc
  exact ⟨a, b, c, e, by rw [← hc2], ho⟩
end
end Go.Proofs.Ytjinnlmmlbmodaa
