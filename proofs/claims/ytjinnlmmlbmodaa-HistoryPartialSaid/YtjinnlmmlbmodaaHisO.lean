/- A call that an argument bears. -/
import Derived.Test.YtjinnlmmlbmodaaHisN
import Derived.Test.YtjinnlmmlbmodaaBase
namespace Go.Proofs.Ytjinnlmmlbmodaa
open Go.RowKit Go.WideShapes Go.ChangeShapes

section
variable {H : Type} {enc : TypeId × Value → H} {P : Program} {w : World} {base : Nat} {spare : Nat → Bool} {held : Bool}
/-- A field of a struct among cells. -/
theorem field_of {t : TypeId} {fs : Array Field} {fuel : Nat} {cs : List Value} {x : DataW H × List MemPlace} (hs : P.underlying t = some (.struct fs)) (h : DataW.trod enc P w base spare held fuel t cs = some x) (i : Nat) (f : Field) (hf : fs[i]? = some f) :
    ∃ n y, DataW.trod enc P w base spare held n f.type ((cs.drop f.offset).take (P.cellsOf f.type)) = some y := by
  obtain ⟨xs, n, _, _, _, hl, hx⟩ := DataW.trod_struct hs h
  have h1 := hx i f hf
  have hlt := (Array.getElem?_eq_some_iff.1 hf).1
  rw [List.getElem?_eq_getElem (by omega)] at h1
  exact ⟨n, _, h1⟩
theorem cell_of {cs : List Value} {k m : Nat} {v : Value} (h : (cs.drop k).take m = [v]) : cs[k]? = some v := by
  have h1 : ((cs.drop k).take m)[0]? = some v := by rw [h]; rfl
  rw [List.getElem?_take] at h1
  split at h1
  · rwa [List.getElem?_drop, Nat.add_zero] at h1
  · cases h1
theorem int_cell {t : TypeId} {κ : IntKind} {fuel k m : Nat} {cs : List Value} {x : DataW H × List MemPlace} (ht : P.underlying t = some (.int κ)) (h : DataW.trod enc P w base spare held fuel t ((cs.drop k).take m) = some x) : ∃ z, cs[k]? = some (.int κ z) ∧ (Lit.int κ z).wf = true := by
  obtain ⟨z, h1, _, h2⟩ := DataW.trod_int ht h
  exact ⟨z, cell_of h1, h2⟩
theorem str_cell {t : TypeId} {fuel k m : Nat} {cs : List Value} {x : DataW H × List MemPlace} (ht : P.underlying t = some .string) (h : DataW.trod enc P w base spare held fuel t ((cs.drop k).take m) = some x) : ∃ z, cs[k]? = some (.string z) := by
  obtain ⟨z, h1, _, _⟩ := DataW.trod_string ht h
  exact ⟨z, cell_of h1⟩
/-- A cell of a part is a cell of the whole. -/
theorem part_cell {cs : List Value} {o m k : Nat} {v : Value} (h : ((cs.drop o).take m)[k]? = some v) : cs[o + k]? = some v := by
  rw [List.getElem?_take] at h
  split at h
  · rwa [List.getElem?_drop] at h
  · cases h
end
end Go.Proofs.Ytjinnlmmlbmodaa
