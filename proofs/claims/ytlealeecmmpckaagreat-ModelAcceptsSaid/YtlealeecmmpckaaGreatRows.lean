/-
  No cell of these rows narrows 'for every input' (looked for: loops, veiled, ifaces, maps, wideKeys, modest, calm, conditions, laid).
  DERIVED. THE GIVEN ROWS OF THIS SEAT. 9 by the template 'for every input the law returns true; each argument reads behind the call as it read before'; 0 by the template 'total and deterministic' (their statements: YtlealeecmmpckaaGreatTotals.lean).
  GIVEN WITH THE SEED: the statements are not yours to turn. If you find one false, say at which input.
  Laid BY PROGRAM, IN A SANDBOX (cutbox-rows.mjs): the forced cells as the released guide's own fill.sh prints them over the translation c8e37aa8756b10fe… (all of the seat's roots in one cut). By AI agents, Wed Nov 11 2026. No macro, syntax, notation, axiom, sorry.
-/
import Derived.Test.YtlealeecmmpckaaGreatChecked
import GoSem.Claim
import GoSem.ClaimJoined
import GoSem.ClaimMapViews
import Derived.JoinedTies
import Derived.KernelRfl
namespace Go.Proofs.YtlealeecmmpckaaGreat
/- THE CELL 'sum', in the pinned program and in every row, IS THE sha256 OF THE DUMP (.gsa) THAT YtlealeecmmpckaaGreatProg.lean LOADS. Nothing in Lean hashes anything: it is a label: what it is worth is what the hold of that sum in a sandbox is worth. -/
noncomputable def Tryz.pinned : Pinned := { name := "ytlealeecmmpckaagreat", sum := "c8e37aa8756b10fe0320c31f9192b9a5eb7714f22596fb5db5be01673ace5a13", checked := Tryz.checked }
namespace Rows
def none {H : Type} : Left H := { results := [], args := [] }

/-- 'quartolaw34.ModelAllows': WHATEVER THE INPUT: true; the input reads as it did. -/
def modelAllowsSpec : ChangeSpec := { name := "modelAllows", fn := fun _ => fun
  | [d1, d2, d3] => { results := [.lit (.bool true)], args := [d1, d2, d3] }
  | _ => none }
def modelAllowsRow : OpenClaim := { program := "ytlealeecmmpckaagreat", sum := "c8e37aa8756b10fe0320c31f9192b9a5eb7714f22596fb5db5be01673ace5a13", func := "quarto/quartolaw34.ModelAllows", spec := "modelAllows", inPlace := ["internal/abi.NoEscape", "slices.overlaps[quarto/api.Mark]"], unfollowed := true, recurses := true, apart := false }
def ModelAllowsSaid : Prop := modelAllowsRow.holds Tryz.pinned (OpenSpec.ofChange modelAllowsSpec)

/-- ITS FALSE NEIGHBOUR: 'it returns false'. Refute it at one input. -/
def modelAllowsWrong : ChangeSpec := { name := "modelAllows", fn := fun _ => fun
  | [d1, d2, d3] => { results := [.lit (.bool false)], args := [d1, d2, d3] }
  | _ => none }
def ModelAllowsWrongFalsely : Prop := modelAllowsRow.holds Tryz.pinned (OpenSpec.ofChange modelAllowsWrong)

/-- 'quartolaw34.ModelCommutes': WHATEVER THE INPUT: true; the input reads as it did. -/
def modelCommutesSpec : ChangeSpec := { name := "modelCommutes", fn := fun _ => fun
  | [d1, d2, d3, d4] => { results := [.lit (.bool true)], args := [d1, d2, d3, d4] }
  | _ => none }
def modelCommutesRow : OpenClaim := { program := "ytlealeecmmpckaagreat", sum := "c8e37aa8756b10fe0320c31f9192b9a5eb7714f22596fb5db5be01673ace5a13", func := "quarto/quartolaw34.ModelCommutes", spec := "modelCommutes", inPlace := ["internal/abi.NoEscape", "slices.overlaps[quarto/api.Mark]"], unfollowed := true, recurses := true, apart := false }
def ModelCommutesSaid : Prop := modelCommutesRow.holds Tryz.pinned (OpenSpec.ofChange modelCommutesSpec)

/-- ITS FALSE NEIGHBOUR: 'it returns false'. Refute it at one input. -/
def modelCommutesWrong : ChangeSpec := { name := "modelCommutes", fn := fun _ => fun
  | [d1, d2, d3, d4] => { results := [.lit (.bool false)], args := [d1, d2, d3, d4] }
  | _ => none }
def ModelCommutesWrongFalsely : Prop := modelCommutesRow.holds Tryz.pinned (OpenSpec.ofChange modelCommutesWrong)

/-- 'quartolaw34.ModelNew': WHATEVER THE INPUT: true; the input reads as it did. -/
def modelNewSpec : ChangeSpec := { name := "modelNew", fn := fun _ => fun
  | [d] => { results := [.lit (.bool true)], args := [d] }
  | _ => none }
def modelNewRow : OpenClaim := { program := "ytlealeecmmpckaagreat", sum := "c8e37aa8756b10fe0320c31f9192b9a5eb7714f22596fb5db5be01673ace5a13", func := "quarto/quartolaw34.ModelNew", spec := "modelNew", inPlace := ["internal/abi.NoEscape", "slices.overlaps[quarto/api.Mark]"], unfollowed := true, recurses := true, apart := false }
def ModelNewSaid : Prop := modelNewRow.holds Tryz.pinned (OpenSpec.ofChange modelNewSpec)

/-- ITS FALSE NEIGHBOUR: 'it returns false'. Refute it at one input. -/
def modelNewWrong : ChangeSpec := { name := "modelNew", fn := fun _ => fun
  | [d] => { results := [.lit (.bool false)], args := [d] }
  | _ => none }
def ModelNewWrongFalsely : Prop := modelNewRow.holds Tryz.pinned (OpenSpec.ofChange modelNewWrong)

/-- 'quartolaw34.ModelDoes': WHATEVER THE INPUT: true; the input reads as it did. -/
def modelDoesSpec : ChangeSpec := { name := "modelDoes", fn := fun _ => fun
  | [d1, d2] => { results := [.lit (.bool true)], args := [d1, d2] }
  | _ => none }
def modelDoesRow : OpenClaim := { program := "ytlealeecmmpckaagreat", sum := "c8e37aa8756b10fe0320c31f9192b9a5eb7714f22596fb5db5be01673ace5a13", func := "quarto/quartolaw34.ModelDoes", spec := "modelDoes", inPlace := ["internal/abi.NoEscape", "slices.overlaps[quarto/api.Mark]"], unfollowed := true, recurses := true, apart := false }
def ModelDoesSaid : Prop := modelDoesRow.holds Tryz.pinned (OpenSpec.ofChange modelDoesSpec)

/-- ITS FALSE NEIGHBOUR: 'it returns false'. Refute it at one input. -/
def modelDoesWrong : ChangeSpec := { name := "modelDoes", fn := fun _ => fun
  | [d1, d2] => { results := [.lit (.bool false)], args := [d1, d2] }
  | _ => none }
def ModelDoesWrongFalsely : Prop := modelDoesRow.holds Tryz.pinned (OpenSpec.ofChange modelDoesWrong)

/-- 'quartolaw34.ModelAccepts': WHATEVER THE INPUT: true; the input reads as it did. -/
def modelAcceptsSpec : ChangeSpec := { name := "modelAccepts", fn := fun _ => fun
  | [d1, d2] => { results := [.lit (.bool true)], args := [d1, d2] }
  | _ => none }
def modelAcceptsRow : OpenClaim := { program := "ytlealeecmmpckaagreat", sum := "c8e37aa8756b10fe0320c31f9192b9a5eb7714f22596fb5db5be01673ace5a13", func := "quarto/quartolaw34.ModelAccepts", spec := "modelAccepts", inPlace := ["internal/abi.NoEscape", "slices.overlaps[quarto/api.Mark]"], unfollowed := true, recurses := true, apart := false }
def ModelAcceptsSaid : Prop := modelAcceptsRow.holds Tryz.pinned (OpenSpec.ofChange modelAcceptsSpec)

/-- ITS FALSE NEIGHBOUR: 'it returns false'. Refute it at one input. -/
def modelAcceptsWrong : ChangeSpec := { name := "modelAccepts", fn := fun _ => fun
  | [d1, d2] => { results := [.lit (.bool false)], args := [d1, d2] }
  | _ => none }
def ModelAcceptsWrongFalsely : Prop := modelAcceptsRow.holds Tryz.pinned (OpenSpec.ofChange modelAcceptsWrong)

/-- 'quartolaw34.ModelKeys': WHATEVER THE INPUT: true; the input reads as it did. -/
def modelKeysSpec : ChangeSpec := { name := "modelKeys", fn := fun _ => fun
  | [d1, d2, d3, d4] => { results := [.lit (.bool true)], args := [d1, d2, d3, d4] }
  | _ => none }
def modelKeysRow : OpenClaim := { program := "ytlealeecmmpckaagreat", sum := "c8e37aa8756b10fe0320c31f9192b9a5eb7714f22596fb5db5be01673ace5a13", func := "quarto/quartolaw34.ModelKeys", spec := "modelKeys", inPlace := ["internal/abi.NoEscape", "slices.overlaps[quarto/api.Mark]"], unfollowed := true, recurses := true, apart := false }
def ModelKeysSaid : Prop := modelKeysRow.holds Tryz.pinned (OpenSpec.ofChange modelKeysSpec)

/-- ITS FALSE NEIGHBOUR: 'it returns false'. Refute it at one input. -/
def modelKeysWrong : ChangeSpec := { name := "modelKeys", fn := fun _ => fun
  | [d1, d2, d3, d4] => { results := [.lit (.bool false)], args := [d1, d2, d3, d4] }
  | _ => none }
def ModelKeysWrongFalsely : Prop := modelKeysRow.holds Tryz.pinned (OpenSpec.ofChange modelKeysWrong)

/-- 'quartolaw34.ModelHolds': WHATEVER THE INPUT: true; the input reads as it did. -/
def modelHoldsSpec : ChangeSpec := { name := "modelHolds", fn := fun _ => fun
  | [d1, d2, d3, d4] => { results := [.lit (.bool true)], args := [d1, d2, d3, d4] }
  | _ => none }
def modelHoldsRow : OpenClaim := { program := "ytlealeecmmpckaagreat", sum := "c8e37aa8756b10fe0320c31f9192b9a5eb7714f22596fb5db5be01673ace5a13", func := "quarto/quartolaw34.ModelHolds", spec := "modelHolds", inPlace := ["internal/abi.NoEscape", "slices.overlaps[quarto/api.Mark]"], unfollowed := true, recurses := true, apart := false }
def ModelHoldsSaid : Prop := modelHoldsRow.holds Tryz.pinned (OpenSpec.ofChange modelHoldsSpec)

/-- ITS FALSE NEIGHBOUR: 'it returns false'. Refute it at one input. -/
def modelHoldsWrong : ChangeSpec := { name := "modelHolds", fn := fun _ => fun
  | [d1, d2, d3, d4] => { results := [.lit (.bool false)], args := [d1, d2, d3, d4] }
  | _ => none }
def ModelHoldsWrongFalsely : Prop := modelHoldsRow.holds Tryz.pinned (OpenSpec.ofChange modelHoldsWrong)

/-- 'quartolaw34.ModelCloses': WHATEVER THE INPUT: true; the input reads as it did. -/
def modelClosesSpec : ChangeSpec := { name := "modelCloses", fn := fun _ => fun
  | [d1, d2, d3, d4] => { results := [.lit (.bool true)], args := [d1, d2, d3, d4] }
  | _ => none }
def modelClosesRow : OpenClaim := { program := "ytlealeecmmpckaagreat", sum := "c8e37aa8756b10fe0320c31f9192b9a5eb7714f22596fb5db5be01673ace5a13", func := "quarto/quartolaw34.ModelCloses", spec := "modelCloses", inPlace := ["internal/abi.NoEscape", "slices.overlaps[quarto/api.Mark]"], unfollowed := true, recurses := true, apart := false }
def ModelClosesSaid : Prop := modelClosesRow.holds Tryz.pinned (OpenSpec.ofChange modelClosesSpec)

/-- ITS FALSE NEIGHBOUR: 'it returns false'. Refute it at one input. -/
def modelClosesWrong : ChangeSpec := { name := "modelCloses", fn := fun _ => fun
  | [d1, d2, d3, d4] => { results := [.lit (.bool false)], args := [d1, d2, d3, d4] }
  | _ => none }
def ModelClosesWrongFalsely : Prop := modelClosesRow.holds Tryz.pinned (OpenSpec.ofChange modelClosesWrong)

/-- 'quartolaw34.ModelEdits': WHATEVER THE INPUT: true; the input reads as it did. -/
def modelEditsSpec : ChangeSpec := { name := "modelEdits", fn := fun _ => fun
  | [d1, d2] => { results := [.lit (.bool true)], args := [d1, d2] }
  | _ => none }
def modelEditsRow : OpenClaim := { program := "ytlealeecmmpckaagreat", sum := "c8e37aa8756b10fe0320c31f9192b9a5eb7714f22596fb5db5be01673ace5a13", func := "quarto/quartolaw34.ModelEdits", spec := "modelEdits", inPlace := ["internal/abi.NoEscape", "slices.overlaps[quarto/api.Mark]"], unfollowed := true, recurses := true, apart := false }
def ModelEditsSaid : Prop := modelEditsRow.holds Tryz.pinned (OpenSpec.ofChange modelEditsSpec)

/-- ITS FALSE NEIGHBOUR: 'it returns false'. Refute it at one input. -/
def modelEditsWrong : ChangeSpec := { name := "modelEdits", fn := fun _ => fun
  | [d1, d2] => { results := [.lit (.bool false)], args := [d1, d2] }
  | _ => none }
def ModelEditsWrongFalsely : Prop := modelEditsRow.holds Tryz.pinned (OpenSpec.ofChange modelEditsWrong)

/- THE SECOND FORM. 'bulk': how many values and letters a reading holds, each counted each time it is reached (what is shared counts as often as it is met; a slice's spare places count too). A statement '..UptoSaid' is the law's where the arguments, and the package variables that the reading takes, are together of bulk at most 1048576: NARROWER than '..Said'. Prove '..Said' where nothing that the law and all that it calls make is longer than what came in: it says more and counts as full. Else prove '..UptoSaid'. A law counts once. -/
mutual
def uptoBulk {H : Type} : DataW H → Nat
  | .lit (.string bytes) => bytes.length + 1
  | .lit _ => 1
  | .nil => 1
  | .ptr d => uptoBulk d + 1
  | .slice elems spare => uptoBulkAll elems + uptoBulkAll spare + 1
  | .agg parts => uptoBulkAll parts + 1
  | .iface _ d => uptoBulk d + 1
  | .map entries => uptoBulkEntries entries + 1
  | .held _ => 1
def uptoBulkAll {H : Type} : List (DataW H) → Nat
  | [] => 0
  | d :: r => uptoBulk d + uptoBulkAll r
def uptoBulkEntries {H : Type} : List (Lit × DataW H) → Nat
  | [] => 0
  | x :: r => uptoBulkEntry x + uptoBulkEntries r
def uptoBulkEntry {H : Type} : Lit × DataW H → Nat
  | (.string bytes, d) => bytes.length + uptoBulk d + 1
  | (_, d) => uptoBulk d + 1
 end
def uptoSmall : (H : Type) → List (DataW H) → Bool := fun _ ds => decide (uptoBulkAll ds ≤ 1048576)
def OpenSpec.upto (s : _root_.Go.ChangeSpec) : _root_.Go.OpenSpec := { _root_.Go.OpenSpec.ofChange s with cond := some uptoSmall }

/-- 'quartolaw34.ModelAllows', WHERE WHAT IT READS IS OF BULK AT MOST 1048576: true; the input reads as it did. -/
def modelAllowsUptoRow : OpenClaim := { program := "ytlealeecmmpckaagreat", sum := "c8e37aa8756b10fe0320c31f9192b9a5eb7714f22596fb5db5be01673ace5a13", func := "quarto/quartolaw34.ModelAllows", spec := "modelAllows", inPlace := ["internal/abi.NoEscape", "slices.overlaps[quarto/api.Mark]"], unfollowed := true, recurses := true, apart := false, narrowed := true }
def ModelAllowsUptoSaid : Prop := modelAllowsUptoRow.holds Tryz.pinned (OpenSpec.upto modelAllowsSpec)

/-- 'quartolaw34.ModelCommutes', WHERE WHAT IT READS IS OF BULK AT MOST 1048576: true; the input reads as it did. -/
def modelCommutesUptoRow : OpenClaim := { program := "ytlealeecmmpckaagreat", sum := "c8e37aa8756b10fe0320c31f9192b9a5eb7714f22596fb5db5be01673ace5a13", func := "quarto/quartolaw34.ModelCommutes", spec := "modelCommutes", inPlace := ["internal/abi.NoEscape", "slices.overlaps[quarto/api.Mark]"], unfollowed := true, recurses := true, apart := false, narrowed := true }
def ModelCommutesUptoSaid : Prop := modelCommutesUptoRow.holds Tryz.pinned (OpenSpec.upto modelCommutesSpec)

/-- 'quartolaw34.ModelNew', WHERE WHAT IT READS IS OF BULK AT MOST 1048576: true; the input reads as it did. -/
def modelNewUptoRow : OpenClaim := { program := "ytlealeecmmpckaagreat", sum := "c8e37aa8756b10fe0320c31f9192b9a5eb7714f22596fb5db5be01673ace5a13", func := "quarto/quartolaw34.ModelNew", spec := "modelNew", inPlace := ["internal/abi.NoEscape", "slices.overlaps[quarto/api.Mark]"], unfollowed := true, recurses := true, apart := false, narrowed := true }
def ModelNewUptoSaid : Prop := modelNewUptoRow.holds Tryz.pinned (OpenSpec.upto modelNewSpec)

/-- 'quartolaw34.ModelDoes', WHERE WHAT IT READS IS OF BULK AT MOST 1048576: true; the input reads as it did. -/
def modelDoesUptoRow : OpenClaim := { program := "ytlealeecmmpckaagreat", sum := "c8e37aa8756b10fe0320c31f9192b9a5eb7714f22596fb5db5be01673ace5a13", func := "quarto/quartolaw34.ModelDoes", spec := "modelDoes", inPlace := ["internal/abi.NoEscape", "slices.overlaps[quarto/api.Mark]"], unfollowed := true, recurses := true, apart := false, narrowed := true }
def ModelDoesUptoSaid : Prop := modelDoesUptoRow.holds Tryz.pinned (OpenSpec.upto modelDoesSpec)

/-- 'quartolaw34.ModelAccepts', WHERE WHAT IT READS IS OF BULK AT MOST 1048576: true; the input reads as it did. -/
def modelAcceptsUptoRow : OpenClaim := { program := "ytlealeecmmpckaagreat", sum := "c8e37aa8756b10fe0320c31f9192b9a5eb7714f22596fb5db5be01673ace5a13", func := "quarto/quartolaw34.ModelAccepts", spec := "modelAccepts", inPlace := ["internal/abi.NoEscape", "slices.overlaps[quarto/api.Mark]"], unfollowed := true, recurses := true, apart := false, narrowed := true }
def ModelAcceptsUptoSaid : Prop := modelAcceptsUptoRow.holds Tryz.pinned (OpenSpec.upto modelAcceptsSpec)

/-- 'quartolaw34.ModelKeys', WHERE WHAT IT READS IS OF BULK AT MOST 1048576: true; the input reads as it did. -/
def modelKeysUptoRow : OpenClaim := { program := "ytlealeecmmpckaagreat", sum := "c8e37aa8756b10fe0320c31f9192b9a5eb7714f22596fb5db5be01673ace5a13", func := "quarto/quartolaw34.ModelKeys", spec := "modelKeys", inPlace := ["internal/abi.NoEscape", "slices.overlaps[quarto/api.Mark]"], unfollowed := true, recurses := true, apart := false, narrowed := true }
def ModelKeysUptoSaid : Prop := modelKeysUptoRow.holds Tryz.pinned (OpenSpec.upto modelKeysSpec)

/-- 'quartolaw34.ModelHolds', WHERE WHAT IT READS IS OF BULK AT MOST 1048576: true; the input reads as it did. -/
def modelHoldsUptoRow : OpenClaim := { program := "ytlealeecmmpckaagreat", sum := "c8e37aa8756b10fe0320c31f9192b9a5eb7714f22596fb5db5be01673ace5a13", func := "quarto/quartolaw34.ModelHolds", spec := "modelHolds", inPlace := ["internal/abi.NoEscape", "slices.overlaps[quarto/api.Mark]"], unfollowed := true, recurses := true, apart := false, narrowed := true }
def ModelHoldsUptoSaid : Prop := modelHoldsUptoRow.holds Tryz.pinned (OpenSpec.upto modelHoldsSpec)

/-- 'quartolaw34.ModelCloses', WHERE WHAT IT READS IS OF BULK AT MOST 1048576: true; the input reads as it did. -/
def modelClosesUptoRow : OpenClaim := { program := "ytlealeecmmpckaagreat", sum := "c8e37aa8756b10fe0320c31f9192b9a5eb7714f22596fb5db5be01673ace5a13", func := "quarto/quartolaw34.ModelCloses", spec := "modelCloses", inPlace := ["internal/abi.NoEscape", "slices.overlaps[quarto/api.Mark]"], unfollowed := true, recurses := true, apart := false, narrowed := true }
def ModelClosesUptoSaid : Prop := modelClosesUptoRow.holds Tryz.pinned (OpenSpec.upto modelClosesSpec)

/-- 'quartolaw34.ModelEdits', WHERE WHAT IT READS IS OF BULK AT MOST 1048576: true; the input reads as it did. -/
def modelEditsUptoRow : OpenClaim := { program := "ytlealeecmmpckaagreat", sum := "c8e37aa8756b10fe0320c31f9192b9a5eb7714f22596fb5db5be01673ace5a13", func := "quarto/quartolaw34.ModelEdits", spec := "modelEdits", inPlace := ["internal/abi.NoEscape", "slices.overlaps[quarto/api.Mark]"], unfollowed := true, recurses := true, apart := false, narrowed := true }
def ModelEditsUptoSaid : Prop := modelEditsUptoRow.holds Tryz.pinned (OpenSpec.upto modelEditsSpec)

end Rows
end Go.Proofs.YtlealeecmmpckaaGreat
