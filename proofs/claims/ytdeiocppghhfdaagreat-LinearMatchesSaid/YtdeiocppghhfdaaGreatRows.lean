/-
  No cell of these rows narrows 'for every input' (looked for: loops, veiled, ifaces, maps, wideKeys, modest, calm, conditions, laid).
  DERIVED. THE GIVEN ROWS OF THIS SEAT. 14 by the template 'for every input the law returns true; each argument reads behind the call as it read before'; 0 by the template 'total and deterministic' (their statements: YtdeiocppghhfdaaGreatTotals.lean).
  GIVEN WITH THE SEED: the statements are not yours to turn. If you find one false, say at which input.
  Laid BY PROGRAM, IN A SANDBOX (cutbox-rows.mjs): the forced cells as the released guide's own fill.sh prints them over the translation 56f9f3090c531eb4… (all of the seat's roots in one cut). By AI agents, Wed Nov 11 2026. No macro, syntax, notation, axiom, sorry.
-/
import Derived.Test.YtdeiocppghhfdaaGreatChecked
import GoSem.Claim
import GoSem.ClaimJoined
import GoSem.ClaimMapViews
import Derived.JoinedTies
import Derived.KernelRfl
namespace Go.Proofs.YtdeiocppghhfdaaGreat
/- THE CELL 'sum', in the pinned program and in every row, IS THE sha256 OF THE DUMP (.gsa) THAT YtdeiocppghhfdaaGreatProg.lean LOADS. Nothing in Lean hashes anything: it is a label: what it is worth is what the hold of that sum in a sandbox is worth. -/
noncomputable def Tryz.pinned : Pinned := { name := "ytdeiocppghhfdaagreat", sum := "56f9f3090c531eb476d1e9d8fd71b1711e2f7ac6841b79cf961a0d42d51e7b68", checked := Tryz.checked }
namespace Rows
def none {H : Type} : Left H := { results := [], args := [] }

/-- 'quartolaw36.LinearMatches': WHATEVER THE INPUT: true; the input reads as it did. -/
def linearMatchesSpec : ChangeSpec := { name := "linearMatches", fn := fun _ => fun
  | [d1, d2, d3] => { results := [.lit (.bool true)], args := [d1, d2, d3] }
  | _ => none }
def linearMatchesRow : OpenClaim := { program := "ytdeiocppghhfdaagreat", sum := "56f9f3090c531eb476d1e9d8fd71b1711e2f7ac6841b79cf961a0d42d51e7b68", func := "quarto/quartolaw36.LinearMatches", spec := "linearMatches", inPlace := ["internal/abi.NoEscape", "slices.overlaps[quarto/api.Mark]"], unfollowed := true, recurses := true, plainKeys := false, apart := false }
def LinearMatchesSaid : Prop := linearMatchesRow.holds Tryz.pinned (OpenSpec.ofChange linearMatchesSpec)

/-- ITS FALSE NEIGHBOUR: 'it returns false'. Refute it at one input. -/
def linearMatchesWrong : ChangeSpec := { name := "linearMatches", fn := fun _ => fun
  | [d1, d2, d3] => { results := [.lit (.bool false)], args := [d1, d2, d3] }
  | _ => none }
def LinearMatchesWrongFalsely : Prop := linearMatchesRow.holds Tryz.pinned (OpenSpec.ofChange linearMatchesWrong)

/-- 'quartolaw36.LinearValids': WHATEVER THE INPUT: true; the input reads as it did. -/
def linearValidsSpec : ChangeSpec := { name := "linearValids", fn := fun _ => fun
  | [d1, d2, d3] => { results := [.lit (.bool true)], args := [d1, d2, d3] }
  | _ => none }
def linearValidsRow : OpenClaim := { program := "ytdeiocppghhfdaagreat", sum := "56f9f3090c531eb476d1e9d8fd71b1711e2f7ac6841b79cf961a0d42d51e7b68", func := "quarto/quartolaw36.LinearValids", spec := "linearValids", inPlace := ["internal/abi.NoEscape", "slices.overlaps[quarto/api.Mark]"], unfollowed := true, recurses := true, plainKeys := false, apart := false }
def LinearValidsSaid : Prop := linearValidsRow.holds Tryz.pinned (OpenSpec.ofChange linearValidsSpec)

/-- ITS FALSE NEIGHBOUR: 'it returns false'. Refute it at one input. -/
def linearValidsWrong : ChangeSpec := { name := "linearValids", fn := fun _ => fun
  | [d1, d2, d3] => { results := [.lit (.bool false)], args := [d1, d2, d3] }
  | _ => none }
def LinearValidsWrongFalsely : Prop := linearValidsRow.holds Tryz.pinned (OpenSpec.ofChange linearValidsWrong)

/-- 'quartolaw36.LinearExamples': WHATEVER THE INPUT: true; the input reads as it did. -/
def linearExamplesSpec : ChangeSpec := { name := "linearExamples", fn := fun _ => fun
  | [] => { results := [.lit (.bool true)], args := [] }
  | _ => none }
def linearExamplesRow : OpenClaim := { program := "ytdeiocppghhfdaagreat", sum := "56f9f3090c531eb476d1e9d8fd71b1711e2f7ac6841b79cf961a0d42d51e7b68", func := "quarto/quartolaw36.LinearExamples", spec := "linearExamples", inPlace := ["internal/abi.NoEscape", "slices.overlaps[quarto/api.Mark]"], unfollowed := true, recurses := true, plainKeys := false, apart := false }
def LinearExamplesSaid : Prop := linearExamplesRow.holds Tryz.pinned (OpenSpec.ofChange linearExamplesSpec)

/-- ITS FALSE NEIGHBOUR: 'it returns false'. Refute it at one input. -/
def linearExamplesWrong : ChangeSpec := { name := "linearExamples", fn := fun _ => fun
  | [] => { results := [.lit (.bool false)], args := [] }
  | _ => none }
def LinearExamplesWrongFalsely : Prop := linearExamplesRow.holds Tryz.pinned (OpenSpec.ofChange linearExamplesWrong)

/-- 'quartolaw36.LinearFinds': WHATEVER THE INPUT: true; the input reads as it did. -/
def linearFindsSpec : ChangeSpec := { name := "linearFinds", fn := fun _ => fun
  | [d1, d2, d3] => { results := [.lit (.bool true)], args := [d1, d2, d3] }
  | _ => none }
def linearFindsRow : OpenClaim := { program := "ytdeiocppghhfdaagreat", sum := "56f9f3090c531eb476d1e9d8fd71b1711e2f7ac6841b79cf961a0d42d51e7b68", func := "quarto/quartolaw36.LinearFinds", spec := "linearFinds", inPlace := ["internal/abi.NoEscape", "slices.overlaps[quarto/api.Mark]"], unfollowed := true, recurses := true, plainKeys := false, apart := false }
def LinearFindsSaid : Prop := linearFindsRow.holds Tryz.pinned (OpenSpec.ofChange linearFindsSpec)

/-- ITS FALSE NEIGHBOUR: 'it returns false'. Refute it at one input. -/
def linearFindsWrong : ChangeSpec := { name := "linearFinds", fn := fun _ => fun
  | [d1, d2, d3] => { results := [.lit (.bool false)], args := [d1, d2, d3] }
  | _ => none }
def LinearFindsWrongFalsely : Prop := linearFindsRow.holds Tryz.pinned (OpenSpec.ofChange linearFindsWrong)

/-- 'quartolaw36.LinearRenames': WHATEVER THE INPUT: true; the input reads as it did. -/
def linearRenamesSpec : ChangeSpec := { name := "linearRenames", fn := fun _ => fun
  | [d1, d2, d3] => { results := [.lit (.bool true)], args := [d1, d2, d3] }
  | _ => none }
def linearRenamesRow : OpenClaim := { program := "ytdeiocppghhfdaagreat", sum := "56f9f3090c531eb476d1e9d8fd71b1711e2f7ac6841b79cf961a0d42d51e7b68", func := "quarto/quartolaw36.LinearRenames", spec := "linearRenames", inPlace := ["internal/abi.NoEscape", "slices.overlaps[quarto/api.Mark]"], unfollowed := true, recurses := true, plainKeys := false, apart := false }
def LinearRenamesSaid : Prop := linearRenamesRow.holds Tryz.pinned (OpenSpec.ofChange linearRenamesSpec)

/-- ITS FALSE NEIGHBOUR: 'it returns false'. Refute it at one input. -/
def linearRenamesWrong : ChangeSpec := { name := "linearRenames", fn := fun _ => fun
  | [d1, d2, d3] => { results := [.lit (.bool false)], args := [d1, d2, d3] }
  | _ => none }
def LinearRenamesWrongFalsely : Prop := linearRenamesRow.holds Tryz.pinned (OpenSpec.ofChange linearRenamesWrong)

/-- 'quartolaw36.LinearPrefix': WHATEVER THE INPUT: true; the input reads as it did. -/
def linearPrefixSpec : ChangeSpec := { name := "linearPrefix", fn := fun _ => fun
  | [d1, d2, d3] => { results := [.lit (.bool true)], args := [d1, d2, d3] }
  | _ => none }
def linearPrefixRow : OpenClaim := { program := "ytdeiocppghhfdaagreat", sum := "56f9f3090c531eb476d1e9d8fd71b1711e2f7ac6841b79cf961a0d42d51e7b68", func := "quarto/quartolaw36.LinearPrefix", spec := "linearPrefix", inPlace := ["internal/abi.NoEscape", "slices.overlaps[quarto/api.Mark]"], unfollowed := true, recurses := true, plainKeys := false, apart := false }
def LinearPrefixSaid : Prop := linearPrefixRow.holds Tryz.pinned (OpenSpec.ofChange linearPrefixSpec)

/-- ITS FALSE NEIGHBOUR: 'it returns false'. Refute it at one input. -/
def linearPrefixWrong : ChangeSpec := { name := "linearPrefix", fn := fun _ => fun
  | [d1, d2, d3] => { results := [.lit (.bool false)], args := [d1, d2, d3] }
  | _ => none }
def LinearPrefixWrongFalsely : Prop := linearPrefixRow.holds Tryz.pinned (OpenSpec.ofChange linearPrefixWrong)

/-- 'quartolaw35.WitnessMatches': WHATEVER THE INPUT: true; the input reads as it did. -/
def witnessMatchesSpec : ChangeSpec := { name := "witnessMatches", fn := fun _ => fun
  | [d1, d2] => { results := [.lit (.bool true)], args := [d1, d2] }
  | _ => none }
def witnessMatchesRow : OpenClaim := { program := "ytdeiocppghhfdaagreat", sum := "56f9f3090c531eb476d1e9d8fd71b1711e2f7ac6841b79cf961a0d42d51e7b68", func := "quarto/quartolaw35.WitnessMatches", spec := "witnessMatches", inPlace := ["internal/abi.NoEscape", "slices.overlaps[quarto/api.Mark]"], unfollowed := true, recurses := true, plainKeys := false, apart := false }
def WitnessMatchesSaid : Prop := witnessMatchesRow.holds Tryz.pinned (OpenSpec.ofChange witnessMatchesSpec)

/-- ITS FALSE NEIGHBOUR: 'it returns false'. Refute it at one input. -/
def witnessMatchesWrong : ChangeSpec := { name := "witnessMatches", fn := fun _ => fun
  | [d1, d2] => { results := [.lit (.bool false)], args := [d1, d2] }
  | _ => none }
def WitnessMatchesWrongFalsely : Prop := witnessMatchesRow.holds Tryz.pinned (OpenSpec.ofChange witnessMatchesWrong)

/-- 'quartolaw35.WitnessSequential': WHATEVER THE INPUT: true; the input reads as it did. -/
def witnessSequentialSpec : ChangeSpec := { name := "witnessSequential", fn := fun _ => fun
  | [d1, d2, d3] => { results := [.lit (.bool true)], args := [d1, d2, d3] }
  | _ => none }
def witnessSequentialRow : OpenClaim := { program := "ytdeiocppghhfdaagreat", sum := "56f9f3090c531eb476d1e9d8fd71b1711e2f7ac6841b79cf961a0d42d51e7b68", func := "quarto/quartolaw35.WitnessSequential", spec := "witnessSequential", inPlace := ["internal/abi.NoEscape", "slices.overlaps[quarto/api.Mark]"], unfollowed := true, recurses := true, plainKeys := false, apart := false }
def WitnessSequentialSaid : Prop := witnessSequentialRow.holds Tryz.pinned (OpenSpec.ofChange witnessSequentialSpec)

/-- ITS FALSE NEIGHBOUR: 'it returns false'. Refute it at one input. -/
def witnessSequentialWrong : ChangeSpec := { name := "witnessSequential", fn := fun _ => fun
  | [d1, d2, d3] => { results := [.lit (.bool false)], args := [d1, d2, d3] }
  | _ => none }
def WitnessSequentialWrongFalsely : Prop := witnessSequentialRow.holds Tryz.pinned (OpenSpec.ofChange witnessSequentialWrong)

/-- 'quartolaw35.WitnessEdits': WHATEVER THE INPUT: true; the input reads as it did. -/
def witnessEditsSpec : ChangeSpec := { name := "witnessEdits", fn := fun _ => fun
  | [d1, d2] => { results := [.lit (.bool true)], args := [d1, d2] }
  | _ => none }
def witnessEditsRow : OpenClaim := { program := "ytdeiocppghhfdaagreat", sum := "56f9f3090c531eb476d1e9d8fd71b1711e2f7ac6841b79cf961a0d42d51e7b68", func := "quarto/quartolaw35.WitnessEdits", spec := "witnessEdits", inPlace := ["internal/abi.NoEscape", "slices.overlaps[quarto/api.Mark]"], unfollowed := true, recurses := true, plainKeys := false, apart := false }
def WitnessEditsSaid : Prop := witnessEditsRow.holds Tryz.pinned (OpenSpec.ofChange witnessEditsSpec)

/-- ITS FALSE NEIGHBOUR: 'it returns false'. Refute it at one input. -/
def witnessEditsWrong : ChangeSpec := { name := "witnessEdits", fn := fun _ => fun
  | [d1, d2] => { results := [.lit (.bool false)], args := [d1, d2] }
  | _ => none }
def WitnessEditsWrongFalsely : Prop := witnessEditsRow.holds Tryz.pinned (OpenSpec.ofChange witnessEditsWrong)

/-- 'quartolaw36.LinearWitness': WHATEVER THE INPUT: true; the input reads as it did. -/
def linearWitnessSpec : ChangeSpec := { name := "linearWitness", fn := fun _ => fun
  | [d1, d2] => { results := [.lit (.bool true)], args := [d1, d2] }
  | _ => none }
def linearWitnessRow : OpenClaim := { program := "ytdeiocppghhfdaagreat", sum := "56f9f3090c531eb476d1e9d8fd71b1711e2f7ac6841b79cf961a0d42d51e7b68", func := "quarto/quartolaw36.LinearWitness", spec := "linearWitness", inPlace := ["internal/abi.NoEscape", "slices.overlaps[quarto/api.Mark]"], unfollowed := true, recurses := true, plainKeys := false, apart := false }
def LinearWitnessSaid : Prop := linearWitnessRow.holds Tryz.pinned (OpenSpec.ofChange linearWitnessSpec)

/-- ITS FALSE NEIGHBOUR: 'it returns false'. Refute it at one input. -/
def linearWitnessWrong : ChangeSpec := { name := "linearWitness", fn := fun _ => fun
  | [d1, d2] => { results := [.lit (.bool false)], args := [d1, d2] }
  | _ => none }
def LinearWitnessWrongFalsely : Prop := linearWitnessRow.holds Tryz.pinned (OpenSpec.ofChange linearWitnessWrong)

/-- 'quartolaw36.LinearInOrder': WHATEVER THE INPUT: true; the input reads as it did. -/
def linearInOrderSpec : ChangeSpec := { name := "linearInOrder", fn := fun _ => fun
  | [d1, d2] => { results := [.lit (.bool true)], args := [d1, d2] }
  | _ => none }
def linearInOrderRow : OpenClaim := { program := "ytdeiocppghhfdaagreat", sum := "56f9f3090c531eb476d1e9d8fd71b1711e2f7ac6841b79cf961a0d42d51e7b68", func := "quarto/quartolaw36.LinearInOrder", spec := "linearInOrder", inPlace := ["internal/abi.NoEscape", "slices.overlaps[quarto/api.Mark]"], unfollowed := true, recurses := true, plainKeys := false, apart := false }
def LinearInOrderSaid : Prop := linearInOrderRow.holds Tryz.pinned (OpenSpec.ofChange linearInOrderSpec)

/-- ITS FALSE NEIGHBOUR: 'it returns false'. Refute it at one input. -/
def linearInOrderWrong : ChangeSpec := { name := "linearInOrder", fn := fun _ => fun
  | [d1, d2] => { results := [.lit (.bool false)], args := [d1, d2] }
  | _ => none }
def LinearInOrderWrongFalsely : Prop := linearInOrderRow.holds Tryz.pinned (OpenSpec.ofChange linearInOrderWrong)

/-- 'quartolaw35.WitnessOrders': WHATEVER THE INPUT: true; the input reads as it did. -/
def witnessOrdersSpec : ChangeSpec := { name := "witnessOrders", fn := fun _ => fun
  | [d] => { results := [.lit (.bool true)], args := [d] }
  | _ => none }
def witnessOrdersRow : OpenClaim := { program := "ytdeiocppghhfdaagreat", sum := "56f9f3090c531eb476d1e9d8fd71b1711e2f7ac6841b79cf961a0d42d51e7b68", func := "quarto/quartolaw35.WitnessOrders", spec := "witnessOrders", inPlace := ["internal/abi.NoEscape", "slices.overlaps[quarto/api.Mark]"], unfollowed := true, recurses := true, plainKeys := false, apart := false }
def WitnessOrdersSaid : Prop := witnessOrdersRow.holds Tryz.pinned (OpenSpec.ofChange witnessOrdersSpec)

/-- ITS FALSE NEIGHBOUR: 'it returns false'. Refute it at one input. -/
def witnessOrdersWrong : ChangeSpec := { name := "witnessOrders", fn := fun _ => fun
  | [d] => { results := [.lit (.bool false)], args := [d] }
  | _ => none }
def WitnessOrdersWrongFalsely : Prop := witnessOrdersRow.holds Tryz.pinned (OpenSpec.ofChange witnessOrdersWrong)

/-- 'quartolaw35.WitnessPrefixes': WHATEVER THE INPUT: true; the input reads as it did. -/
def witnessPrefixesSpec : ChangeSpec := { name := "witnessPrefixes", fn := fun _ => fun
  | [d1, d2, d3] => { results := [.lit (.bool true)], args := [d1, d2, d3] }
  | _ => none }
def witnessPrefixesRow : OpenClaim := { program := "ytdeiocppghhfdaagreat", sum := "56f9f3090c531eb476d1e9d8fd71b1711e2f7ac6841b79cf961a0d42d51e7b68", func := "quarto/quartolaw35.WitnessPrefixes", spec := "witnessPrefixes", inPlace := ["internal/abi.NoEscape", "slices.overlaps[quarto/api.Mark]"], unfollowed := true, recurses := true, plainKeys := false, apart := false }
def WitnessPrefixesSaid : Prop := witnessPrefixesRow.holds Tryz.pinned (OpenSpec.ofChange witnessPrefixesSpec)

/-- ITS FALSE NEIGHBOUR: 'it returns false'. Refute it at one input. -/
def witnessPrefixesWrong : ChangeSpec := { name := "witnessPrefixes", fn := fun _ => fun
  | [d1, d2, d3] => { results := [.lit (.bool false)], args := [d1, d2, d3] }
  | _ => none }
def WitnessPrefixesWrongFalsely : Prop := witnessPrefixesRow.holds Tryz.pinned (OpenSpec.ofChange witnessPrefixesWrong)

/-- 'quartolaw35.WitnessComposes': WHATEVER THE INPUT: true; the input reads as it did. -/
def witnessComposesSpec : ChangeSpec := { name := "witnessComposes", fn := fun _ => fun
  | [d1, d2, d3] => { results := [.lit (.bool true)], args := [d1, d2, d3] }
  | _ => none }
def witnessComposesRow : OpenClaim := { program := "ytdeiocppghhfdaagreat", sum := "56f9f3090c531eb476d1e9d8fd71b1711e2f7ac6841b79cf961a0d42d51e7b68", func := "quarto/quartolaw35.WitnessComposes", spec := "witnessComposes", inPlace := ["internal/abi.NoEscape", "slices.overlaps[quarto/api.Mark]"], unfollowed := true, recurses := true, plainKeys := false, apart := false }
def WitnessComposesSaid : Prop := witnessComposesRow.holds Tryz.pinned (OpenSpec.ofChange witnessComposesSpec)

/-- ITS FALSE NEIGHBOUR: 'it returns false'. Refute it at one input. -/
def witnessComposesWrong : ChangeSpec := { name := "witnessComposes", fn := fun _ => fun
  | [d1, d2, d3] => { results := [.lit (.bool false)], args := [d1, d2, d3] }
  | _ => none }
def WitnessComposesWrongFalsely : Prop := witnessComposesRow.holds Tryz.pinned (OpenSpec.ofChange witnessComposesWrong)

/- THE SECOND FORM. 'bulk': how many values and letters a reading holds, each counted each time it is reached (what is shared counts as often as it is met; a slice's spare places count too). A statement '..UptoSaid' is the law's where the arguments, and the package variables that the reading takes, are together of bulk at most 1048576: NARROWER than '..Said'. Prove '..Said' where nothing that the law and all that it calls make is longer than what came in: it says more and counts as full. Else prove '..UptoSaid'. A law counts once. -/
mutual
def uptoBulk {H : Type} : DataW H → Nat
  | .lit (.string bytes) => bytes.length + 1
  | .lit _ => 1
  | .nil => 1
  | .ptr d => uptoBulk d + 1
  | .slice elems spare => uptoBulkAll elems + uptoBulkAll spare + 1
  | .agg parts => uptoBulkAll parts + 1
  | .iface _ d => uptoBulk d + 1
  | .map entries => uptoBulkEntries entries + 1
  | .held _ => 1
def uptoBulkAll {H : Type} : List (DataW H) → Nat
  | [] => 0
  | d :: r => uptoBulk d + uptoBulkAll r
def uptoBulkEntries {H : Type} : List (Lit × DataW H) → Nat
  | [] => 0
  | x :: r => uptoBulkEntry x + uptoBulkEntries r
def uptoBulkEntry {H : Type} : Lit × DataW H → Nat
  | (.string bytes, d) => bytes.length + uptoBulk d + 1
  | (_, d) => uptoBulk d + 1
 end
def uptoSmall : (H : Type) → List (DataW H) → Bool := fun _ ds => decide (uptoBulkAll ds ≤ 1048576)
def OpenSpec.upto (s : _root_.Go.ChangeSpec) : _root_.Go.OpenSpec := { _root_.Go.OpenSpec.ofChange s with cond := some uptoSmall }

/-- 'quartolaw36.LinearMatches', WHERE WHAT IT READS IS OF BULK AT MOST 1048576: true; the input reads as it did. -/
def linearMatchesUptoRow : OpenClaim := { program := "ytdeiocppghhfdaagreat", sum := "56f9f3090c531eb476d1e9d8fd71b1711e2f7ac6841b79cf961a0d42d51e7b68", func := "quarto/quartolaw36.LinearMatches", spec := "linearMatches", inPlace := ["internal/abi.NoEscape", "slices.overlaps[quarto/api.Mark]"], unfollowed := true, recurses := true, plainKeys := false, apart := false, narrowed := true }
def LinearMatchesUptoSaid : Prop := linearMatchesUptoRow.holds Tryz.pinned (OpenSpec.upto linearMatchesSpec)

/-- 'quartolaw36.LinearValids', WHERE WHAT IT READS IS OF BULK AT MOST 1048576: true; the input reads as it did. -/
def linearValidsUptoRow : OpenClaim := { program := "ytdeiocppghhfdaagreat", sum := "56f9f3090c531eb476d1e9d8fd71b1711e2f7ac6841b79cf961a0d42d51e7b68", func := "quarto/quartolaw36.LinearValids", spec := "linearValids", inPlace := ["internal/abi.NoEscape", "slices.overlaps[quarto/api.Mark]"], unfollowed := true, recurses := true, plainKeys := false, apart := false, narrowed := true }
def LinearValidsUptoSaid : Prop := linearValidsUptoRow.holds Tryz.pinned (OpenSpec.upto linearValidsSpec)

/-- 'quartolaw36.LinearExamples', WHERE WHAT IT READS IS OF BULK AT MOST 1048576: true; the input reads as it did. -/
def linearExamplesUptoRow : OpenClaim := { program := "ytdeiocppghhfdaagreat", sum := "56f9f3090c531eb476d1e9d8fd71b1711e2f7ac6841b79cf961a0d42d51e7b68", func := "quarto/quartolaw36.LinearExamples", spec := "linearExamples", inPlace := ["internal/abi.NoEscape", "slices.overlaps[quarto/api.Mark]"], unfollowed := true, recurses := true, plainKeys := false, apart := false, narrowed := true }
def LinearExamplesUptoSaid : Prop := linearExamplesUptoRow.holds Tryz.pinned (OpenSpec.upto linearExamplesSpec)

/-- 'quartolaw36.LinearFinds', WHERE WHAT IT READS IS OF BULK AT MOST 1048576: true; the input reads as it did. -/
def linearFindsUptoRow : OpenClaim := { program := "ytdeiocppghhfdaagreat", sum := "56f9f3090c531eb476d1e9d8fd71b1711e2f7ac6841b79cf961a0d42d51e7b68", func := "quarto/quartolaw36.LinearFinds", spec := "linearFinds", inPlace := ["internal/abi.NoEscape", "slices.overlaps[quarto/api.Mark]"], unfollowed := true, recurses := true, plainKeys := false, apart := false, narrowed := true }
def LinearFindsUptoSaid : Prop := linearFindsUptoRow.holds Tryz.pinned (OpenSpec.upto linearFindsSpec)

/-- 'quartolaw36.LinearRenames', WHERE WHAT IT READS IS OF BULK AT MOST 1048576: true; the input reads as it did. -/
def linearRenamesUptoRow : OpenClaim := { program := "ytdeiocppghhfdaagreat", sum := "56f9f3090c531eb476d1e9d8fd71b1711e2f7ac6841b79cf961a0d42d51e7b68", func := "quarto/quartolaw36.LinearRenames", spec := "linearRenames", inPlace := ["internal/abi.NoEscape", "slices.overlaps[quarto/api.Mark]"], unfollowed := true, recurses := true, plainKeys := false, apart := false, narrowed := true }
def LinearRenamesUptoSaid : Prop := linearRenamesUptoRow.holds Tryz.pinned (OpenSpec.upto linearRenamesSpec)

/-- 'quartolaw36.LinearPrefix', WHERE WHAT IT READS IS OF BULK AT MOST 1048576: true; the input reads as it did. -/
def linearPrefixUptoRow : OpenClaim := { program := "ytdeiocppghhfdaagreat", sum := "56f9f3090c531eb476d1e9d8fd71b1711e2f7ac6841b79cf961a0d42d51e7b68", func := "quarto/quartolaw36.LinearPrefix", spec := "linearPrefix", inPlace := ["internal/abi.NoEscape", "slices.overlaps[quarto/api.Mark]"], unfollowed := true, recurses := true, plainKeys := false, apart := false, narrowed := true }
def LinearPrefixUptoSaid : Prop := linearPrefixUptoRow.holds Tryz.pinned (OpenSpec.upto linearPrefixSpec)

/-- 'quartolaw35.WitnessMatches', WHERE WHAT IT READS IS OF BULK AT MOST 1048576: true; the input reads as it did. -/
def witnessMatchesUptoRow : OpenClaim := { program := "ytdeiocppghhfdaagreat", sum := "56f9f3090c531eb476d1e9d8fd71b1711e2f7ac6841b79cf961a0d42d51e7b68", func := "quarto/quartolaw35.WitnessMatches", spec := "witnessMatches", inPlace := ["internal/abi.NoEscape", "slices.overlaps[quarto/api.Mark]"], unfollowed := true, recurses := true, plainKeys := false, apart := false, narrowed := true }
def WitnessMatchesUptoSaid : Prop := witnessMatchesUptoRow.holds Tryz.pinned (OpenSpec.upto witnessMatchesSpec)

/-- 'quartolaw35.WitnessSequential', WHERE WHAT IT READS IS OF BULK AT MOST 1048576: true; the input reads as it did. -/
def witnessSequentialUptoRow : OpenClaim := { program := "ytdeiocppghhfdaagreat", sum := "56f9f3090c531eb476d1e9d8fd71b1711e2f7ac6841b79cf961a0d42d51e7b68", func := "quarto/quartolaw35.WitnessSequential", spec := "witnessSequential", inPlace := ["internal/abi.NoEscape", "slices.overlaps[quarto/api.Mark]"], unfollowed := true, recurses := true, plainKeys := false, apart := false, narrowed := true }
def WitnessSequentialUptoSaid : Prop := witnessSequentialUptoRow.holds Tryz.pinned (OpenSpec.upto witnessSequentialSpec)

/-- 'quartolaw35.WitnessEdits', WHERE WHAT IT READS IS OF BULK AT MOST 1048576: true; the input reads as it did. -/
def witnessEditsUptoRow : OpenClaim := { program := "ytdeiocppghhfdaagreat", sum := "56f9f3090c531eb476d1e9d8fd71b1711e2f7ac6841b79cf961a0d42d51e7b68", func := "quarto/quartolaw35.WitnessEdits", spec := "witnessEdits", inPlace := ["internal/abi.NoEscape", "slices.overlaps[quarto/api.Mark]"], unfollowed := true, recurses := true, plainKeys := false, apart := false, narrowed := true }
def WitnessEditsUptoSaid : Prop := witnessEditsUptoRow.holds Tryz.pinned (OpenSpec.upto witnessEditsSpec)

/-- 'quartolaw36.LinearWitness', WHERE WHAT IT READS IS OF BULK AT MOST 1048576: true; the input reads as it did. -/
def linearWitnessUptoRow : OpenClaim := { program := "ytdeiocppghhfdaagreat", sum := "56f9f3090c531eb476d1e9d8fd71b1711e2f7ac6841b79cf961a0d42d51e7b68", func := "quarto/quartolaw36.LinearWitness", spec := "linearWitness", inPlace := ["internal/abi.NoEscape", "slices.overlaps[quarto/api.Mark]"], unfollowed := true, recurses := true, plainKeys := false, apart := false, narrowed := true }
def LinearWitnessUptoSaid : Prop := linearWitnessUptoRow.holds Tryz.pinned (OpenSpec.upto linearWitnessSpec)

/-- 'quartolaw36.LinearInOrder', WHERE WHAT IT READS IS OF BULK AT MOST 1048576: true; the input reads as it did. -/
def linearInOrderUptoRow : OpenClaim := { program := "ytdeiocppghhfdaagreat", sum := "56f9f3090c531eb476d1e9d8fd71b1711e2f7ac6841b79cf961a0d42d51e7b68", func := "quarto/quartolaw36.LinearInOrder", spec := "linearInOrder", inPlace := ["internal/abi.NoEscape", "slices.overlaps[quarto/api.Mark]"], unfollowed := true, recurses := true, plainKeys := false, apart := false, narrowed := true }
def LinearInOrderUptoSaid : Prop := linearInOrderUptoRow.holds Tryz.pinned (OpenSpec.upto linearInOrderSpec)

/-- 'quartolaw35.WitnessOrders', WHERE WHAT IT READS IS OF BULK AT MOST 1048576: true; the input reads as it did. -/
def witnessOrdersUptoRow : OpenClaim := { program := "ytdeiocppghhfdaagreat", sum := "56f9f3090c531eb476d1e9d8fd71b1711e2f7ac6841b79cf961a0d42d51e7b68", func := "quarto/quartolaw35.WitnessOrders", spec := "witnessOrders", inPlace := ["internal/abi.NoEscape", "slices.overlaps[quarto/api.Mark]"], unfollowed := true, recurses := true, plainKeys := false, apart := false, narrowed := true }
def WitnessOrdersUptoSaid : Prop := witnessOrdersUptoRow.holds Tryz.pinned (OpenSpec.upto witnessOrdersSpec)

/-- 'quartolaw35.WitnessPrefixes', WHERE WHAT IT READS IS OF BULK AT MOST 1048576: true; the input reads as it did. -/
def witnessPrefixesUptoRow : OpenClaim := { program := "ytdeiocppghhfdaagreat", sum := "56f9f3090c531eb476d1e9d8fd71b1711e2f7ac6841b79cf961a0d42d51e7b68", func := "quarto/quartolaw35.WitnessPrefixes", spec := "witnessPrefixes", inPlace := ["internal/abi.NoEscape", "slices.overlaps[quarto/api.Mark]"], unfollowed := true, recurses := true, plainKeys := false, apart := false, narrowed := true }
def WitnessPrefixesUptoSaid : Prop := witnessPrefixesUptoRow.holds Tryz.pinned (OpenSpec.upto witnessPrefixesSpec)

/-- 'quartolaw35.WitnessComposes', WHERE WHAT IT READS IS OF BULK AT MOST 1048576: true; the input reads as it did. -/
def witnessComposesUptoRow : OpenClaim := { program := "ytdeiocppghhfdaagreat", sum := "56f9f3090c531eb476d1e9d8fd71b1711e2f7ac6841b79cf961a0d42d51e7b68", func := "quarto/quartolaw35.WitnessComposes", spec := "witnessComposes", inPlace := ["internal/abi.NoEscape", "slices.overlaps[quarto/api.Mark]"], unfollowed := true, recurses := true, plainKeys := false, apart := false, narrowed := true }
def WitnessComposesUptoSaid : Prop := witnessComposesUptoRow.holds Tryz.pinned (OpenSpec.upto witnessComposesSpec)

end Rows
end Go.Proofs.YtdeiocppghhfdaaGreat
