/-
  No cell of these rows narrows 'for every input' (looked for: loops, veiled, ifaces, maps, wideKeys, modest, calm, conditions, laid).
  DERIVED. THE GIVEN ROWS OF THIS SEAT. 7 by the template 'for every input the law returns true; each argument reads behind the call as it read before'; 0 by the template 'total and deterministic' (their statements: YtjinnlmmlbmodaaTotals.lean).
  GIVEN WITH THE SEED: the statements are not yours to turn. If you find one false, say at which input.
  Laid BY PROGRAM, IN A SANDBOX (cutbox-rows.mjs): the forced cells as the released guide's own fill.sh prints them over the translation b302fe3e502416de… (all of the seat's roots in one cut). By AI agents, Wed Nov 11 2026. No macro, syntax, notation, axiom, sorry.
-/
import Derived.Test.YtjinnlmmlbmodaaChecked
import GoSem.Claim
import GoSem.ClaimJoined
import GoSem.ClaimMapViews
import Derived.JoinedTies
import Derived.KernelRfl
namespace Go.Proofs.Ytjinnlmmlbmodaa
/- THE CELL 'sum', in the pinned program and in every row, IS THE sha256 OF THE DUMP (.gsa) THAT YtjinnlmmlbmodaaProg.lean LOADS. Nothing in Lean hashes anything: it is a label: what it is worth is what the hold of that sum in a sandbox is worth. -/
noncomputable def Try.pinned : Pinned := { name := "ytjinnlmmlbmodaa", sum := "b302fe3e502416de21bc9809394375967c90ff5e4766da44a2e59498fc0fbeb9", checked := Try.checked }
namespace Rows
def none {H : Type} : Left H := { results := [], args := [] }

/-- 'quartolaw25.HistoryPairs': WHATEVER THE INPUT: true; the input reads as it did. -/
def historyPairsSpec : ChangeSpec := { name := "historyPairs", fn := fun _ => fun
  | [d1, d2] => { results := [.lit (.bool true)], args := [d1, d2] }
  | _ => none }
def historyPairsRow : OpenClaim := { program := "ytjinnlmmlbmodaa", sum := "b302fe3e502416de21bc9809394375967c90ff5e4766da44a2e59498fc0fbeb9", func := "quarto/quartolaw25.HistoryPairs", spec := "historyPairs", unfollowed := true, recurses := true, apart := false }
def HistoryPairsSaid : Prop := historyPairsRow.holds Try.pinned (OpenSpec.ofChange historyPairsSpec)

/-- ITS FALSE NEIGHBOUR: 'it returns false'. Refute it at one input. -/
def historyPairsWrong : ChangeSpec := { name := "historyPairs", fn := fun _ => fun
  | [d1, d2] => { results := [.lit (.bool false)], args := [d1, d2] }
  | _ => none }
def HistoryPairsWrongFalsely : Prop := historyPairsRow.holds Try.pinned (OpenSpec.ofChange historyPairsWrong)

/-- 'quartolaw25.HistoryExamples': WHATEVER THE INPUT: true; the input reads as it did. -/
def historyExamplesSpec : ChangeSpec := { name := "historyExamples", fn := fun _ => fun
  | [] => { results := [.lit (.bool true)], args := [] }
  | _ => none }
def historyExamplesRow : OpenClaim := { program := "ytjinnlmmlbmodaa", sum := "b302fe3e502416de21bc9809394375967c90ff5e4766da44a2e59498fc0fbeb9", func := "quarto/quartolaw25.HistoryExamples", spec := "historyExamples", unfollowed := true, recurses := true, apart := false }
def HistoryExamplesSaid : Prop := historyExamplesRow.holds Try.pinned (OpenSpec.ofChange historyExamplesSpec)

/-- ITS FALSE NEIGHBOUR: 'it returns false'. Refute it at one input. -/
def historyExamplesWrong : ChangeSpec := { name := "historyExamples", fn := fun _ => fun
  | [] => { results := [.lit (.bool false)], args := [] }
  | _ => none }
def HistoryExamplesWrongFalsely : Prop := historyExamplesRow.holds Try.pinned (OpenSpec.ofChange historyExamplesWrong)

/-- 'quartolaw25.HistoryPartial': WHATEVER THE INPUT: true; the input reads as it did. -/
def historyPartialSpec : ChangeSpec := { name := "historyPartial", fn := fun _ => fun
  | [d] => { results := [.lit (.bool true)], args := [d] }
  | _ => none }
def historyPartialRow : OpenClaim := { program := "ytjinnlmmlbmodaa", sum := "b302fe3e502416de21bc9809394375967c90ff5e4766da44a2e59498fc0fbeb9", func := "quarto/quartolaw25.HistoryPartial", spec := "historyPartial", unfollowed := true, recurses := true, apart := false }
def HistoryPartialSaid : Prop := historyPartialRow.holds Try.pinned (OpenSpec.ofChange historyPartialSpec)

/-- ITS FALSE NEIGHBOUR: 'it returns false'. Refute it at one input. -/
def historyPartialWrong : ChangeSpec := { name := "historyPartial", fn := fun _ => fun
  | [d] => { results := [.lit (.bool false)], args := [d] }
  | _ => none }
def HistoryPartialWrongFalsely : Prop := historyPartialRow.holds Try.pinned (OpenSpec.ofChange historyPartialWrong)

/-- 'quartolaw25.HistoryEffects': WHATEVER THE INPUT: true; the input reads as it did. -/
def historyEffectsSpec : ChangeSpec := { name := "historyEffects", fn := fun _ => fun
  | [d] => { results := [.lit (.bool true)], args := [d] }
  | _ => none }
def historyEffectsRow : OpenClaim := { program := "ytjinnlmmlbmodaa", sum := "b302fe3e502416de21bc9809394375967c90ff5e4766da44a2e59498fc0fbeb9", func := "quarto/quartolaw25.HistoryEffects", spec := "historyEffects", unfollowed := true, recurses := true, apart := false }
def HistoryEffectsSaid : Prop := historyEffectsRow.holds Try.pinned (OpenSpec.ofChange historyEffectsSpec)

/-- ITS FALSE NEIGHBOUR: 'it returns false'. Refute it at one input. -/
def historyEffectsWrong : ChangeSpec := { name := "historyEffects", fn := fun _ => fun
  | [d] => { results := [.lit (.bool false)], args := [d] }
  | _ => none }
def HistoryEffectsWrongFalsely : Prop := historyEffectsRow.holds Try.pinned (OpenSpec.ofChange historyEffectsWrong)

/-- 'quartolaw25.HistoryPrefixes': WHATEVER THE INPUT: true; the input reads as it did. -/
def historyPrefixesSpec : ChangeSpec := { name := "historyPrefixes", fn := fun _ => fun
  | [d1, d2, d3] => { results := [.lit (.bool true)], args := [d1, d2, d3] }
  | _ => none }
def historyPrefixesRow : OpenClaim := { program := "ytjinnlmmlbmodaa", sum := "b302fe3e502416de21bc9809394375967c90ff5e4766da44a2e59498fc0fbeb9", func := "quarto/quartolaw25.HistoryPrefixes", spec := "historyPrefixes", unfollowed := true, recurses := true, apart := false }
def HistoryPrefixesSaid : Prop := historyPrefixesRow.holds Try.pinned (OpenSpec.ofChange historyPrefixesSpec)

/-- ITS FALSE NEIGHBOUR: 'it returns false'. Refute it at one input. -/
def historyPrefixesWrong : ChangeSpec := { name := "historyPrefixes", fn := fun _ => fun
  | [d1, d2, d3] => { results := [.lit (.bool false)], args := [d1, d2, d3] }
  | _ => none }
def HistoryPrefixesWrongFalsely : Prop := historyPrefixesRow.holds Try.pinned (OpenSpec.ofChange historyPrefixesWrong)

/-- 'quartolaw25.HistoryThreads': WHATEVER THE INPUT: true; the input reads as it did. -/
def historyThreadsSpec : ChangeSpec := { name := "historyThreads", fn := fun _ => fun
  | [d] => { results := [.lit (.bool true)], args := [d] }
  | _ => none }
def historyThreadsRow : OpenClaim := { program := "ytjinnlmmlbmodaa", sum := "b302fe3e502416de21bc9809394375967c90ff5e4766da44a2e59498fc0fbeb9", func := "quarto/quartolaw25.HistoryThreads", spec := "historyThreads", unfollowed := true, recurses := true, apart := false }
def HistoryThreadsSaid : Prop := historyThreadsRow.holds Try.pinned (OpenSpec.ofChange historyThreadsSpec)

/-- ITS FALSE NEIGHBOUR: 'it returns false'. Refute it at one input. -/
def historyThreadsWrong : ChangeSpec := { name := "historyThreads", fn := fun _ => fun
  | [d] => { results := [.lit (.bool false)], args := [d] }
  | _ => none }
def HistoryThreadsWrongFalsely : Prop := historyThreadsRow.holds Try.pinned (OpenSpec.ofChange historyThreadsWrong)

/-- 'quartolaw25.HistoryOrders': WHATEVER THE INPUT: true; the input reads as it did. -/
def historyOrdersSpec : ChangeSpec := { name := "historyOrders", fn := fun _ => fun
  | [d1, d2] => { results := [.lit (.bool true)], args := [d1, d2] }
  | _ => none }
def historyOrdersRow : OpenClaim := { program := "ytjinnlmmlbmodaa", sum := "b302fe3e502416de21bc9809394375967c90ff5e4766da44a2e59498fc0fbeb9", func := "quarto/quartolaw25.HistoryOrders", spec := "historyOrders", unfollowed := true, recurses := true, apart := false }
def HistoryOrdersSaid : Prop := historyOrdersRow.holds Try.pinned (OpenSpec.ofChange historyOrdersSpec)

/-- ITS FALSE NEIGHBOUR: 'it returns false'. Refute it at one input. -/
def historyOrdersWrong : ChangeSpec := { name := "historyOrders", fn := fun _ => fun
  | [d1, d2] => { results := [.lit (.bool false)], args := [d1, d2] }
  | _ => none }
def HistoryOrdersWrongFalsely : Prop := historyOrdersRow.holds Try.pinned (OpenSpec.ofChange historyOrdersWrong)

/- THE SECOND FORM. 'bulk': how many values and letters a reading holds, each counted each time it is reached (what is shared counts as often as it is met; a slice's spare places count too). A statement '..UptoSaid' is the law's where the arguments, and the package variables that the reading takes, are together of bulk at most 1048576: NARROWER than '..Said'. Prove '..Said' where nothing that the law and all that it calls make is longer than what came in: it says more and counts as full. Else prove '..UptoSaid'. A law counts once. -/
mutual
def uptoBulk {H : Type} : DataW H → Nat
  | .lit (.string bytes) => bytes.length + 1
  | .lit _ => 1
  | .nil => 1
  | .ptr d => uptoBulk d + 1
  | .slice elems spare => uptoBulkAll elems + uptoBulkAll spare + 1
  | .agg parts => uptoBulkAll parts + 1
  | .iface _ d => uptoBulk d + 1
  | .map entries => uptoBulkEntries entries + 1
  | .held _ => 1
def uptoBulkAll {H : Type} : List (DataW H) → Nat
  | [] => 0
  | d :: r => uptoBulk d + uptoBulkAll r
def uptoBulkEntries {H : Type} : List (Lit × DataW H) → Nat
  | [] => 0
  | x :: r => uptoBulkEntry x + uptoBulkEntries r
def uptoBulkEntry {H : Type} : Lit × DataW H → Nat
  | (.string bytes, d) => bytes.length + uptoBulk d + 1
  | (_, d) => uptoBulk d + 1
 end
def uptoSmall : (H : Type) → List (DataW H) → Bool := fun _ ds => decide (uptoBulkAll ds ≤ 1048576)
def OpenSpec.upto (s : _root_.Go.ChangeSpec) : _root_.Go.OpenSpec := { _root_.Go.OpenSpec.ofChange s with cond := some uptoSmall }

/-- 'quartolaw25.HistoryPairs', WHERE WHAT IT READS IS OF BULK AT MOST 1048576: true; the input reads as it did. -/
def historyPairsUptoRow : OpenClaim := { program := "ytjinnlmmlbmodaa", sum := "b302fe3e502416de21bc9809394375967c90ff5e4766da44a2e59498fc0fbeb9", func := "quarto/quartolaw25.HistoryPairs", spec := "historyPairs", unfollowed := true, recurses := true, apart := false, narrowed := true }
def HistoryPairsUptoSaid : Prop := historyPairsUptoRow.holds Try.pinned (OpenSpec.upto historyPairsSpec)

/-- 'quartolaw25.HistoryExamples', WHERE WHAT IT READS IS OF BULK AT MOST 1048576: true; the input reads as it did. -/
def historyExamplesUptoRow : OpenClaim := { program := "ytjinnlmmlbmodaa", sum := "b302fe3e502416de21bc9809394375967c90ff5e4766da44a2e59498fc0fbeb9", func := "quarto/quartolaw25.HistoryExamples", spec := "historyExamples", unfollowed := true, recurses := true, apart := false, narrowed := true }
def HistoryExamplesUptoSaid : Prop := historyExamplesUptoRow.holds Try.pinned (OpenSpec.upto historyExamplesSpec)

/-- 'quartolaw25.HistoryPartial', WHERE WHAT IT READS IS OF BULK AT MOST 1048576: true; the input reads as it did. -/
def historyPartialUptoRow : OpenClaim := { program := "ytjinnlmmlbmodaa", sum := "b302fe3e502416de21bc9809394375967c90ff5e4766da44a2e59498fc0fbeb9", func := "quarto/quartolaw25.HistoryPartial", spec := "historyPartial", unfollowed := true, recurses := true, apart := false, narrowed := true }
def HistoryPartialUptoSaid : Prop := historyPartialUptoRow.holds Try.pinned (OpenSpec.upto historyPartialSpec)

/-- 'quartolaw25.HistoryEffects', WHERE WHAT IT READS IS OF BULK AT MOST 1048576: true; the input reads as it did. -/
def historyEffectsUptoRow : OpenClaim := { program := "ytjinnlmmlbmodaa", sum := "b302fe3e502416de21bc9809394375967c90ff5e4766da44a2e59498fc0fbeb9", func := "quarto/quartolaw25.HistoryEffects", spec := "historyEffects", unfollowed := true, recurses := true, apart := false, narrowed := true }
def HistoryEffectsUptoSaid : Prop := historyEffectsUptoRow.holds Try.pinned (OpenSpec.upto historyEffectsSpec)

/-- 'quartolaw25.HistoryPrefixes', WHERE WHAT IT READS IS OF BULK AT MOST 1048576: true; the input reads as it did. -/
def historyPrefixesUptoRow : OpenClaim := { program := "ytjinnlmmlbmodaa", sum := "b302fe3e502416de21bc9809394375967c90ff5e4766da44a2e59498fc0fbeb9", func := "quarto/quartolaw25.HistoryPrefixes", spec := "historyPrefixes", unfollowed := true, recurses := true, apart := false, narrowed := true }
def HistoryPrefixesUptoSaid : Prop := historyPrefixesUptoRow.holds Try.pinned (OpenSpec.upto historyPrefixesSpec)

/-- 'quartolaw25.HistoryThreads', WHERE WHAT IT READS IS OF BULK AT MOST 1048576: true; the input reads as it did. -/
def historyThreadsUptoRow : OpenClaim := { program := "ytjinnlmmlbmodaa", sum := "b302fe3e502416de21bc9809394375967c90ff5e4766da44a2e59498fc0fbeb9", func := "quarto/quartolaw25.HistoryThreads", spec := "historyThreads", unfollowed := true, recurses := true, apart := false, narrowed := true }
def HistoryThreadsUptoSaid : Prop := historyThreadsUptoRow.holds Try.pinned (OpenSpec.upto historyThreadsSpec)

/-- 'quartolaw25.HistoryOrders', WHERE WHAT IT READS IS OF BULK AT MOST 1048576: true; the input reads as it did. -/
def historyOrdersUptoRow : OpenClaim := { program := "ytjinnlmmlbmodaa", sum := "b302fe3e502416de21bc9809394375967c90ff5e4766da44a2e59498fc0fbeb9", func := "quarto/quartolaw25.HistoryOrders", spec := "historyOrders", unfollowed := true, recurses := true, apart := false, narrowed := true }
def HistoryOrdersUptoSaid : Prop := historyOrdersUptoRow.holds Try.pinned (OpenSpec.upto historyOrdersSpec)

end Rows
end Go.Proofs.Ytjinnlmmlbmodaa
