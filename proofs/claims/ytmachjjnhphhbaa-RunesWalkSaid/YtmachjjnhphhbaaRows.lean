/-
  No cell of these rows narrows 'for every input' (looked for: loops, veiled, ifaces, maps, wideKeys, modest, calm, conditions, laid).
  DERIVED. THE GIVEN ROWS OF THIS SEAT. 9 by the template 'for every input the law returns true; each argument reads behind the call as it read before'; 0 by the template 'total and deterministic' (their statements: YtmachjjnhphhbaaTotals.lean).
  GIVEN WITH THE SEED: the statements are not yours to turn. If you find one false, say at which input.
  Laid BY PROGRAM, IN A SANDBOX (cutbox-rows.mjs): the forced cells as the released guide's own fill.sh prints them over the translation c0520e6c37777e00… (all of the seat's roots in one cut). By AI agents, Wed Nov 11 2026. No macro, syntax, notation, axiom, sorry.
-/
import Derived.Test.YtmachjjnhphhbaaChecked
import GoSem.Claim
import GoSem.ClaimJoined
import GoSem.ClaimMapViews
import Derived.JoinedTies
import Derived.KernelRfl
namespace Go.Proofs.Ytmachjjnhphhbaa
/- THE CELL 'sum', in the pinned program and in every row, IS THE sha256 OF THE DUMP (.gsa) THAT YtmachjjnhphhbaaProg.lean LOADS. Nothing in Lean hashes anything: it is a label: what it is worth is what the hold of that sum in a sandbox is worth. -/
noncomputable def Try.pinned : Pinned := { name := "ytmachjjnhphhbaa", sum := "c0520e6c37777e00db5c643ec0a6d49acc2c36c3ed77e6f5c46011e5886102f2", checked := Try.checked }
namespace Rows
def none {H : Type} : Left H := { results := [], args := [] }

/-- 'quartolaw01.RunesChecks': WHATEVER THE INPUT: true; the input reads as it did. -/
def runesChecksSpec : ChangeSpec := { name := "runesChecks", fn := fun _ => fun
  | [d1, d2] => { results := [.lit (.bool true)], args := [d1, d2] }
  | _ => none }
def runesChecksRow : OpenClaim := { program := "ytmachjjnhphhbaa", sum := "c0520e6c37777e00db5c643ec0a6d49acc2c36c3ed77e6f5c46011e5886102f2", func := "quarto/quartolaw01.RunesChecks", spec := "runesChecks", unfollowed := true, recurses := true, apart := false }
def RunesChecksSaid : Prop := runesChecksRow.holds Try.pinned (OpenSpec.ofChange runesChecksSpec)

/-- ITS FALSE NEIGHBOUR: 'it returns false'. Refute it at one input. -/
def runesChecksWrong : ChangeSpec := { name := "runesChecks", fn := fun _ => fun
  | [d1, d2] => { results := [.lit (.bool false)], args := [d1, d2] }
  | _ => none }
def RunesChecksWrongFalsely : Prop := runesChecksRow.holds Try.pinned (OpenSpec.ofChange runesChecksWrong)

/-- 'quartolaw01.RunesDecodes': WHATEVER THE INPUT: true; the input reads as it did. -/
def runesDecodesSpec : ChangeSpec := { name := "runesDecodes", fn := fun _ => fun
  | [d] => { results := [.lit (.bool true)], args := [d] }
  | _ => none }
def runesDecodesRow : OpenClaim := { program := "ytmachjjnhphhbaa", sum := "c0520e6c37777e00db5c643ec0a6d49acc2c36c3ed77e6f5c46011e5886102f2", func := "quarto/quartolaw01.RunesDecodes", spec := "runesDecodes", unfollowed := true, recurses := true, apart := false }
def RunesDecodesSaid : Prop := runesDecodesRow.holds Try.pinned (OpenSpec.ofChange runesDecodesSpec)

/-- ITS FALSE NEIGHBOUR: 'it returns false'. Refute it at one input. -/
def runesDecodesWrong : ChangeSpec := { name := "runesDecodes", fn := fun _ => fun
  | [d] => { results := [.lit (.bool false)], args := [d] }
  | _ => none }
def RunesDecodesWrongFalsely : Prop := runesDecodesRow.holds Try.pinned (OpenSpec.ofChange runesDecodesWrong)

/-- 'quartolaw01.RunesEncodes': WHATEVER THE INPUT: true; the input reads as it did. -/
def runesEncodesSpec : ChangeSpec := { name := "runesEncodes", fn := fun _ => fun
  | [d] => { results := [.lit (.bool true)], args := [d] }
  | _ => none }
def runesEncodesRow : OpenClaim := { program := "ytmachjjnhphhbaa", sum := "c0520e6c37777e00db5c643ec0a6d49acc2c36c3ed77e6f5c46011e5886102f2", func := "quarto/quartolaw01.RunesEncodes", spec := "runesEncodes", unfollowed := true, recurses := true, apart := false }
def RunesEncodesSaid : Prop := runesEncodesRow.holds Try.pinned (OpenSpec.ofChange runesEncodesSpec)

/-- ITS FALSE NEIGHBOUR: 'it returns false'. Refute it at one input. -/
def runesEncodesWrong : ChangeSpec := { name := "runesEncodes", fn := fun _ => fun
  | [d] => { results := [.lit (.bool false)], args := [d] }
  | _ => none }
def RunesEncodesWrongFalsely : Prop := runesEncodesRow.holds Try.pinned (OpenSpec.ofChange runesEncodesWrong)

/-- 'quartolaw01.RunesSteps': WHATEVER THE INPUT: true; the input reads as it did. -/
def runesStepsSpec : ChangeSpec := { name := "runesSteps", fn := fun _ => fun
  | [d1, d2] => { results := [.lit (.bool true)], args := [d1, d2] }
  | _ => none }
def runesStepsRow : OpenClaim := { program := "ytmachjjnhphhbaa", sum := "c0520e6c37777e00db5c643ec0a6d49acc2c36c3ed77e6f5c46011e5886102f2", func := "quarto/quartolaw01.RunesSteps", spec := "runesSteps", unfollowed := true, recurses := true, apart := false }
def RunesStepsSaid : Prop := runesStepsRow.holds Try.pinned (OpenSpec.ofChange runesStepsSpec)

/-- ITS FALSE NEIGHBOUR: 'it returns false'. Refute it at one input. -/
def runesStepsWrong : ChangeSpec := { name := "runesSteps", fn := fun _ => fun
  | [d1, d2] => { results := [.lit (.bool false)], args := [d1, d2] }
  | _ => none }
def RunesStepsWrongFalsely : Prop := runesStepsRow.holds Try.pinned (OpenSpec.ofChange runesStepsWrong)

/-- 'quartolaw01.RunesRound': WHATEVER THE INPUT: true; the input reads as it did. -/
def runesRoundSpec : ChangeSpec := { name := "runesRound", fn := fun _ => fun
  | [d1, d2, d3] => { results := [.lit (.bool true)], args := [d1, d2, d3] }
  | _ => none }
def runesRoundRow : OpenClaim := { program := "ytmachjjnhphhbaa", sum := "c0520e6c37777e00db5c643ec0a6d49acc2c36c3ed77e6f5c46011e5886102f2", func := "quarto/quartolaw01.RunesRound", spec := "runesRound", unfollowed := true, recurses := true, apart := false }
def RunesRoundSaid : Prop := runesRoundRow.holds Try.pinned (OpenSpec.ofChange runesRoundSpec)

/-- ITS FALSE NEIGHBOUR: 'it returns false'. Refute it at one input. -/
def runesRoundWrong : ChangeSpec := { name := "runesRound", fn := fun _ => fun
  | [d1, d2, d3] => { results := [.lit (.bool false)], args := [d1, d2, d3] }
  | _ => none }
def RunesRoundWrongFalsely : Prop := runesRoundRow.holds Try.pinned (OpenSpec.ofChange runesRoundWrong)

/-- 'quartolaw01.RunesWalk': WHATEVER THE INPUT: true; the input reads as it did. -/
def runesWalkSpec : ChangeSpec := { name := "runesWalk", fn := fun _ => fun
  | [d] => { results := [.lit (.bool true)], args := [d] }
  | _ => none }
def runesWalkRow : OpenClaim := { program := "ytmachjjnhphhbaa", sum := "c0520e6c37777e00db5c643ec0a6d49acc2c36c3ed77e6f5c46011e5886102f2", func := "quarto/quartolaw01.RunesWalk", spec := "runesWalk", unfollowed := true, recurses := true, apart := false }
def RunesWalkSaid : Prop := runesWalkRow.holds Try.pinned (OpenSpec.ofChange runesWalkSpec)

/-- ITS FALSE NEIGHBOUR: 'it returns false'. Refute it at one input. -/
def runesWalkWrong : ChangeSpec := { name := "runesWalk", fn := fun _ => fun
  | [d] => { results := [.lit (.bool false)], args := [d] }
  | _ => none }
def RunesWalkWrongFalsely : Prop := runesWalkRow.holds Try.pinned (OpenSpec.ofChange runesWalkWrong)

/-- 'quartolaw01.RunesParts': WHATEVER THE INPUT: true; the input reads as it did. -/
def runesPartsSpec : ChangeSpec := { name := "runesParts", fn := fun _ => fun
  | [d1, d2, d3] => { results := [.lit (.bool true)], args := [d1, d2, d3] }
  | _ => none }
def runesPartsRow : OpenClaim := { program := "ytmachjjnhphhbaa", sum := "c0520e6c37777e00db5c643ec0a6d49acc2c36c3ed77e6f5c46011e5886102f2", func := "quarto/quartolaw01.RunesParts", spec := "runesParts", unfollowed := true, recurses := true, apart := false }
def RunesPartsSaid : Prop := runesPartsRow.holds Try.pinned (OpenSpec.ofChange runesPartsSpec)

/-- ITS FALSE NEIGHBOUR: 'it returns false'. Refute it at one input. -/
def runesPartsWrong : ChangeSpec := { name := "runesParts", fn := fun _ => fun
  | [d1, d2, d3] => { results := [.lit (.bool false)], args := [d1, d2, d3] }
  | _ => none }
def RunesPartsWrongFalsely : Prop := runesPartsRow.holds Try.pinned (OpenSpec.ofChange runesPartsWrong)

/-- 'quartolaw01.RunesOrder': WHATEVER THE INPUT: true; the input reads as it did. -/
def runesOrderSpec : ChangeSpec := { name := "runesOrder", fn := fun _ => fun
  | [d1, d2] => { results := [.lit (.bool true)], args := [d1, d2] }
  | _ => none }
def runesOrderRow : OpenClaim := { program := "ytmachjjnhphhbaa", sum := "c0520e6c37777e00db5c643ec0a6d49acc2c36c3ed77e6f5c46011e5886102f2", func := "quarto/quartolaw01.RunesOrder", spec := "runesOrder", unfollowed := true, recurses := true, apart := false }
def RunesOrderSaid : Prop := runesOrderRow.holds Try.pinned (OpenSpec.ofChange runesOrderSpec)

/-- ITS FALSE NEIGHBOUR: 'it returns false'. Refute it at one input. -/
def runesOrderWrong : ChangeSpec := { name := "runesOrder", fn := fun _ => fun
  | [d1, d2] => { results := [.lit (.bool false)], args := [d1, d2] }
  | _ => none }
def RunesOrderWrongFalsely : Prop := runesOrderRow.holds Try.pinned (OpenSpec.ofChange runesOrderWrong)

/-- 'quartolaw01.RunesClips': WHATEVER THE INPUT: true; the input reads as it did. -/
def runesClipsSpec : ChangeSpec := { name := "runesClips", fn := fun _ => fun
  | [d1, d2] => { results := [.lit (.bool true)], args := [d1, d2] }
  | _ => none }
def runesClipsRow : OpenClaim := { program := "ytmachjjnhphhbaa", sum := "c0520e6c37777e00db5c643ec0a6d49acc2c36c3ed77e6f5c46011e5886102f2", func := "quarto/quartolaw01.RunesClips", spec := "runesClips", unfollowed := true, recurses := true, apart := false }
def RunesClipsSaid : Prop := runesClipsRow.holds Try.pinned (OpenSpec.ofChange runesClipsSpec)

/-- ITS FALSE NEIGHBOUR: 'it returns false'. Refute it at one input. -/
def runesClipsWrong : ChangeSpec := { name := "runesClips", fn := fun _ => fun
  | [d1, d2] => { results := [.lit (.bool false)], args := [d1, d2] }
  | _ => none }
def RunesClipsWrongFalsely : Prop := runesClipsRow.holds Try.pinned (OpenSpec.ofChange runesClipsWrong)

/- THE SECOND FORM. 'bulk': how many values and letters a reading holds, each counted each time it is reached (what is shared counts as often as it is met; a slice's spare places count too). A statement '..UptoSaid' is the law's where the arguments, and the package variables that the reading takes, are together of bulk at most 1048576: NARROWER than '..Said'. Prove '..Said' where nothing that the law and all that it calls make is longer than what came in: it says more and counts as full. Else prove '..UptoSaid'. A law counts once. -/
mutual
def uptoBulk {H : Type} : DataW H → Nat
  | .lit (.string bytes) => bytes.length + 1
  | .lit _ => 1
  | .nil => 1
  | .ptr d => uptoBulk d + 1
  | .slice elems spare => uptoBulkAll elems + uptoBulkAll spare + 1
  | .agg parts => uptoBulkAll parts + 1
  | .iface _ d => uptoBulk d + 1
  | .map entries => uptoBulkEntries entries + 1
  | .held _ => 1
def uptoBulkAll {H : Type} : List (DataW H) → Nat
  | [] => 0
  | d :: r => uptoBulk d + uptoBulkAll r
def uptoBulkEntries {H : Type} : List (Lit × DataW H) → Nat
  | [] => 0
  | x :: r => uptoBulkEntry x + uptoBulkEntries r
def uptoBulkEntry {H : Type} : Lit × DataW H → Nat
  | (.string bytes, d) => bytes.length + uptoBulk d + 1
  | (_, d) => uptoBulk d + 1
 end
def uptoSmall : (H : Type) → List (DataW H) → Bool := fun _ ds => decide (uptoBulkAll ds ≤ 1048576)
def OpenSpec.upto (s : _root_.Go.ChangeSpec) : _root_.Go.OpenSpec := { _root_.Go.OpenSpec.ofChange s with cond := some uptoSmall }

/-- 'quartolaw01.RunesChecks', WHERE WHAT IT READS IS OF BULK AT MOST 1048576: true; the input reads as it did. -/
def runesChecksUptoRow : OpenClaim := { program := "ytmachjjnhphhbaa", sum := "c0520e6c37777e00db5c643ec0a6d49acc2c36c3ed77e6f5c46011e5886102f2", func := "quarto/quartolaw01.RunesChecks", spec := "runesChecks", unfollowed := true, recurses := true, apart := false, narrowed := true }
def RunesChecksUptoSaid : Prop := runesChecksUptoRow.holds Try.pinned (OpenSpec.upto runesChecksSpec)

/-- 'quartolaw01.RunesDecodes', WHERE WHAT IT READS IS OF BULK AT MOST 1048576: true; the input reads as it did. -/
def runesDecodesUptoRow : OpenClaim := { program := "ytmachjjnhphhbaa", sum := "c0520e6c37777e00db5c643ec0a6d49acc2c36c3ed77e6f5c46011e5886102f2", func := "quarto/quartolaw01.RunesDecodes", spec := "runesDecodes", unfollowed := true, recurses := true, apart := false, narrowed := true }
def RunesDecodesUptoSaid : Prop := runesDecodesUptoRow.holds Try.pinned (OpenSpec.upto runesDecodesSpec)

/-- 'quartolaw01.RunesEncodes', WHERE WHAT IT READS IS OF BULK AT MOST 1048576: true; the input reads as it did. -/
def runesEncodesUptoRow : OpenClaim := { program := "ytmachjjnhphhbaa", sum := "c0520e6c37777e00db5c643ec0a6d49acc2c36c3ed77e6f5c46011e5886102f2", func := "quarto/quartolaw01.RunesEncodes", spec := "runesEncodes", unfollowed := true, recurses := true, apart := false, narrowed := true }
def RunesEncodesUptoSaid : Prop := runesEncodesUptoRow.holds Try.pinned (OpenSpec.upto runesEncodesSpec)

/-- 'quartolaw01.RunesSteps', WHERE WHAT IT READS IS OF BULK AT MOST 1048576: true; the input reads as it did. -/
def runesStepsUptoRow : OpenClaim := { program := "ytmachjjnhphhbaa", sum := "c0520e6c37777e00db5c643ec0a6d49acc2c36c3ed77e6f5c46011e5886102f2", func := "quarto/quartolaw01.RunesSteps", spec := "runesSteps", unfollowed := true, recurses := true, apart := false, narrowed := true }
def RunesStepsUptoSaid : Prop := runesStepsUptoRow.holds Try.pinned (OpenSpec.upto runesStepsSpec)

/-- 'quartolaw01.RunesRound', WHERE WHAT IT READS IS OF BULK AT MOST 1048576: true; the input reads as it did. -/
def runesRoundUptoRow : OpenClaim := { program := "ytmachjjnhphhbaa", sum := "c0520e6c37777e00db5c643ec0a6d49acc2c36c3ed77e6f5c46011e5886102f2", func := "quarto/quartolaw01.RunesRound", spec := "runesRound", unfollowed := true, recurses := true, apart := false, narrowed := true }
def RunesRoundUptoSaid : Prop := runesRoundUptoRow.holds Try.pinned (OpenSpec.upto runesRoundSpec)

/-- 'quartolaw01.RunesWalk', WHERE WHAT IT READS IS OF BULK AT MOST 1048576: true; the input reads as it did. -/
def runesWalkUptoRow : OpenClaim := { program := "ytmachjjnhphhbaa", sum := "c0520e6c37777e00db5c643ec0a6d49acc2c36c3ed77e6f5c46011e5886102f2", func := "quarto/quartolaw01.RunesWalk", spec := "runesWalk", unfollowed := true, recurses := true, apart := false, narrowed := true }
def RunesWalkUptoSaid : Prop := runesWalkUptoRow.holds Try.pinned (OpenSpec.upto runesWalkSpec)

/-- 'quartolaw01.RunesParts', WHERE WHAT IT READS IS OF BULK AT MOST 1048576: true; the input reads as it did. -/
def runesPartsUptoRow : OpenClaim := { program := "ytmachjjnhphhbaa", sum := "c0520e6c37777e00db5c643ec0a6d49acc2c36c3ed77e6f5c46011e5886102f2", func := "quarto/quartolaw01.RunesParts", spec := "runesParts", unfollowed := true, recurses := true, apart := false, narrowed := true }
def RunesPartsUptoSaid : Prop := runesPartsUptoRow.holds Try.pinned (OpenSpec.upto runesPartsSpec)

/-- 'quartolaw01.RunesOrder', WHERE WHAT IT READS IS OF BULK AT MOST 1048576: true; the input reads as it did. -/
def runesOrderUptoRow : OpenClaim := { program := "ytmachjjnhphhbaa", sum := "c0520e6c37777e00db5c643ec0a6d49acc2c36c3ed77e6f5c46011e5886102f2", func := "quarto/quartolaw01.RunesOrder", spec := "runesOrder", unfollowed := true, recurses := true, apart := false, narrowed := true }
def RunesOrderUptoSaid : Prop := runesOrderUptoRow.holds Try.pinned (OpenSpec.upto runesOrderSpec)

/-- 'quartolaw01.RunesClips', WHERE WHAT IT READS IS OF BULK AT MOST 1048576: true; the input reads as it did. -/
def runesClipsUptoRow : OpenClaim := { program := "ytmachjjnhphhbaa", sum := "c0520e6c37777e00db5c643ec0a6d49acc2c36c3ed77e6f5c46011e5886102f2", func := "quarto/quartolaw01.RunesClips", spec := "runesClips", unfollowed := true, recurses := true, apart := false, narrowed := true }
def RunesClipsUptoSaid : Prop := runesClipsUptoRow.holds Try.pinned (OpenSpec.upto runesClipsSpec)

end Rows
end Go.Proofs.Ytmachjjnhphhbaa
