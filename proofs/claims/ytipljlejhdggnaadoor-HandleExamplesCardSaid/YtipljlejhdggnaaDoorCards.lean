/-
  DERIVED. GIVEN WITH THE SEED: THE CARDS: each row of YtipljlejhdggnaaDoorRows.lean that lists a variable, with what it lists TIED to the program's text (the seventh form; the later family's looks); each row that meets fmt, with fmt's text TOLD by the authors' own Lean function (tested against real Go, not proved from fmt's source: count such statements apart). THE CARD IS WHAT COUNTS. Prove the row's statement (the work); the ties are given (YtipljlejhdggnaaDoorTie.lean); close each card by the builder's one call (the guide's Derived/Test/ToyasCard.lean, 'card_holds'). Laid BY PROGRAM, IN A SANDBOX (cutbox-door.mjs). By AI agents, Wed Nov 11 2026. No macro, syntax, notation, axiom, sorry.
-/
import Derived.Test.YtipljlejhdggnaaDoorRows
import GoSem.ClaimSeven
namespace Go.Proofs.YtipljlejhdggnaaDoor
namespace Rows

/-- THE TIED CARD OF 'quartolaw10.HandleParses'. -/
def handleParsesCard : Claim7 := { stood := { row := handleParsesRow, standIns := [], harness := (true, "3da65fe021621e89c5fa6f900130d294512742548d5904970513c44f12b928d8"), looks := false }, kinds := [], alts := [], laidByText := true, laidKinds := [.data, .data, .data], laidTests := true, laidLooks := .later }
def HandleParsesCardSaid : Prop := Claim7.holds Tryd.pinned (.plain (OpenSpec.ofChange handleParsesSpec)) handleParsesCard

/-- THE TIED CARD OF 'quartolaw10.HandleMatches'. -/
def handleMatchesCard : Claim7 := { stood := { row := handleMatchesRow, standIns := [], harness := (true, "3da65fe021621e89c5fa6f900130d294512742548d5904970513c44f12b928d8"), looks := false }, kinds := [], alts := [], laidByText := true, laidKinds := [.data, .data, .data], laidTests := true, laidLooks := .later }
def HandleMatchesCardSaid : Prop := Claim7.holds Tryd.pinned (.plain (OpenSpec.ofChange handleMatchesSpec)) handleMatchesCard

/-- THE TIED CARD OF 'quartolaw10.HandleExamples'. -/
def handleExamplesCard : Claim7 := { stood := { row := handleExamplesRow, standIns := [], harness := (true, "3da65fe021621e89c5fa6f900130d294512742548d5904970513c44f12b928d8"), looks := false }, kinds := [], alts := [], laidByText := true, laidKinds := [.data, .data, .data], laidTests := true, laidLooks := .later }
def HandleExamplesCardSaid : Prop := Claim7.holds Tryd.pinned (.plain (OpenSpec.ofChange handleExamplesSpec)) handleExamplesCard

/-- THE TIED CARD OF 'quartolaw10.HandleBack'. -/
def handleBackCard : Claim7 := { stood := { row := handleBackRow, standIns := [], harness := (true, "3da65fe021621e89c5fa6f900130d294512742548d5904970513c44f12b928d8"), looks := false }, kinds := [], alts := [], laidByText := true, laidKinds := [.data, .data, .data], laidTests := true, laidLooks := .later }
def HandleBackCardSaid : Prop := Claim7.holds Tryd.pinned (.plain (OpenSpec.ofChange handleBackSpec)) handleBackCard

/-- THE TIED CARD OF 'quartolaw10.HandleAny'. -/
def handleAnyCard : Claim7 := { stood := { row := handleAnyRow, standIns := [], harness := (true, "3da65fe021621e89c5fa6f900130d294512742548d5904970513c44f12b928d8"), looks := false }, kinds := [], alts := [], laidByText := true, laidKinds := [.data, .data, .data], laidTests := true, laidLooks := .later }
def HandleAnyCardSaid : Prop := Claim7.holds Tryd.pinned (.plain (OpenSpec.ofChange handleAnySpec)) handleAnyCard

/-- THE TIED CARD OF 'quartolaw10.HandleNext'. -/
def handleNextCard : Claim7 := { stood := { row := handleNextRow, standIns := [], harness := (true, "3da65fe021621e89c5fa6f900130d294512742548d5904970513c44f12b928d8"), looks := false }, kinds := [], alts := [], laidByText := true, laidKinds := [.data, .data, .data], laidTests := true, laidLooks := .later }
def HandleNextCardSaid : Prop := Claim7.holds Tryd.pinned (.plain (OpenSpec.ofChange handleNextSpec)) handleNextCard

/-- THE SECOND FORM's CARD OF 'quartolaw10.HandleParses'. -/
def handleParsesUptoCard : Claim7 := { stood := { row := handleParsesUptoRow, standIns := [], harness := (true, "3da65fe021621e89c5fa6f900130d294512742548d5904970513c44f12b928d8"), looks := false }, kinds := [], alts := [], laidByText := true, laidKinds := [.data, .data, .data], laidTests := true, laidLooks := .later }
def HandleParsesUptoCardSaid : Prop := Claim7.holds Tryd.pinned (.plain (OpenSpec.upto handleParsesSpec)) handleParsesUptoCard

/-- THE SECOND FORM's CARD OF 'quartolaw10.HandleMatches'. -/
def handleMatchesUptoCard : Claim7 := { stood := { row := handleMatchesUptoRow, standIns := [], harness := (true, "3da65fe021621e89c5fa6f900130d294512742548d5904970513c44f12b928d8"), looks := false }, kinds := [], alts := [], laidByText := true, laidKinds := [.data, .data, .data], laidTests := true, laidLooks := .later }
def HandleMatchesUptoCardSaid : Prop := Claim7.holds Tryd.pinned (.plain (OpenSpec.upto handleMatchesSpec)) handleMatchesUptoCard

/-- THE SECOND FORM's CARD OF 'quartolaw10.HandleExamples'. -/
def handleExamplesUptoCard : Claim7 := { stood := { row := handleExamplesUptoRow, standIns := [], harness := (true, "3da65fe021621e89c5fa6f900130d294512742548d5904970513c44f12b928d8"), looks := false }, kinds := [], alts := [], laidByText := true, laidKinds := [.data, .data, .data], laidTests := true, laidLooks := .later }
def HandleExamplesUptoCardSaid : Prop := Claim7.holds Tryd.pinned (.plain (OpenSpec.upto handleExamplesSpec)) handleExamplesUptoCard

/-- THE SECOND FORM's CARD OF 'quartolaw10.HandleBack'. -/
def handleBackUptoCard : Claim7 := { stood := { row := handleBackUptoRow, standIns := [], harness := (true, "3da65fe021621e89c5fa6f900130d294512742548d5904970513c44f12b928d8"), looks := false }, kinds := [], alts := [], laidByText := true, laidKinds := [.data, .data, .data], laidTests := true, laidLooks := .later }
def HandleBackUptoCardSaid : Prop := Claim7.holds Tryd.pinned (.plain (OpenSpec.upto handleBackSpec)) handleBackUptoCard

/-- THE SECOND FORM's CARD OF 'quartolaw10.HandleAny'. -/
def handleAnyUptoCard : Claim7 := { stood := { row := handleAnyUptoRow, standIns := [], harness := (true, "3da65fe021621e89c5fa6f900130d294512742548d5904970513c44f12b928d8"), looks := false }, kinds := [], alts := [], laidByText := true, laidKinds := [.data, .data, .data], laidTests := true, laidLooks := .later }
def HandleAnyUptoCardSaid : Prop := Claim7.holds Tryd.pinned (.plain (OpenSpec.upto handleAnySpec)) handleAnyUptoCard

/-- THE SECOND FORM's CARD OF 'quartolaw10.HandleNext'. -/
def handleNextUptoCard : Claim7 := { stood := { row := handleNextUptoRow, standIns := [], harness := (true, "3da65fe021621e89c5fa6f900130d294512742548d5904970513c44f12b928d8"), looks := false }, kinds := [], alts := [], laidByText := true, laidKinds := [.data, .data, .data], laidTests := true, laidLooks := .later }
def HandleNextUptoCardSaid : Prop := Claim7.holds Tryd.pinned (.plain (OpenSpec.upto handleNextSpec)) handleNextUptoCard
end Rows
end Go.Proofs.YtipljlejhdggnaaDoor
