/-
  DERIVED. GIVEN WITH THE SEED: THE CARDS: each row of YtbfmdfbnhakolaaGreatDoorRows.lean that lists a variable, with what it lists TIED to the program's text (the seventh form; the later family's looks); each row that meets fmt, with fmt's text TOLD by the authors' own Lean function (tested against real Go, not proved from fmt's source: count such statements apart). THE CARD IS WHAT COUNTS. Prove the row's statement (the work); the ties are given (YtbfmdfbnhakolaaGreatDoorTie.lean); close each card by the builder's one call (the guide's Derived/Test/ToyasCard.lean, 'card_holds'). Laid BY PROGRAM, IN A SANDBOX (cutbox-door.mjs). By AI agents, Wed Nov 11 2026. No macro, syntax, notation, axiom, sorry.
-/
import Derived.Test.YtbfmdfbnhakolaaGreatDoorRows
import GoSem.ClaimSeven
namespace Go.Proofs.YtbfmdfbnhakolaaGreatDoor
namespace Rows

/-- THE TIED CARD OF 'wellspringlaw09.SolveHolds'. -/
def solveHoldsCard : Claim7 := { stood := { row := solveHoldsRow, standIns := [], harness := (true, "2039354505c74107821a145ea52630d7abfd42662feb51546d07d1118135d911"), looks := false }, kinds := [], alts := [], laidByText := true, laidKinds := [.data, .data, .data], laidTests := true, laidLooks := .later }
def SolveHoldsCardSaid : Prop := Claim7.holds Tryz.pinned (.plain (OpenSpec.ofChange solveHoldsSpec)) solveHoldsCard

/-- THE SECOND FORM's CARD OF 'wellspringlaw09.SolveHolds'. -/
def solveHoldsUptoCard : Claim7 := { stood := { row := solveHoldsUptoRow, standIns := [], harness := (true, "2039354505c74107821a145ea52630d7abfd42662feb51546d07d1118135d911"), looks := false }, kinds := [], alts := [], laidByText := true, laidKinds := [.data, .data, .data], laidTests := true, laidLooks := .later }
def SolveHoldsUptoCardSaid : Prop := Claim7.holds Tryz.pinned (.plain (OpenSpec.upto solveHoldsSpec)) solveHoldsUptoCard
end Rows
end Go.Proofs.YtbfmdfbnhakolaaGreatDoor
