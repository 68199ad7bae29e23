/-
  DERIVED. GIVEN WITH THE SEED: THE CARDS: each row of YtbfmdfbnhakolaaDoorRows.lean that lists a variable, with what it lists TIED to the program's text (the seventh form; the later family's looks); each row that meets fmt, with fmt's text TOLD by the authors' own Lean function (tested against real Go, not proved from fmt's source: count such statements apart). THE CARD IS WHAT COUNTS. Prove the row's statement (the work); the ties are given (YtbfmdfbnhakolaaDoorTie.lean); close each card by the builder's one call (the guide's Derived/Test/ToyasCard.lean, 'card_holds'). Laid BY PROGRAM, IN A SANDBOX (cutbox-door.mjs). By AI agents, Wed Nov 11 2026. No macro, syntax, notation, axiom, sorry.
-/
import Derived.Test.YtbfmdfbnhakolaaDoorRows
import GoSem.ClaimSeven
namespace Go.Proofs.YtbfmdfbnhakolaaDoor
namespace Rows

/-- THE TIED CARD OF 'wellspringlaw23.OddsSpare'. -/
def oddsSpareCard : Claim7 := { stood := { row := oddsSpareRow, standIns := [], harness := (true, "3d7f8578a1cebc29d05b68c03832ca681bb5ba3945e289667166182ef294eadc"), looks := false }, kinds := [], alts := [], laidByText := true, laidKinds := [.data, .data, .data], laidTests := true, laidLooks := .later }
def OddsSpareCardSaid : Prop := Claim7.holds Tryd.pinned (.plain (OpenSpec.ofChange oddsSpareSpec)) oddsSpareCard

/-- THE TIED CARD OF 'wellspringlaw23.OddsSums'. -/
def oddsSumsCard : Claim7 := { stood := { row := oddsSumsRow, standIns := [], harness := (true, "3d7f8578a1cebc29d05b68c03832ca681bb5ba3945e289667166182ef294eadc"), looks := false }, kinds := [], alts := [], laidByText := true, laidKinds := [.data, .data, .data], laidTests := true, laidLooks := .later }
def OddsSumsCardSaid : Prop := Claim7.holds Tryd.pinned (.plain (OpenSpec.ofChange oddsSumsSpec)) oddsSumsCard

/-- THE TIED CARD OF 'wellspringlaw09.SolveJudges'. -/
def solveJudgesCard : Claim7 := { stood := { row := solveJudgesRow, standIns := [], harness := (true, "3d7f8578a1cebc29d05b68c03832ca681bb5ba3945e289667166182ef294eadc"), looks := false }, kinds := [], alts := [], laidByText := true, laidKinds := [.data, .data, .data], laidTests := true, laidLooks := .later }
def SolveJudgesCardSaid : Prop := Claim7.holds Tryd.pinned (.plain (OpenSpec.ofChange solveJudgesSpec)) solveJudgesCard

/-- THE TIED CARD OF 'wellspringlaw09.SolveCounts'. -/
def solveCountsCard : Claim7 := { stood := { row := solveCountsRow, standIns := [], harness := (true, "3d7f8578a1cebc29d05b68c03832ca681bb5ba3945e289667166182ef294eadc"), looks := false }, kinds := [], alts := [], laidByText := true, laidKinds := [.data, .data, .data], laidTests := true, laidLooks := .later }
def SolveCountsCardSaid : Prop := Claim7.holds Tryd.pinned (.plain (OpenSpec.ofChange solveCountsSpec)) solveCountsCard

/-- THE SECOND FORM's CARD OF 'wellspringlaw23.OddsSpare'. -/
def oddsSpareUptoCard : Claim7 := { stood := { row := oddsSpareUptoRow, standIns := [], harness := (true, "3d7f8578a1cebc29d05b68c03832ca681bb5ba3945e289667166182ef294eadc"), looks := false }, kinds := [], alts := [], laidByText := true, laidKinds := [.data, .data, .data], laidTests := true, laidLooks := .later }
def OddsSpareUptoCardSaid : Prop := Claim7.holds Tryd.pinned (.plain (OpenSpec.upto oddsSpareSpec)) oddsSpareUptoCard

/-- THE SECOND FORM's CARD OF 'wellspringlaw23.OddsSums'. -/
def oddsSumsUptoCard : Claim7 := { stood := { row := oddsSumsUptoRow, standIns := [], harness := (true, "3d7f8578a1cebc29d05b68c03832ca681bb5ba3945e289667166182ef294eadc"), looks := false }, kinds := [], alts := [], laidByText := true, laidKinds := [.data, .data, .data], laidTests := true, laidLooks := .later }
def OddsSumsUptoCardSaid : Prop := Claim7.holds Tryd.pinned (.plain (OpenSpec.upto oddsSumsSpec)) oddsSumsUptoCard

/-- THE SECOND FORM's CARD OF 'wellspringlaw09.SolveJudges'. -/
def solveJudgesUptoCard : Claim7 := { stood := { row := solveJudgesUptoRow, standIns := [], harness := (true, "3d7f8578a1cebc29d05b68c03832ca681bb5ba3945e289667166182ef294eadc"), looks := false }, kinds := [], alts := [], laidByText := true, laidKinds := [.data, .data, .data], laidTests := true, laidLooks := .later }
def SolveJudgesUptoCardSaid : Prop := Claim7.holds Tryd.pinned (.plain (OpenSpec.upto solveJudgesSpec)) solveJudgesUptoCard

/-- THE SECOND FORM's CARD OF 'wellspringlaw09.SolveCounts'. -/
def solveCountsUptoCard : Claim7 := { stood := { row := solveCountsUptoRow, standIns := [], harness := (true, "3d7f8578a1cebc29d05b68c03832ca681bb5ba3945e289667166182ef294eadc"), looks := false }, kinds := [], alts := [], laidByText := true, laidKinds := [.data, .data, .data], laidTests := true, laidLooks := .later }
def SolveCountsUptoCardSaid : Prop := Claim7.holds Tryd.pinned (.plain (OpenSpec.upto solveCountsSpec)) solveCountsUptoCard
end Rows
end Go.Proofs.YtbfmdfbnhakolaaDoor
