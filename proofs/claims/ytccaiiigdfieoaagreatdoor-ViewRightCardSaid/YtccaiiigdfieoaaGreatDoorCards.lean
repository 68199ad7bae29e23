/-
  DERIVED. GIVEN WITH THE SEED: THE CARDS: each row of YtccaiiigdfieoaaGreatDoorRows.lean that lists a variable, with what it lists TIED to the program's text (the seventh form; the later family's looks); each row that meets fmt, with fmt's text TOLD by the authors' own Lean function (tested against real Go, not proved from fmt's source: count such statements apart). THE CARD IS WHAT COUNTS. Prove the row's statement (the work); the ties are given (YtccaiiigdfieoaaGreatDoorTie.lean); close each card by the builder's one call (the guide's Derived/Test/ToyasCard.lean, 'card_holds'). Laid BY PROGRAM, IN A SANDBOX (cutbox-door.mjs). By AI agents, Wed Nov 11 2026. No macro, syntax, notation, axiom, sorry.
-/
import Derived.Test.YtccaiiigdfieoaaGreatDoorRows
import GoSem.ClaimSeven
namespace Go.Proofs.YtccaiiigdfieoaaGreatDoor
namespace Rows

/-- THE TIED CARD OF 'wellspringtop.TopKept'. -/
def topKeptCard : Claim7 := { stood := { row := topKeptRow, standIns := [], harness := (true, "6c8c58db63a8fe4d5d0129094959eb3af60a29cb6a5ca24dc0d09168e3d1c4b8"), looks := true }, kinds := [], alts := [], laidByText := true, laidKinds := [.data, .data, .data, .data, .data, .sentinel, .sentinel, .pinned], laidTests := true, laidLooks := .later }
def TopKeptCardSaid : Prop := Claim7.holds Tryz.pinned (.plain (OpenSpec.ofChange topKeptSpec)) topKeptCard

/-- THE TIED CARD OF 'wellspringlaw24.KeepExports'. -/
def keepExportsCard : Claim7 := { stood := { row := keepExportsRow, standIns := [], harness := (true, "6c8c58db63a8fe4d5d0129094959eb3af60a29cb6a5ca24dc0d09168e3d1c4b8"), looks := true }, kinds := [], alts := [], laidByText := true, laidKinds := [.data, .data, .data, .data], laidTests := true, laidLooks := .later }
def KeepExportsCardSaid : Prop := Claim7.holds Tryz.pinned (.plain (OpenSpec.ofChange keepExportsSpec)) keepExportsCard

/-- THE TIED CARD OF 'wellspringlaw25.ViewTells'. -/
def viewTellsCard : Claim7 := { stood := { row := viewTellsRow, standIns := [], harness := (true, "6c8c58db63a8fe4d5d0129094959eb3af60a29cb6a5ca24dc0d09168e3d1c4b8"), looks := true }, kinds := [], alts := [], laidByText := true, laidKinds := [.data, .data, .data, .data], laidTests := true, laidLooks := .later }
def ViewTellsCardSaid : Prop := Claim7.holds Tryz.pinned (.plain (OpenSpec.ofChange viewTellsSpec)) viewTellsCard

/-- THE TIED CARD OF 'wellspringlaw25.ViewRight'. -/
def viewRightCard : Claim7 := { stood := { row := viewRightRow, standIns := [], harness := (true, "6c8c58db63a8fe4d5d0129094959eb3af60a29cb6a5ca24dc0d09168e3d1c4b8"), looks := true }, kinds := [], alts := [], laidByText := true, laidKinds := [.data, .data, .data, .data], laidTests := true, laidLooks := .later }
def ViewRightCardSaid : Prop := Claim7.holds Tryz.pinned (.plain (OpenSpec.ofChange viewRightSpec)) viewRightCard

/-- THE TIED CARD OF 'wellspringlaw24.KeepParses'. -/
def keepParsesCard : Claim7 := { stood := { row := keepParsesRow, standIns := [], harness := (true, "6c8c58db63a8fe4d5d0129094959eb3af60a29cb6a5ca24dc0d09168e3d1c4b8"), looks := true }, kinds := [], alts := [], laidByText := true, laidKinds := [.data, .data, .data, .data, .data, .sentinel, .sentinel, .pinned], laidTests := true, laidLooks := .later }
def KeepParsesCardSaid : Prop := Claim7.holds Tryz.pinned (.plain (OpenSpec.ofChange keepParsesSpec)) keepParsesCard

/-- THE TIED CARD OF 'wellspringlaw24.KeepBack'. -/
def keepBackCard : Claim7 := { stood := { row := keepBackRow, standIns := [], harness := (true, "6c8c58db63a8fe4d5d0129094959eb3af60a29cb6a5ca24dc0d09168e3d1c4b8"), looks := true }, kinds := [], alts := [], laidByText := true, laidKinds := [.data, .data, .data, .data, .data, .sentinel, .sentinel, .pinned], laidTests := true, laidLooks := .later }
def KeepBackCardSaid : Prop := Claim7.holds Tryz.pinned (.plain (OpenSpec.ofChange keepBackSpec)) keepBackCard

/-- THE TIED CARD OF 'wellspringlaw28.AuditRows'. -/
def auditRowsCard : Claim7 := { stood := { row := auditRowsRow, standIns := [], harness := (true, "6c8c58db63a8fe4d5d0129094959eb3af60a29cb6a5ca24dc0d09168e3d1c4b8"), looks := true }, kinds := [], alts := [], laidByText := true, laidKinds := [.data, .data, .data, .data, .data, .sentinel, .sentinel, .pinned], laidTests := true, laidLooks := .later }
def AuditRowsCardSaid : Prop := Claim7.holds Tryz.pinned (.plain (OpenSpec.ofChange auditRowsSpec)) auditRowsCard

/-- THE TIED CARD OF 'wellspringlaw28.AuditNothing'. -/
def auditNothingCard : Claim7 := { stood := { row := auditNothingRow, standIns := [], harness := (true, "6c8c58db63a8fe4d5d0129094959eb3af60a29cb6a5ca24dc0d09168e3d1c4b8"), looks := true }, kinds := [], alts := [], laidByText := true, laidKinds := [.data, .data, .data, .data, .data, .sentinel, .sentinel, .pinned], laidTests := true, laidLooks := .later }
def AuditNothingCardSaid : Prop := Claim7.holds Tryz.pinned (.plain (OpenSpec.ofChange auditNothingSpec)) auditNothingCard

/-- THE SECOND FORM's CARD OF 'wellspringtop.TopKept'. -/
def topKeptUptoCard : Claim7 := { stood := { row := topKeptUptoRow, standIns := [], harness := (true, "6c8c58db63a8fe4d5d0129094959eb3af60a29cb6a5ca24dc0d09168e3d1c4b8"), looks := true }, kinds := [], alts := [], laidByText := true, laidKinds := [.data, .data, .data, .data, .data, .sentinel, .sentinel, .pinned], laidTests := true, laidLooks := .later }
def TopKeptUptoCardSaid : Prop := Claim7.holds Tryz.pinned (.plain (OpenSpec.upto topKeptSpec)) topKeptUptoCard

/-- THE SECOND FORM's CARD OF 'wellspringlaw24.KeepExports'. -/
def keepExportsUptoCard : Claim7 := { stood := { row := keepExportsUptoRow, standIns := [], harness := (true, "6c8c58db63a8fe4d5d0129094959eb3af60a29cb6a5ca24dc0d09168e3d1c4b8"), looks := true }, kinds := [], alts := [], laidByText := true, laidKinds := [.data, .data, .data, .data], laidTests := true, laidLooks := .later }
def KeepExportsUptoCardSaid : Prop := Claim7.holds Tryz.pinned (.plain (OpenSpec.upto keepExportsSpec)) keepExportsUptoCard

/-- THE SECOND FORM's CARD OF 'wellspringlaw25.ViewTells'. -/
def viewTellsUptoCard : Claim7 := { stood := { row := viewTellsUptoRow, standIns := [], harness := (true, "6c8c58db63a8fe4d5d0129094959eb3af60a29cb6a5ca24dc0d09168e3d1c4b8"), looks := true }, kinds := [], alts := [], laidByText := true, laidKinds := [.data, .data, .data, .data], laidTests := true, laidLooks := .later }
def ViewTellsUptoCardSaid : Prop := Claim7.holds Tryz.pinned (.plain (OpenSpec.upto viewTellsSpec)) viewTellsUptoCard

/-- THE SECOND FORM's CARD OF 'wellspringlaw25.ViewRight'. -/
def viewRightUptoCard : Claim7 := { stood := { row := viewRightUptoRow, standIns := [], harness := (true, "6c8c58db63a8fe4d5d0129094959eb3af60a29cb6a5ca24dc0d09168e3d1c4b8"), looks := true }, kinds := [], alts := [], laidByText := true, laidKinds := [.data, .data, .data, .data], laidTests := true, laidLooks := .later }
def ViewRightUptoCardSaid : Prop := Claim7.holds Tryz.pinned (.plain (OpenSpec.upto viewRightSpec)) viewRightUptoCard

/-- THE SECOND FORM's CARD OF 'wellspringlaw24.KeepParses'. -/
def keepParsesUptoCard : Claim7 := { stood := { row := keepParsesUptoRow, standIns := [], harness := (true, "6c8c58db63a8fe4d5d0129094959eb3af60a29cb6a5ca24dc0d09168e3d1c4b8"), looks := true }, kinds := [], alts := [], laidByText := true, laidKinds := [.data, .data, .data, .data, .data, .sentinel, .sentinel, .pinned], laidTests := true, laidLooks := .later }
def KeepParsesUptoCardSaid : Prop := Claim7.holds Tryz.pinned (.plain (OpenSpec.upto keepParsesSpec)) keepParsesUptoCard

/-- THE SECOND FORM's CARD OF 'wellspringlaw24.KeepBack'. -/
def keepBackUptoCard : Claim7 := { stood := { row := keepBackUptoRow, standIns := [], harness := (true, "6c8c58db63a8fe4d5d0129094959eb3af60a29cb6a5ca24dc0d09168e3d1c4b8"), looks := true }, kinds := [], alts := [], laidByText := true, laidKinds := [.data, .data, .data, .data, .data, .sentinel, .sentinel, .pinned], laidTests := true, laidLooks := .later }
def KeepBackUptoCardSaid : Prop := Claim7.holds Tryz.pinned (.plain (OpenSpec.upto keepBackSpec)) keepBackUptoCard

/-- THE SECOND FORM's CARD OF 'wellspringlaw28.AuditRows'. -/
def auditRowsUptoCard : Claim7 := { stood := { row := auditRowsUptoRow, standIns := [], harness := (true, "6c8c58db63a8fe4d5d0129094959eb3af60a29cb6a5ca24dc0d09168e3d1c4b8"), looks := true }, kinds := [], alts := [], laidByText := true, laidKinds := [.data, .data, .data, .data, .data, .sentinel, .sentinel, .pinned], laidTests := true, laidLooks := .later }
def AuditRowsUptoCardSaid : Prop := Claim7.holds Tryz.pinned (.plain (OpenSpec.upto auditRowsSpec)) auditRowsUptoCard

/-- THE SECOND FORM's CARD OF 'wellspringlaw28.AuditNothing'. -/
def auditNothingUptoCard : Claim7 := { stood := { row := auditNothingUptoRow, standIns := [], harness := (true, "6c8c58db63a8fe4d5d0129094959eb3af60a29cb6a5ca24dc0d09168e3d1c4b8"), looks := true }, kinds := [], alts := [], laidByText := true, laidKinds := [.data, .data, .data, .data, .data, .sentinel, .sentinel, .pinned], laidTests := true, laidLooks := .later }
def AuditNothingUptoCardSaid : Prop := Claim7.holds Tryz.pinned (.plain (OpenSpec.upto auditNothingSpec)) auditNothingUptoCard
end Rows
end Go.Proofs.YtccaiiigdfieoaaGreatDoor
