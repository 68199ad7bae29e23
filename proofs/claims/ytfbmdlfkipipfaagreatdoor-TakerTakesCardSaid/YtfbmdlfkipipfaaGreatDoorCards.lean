/-
  DERIVED. GIVEN WITH THE SEED: THE CARDS: each row of YtfbmdlfkipipfaaGreatDoorRows.lean that lists a variable, with what it lists TIED to the program's text (the seventh form; the later family's looks); each row that meets fmt, with fmt's text TOLD by the authors' own Lean function (tested against real Go, not proved from fmt's source: count such statements apart). THE CARD IS WHAT COUNTS. Prove the row's statement (the work); the ties are given (YtfbmdlfkipipfaaGreatDoorTie.lean); close each card by the builder's one call (the guide's Derived/Test/ToyasCard.lean, 'card_holds'). Laid BY PROGRAM, IN A SANDBOX (cutbox-door.mjs). By AI agents, Wed Nov 11 2026. No macro, syntax, notation, axiom, sorry.
-/
import Derived.Test.YtfbmdlfkipipfaaGreatDoorRows
import GoSem.ClaimSeven
namespace Go.Proofs.YtfbmdlfkipipfaaGreatDoor
namespace Rows

/-- THE TIED CARD OF 'wellspringtop.TopCounts'. -/
def topCountsCard : Claim7 := { stood := { row := topCountsRow, standIns := [], harness := (true, "ca4cbeb77bb8448f74e0bdeb29d95c9cf0a08b433aba34722ac7f05388686c82"), looks := false }, kinds := [], alts := [], laidByText := true, laidKinds := [.data], laidTests := true, laidLooks := .later }
def TopCountsCardSaid : Prop := Claim7.holds Tryz.pinned (.plain (OpenSpec.ofChange topCountsSpec)) topCountsCard

/-- THE TIED CARD OF 'wellspringtop.TopOdds'. -/
def topOddsCard : Claim7 := { stood := { row := topOddsRow, standIns := [], harness := (true, "ca4cbeb77bb8448f74e0bdeb29d95c9cf0a08b433aba34722ac7f05388686c82"), looks := false }, kinds := [], alts := [], laidByText := true, laidKinds := [.data], laidTests := true, laidLooks := .later }
def TopOddsCardSaid : Prop := Claim7.holds Tryz.pinned (.plain (OpenSpec.ofChange topOddsSpec)) topOddsCard

/-- THE TIED CARD OF 'wellspringlaw19.TakerHas'. -/
def takerHasCard : Claim7 := { stood := { row := takerHasRow, standIns := [], harness := (true, "ca4cbeb77bb8448f74e0bdeb29d95c9cf0a08b433aba34722ac7f05388686c82"), looks := false }, kinds := [], alts := [], laidByText := true, laidKinds := [.data], laidTests := true, laidLooks := .later }
def TakerHasCardSaid : Prop := Claim7.holds Tryz.pinned (.plain (OpenSpec.ofChange takerHasSpec)) takerHasCard

/-- THE TIED CARD OF 'wellspringlaw22.TripRuns'. -/
def tripRunsCard : Claim7 := { stood := { row := tripRunsRow, standIns := [], harness := (true, "ca4cbeb77bb8448f74e0bdeb29d95c9cf0a08b433aba34722ac7f05388686c82"), looks := false }, kinds := [], alts := [], laidByText := true, laidKinds := [.data], laidTests := true, laidLooks := .later }
def TripRunsCardSaid : Prop := Claim7.holds Tryz.pinned (.plain (OpenSpec.ofChange tripRunsSpec)) tripRunsCard

/-- THE TIED CARD OF 'wellspringlaw22.TripArrives'. -/
def tripArrivesCard : Claim7 := { stood := { row := tripArrivesRow, standIns := [], harness := (true, "ca4cbeb77bb8448f74e0bdeb29d95c9cf0a08b433aba34722ac7f05388686c82"), looks := false }, kinds := [], alts := [], laidByText := true, laidKinds := [.data], laidTests := true, laidLooks := .later }
def TripArrivesCardSaid : Prop := Claim7.holds Tryz.pinned (.plain (OpenSpec.ofChange tripArrivesSpec)) tripArrivesCard

/-- THE TIED CARD OF 'wellspringlaw19.TakerTakes'. -/
def takerTakesCard : Claim7 := { stood := { row := takerTakesRow, standIns := [], harness := (true, "ca4cbeb77bb8448f74e0bdeb29d95c9cf0a08b433aba34722ac7f05388686c82"), looks := false }, kinds := [], alts := [], laidByText := true, laidKinds := [.data], laidTests := true, laidLooks := .later }
def TakerTakesCardSaid : Prop := Claim7.holds Tryz.pinned (.plain (OpenSpec.ofChange takerTakesSpec)) takerTakesCard

/-- THE TIED CARD OF 'wellspringlaw19.TakerNone'. -/
def takerNoneCard : Claim7 := { stood := { row := takerNoneRow, standIns := [], harness := (true, "ca4cbeb77bb8448f74e0bdeb29d95c9cf0a08b433aba34722ac7f05388686c82"), looks := false }, kinds := [], alts := [], laidByText := true, laidKinds := [.data], laidTests := true, laidLooks := .later }
def TakerNoneCardSaid : Prop := Claim7.holds Tryz.pinned (.plain (OpenSpec.ofChange takerNoneSpec)) takerNoneCard

/-- THE SECOND FORM's CARD OF 'wellspringtop.TopCounts'. -/
def topCountsUptoCard : Claim7 := { stood := { row := topCountsUptoRow, standIns := [], harness := (true, "ca4cbeb77bb8448f74e0bdeb29d95c9cf0a08b433aba34722ac7f05388686c82"), looks := false }, kinds := [], alts := [], laidByText := true, laidKinds := [.data], laidTests := true, laidLooks := .later }
def TopCountsUptoCardSaid : Prop := Claim7.holds Tryz.pinned (.plain (OpenSpec.upto topCountsSpec)) topCountsUptoCard

/-- THE SECOND FORM's CARD OF 'wellspringtop.TopOdds'. -/
def topOddsUptoCard : Claim7 := { stood := { row := topOddsUptoRow, standIns := [], harness := (true, "ca4cbeb77bb8448f74e0bdeb29d95c9cf0a08b433aba34722ac7f05388686c82"), looks := false }, kinds := [], alts := [], laidByText := true, laidKinds := [.data], laidTests := true, laidLooks := .later }
def TopOddsUptoCardSaid : Prop := Claim7.holds Tryz.pinned (.plain (OpenSpec.upto topOddsSpec)) topOddsUptoCard

/-- THE SECOND FORM's CARD OF 'wellspringlaw19.TakerHas'. -/
def takerHasUptoCard : Claim7 := { stood := { row := takerHasUptoRow, standIns := [], harness := (true, "ca4cbeb77bb8448f74e0bdeb29d95c9cf0a08b433aba34722ac7f05388686c82"), looks := false }, kinds := [], alts := [], laidByText := true, laidKinds := [.data], laidTests := true, laidLooks := .later }
def TakerHasUptoCardSaid : Prop := Claim7.holds Tryz.pinned (.plain (OpenSpec.upto takerHasSpec)) takerHasUptoCard

/-- THE SECOND FORM's CARD OF 'wellspringlaw22.TripRuns'. -/
def tripRunsUptoCard : Claim7 := { stood := { row := tripRunsUptoRow, standIns := [], harness := (true, "ca4cbeb77bb8448f74e0bdeb29d95c9cf0a08b433aba34722ac7f05388686c82"), looks := false }, kinds := [], alts := [], laidByText := true, laidKinds := [.data], laidTests := true, laidLooks := .later }
def TripRunsUptoCardSaid : Prop := Claim7.holds Tryz.pinned (.plain (OpenSpec.upto tripRunsSpec)) tripRunsUptoCard

/-- THE SECOND FORM's CARD OF 'wellspringlaw22.TripArrives'. -/
def tripArrivesUptoCard : Claim7 := { stood := { row := tripArrivesUptoRow, standIns := [], harness := (true, "ca4cbeb77bb8448f74e0bdeb29d95c9cf0a08b433aba34722ac7f05388686c82"), looks := false }, kinds := [], alts := [], laidByText := true, laidKinds := [.data], laidTests := true, laidLooks := .later }
def TripArrivesUptoCardSaid : Prop := Claim7.holds Tryz.pinned (.plain (OpenSpec.upto tripArrivesSpec)) tripArrivesUptoCard

/-- THE SECOND FORM's CARD OF 'wellspringlaw19.TakerTakes'. -/
def takerTakesUptoCard : Claim7 := { stood := { row := takerTakesUptoRow, standIns := [], harness := (true, "ca4cbeb77bb8448f74e0bdeb29d95c9cf0a08b433aba34722ac7f05388686c82"), looks := false }, kinds := [], alts := [], laidByText := true, laidKinds := [.data], laidTests := true, laidLooks := .later }
def TakerTakesUptoCardSaid : Prop := Claim7.holds Tryz.pinned (.plain (OpenSpec.upto takerTakesSpec)) takerTakesUptoCard

/-- THE SECOND FORM's CARD OF 'wellspringlaw19.TakerNone'. -/
def takerNoneUptoCard : Claim7 := { stood := { row := takerNoneUptoRow, standIns := [], harness := (true, "ca4cbeb77bb8448f74e0bdeb29d95c9cf0a08b433aba34722ac7f05388686c82"), looks := false }, kinds := [], alts := [], laidByText := true, laidKinds := [.data], laidTests := true, laidLooks := .later }
def TakerNoneUptoCardSaid : Prop := Claim7.holds Tryz.pinned (.plain (OpenSpec.upto takerNoneSpec)) takerNoneUptoCard
end Rows
end Go.Proofs.YtfbmdlfkipipfaaGreatDoor
