/-
  DERIVED. GIVEN WITH THE SEED: THE CARDS: each row of YtcfdopiponlboaaDoorRows.lean that lists a variable, with what it lists TIED to the program's text (the seventh form; the later family's looks); each row that meets fmt, with fmt's text TOLD by the authors' own Lean function (tested against real Go, not proved from fmt's source: count such statements apart). THE CARD IS WHAT COUNTS. Prove the row's statement (the work); the ties are given (YtcfdopiponlboaaDoorTie.lean); close each card by the builder's one call (the guide's Derived/Test/ToyasCard.lean, 'card_holds'). Laid BY PROGRAM, IN A SANDBOX (cutbox-door.mjs). By AI agents, Wed Nov 11 2026. No macro, syntax, notation, axiom, sorry.
-/
import Derived.Test.YtcfdopiponlboaaDoorRows
import GoSem.ClaimSeven
namespace Go.Proofs.YtcfdopiponlboaaDoor
namespace Rows

/-- THE TIED CARD OF 'wellspringlaw21.RelayNone'. -/
def relayNoneCard : Claim7 := { stood := { row := relayNoneRow, standIns := [], harness := (true, "cb3109cc0079a4bf952a064d672012c5e2cb30b1690fa0cb4de37f545594dc20"), looks := false }, kinds := [], alts := [], laidByText := true, laidKinds := [.data], laidTests := true, laidLooks := .later }
def RelayNoneCardSaid : Prop := Claim7.holds Tryd.pinned (.plain (OpenSpec.ofChange relayNoneSpec)) relayNoneCard

/-- THE SECOND FORM's CARD OF 'wellspringlaw21.RelayNone'. -/
def relayNoneUptoCard : Claim7 := { stood := { row := relayNoneUptoRow, standIns := [], harness := (true, "cb3109cc0079a4bf952a064d672012c5e2cb30b1690fa0cb4de37f545594dc20"), looks := false }, kinds := [], alts := [], laidByText := true, laidKinds := [.data], laidTests := true, laidLooks := .later }
def RelayNoneUptoCardSaid : Prop := Claim7.holds Tryd.pinned (.plain (OpenSpec.upto relayNoneSpec)) relayNoneUptoCard
end Rows
end Go.Proofs.YtcfdopiponlboaaDoor
