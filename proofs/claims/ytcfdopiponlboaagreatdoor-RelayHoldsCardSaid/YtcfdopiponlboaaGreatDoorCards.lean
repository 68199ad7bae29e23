/-
  DERIVED. GIVEN WITH THE SEED: THE CARDS: each row of YtcfdopiponlboaaGreatDoorRows.lean that lists a variable, with what it lists TIED to the program's text (the seventh form; the later family's looks); each row that meets fmt, with fmt's text TOLD by the authors' own Lean function (tested against real Go, not proved from fmt's source: count such statements apart). THE CARD IS WHAT COUNTS. Prove the row's statement (the work); the ties are given (YtcfdopiponlboaaGreatDoorTie.lean); close each card by the builder's one call (the guide's Derived/Test/ToyasCard.lean, 'card_holds'). Laid BY PROGRAM, IN A SANDBOX (cutbox-door.mjs). By AI agents, Wed Nov 11 2026. No macro, syntax, notation, axiom, sorry.
-/
import Derived.Test.YtcfdopiponlboaaGreatDoorRows
import GoSem.ClaimSeven
namespace Go.Proofs.YtcfdopiponlboaaGreatDoor
namespace Rows

/-- THE TIED CARD OF 'wellspringlaw21.RelaySays'. -/
def relaySaysCard : Claim7 := { stood := { row := relaySaysRow, standIns := [], harness := (true, "d641d6ef8f28f61c40c676a08b2b1a7e9f6836ea0ddc002118328c8587d56fcf"), looks := false }, kinds := [], alts := [], laidByText := true, laidKinds := [.data], laidTests := true, laidLooks := .later }
def RelaySaysCardSaid : Prop := Claim7.holds Tryz.pinned (.plain (OpenSpec.ofChange relaySaysSpec)) relaySaysCard

/-- THE TIED CARD OF 'wellspringlaw21.RelayHolds'. -/
def relayHoldsCard : Claim7 := { stood := { row := relayHoldsRow, standIns := [], harness := (true, "d641d6ef8f28f61c40c676a08b2b1a7e9f6836ea0ddc002118328c8587d56fcf"), looks := false }, kinds := [], alts := [], laidByText := true, laidKinds := [.data], laidTests := true, laidLooks := .later }
def RelayHoldsCardSaid : Prop := Claim7.holds Tryz.pinned (.plain (OpenSpec.ofChange relayHoldsSpec)) relayHoldsCard

/-- THE SECOND FORM's CARD OF 'wellspringlaw21.RelaySays'. -/
def relaySaysUptoCard : Claim7 := { stood := { row := relaySaysUptoRow, standIns := [], harness := (true, "d641d6ef8f28f61c40c676a08b2b1a7e9f6836ea0ddc002118328c8587d56fcf"), looks := false }, kinds := [], alts := [], laidByText := true, laidKinds := [.data], laidTests := true, laidLooks := .later }
def RelaySaysUptoCardSaid : Prop := Claim7.holds Tryz.pinned (.plain (OpenSpec.upto relaySaysSpec)) relaySaysUptoCard

/-- THE SECOND FORM's CARD OF 'wellspringlaw21.RelayHolds'. -/
def relayHoldsUptoCard : Claim7 := { stood := { row := relayHoldsUptoRow, standIns := [], harness := (true, "d641d6ef8f28f61c40c676a08b2b1a7e9f6836ea0ddc002118328c8587d56fcf"), looks := false }, kinds := [], alts := [], laidByText := true, laidKinds := [.data], laidTests := true, laidLooks := .later }
def RelayHoldsUptoCardSaid : Prop := Claim7.holds Tryz.pinned (.plain (OpenSpec.upto relayHoldsSpec)) relayHoldsUptoCard
end Rows
end Go.Proofs.YtcfdopiponlboaaGreatDoor
