/-
  NARROWER THAN 'FOR EVERY INPUT', by the rows' own cells (each row's printed sentence says how): RelaySays: laid · RelayHolds: laid.
  DERIVED. THE GIVEN ROWS OF THIS SEAT. 2 by the template 'for every input the law returns true; each argument reads behind the call as it read before'; 0 by the template 'total and deterministic' (their statements: YtcfdopiponlboaaGreatDoorTotals.lean).
  GIVEN WITH THE SEED: the statements are not yours to turn. If you find one false, say at which input.
  Laid BY PROGRAM, IN A SANDBOX (cutbox-rows.mjs): the forced cells as the released guide's own fill.sh prints them over the translation ac0d6ca519b64bdd… (all of the seat's roots in one cut). By AI agents, Wed Nov 11 2026. No macro, syntax, notation, axiom, sorry.
-/
import Derived.Test.YtcfdopiponlboaaGreatDoorChecked
import GoSem.Claim
import GoSem.ClaimJoined
import GoSem.ClaimMapViews
import Derived.JoinedTies
import Derived.KernelRfl
namespace Go.Proofs.YtcfdopiponlboaaGreatDoor
/- THE CELL 'sum', in the pinned program and in every row, IS THE sha256 OF THE DUMP (.gsa) THAT YtcfdopiponlboaaGreatDoorProg.lean LOADS. Nothing in Lean hashes anything: it is a label: what it is worth is what the hold of that sum in a sandbox is worth. -/
noncomputable def Tryz.pinned : Pinned := { name := "ytcfdopiponlboaagreatdoor", sum := "ac0d6ca519b64bddca4283ac9d1a3c967c36c779ae2c45a4cc6ecb04317d7786", checked := Tryz.checked }
namespace Rows
def none {H : Type} : Left H := { results := [], args := [] }

/- WHAT THE LISTED PACKAGE-LEVEL VARIABLES READ AS WHEN THE CALL BEGINS. Each datum BY PROGRAM (the guide's laid-datum.mjs) off the statement by which the dump's own 'gosem.cut.vars' lays the variable. In a bare row this is a premise. The card (YtcfdopiponlboaaGreatDoorCards.lean) ties it to the program's text. -/
def laid_wellspring_sum_halves {H : Type} : DataW H := .agg [.lit (.int .u32 0), .lit (.int .u32 498536548), .lit (.int .u32 997073096), .lit (.int .u32 651767980), .lit (.int .u32 1994146192), .lit (.int .u32 1802195444), .lit (.int .u32 1303535960), .lit (.int .u32 1342533948), .lit (.int .u32 3988292384), .lit (.int .u32 4027552580), .lit (.int .u32 3604390888), .lit (.int .u32 3412177804), .lit (.int .u32 2607071920), .lit (.int .u32 2262029012), .lit (.int .u32 2685067896), .lit (.int .u32 3183342108)]

/-- 'wellspringlaw21.RelaySays': WHATEVER THE INPUT: true; the input reads as it did. -/
def relaySaysSpec : ChangeSpec := { name := "relaySays", fn := fun _ => fun
  | [d1, d2, d3, d4] => { results := [.lit (.bool true)], args := [d1, d2, d3, d4] }
  | _ => none }
def relaySaysRow : OpenClaim := { program := "ytcfdopiponlboaagreatdoor", sum := "ac0d6ca519b64bddca4283ac9d1a3c967c36c779ae2c45a4cc6ecb04317d7786", func := "wellspring/wellspringlaw21.RelaySays", spec := "relaySays", inPlace := ["slices.overlaps[wellspring/vec.Row]"], unfollowed := true, recurses := true, named := ["wellspring/sum.halves"], apart := false, laid := [("wellspring/sum.halves", laid_wellspring_sum_halves)] }
def RelaySaysSaid : Prop := relaySaysRow.holds Tryz.pinned (OpenSpec.ofChange relaySaysSpec)

/-- ITS FALSE NEIGHBOUR: 'it returns false'. Refute it at one input. -/
def relaySaysWrong : ChangeSpec := { name := "relaySays", fn := fun _ => fun
  | [d1, d2, d3, d4] => { results := [.lit (.bool false)], args := [d1, d2, d3, d4] }
  | _ => none }
def RelaySaysWrongFalsely : Prop := relaySaysRow.holds Tryz.pinned (OpenSpec.ofChange relaySaysWrong)

/-- 'wellspringlaw21.RelayHolds': WHATEVER THE INPUT: true; the input reads as it did. -/
def relayHoldsSpec : ChangeSpec := { name := "relayHolds", fn := fun _ => fun
  | [d1, d2, d3, d4, d5] => { results := [.lit (.bool true)], args := [d1, d2, d3, d4, d5] }
  | _ => none }
def relayHoldsRow : OpenClaim := { program := "ytcfdopiponlboaagreatdoor", sum := "ac0d6ca519b64bddca4283ac9d1a3c967c36c779ae2c45a4cc6ecb04317d7786", func := "wellspring/wellspringlaw21.RelayHolds", spec := "relayHolds", inPlace := ["slices.overlaps[wellspring/vec.Row]"], unfollowed := true, recurses := true, named := ["wellspring/sum.halves"], apart := false, laid := [("wellspring/sum.halves", laid_wellspring_sum_halves)] }
def RelayHoldsSaid : Prop := relayHoldsRow.holds Tryz.pinned (OpenSpec.ofChange relayHoldsSpec)

/-- ITS FALSE NEIGHBOUR: 'it returns false'. Refute it at one input. -/
def relayHoldsWrong : ChangeSpec := { name := "relayHolds", fn := fun _ => fun
  | [d1, d2, d3, d4, d5] => { results := [.lit (.bool false)], args := [d1, d2, d3, d4, d5] }
  | _ => none }
def RelayHoldsWrongFalsely : Prop := relayHoldsRow.holds Tryz.pinned (OpenSpec.ofChange relayHoldsWrong)

/- THE SECOND FORM. 'bulk': how many values and letters a reading holds, each counted each time it is reached (what is shared counts as often as it is met; a slice's spare places count too). A statement '..UptoSaid' is the law's where the arguments, and the package variables that the reading takes, are together of bulk at most 1048576: NARROWER than '..Said'. Prove '..Said' where nothing that the law and all that it calls make is longer than what came in: it says more and counts as full. Else prove '..UptoSaid'. A law counts once. -/
mutual
def uptoBulk {H : Type} : DataW H → Nat
  | .lit (.string bytes) => bytes.length + 1
  | .lit _ => 1
  | .nil => 1
  | .ptr d => uptoBulk d + 1
  | .slice elems spare => uptoBulkAll elems + uptoBulkAll spare + 1
  | .agg parts => uptoBulkAll parts + 1
  | .iface _ d => uptoBulk d + 1
  | .map entries => uptoBulkEntries entries + 1
  | .held _ => 1
def uptoBulkAll {H : Type} : List (DataW H) → Nat
  | [] => 0
  | d :: r => uptoBulk d + uptoBulkAll r
def uptoBulkEntries {H : Type} : List (Lit × DataW H) → Nat
  | [] => 0
  | x :: r => uptoBulkEntry x + uptoBulkEntries r
def uptoBulkEntry {H : Type} : Lit × DataW H → Nat
  | (.string bytes, d) => bytes.length + uptoBulk d + 1
  | (_, d) => uptoBulk d + 1
 end
def uptoSmall : (H : Type) → List (DataW H) → Bool := fun _ ds => decide (uptoBulkAll ds ≤ 1048576)
def OpenSpec.upto (s : _root_.Go.ChangeSpec) : _root_.Go.OpenSpec := { _root_.Go.OpenSpec.ofChange s with cond := some uptoSmall }

/-- 'wellspringlaw21.RelaySays', WHERE WHAT IT READS IS OF BULK AT MOST 1048576: true; the input reads as it did. -/
def relaySaysUptoRow : OpenClaim := { program := "ytcfdopiponlboaagreatdoor", sum := "ac0d6ca519b64bddca4283ac9d1a3c967c36c779ae2c45a4cc6ecb04317d7786", func := "wellspring/wellspringlaw21.RelaySays", spec := "relaySays", inPlace := ["slices.overlaps[wellspring/vec.Row]"], unfollowed := true, recurses := true, named := ["wellspring/sum.halves"], apart := false, laid := [("wellspring/sum.halves", laid_wellspring_sum_halves)], narrowed := true }
def RelaySaysUptoSaid : Prop := relaySaysUptoRow.holds Tryz.pinned (OpenSpec.upto relaySaysSpec)

/-- 'wellspringlaw21.RelayHolds', WHERE WHAT IT READS IS OF BULK AT MOST 1048576: true; the input reads as it did. -/
def relayHoldsUptoRow : OpenClaim := { program := "ytcfdopiponlboaagreatdoor", sum := "ac0d6ca519b64bddca4283ac9d1a3c967c36c779ae2c45a4cc6ecb04317d7786", func := "wellspring/wellspringlaw21.RelayHolds", spec := "relayHolds", inPlace := ["slices.overlaps[wellspring/vec.Row]"], unfollowed := true, recurses := true, named := ["wellspring/sum.halves"], apart := false, laid := [("wellspring/sum.halves", laid_wellspring_sum_halves)], narrowed := true }
def RelayHoldsUptoSaid : Prop := relayHoldsUptoRow.holds Tryz.pinned (OpenSpec.upto relayHoldsSpec)

end Rows
end Go.Proofs.YtcfdopiponlboaaGreatDoor
