/-
  NARROWER THAN 'FOR EVERY INPUT', by the rows' own cells (each row's printed sentence says how): TopCounts: laid · TopOdds: laid · TakerHas: laid · TripRuns: laid · TripArrives: laid · TakerTakes: laid · TakerNone: laid.
  DERIVED. THE GIVEN ROWS OF THIS SEAT. 7 by the template 'for every input the law returns true; each argument reads behind the call as it read before'; 0 by the template 'total and deterministic' (their statements: YtfbmdlfkipipfaaGreatDoorTotals.lean).
  GIVEN WITH THE SEED: the statements are not yours to turn. If you find one false, say at which input.
  Laid BY PROGRAM, IN A SANDBOX (cutbox-rows.mjs): the forced cells as the released guide's own fill.sh prints them over the translation 13205015fe73c77b… (all of the seat's roots in one cut). By AI agents, Wed Nov 11 2026. No macro, syntax, notation, axiom, sorry.
-/
import Derived.Test.YtfbmdlfkipipfaaGreatDoorChecked
import GoSem.Claim
import GoSem.ClaimJoined
import GoSem.ClaimMapViews
import Derived.JoinedTies
import Derived.KernelRfl
namespace Go.Proofs.YtfbmdlfkipipfaaGreatDoor
/- THE CELL 'sum', in the pinned program and in every row, IS THE sha256 OF THE DUMP (.gsa) THAT YtfbmdlfkipipfaaGreatDoorProg.lean LOADS. Nothing in Lean hashes anything: it is a label: what it is worth is what the hold of that sum in a sandbox is worth. -/
noncomputable def Tryz.pinned : Pinned := { name := "ytfbmdlfkipipfaagreatdoor", sum := "13205015fe73c77b8f913222375d02c5eac0b7c3fb8b77c8ca408f115ed4c804", checked := Tryz.checked }
namespace Rows
def none {H : Type} : Left H := { results := [], args := [] }

/- WHAT THE LISTED PACKAGE-LEVEL VARIABLES READ AS WHEN THE CALL BEGINS. Each datum BY PROGRAM (the guide's laid-datum.mjs) off the statement by which the dump's own 'gosem.cut.vars' lays the variable. In a bare row this is a premise. The card (YtfbmdlfkipipfaaGreatDoorCards.lean) ties it to the program's text. -/
def laid_wellspring_sum_halves {H : Type} : DataW H := .agg [.lit (.int .u32 0), .lit (.int .u32 498536548), .lit (.int .u32 997073096), .lit (.int .u32 651767980), .lit (.int .u32 1994146192), .lit (.int .u32 1802195444), .lit (.int .u32 1303535960), .lit (.int .u32 1342533948), .lit (.int .u32 3988292384), .lit (.int .u32 4027552580), .lit (.int .u32 3604390888), .lit (.int .u32 3412177804), .lit (.int .u32 2607071920), .lit (.int .u32 2262029012), .lit (.int .u32 2685067896), .lit (.int .u32 3183342108)]

/-- 'wellspringtop.TopCounts': WHATEVER THE INPUT: true; the input reads as it did. -/
def topCountsSpec : ChangeSpec := { name := "topCounts", fn := fun _ => fun
  | [d1, d2, d3, d4] => { results := [.lit (.bool true)], args := [d1, d2, d3, d4] }
  | _ => none }
def topCountsRow : OpenClaim := { program := "ytfbmdlfkipipfaagreatdoor", sum := "13205015fe73c77b8f913222375d02c5eac0b7c3fb8b77c8ca408f115ed4c804", func := "wellspring/wellspringtop.TopCounts", spec := "topCounts", inPlace := ["slices.overlaps[wellspring/vec.Row]", "math/bits.Add64"], unfollowed := true, recurses := true, named := ["wellspring/sum.halves"], apart := false, laid := [("wellspring/sum.halves", laid_wellspring_sum_halves)] }
def TopCountsSaid : Prop := topCountsRow.holds Tryz.pinned (OpenSpec.ofChange topCountsSpec)

/-- ITS FALSE NEIGHBOUR: 'it returns false'. Refute it at one input. -/
def topCountsWrong : ChangeSpec := { name := "topCounts", fn := fun _ => fun
  | [d1, d2, d3, d4] => { results := [.lit (.bool false)], args := [d1, d2, d3, d4] }
  | _ => none }
def TopCountsWrongFalsely : Prop := topCountsRow.holds Tryz.pinned (OpenSpec.ofChange topCountsWrong)

/-- 'wellspringtop.TopOdds': WHATEVER THE INPUT: true; the input reads as it did. -/
def topOddsSpec : ChangeSpec := { name := "topOdds", fn := fun _ => fun
  | [d1, d2, d3] => { results := [.lit (.bool true)], args := [d1, d2, d3] }
  | _ => none }
def topOddsRow : OpenClaim := { program := "ytfbmdlfkipipfaagreatdoor", sum := "13205015fe73c77b8f913222375d02c5eac0b7c3fb8b77c8ca408f115ed4c804", func := "wellspring/wellspringtop.TopOdds", spec := "topOdds", inPlace := ["slices.overlaps[wellspring/vec.Row]", "math/bits.Add64", "math/bits.Sub64"], unfollowed := true, recurses := true, named := ["wellspring/sum.halves"], apart := false, laid := [("wellspring/sum.halves", laid_wellspring_sum_halves)] }
def TopOddsSaid : Prop := topOddsRow.holds Tryz.pinned (OpenSpec.ofChange topOddsSpec)

/-- ITS FALSE NEIGHBOUR: 'it returns false'. Refute it at one input. -/
def topOddsWrong : ChangeSpec := { name := "topOdds", fn := fun _ => fun
  | [d1, d2, d3] => { results := [.lit (.bool false)], args := [d1, d2, d3] }
  | _ => none }
def TopOddsWrongFalsely : Prop := topOddsRow.holds Tryz.pinned (OpenSpec.ofChange topOddsWrong)

/-- 'wellspringlaw19.TakerHas': WHATEVER THE INPUT: true; the input reads as it did. -/
def takerHasSpec : ChangeSpec := { name := "takerHas", fn := fun _ => fun
  | [d1, d2, d3, d4, d5, d6] => { results := [.lit (.bool true)], args := [d1, d2, d3, d4, d5, d6] }
  | _ => none }
def takerHasRow : OpenClaim := { program := "ytfbmdlfkipipfaagreatdoor", sum := "13205015fe73c77b8f913222375d02c5eac0b7c3fb8b77c8ca408f115ed4c804", func := "wellspring/wellspringlaw19.TakerHas", spec := "takerHas", inPlace := ["slices.overlaps[wellspring/vec.Row]"], unfollowed := true, recurses := true, named := ["wellspring/sum.halves"], apart := false, laid := [("wellspring/sum.halves", laid_wellspring_sum_halves)] }
def TakerHasSaid : Prop := takerHasRow.holds Tryz.pinned (OpenSpec.ofChange takerHasSpec)

/-- ITS FALSE NEIGHBOUR: 'it returns false'. Refute it at one input. -/
def takerHasWrong : ChangeSpec := { name := "takerHas", fn := fun _ => fun
  | [d1, d2, d3, d4, d5, d6] => { results := [.lit (.bool false)], args := [d1, d2, d3, d4, d5, d6] }
  | _ => none }
def TakerHasWrongFalsely : Prop := takerHasRow.holds Tryz.pinned (OpenSpec.ofChange takerHasWrong)

/-- 'wellspringlaw22.TripRuns': WHATEVER THE INPUT: true; the input reads as it did. -/
def tripRunsSpec : ChangeSpec := { name := "tripRuns", fn := fun _ => fun
  | [d1, d2, d3, d4] => { results := [.lit (.bool true)], args := [d1, d2, d3, d4] }
  | _ => none }
def tripRunsRow : OpenClaim := { program := "ytfbmdlfkipipfaagreatdoor", sum := "13205015fe73c77b8f913222375d02c5eac0b7c3fb8b77c8ca408f115ed4c804", func := "wellspring/wellspringlaw22.TripRuns", spec := "tripRuns", inPlace := ["slices.overlaps[wellspring/way.parcel]", "slices.overlaps[wellspring/vec.Row]"], unfollowed := true, recurses := true, named := ["wellspring/sum.halves"], apart := false, laid := [("wellspring/sum.halves", laid_wellspring_sum_halves)] }
def TripRunsSaid : Prop := tripRunsRow.holds Tryz.pinned (OpenSpec.ofChange tripRunsSpec)

/-- ITS FALSE NEIGHBOUR: 'it returns false'. Refute it at one input. -/
def tripRunsWrong : ChangeSpec := { name := "tripRuns", fn := fun _ => fun
  | [d1, d2, d3, d4] => { results := [.lit (.bool false)], args := [d1, d2, d3, d4] }
  | _ => none }
def TripRunsWrongFalsely : Prop := tripRunsRow.holds Tryz.pinned (OpenSpec.ofChange tripRunsWrong)

/-- 'wellspringlaw22.TripArrives': WHATEVER THE INPUT: true; the input reads as it did. -/
def tripArrivesSpec : ChangeSpec := { name := "tripArrives", fn := fun _ => fun
  | [d1, d2, d3, d4, d5] => { results := [.lit (.bool true)], args := [d1, d2, d3, d4, d5] }
  | _ => none }
def tripArrivesRow : OpenClaim := { program := "ytfbmdlfkipipfaagreatdoor", sum := "13205015fe73c77b8f913222375d02c5eac0b7c3fb8b77c8ca408f115ed4c804", func := "wellspring/wellspringlaw22.TripArrives", spec := "tripArrives", inPlace := ["slices.overlaps[wellspring/way.parcel]", "slices.overlaps[wellspring/vec.Row]"], unfollowed := true, recurses := true, named := ["wellspring/sum.halves"], apart := false, laid := [("wellspring/sum.halves", laid_wellspring_sum_halves)] }
def TripArrivesSaid : Prop := tripArrivesRow.holds Tryz.pinned (OpenSpec.ofChange tripArrivesSpec)

/-- ITS FALSE NEIGHBOUR: 'it returns false'. Refute it at one input. -/
def tripArrivesWrong : ChangeSpec := { name := "tripArrives", fn := fun _ => fun
  | [d1, d2, d3, d4, d5] => { results := [.lit (.bool false)], args := [d1, d2, d3, d4, d5] }
  | _ => none }
def TripArrivesWrongFalsely : Prop := tripArrivesRow.holds Tryz.pinned (OpenSpec.ofChange tripArrivesWrong)

/-- 'wellspringlaw19.TakerTakes': WHATEVER THE INPUT: true; the input reads as it did. -/
def takerTakesSpec : ChangeSpec := { name := "takerTakes", fn := fun _ => fun
  | [d1, d2] => { results := [.lit (.bool true)], args := [d1, d2] }
  | _ => none }
def takerTakesRow : OpenClaim := { program := "ytfbmdlfkipipfaagreatdoor", sum := "13205015fe73c77b8f913222375d02c5eac0b7c3fb8b77c8ca408f115ed4c804", func := "wellspring/wellspringlaw19.TakerTakes", spec := "takerTakes", inPlace := ["slices.overlaps[wellspring/vec.Row]"], unfollowed := true, recurses := true, named := ["wellspring/sum.halves"], apart := false, laid := [("wellspring/sum.halves", laid_wellspring_sum_halves)] }
def TakerTakesSaid : Prop := takerTakesRow.holds Tryz.pinned (OpenSpec.ofChange takerTakesSpec)

/-- ITS FALSE NEIGHBOUR: 'it returns false'. Refute it at one input. -/
def takerTakesWrong : ChangeSpec := { name := "takerTakes", fn := fun _ => fun
  | [d1, d2] => { results := [.lit (.bool false)], args := [d1, d2] }
  | _ => none }
def TakerTakesWrongFalsely : Prop := takerTakesRow.holds Tryz.pinned (OpenSpec.ofChange takerTakesWrong)

/-- 'wellspringlaw19.TakerNone': WHATEVER THE INPUT: true; the input reads as it did. -/
def takerNoneSpec : ChangeSpec := { name := "takerNone", fn := fun _ => fun
  | [] => { results := [.lit (.bool true)], args := [] }
  | _ => none }
def takerNoneRow : OpenClaim := { program := "ytfbmdlfkipipfaagreatdoor", sum := "13205015fe73c77b8f913222375d02c5eac0b7c3fb8b77c8ca408f115ed4c804", func := "wellspring/wellspringlaw19.TakerNone", spec := "takerNone", inPlace := ["slices.overlaps[wellspring/vec.Row]"], unfollowed := true, recurses := true, named := ["wellspring/sum.halves"], apart := false, laid := [("wellspring/sum.halves", laid_wellspring_sum_halves)] }
def TakerNoneSaid : Prop := takerNoneRow.holds Tryz.pinned (OpenSpec.ofChange takerNoneSpec)

/-- ITS FALSE NEIGHBOUR: 'it returns false'. Refute it at one input. -/
def takerNoneWrong : ChangeSpec := { name := "takerNone", fn := fun _ => fun
  | [] => { results := [.lit (.bool false)], args := [] }
  | _ => none }
def TakerNoneWrongFalsely : Prop := takerNoneRow.holds Tryz.pinned (OpenSpec.ofChange takerNoneWrong)

/- THE SECOND FORM. 'bulk': how many values and letters a reading holds, each counted each time it is reached (what is shared counts as often as it is met; a slice's spare places count too). A statement '..UptoSaid' is the law's where the arguments, and the package variables that the reading takes, are together of bulk at most 1048576: NARROWER than '..Said'. Prove '..Said' where nothing that the law and all that it calls make is longer than what came in: it says more and counts as full. Else prove '..UptoSaid'. A law counts once. -/
mutual
def uptoBulk {H : Type} : DataW H → Nat
  | .lit (.string bytes) => bytes.length + 1
  | .lit _ => 1
  | .nil => 1
  | .ptr d => uptoBulk d + 1
  | .slice elems spare => uptoBulkAll elems + uptoBulkAll spare + 1
  | .agg parts => uptoBulkAll parts + 1
  | .iface _ d => uptoBulk d + 1
  | .map entries => uptoBulkEntries entries + 1
  | .held _ => 1
def uptoBulkAll {H : Type} : List (DataW H) → Nat
  | [] => 0
  | d :: r => uptoBulk d + uptoBulkAll r
def uptoBulkEntries {H : Type} : List (Lit × DataW H) → Nat
  | [] => 0
  | x :: r => uptoBulkEntry x + uptoBulkEntries r
def uptoBulkEntry {H : Type} : Lit × DataW H → Nat
  | (.string bytes, d) => bytes.length + uptoBulk d + 1
  | (_, d) => uptoBulk d + 1
 end
def uptoSmall : (H : Type) → List (DataW H) → Bool := fun _ ds => decide (uptoBulkAll ds ≤ 1048576)
def OpenSpec.upto (s : _root_.Go.ChangeSpec) : _root_.Go.OpenSpec := { _root_.Go.OpenSpec.ofChange s with cond := some uptoSmall }

/-- 'wellspringtop.TopCounts', WHERE WHAT IT READS IS OF BULK AT MOST 1048576: true; the input reads as it did. -/
def topCountsUptoRow : OpenClaim := { program := "ytfbmdlfkipipfaagreatdoor", sum := "13205015fe73c77b8f913222375d02c5eac0b7c3fb8b77c8ca408f115ed4c804", func := "wellspring/wellspringtop.TopCounts", spec := "topCounts", inPlace := ["slices.overlaps[wellspring/vec.Row]", "math/bits.Add64"], unfollowed := true, recurses := true, named := ["wellspring/sum.halves"], apart := false, laid := [("wellspring/sum.halves", laid_wellspring_sum_halves)], narrowed := true }
def TopCountsUptoSaid : Prop := topCountsUptoRow.holds Tryz.pinned (OpenSpec.upto topCountsSpec)

/-- 'wellspringtop.TopOdds', WHERE WHAT IT READS IS OF BULK AT MOST 1048576: true; the input reads as it did. -/
def topOddsUptoRow : OpenClaim := { program := "ytfbmdlfkipipfaagreatdoor", sum := "13205015fe73c77b8f913222375d02c5eac0b7c3fb8b77c8ca408f115ed4c804", func := "wellspring/wellspringtop.TopOdds", spec := "topOdds", inPlace := ["slices.overlaps[wellspring/vec.Row]", "math/bits.Add64", "math/bits.Sub64"], unfollowed := true, recurses := true, named := ["wellspring/sum.halves"], apart := false, laid := [("wellspring/sum.halves", laid_wellspring_sum_halves)], narrowed := true }
def TopOddsUptoSaid : Prop := topOddsUptoRow.holds Tryz.pinned (OpenSpec.upto topOddsSpec)

/-- 'wellspringlaw19.TakerHas', WHERE WHAT IT READS IS OF BULK AT MOST 1048576: true; the input reads as it did. -/
def takerHasUptoRow : OpenClaim := { program := "ytfbmdlfkipipfaagreatdoor", sum := "13205015fe73c77b8f913222375d02c5eac0b7c3fb8b77c8ca408f115ed4c804", func := "wellspring/wellspringlaw19.TakerHas", spec := "takerHas", inPlace := ["slices.overlaps[wellspring/vec.Row]"], unfollowed := true, recurses := true, named := ["wellspring/sum.halves"], apart := false, laid := [("wellspring/sum.halves", laid_wellspring_sum_halves)], narrowed := true }
def TakerHasUptoSaid : Prop := takerHasUptoRow.holds Tryz.pinned (OpenSpec.upto takerHasSpec)

/-- 'wellspringlaw22.TripRuns', WHERE WHAT IT READS IS OF BULK AT MOST 1048576: true; the input reads as it did. -/
def tripRunsUptoRow : OpenClaim := { program := "ytfbmdlfkipipfaagreatdoor", sum := "13205015fe73c77b8f913222375d02c5eac0b7c3fb8b77c8ca408f115ed4c804", func := "wellspring/wellspringlaw22.TripRuns", spec := "tripRuns", inPlace := ["slices.overlaps[wellspring/way.parcel]", "slices.overlaps[wellspring/vec.Row]"], unfollowed := true, recurses := true, named := ["wellspring/sum.halves"], apart := false, laid := [("wellspring/sum.halves", laid_wellspring_sum_halves)], narrowed := true }
def TripRunsUptoSaid : Prop := tripRunsUptoRow.holds Tryz.pinned (OpenSpec.upto tripRunsSpec)

/-- 'wellspringlaw22.TripArrives', WHERE WHAT IT READS IS OF BULK AT MOST 1048576: true; the input reads as it did. -/
def tripArrivesUptoRow : OpenClaim := { program := "ytfbmdlfkipipfaagreatdoor", sum := "13205015fe73c77b8f913222375d02c5eac0b7c3fb8b77c8ca408f115ed4c804", func := "wellspring/wellspringlaw22.TripArrives", spec := "tripArrives", inPlace := ["slices.overlaps[wellspring/way.parcel]", "slices.overlaps[wellspring/vec.Row]"], unfollowed := true, recurses := true, named := ["wellspring/sum.halves"], apart := false, laid := [("wellspring/sum.halves", laid_wellspring_sum_halves)], narrowed := true }
def TripArrivesUptoSaid : Prop := tripArrivesUptoRow.holds Tryz.pinned (OpenSpec.upto tripArrivesSpec)

/-- 'wellspringlaw19.TakerTakes', WHERE WHAT IT READS IS OF BULK AT MOST 1048576: true; the input reads as it did. -/
def takerTakesUptoRow : OpenClaim := { program := "ytfbmdlfkipipfaagreatdoor", sum := "13205015fe73c77b8f913222375d02c5eac0b7c3fb8b77c8ca408f115ed4c804", func := "wellspring/wellspringlaw19.TakerTakes", spec := "takerTakes", inPlace := ["slices.overlaps[wellspring/vec.Row]"], unfollowed := true, recurses := true, named := ["wellspring/sum.halves"], apart := false, laid := [("wellspring/sum.halves", laid_wellspring_sum_halves)], narrowed := true }
def TakerTakesUptoSaid : Prop := takerTakesUptoRow.holds Tryz.pinned (OpenSpec.upto takerTakesSpec)

/-- 'wellspringlaw19.TakerNone', WHERE WHAT IT READS IS OF BULK AT MOST 1048576: true; the input reads as it did. -/
def takerNoneUptoRow : OpenClaim := { program := "ytfbmdlfkipipfaagreatdoor", sum := "13205015fe73c77b8f913222375d02c5eac0b7c3fb8b77c8ca408f115ed4c804", func := "wellspring/wellspringlaw19.TakerNone", spec := "takerNone", inPlace := ["slices.overlaps[wellspring/vec.Row]"], unfollowed := true, recurses := true, named := ["wellspring/sum.halves"], apart := false, laid := [("wellspring/sum.halves", laid_wellspring_sum_halves)], narrowed := true }
def TakerNoneUptoSaid : Prop := takerNoneUptoRow.holds Tryz.pinned (OpenSpec.upto takerNoneSpec)

end Rows
end Go.Proofs.YtfbmdlfkipipfaaGreatDoor
