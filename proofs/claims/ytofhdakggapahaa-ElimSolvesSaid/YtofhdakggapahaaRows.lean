/-
  No cell of these rows narrows 'for every input' (looked for: loops, veiled, ifaces, maps, wideKeys, modest, calm, conditions, laid).
  DERIVED. THE GIVEN ROWS OF THIS SEAT. 6 by the template 'for every input the law returns true; each argument reads behind the call as it read before'; 0 by the template 'total and deterministic' (their statements: YtofhdakggapahaaTotals.lean).
  GIVEN WITH THE SEED: the statements are not yours to turn. If you find one false, say at which input.
  Laid BY PROGRAM, IN A SANDBOX (cutbox-rows.mjs): the forced cells as the released guide's own fill.sh prints them over the translation 06b450be788979c5… (all of the seat's roots in one cut). By AI agents, Wed Nov 11 2026. No macro, syntax, notation, axiom, sorry.
-/
import Derived.Test.YtofhdakggapahaaChecked
import GoSem.Claim
import GoSem.ClaimJoined
import GoSem.ClaimMapViews
import Derived.JoinedTies
import Derived.KernelRfl
namespace Go.Proofs.Ytofhdakggapahaa
/- THE CELL 'sum', in the pinned program and in every row, IS THE sha256 OF THE DUMP (.gsa) THAT YtofhdakggapahaaProg.lean LOADS. Nothing in Lean hashes anything: it is a label: what it is worth is what the hold of that sum in a sandbox is worth. -/
noncomputable def Try.pinned : Pinned := { name := "ytofhdakggapahaa", sum := "06b450be788979c51acb6872a7d711a8e15e5ddd74106eb1ef51de71e5a5f711", checked := Try.checked }
namespace Rows
def none {H : Type} : Left H := { results := [], args := [] }

/-- 'wellspringlaw07.GridTells': WHATEVER THE INPUT: true; the input reads as it did. -/
def gridTellsSpec : ChangeSpec := { name := "gridTells", fn := fun _ => fun
  | [d1, d2, d3] => { results := [.lit (.bool true)], args := [d1, d2, d3] }
  | _ => none }
def gridTellsRow : OpenClaim := { program := "ytofhdakggapahaa", sum := "06b450be788979c51acb6872a7d711a8e15e5ddd74106eb1ef51de71e5a5f711", func := "wellspring/wellspringlaw07.GridTells", spec := "gridTells", unfollowed := true, recurses := true, apart := false }
def GridTellsSaid : Prop := gridTellsRow.holds Try.pinned (OpenSpec.ofChange gridTellsSpec)

/-- ITS FALSE NEIGHBOUR: 'it returns false'. Refute it at one input. -/
def gridTellsWrong : ChangeSpec := { name := "gridTells", fn := fun _ => fun
  | [d1, d2, d3] => { results := [.lit (.bool false)], args := [d1, d2, d3] }
  | _ => none }
def GridTellsWrongFalsely : Prop := gridTellsRow.holds Try.pinned (OpenSpec.ofChange gridTellsWrong)

/-- 'wellspringlaw07.GridRanks': WHATEVER THE INPUT: true; the input reads as it did. -/
def gridRanksSpec : ChangeSpec := { name := "gridRanks", fn := fun _ => fun
  | [d1, d2, d3, d4] => { results := [.lit (.bool true)], args := [d1, d2, d3, d4] }
  | _ => none }
def gridRanksRow : OpenClaim := { program := "ytofhdakggapahaa", sum := "06b450be788979c51acb6872a7d711a8e15e5ddd74106eb1ef51de71e5a5f711", func := "wellspring/wellspringlaw07.GridRanks", spec := "gridRanks", unfollowed := true, recurses := true, apart := false }
def GridRanksSaid : Prop := gridRanksRow.holds Try.pinned (OpenSpec.ofChange gridRanksSpec)

/-- ITS FALSE NEIGHBOUR: 'it returns false'. Refute it at one input. -/
def gridRanksWrong : ChangeSpec := { name := "gridRanks", fn := fun _ => fun
  | [d1, d2, d3, d4] => { results := [.lit (.bool false)], args := [d1, d2, d3, d4] }
  | _ => none }
def GridRanksWrongFalsely : Prop := gridRanksRow.holds Try.pinned (OpenSpec.ofChange gridRanksWrong)

/-- 'wellspringlaw07.GridReckons': WHATEVER THE INPUT: true; the input reads as it did. -/
def gridReckonsSpec : ChangeSpec := { name := "gridReckons", fn := fun _ => fun
  | [d1, d2, d3, d4] => { results := [.lit (.bool true)], args := [d1, d2, d3, d4] }
  | _ => none }
def gridReckonsRow : OpenClaim := { program := "ytofhdakggapahaa", sum := "06b450be788979c51acb6872a7d711a8e15e5ddd74106eb1ef51de71e5a5f711", func := "wellspring/wellspringlaw07.GridReckons", spec := "gridReckons", unfollowed := true, recurses := true, apart := false }
def GridReckonsSaid : Prop := gridReckonsRow.holds Try.pinned (OpenSpec.ofChange gridReckonsSpec)

/-- ITS FALSE NEIGHBOUR: 'it returns false'. Refute it at one input. -/
def gridReckonsWrong : ChangeSpec := { name := "gridReckons", fn := fun _ => fun
  | [d1, d2, d3, d4] => { results := [.lit (.bool false)], args := [d1, d2, d3, d4] }
  | _ => none }
def GridReckonsWrongFalsely : Prop := gridReckonsRow.holds Try.pinned (OpenSpec.ofChange gridReckonsWrong)

/-- 'wellspringlaw08.ElimPuts': WHATEVER THE INPUT: true; the input reads as it did. -/
def elimPutsSpec : ChangeSpec := { name := "elimPuts", fn := fun _ => fun
  | [d1, d2, d3, d4] => { results := [.lit (.bool true)], args := [d1, d2, d3, d4] }
  | _ => none }
def elimPutsRow : OpenClaim := { program := "ytofhdakggapahaa", sum := "06b450be788979c51acb6872a7d711a8e15e5ddd74106eb1ef51de71e5a5f711", func := "wellspring/wellspringlaw08.ElimPuts", spec := "elimPuts", inPlace := ["slices.overlaps[wellspring/vec.Row]"], unfollowed := true, recurses := true, apart := false }
def ElimPutsSaid : Prop := elimPutsRow.holds Try.pinned (OpenSpec.ofChange elimPutsSpec)

/-- ITS FALSE NEIGHBOUR: 'it returns false'. Refute it at one input. -/
def elimPutsWrong : ChangeSpec := { name := "elimPuts", fn := fun _ => fun
  | [d1, d2, d3, d4] => { results := [.lit (.bool false)], args := [d1, d2, d3, d4] }
  | _ => none }
def ElimPutsWrongFalsely : Prop := elimPutsRow.holds Try.pinned (OpenSpec.ofChange elimPutsWrong)

/-- 'wellspringlaw08.ElimNone': WHATEVER THE INPUT: true; the input reads as it did. -/
def elimNoneSpec : ChangeSpec := { name := "elimNone", fn := fun _ => fun
  | [] => { results := [.lit (.bool true)], args := [] }
  | _ => none }
def elimNoneRow : OpenClaim := { program := "ytofhdakggapahaa", sum := "06b450be788979c51acb6872a7d711a8e15e5ddd74106eb1ef51de71e5a5f711", func := "wellspring/wellspringlaw08.ElimNone", spec := "elimNone", inPlace := ["slices.overlaps[wellspring/vec.Row]"], unfollowed := true, recurses := true, apart := false }
def ElimNoneSaid : Prop := elimNoneRow.holds Try.pinned (OpenSpec.ofChange elimNoneSpec)

/-- ITS FALSE NEIGHBOUR: 'it returns false'. Refute it at one input. -/
def elimNoneWrong : ChangeSpec := { name := "elimNone", fn := fun _ => fun
  | [] => { results := [.lit (.bool false)], args := [] }
  | _ => none }
def ElimNoneWrongFalsely : Prop := elimNoneRow.holds Try.pinned (OpenSpec.ofChange elimNoneWrong)

/-- 'wellspringlaw08.ElimSolves': WHATEVER THE INPUT: true; the input reads as it did. -/
def elimSolvesSpec : ChangeSpec := { name := "elimSolves", fn := fun _ => fun
  | [d1, d2, d3] => { results := [.lit (.bool true)], args := [d1, d2, d3] }
  | _ => none }
def elimSolvesRow : OpenClaim := { program := "ytofhdakggapahaa", sum := "06b450be788979c51acb6872a7d711a8e15e5ddd74106eb1ef51de71e5a5f711", func := "wellspring/wellspringlaw08.ElimSolves", spec := "elimSolves", inPlace := ["slices.overlaps[wellspring/vec.Row]"], unfollowed := true, recurses := true, apart := false }
def ElimSolvesSaid : Prop := elimSolvesRow.holds Try.pinned (OpenSpec.ofChange elimSolvesSpec)

/-- ITS FALSE NEIGHBOUR: 'it returns false'. Refute it at one input. -/
def elimSolvesWrong : ChangeSpec := { name := "elimSolves", fn := fun _ => fun
  | [d1, d2, d3] => { results := [.lit (.bool false)], args := [d1, d2, d3] }
  | _ => none }
def ElimSolvesWrongFalsely : Prop := elimSolvesRow.holds Try.pinned (OpenSpec.ofChange elimSolvesWrong)

/- THE SECOND FORM. 'bulk': how many values and letters a reading holds, each counted each time it is reached (what is shared counts as often as it is met; a slice's spare places count too). A statement '..UptoSaid' is the law's where the arguments, and the package variables that the reading takes, are together of bulk at most 1048576: NARROWER than '..Said'. Prove '..Said' where nothing that the law and all that it calls make is longer than what came in: it says more and counts as full. Else prove '..UptoSaid'. A law counts once. -/
mutual
def uptoBulk {H : Type} : DataW H → Nat
  | .lit (.string bytes) => bytes.length + 1
  | .lit _ => 1
  | .nil => 1
  | .ptr d => uptoBulk d + 1
  | .slice elems spare => uptoBulkAll elems + uptoBulkAll spare + 1
  | .agg parts => uptoBulkAll parts + 1
  | .iface _ d => uptoBulk d + 1
  | .map entries => uptoBulkEntries entries + 1
  | .held _ => 1
def uptoBulkAll {H : Type} : List (DataW H) → Nat
  | [] => 0
  | d :: r => uptoBulk d + uptoBulkAll r
def uptoBulkEntries {H : Type} : List (Lit × DataW H) → Nat
  | [] => 0
  | x :: r => uptoBulkEntry x + uptoBulkEntries r
def uptoBulkEntry {H : Type} : Lit × DataW H → Nat
  | (.string bytes, d) => bytes.length + uptoBulk d + 1
  | (_, d) => uptoBulk d + 1
 end
def uptoSmall : (H : Type) → List (DataW H) → Bool := fun _ ds => decide (uptoBulkAll ds ≤ 1048576)
def OpenSpec.upto (s : _root_.Go.ChangeSpec) : _root_.Go.OpenSpec := { _root_.Go.OpenSpec.ofChange s with cond := some uptoSmall }

/-- 'wellspringlaw07.GridTells', WHERE WHAT IT READS IS OF BULK AT MOST 1048576: true; the input reads as it did. -/
def gridTellsUptoRow : OpenClaim := { program := "ytofhdakggapahaa", sum := "06b450be788979c51acb6872a7d711a8e15e5ddd74106eb1ef51de71e5a5f711", func := "wellspring/wellspringlaw07.GridTells", spec := "gridTells", unfollowed := true, recurses := true, apart := false, narrowed := true }
def GridTellsUptoSaid : Prop := gridTellsUptoRow.holds Try.pinned (OpenSpec.upto gridTellsSpec)

/-- 'wellspringlaw07.GridRanks', WHERE WHAT IT READS IS OF BULK AT MOST 1048576: true; the input reads as it did. -/
def gridRanksUptoRow : OpenClaim := { program := "ytofhdakggapahaa", sum := "06b450be788979c51acb6872a7d711a8e15e5ddd74106eb1ef51de71e5a5f711", func := "wellspring/wellspringlaw07.GridRanks", spec := "gridRanks", unfollowed := true, recurses := true, apart := false, narrowed := true }
def GridRanksUptoSaid : Prop := gridRanksUptoRow.holds Try.pinned (OpenSpec.upto gridRanksSpec)

/-- 'wellspringlaw07.GridReckons', WHERE WHAT IT READS IS OF BULK AT MOST 1048576: true; the input reads as it did. -/
def gridReckonsUptoRow : OpenClaim := { program := "ytofhdakggapahaa", sum := "06b450be788979c51acb6872a7d711a8e15e5ddd74106eb1ef51de71e5a5f711", func := "wellspring/wellspringlaw07.GridReckons", spec := "gridReckons", unfollowed := true, recurses := true, apart := false, narrowed := true }
def GridReckonsUptoSaid : Prop := gridReckonsUptoRow.holds Try.pinned (OpenSpec.upto gridReckonsSpec)

/-- 'wellspringlaw08.ElimPuts', WHERE WHAT IT READS IS OF BULK AT MOST 1048576: true; the input reads as it did. -/
def elimPutsUptoRow : OpenClaim := { program := "ytofhdakggapahaa", sum := "06b450be788979c51acb6872a7d711a8e15e5ddd74106eb1ef51de71e5a5f711", func := "wellspring/wellspringlaw08.ElimPuts", spec := "elimPuts", inPlace := ["slices.overlaps[wellspring/vec.Row]"], unfollowed := true, recurses := true, apart := false, narrowed := true }
def ElimPutsUptoSaid : Prop := elimPutsUptoRow.holds Try.pinned (OpenSpec.upto elimPutsSpec)

/-- 'wellspringlaw08.ElimNone', WHERE WHAT IT READS IS OF BULK AT MOST 1048576: true; the input reads as it did. -/
def elimNoneUptoRow : OpenClaim := { program := "ytofhdakggapahaa", sum := "06b450be788979c51acb6872a7d711a8e15e5ddd74106eb1ef51de71e5a5f711", func := "wellspring/wellspringlaw08.ElimNone", spec := "elimNone", inPlace := ["slices.overlaps[wellspring/vec.Row]"], unfollowed := true, recurses := true, apart := false, narrowed := true }
def ElimNoneUptoSaid : Prop := elimNoneUptoRow.holds Try.pinned (OpenSpec.upto elimNoneSpec)

/-- 'wellspringlaw08.ElimSolves', WHERE WHAT IT READS IS OF BULK AT MOST 1048576: true; the input reads as it did. -/
def elimSolvesUptoRow : OpenClaim := { program := "ytofhdakggapahaa", sum := "06b450be788979c51acb6872a7d711a8e15e5ddd74106eb1ef51de71e5a5f711", func := "wellspring/wellspringlaw08.ElimSolves", spec := "elimSolves", inPlace := ["slices.overlaps[wellspring/vec.Row]"], unfollowed := true, recurses := true, apart := false, narrowed := true }
def ElimSolvesUptoSaid : Prop := elimSolvesUptoRow.holds Try.pinned (OpenSpec.upto elimSolvesSpec)

end Rows
end Go.Proofs.Ytofhdakggapahaa
