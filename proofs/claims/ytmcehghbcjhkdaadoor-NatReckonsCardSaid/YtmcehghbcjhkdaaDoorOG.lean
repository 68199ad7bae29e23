/- NatReckons: the walk, whole. -/
import Derived.Test.YtmcehghbcjhkdaaDoorOF
namespace Go.Proofs.YtmcehghbcjhkdaaDoor
open Go.RowKit Go.By
set_option maxRecDepth 100000 in
set_option maxHeartbeats 4000000 in
theorem NatReckons_skip (p1 p2 : Option Addr) (n1 c1 n2 c2 : Nat) (nn : UInt8) (w : World) (h1 : n1 ≤ 9223372036854775807) (h2 : n2 ≤ 9223372036854775807) (hT : Tab w) (h : 60 < n1 ∨ 60 < n2) :
    Calls Tryd.prog 6 #[.slice p1 n1 c1, .slice p2 n2 c2, B8 nn] w fun e w' => e = .returned (.bool true) ∧ Below w.heap.size w w' := by
  have HT := Lib.hid hT
  clear hT
  go_enter Tryd.func6, Tryd.ntmps6
  go_wp2_with fail
  refine Calls.mono (awake_nat _ HT.out) ?_
  rintro e w1 ⟨rfl, hb⟩
  have B1 := Lib.hid hb
  clear hb
  by_cases g1 : 60 < n1
  · have g1' : (60 : Int) < (n1 : Int) := by omega
    clear h g1
    go_wp2
    go_ret
    exact ⟨rfl, B1.out⟩
  have g1' : (n1 : Int) ≤ 60 := by omega
  have g2' : (60 : Int) < (n2 : Int) := by omega
  clear h g1
  go_wp2
  go_ret
  exact ⟨rfl, B1.out⟩
theorem NatReckons_any (p1 : Option Addr) (n1 c1 : Nat) (xs : List UInt8) (p2 : Option Addr) (n2 c2 : Nat) (ys : List UInt8) (nn : UInt8) (w : World) (h1 : Sl B8 w p1 n1 c1 xs) (h2 : Sl B8 w p2 n2 c2 ys) (hT : Tab w) :
    Calls Tryd.prog 6 #[.slice p1 n1 c1, .slice p2 n2 c2, B8 nn] w fun e w' => e = .returned (.bool true) ∧ Below w.heap.size w w' := by
  by_cases h : 60 < n1 ∨ 60 < n2
  · exact NatReckons_skip p1 p2 n1 c1 n2 c2 nn w h1.bound h2.bound hT h
  · exact NatReckons_main p1 p2 n1 c1 n2 c2 xs ys nn w h1 h2 (by omega) (by omega) hT
end Go.Proofs.YtmcehghbcjhkdaaDoor
