/- NatLaws: the walk, whole. -/
import Derived.Test.YtmcehghbcjhkdaaDoorNX
namespace Go.Proofs.YtmcehghbcjhkdaaDoor
open Go.RowKit Go.By
set_option maxRecDepth 100000 in
set_option maxHeartbeats 4000000 in
theorem NatLaws_skip (p1 p2 p3 : Option Addr) (n1 c1 n2 c2 n3 c3 : Nat) (m n : UInt8) (w : World) (h1 : n1 ≤ 9223372036854775807) (h2 : n2 ≤ 9223372036854775807) (h3 : n3 ≤ 9223372036854775807) (hT : Tab w) (h : 60 < n1 ∨ 60 < n2 ∨ 60 < n3) :
    Calls Tryd.prog 5 #[.slice p1 n1 c1, .slice p2 n2 c2, .slice p3 n3 c3, B8 m, B8 n] w fun e w' => e = .returned (.bool true) ∧ Below w.heap.size w w' := by
  have HT := Lib.hid hT
  clear hT
  go_enter Tryd.func5, Tryd.ntmps5
  go_wp2_with fail
  refine Calls.mono (awake_nat _ HT.out) ?_
  rintro e w1 ⟨rfl, hb⟩
  have B1 := Lib.hid hb
  clear hb
  by_cases g1 : 60 < n1
  · have g1' : (60 : Int) < (n1 : Int) := by omega
    clear h g1
    go_wp2
    go_ret
    exact ⟨rfl, B1.out⟩
  have g1' : (n1 : Int) ≤ 60 := by omega
  by_cases g2 : 60 < n2
  · have g2' : (60 : Int) < (n2 : Int) := by omega
    clear h g1 g2
    go_wp2
    go_ret
    exact ⟨rfl, B1.out⟩
  have g2' : (n2 : Int) ≤ 60 := by omega
  have g3' : (60 : Int) < (n3 : Int) := by omega
  clear h g1 g2
  go_wp2
  go_ret
  exact ⟨rfl, B1.out⟩
theorem NatLaws_any (p1 : Option Addr) (n1 c1 : Nat) (xs : List UInt8) (p2 : Option Addr) (n2 c2 : Nat) (ys : List UInt8) (p3 : Option Addr) (n3 c3 : Nat) (zs : List UInt8) (m n : UInt8) (w : World) (h1 : Sl B8 w p1 n1 c1 xs) (h2 : Sl B8 w p2 n2 c2 ys) (h3 : Sl B8 w p3 n3 c3 zs) (hT : Tab w) :
    Calls Tryd.prog 5 #[.slice p1 n1 c1, .slice p2 n2 c2, .slice p3 n3 c3, B8 m, B8 n] w fun e w' => e = .returned (.bool true) ∧ Below w.heap.size w w' := by
  by_cases h : 60 < n1 ∨ 60 < n2 ∨ 60 < n3
  · exact NatLaws_skip p1 p2 p3 n1 c1 n2 c2 n3 c3 m n w h1.bound h2.bound h3.bound hT h
  · exact NatLaws_main p1 p2 p3 n1 c1 n2 c2 n3 c3 xs ys zs m n w h1 h2 h3 (by omega) (by omega) (by omega) hT
end Go.Proofs.YtmcehghbcjhkdaaDoor
