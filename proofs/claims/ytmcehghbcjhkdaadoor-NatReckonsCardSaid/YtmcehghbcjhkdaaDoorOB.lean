/- NatTells: the walk, whole. -/
import Derived.Test.YtmcehghbcjhkdaaDoorOA
import Derived.OpenShut
namespace Go.Proofs.YtmcehghbcjhkdaaDoor
open Go.RowKit Go.By
set_option maxRecDepth 100000 in
set_option maxHeartbeats 4000000 in
theorem NatTells_skip (u : Int) (S : ByteArray) (p1 p2 : Option Addr) (n1 c1 n2 c2 : Nat) (w : World) (h0 : S.size ≤ 9223372036854775807) (h1 : n1 ≤ 9223372036854775807) (h2 : n2 ≤ 9223372036854775807) (hT : Tab w) (h : 400 < S.size ∨ 200 < n1 ∨ 200 < n2) :
    Calls Tryd.prog 4 #[.int .u64 u, .string S, .slice p1 n1 c1, .slice p2 n2 c2] w fun e w' => e = .returned (.bool true) ∧ Below w.heap.size w w' := by
  have HT := Lib.hid hT
  clear hT
  go_enter Tryd.func4, Tryd.ntmps4
  go_wp2_with fail
  refine Calls.mono (awake_nat _ HT.out) ?_
  rintro e w1 ⟨rfl, hb⟩
  have B1 := Lib.hid hb
  clear hb
  by_cases g0 : 400 < S.size
  · have g0' : (400 : Int) < (S.size : Int) := by omega
    clear h g0
    go_wp2
    go_ret
    exact ⟨rfl, B1.out⟩
  have g0' : (S.size : Int) ≤ 400 := by omega
  by_cases g1 : 200 < n1
  · have g1' : (200 : Int) < (n1 : Int) := by omega
    clear h g1 g0
    go_wp2
    go_ret
    exact ⟨rfl, B1.out⟩
  have g1' : (n1 : Int) ≤ 200 := by omega
  have g3' : (200 : Int) < (n2 : Int) := by omega
  clear h g1 g0
  go_wp2
  go_ret
  exact ⟨rfl, B1.out⟩
theorem NatTells_any (u : Int) (S : ByteArray) (p1 : Option Addr) (n1 c1 : Nat) (xs : List UInt8) (p2 : Option Addr) (n2 c2 : Nat) (ys : List UInt8) (w : World) (hu : (Lit.int .u64 u).wf = true) (h0 : S.size ≤ 9223372036854775807) (h1 : Sl B8 w p1 n1 c1 xs) (h2 : Sl B8 w p2 n2 c2 ys) (hT : Tab w) :
    Calls Tryd.prog 4 #[.int .u64 u, .string S, .slice p1 n1 c1, .slice p2 n2 c2] w fun e w' => e = .returned (.bool true) ∧ Below w.heap.size w w' := by
  by_cases h : 400 < S.size ∨ 200 < n1 ∨ 200 < n2
  · exact NatTells_skip u S p1 p2 n1 c1 n2 c2 w h0 h1.bound h2.bound hT h
  · have hS : S = strB S.data.toList := strB_of S
    have hl : S.data.toList.length ≤ 400 := by rw [← strB_size, ← hS]; omega
    have hb := bounds_u64 hu
    have e : u = ((UInt64.ofNat u.toNat).toNat : Int) := by simp; omega
    have := NatTells_main (UInt64.ofNat u.toNat) S.data.toList p1 p2 n1 c1 n2 c2 xs ys w h1 h2 hl (by omega) (by omega) hT
    rw [← hS] at this
    rw [e]
    exact this
end Go.Proofs.YtmcehghbcjhkdaaDoor
