/- WayOne: the walk, whole. -/
import Derived.Test.YtlfcijpkdhdmeaaAr
import Derived.Test.YtlfcijpkdhdmeaaAs
import Derived.Test.YtlfcijpkdhdmeaaAt
import Derived.Test.YtlfcijpkdhdmeaaAu
import Derived.Test.YtlfcijpkdhdmeaaAv
import Derived.Test.YtlfcijpkdhdmeaaAw
import Derived.Test.YtlfcijpkdhdmeaaAx
namespace Go.Proofs.Ytlfcijpkdhdmeaa
open Go.RowKit Go.By
set_option maxRecDepth 100000 in
set_option maxHeartbeats 4000000 in
theorem WayOne_big (p0 p1 p2 q : Option Addr) (n0 n1 n2 m c0 c1 c2 c' : Nat) (d i j b : Int) (w : World) (z0 : n0 ≤ 140737488355328) (z1 : n1 ≤ 140737488355328) (z2 : n2 ≤ 140737488355328) (z3 : m ≤ 140737488355328) (hsum : 100 < n0 + n1 + n2 + m) :
    Calls Try.prog 4 #[.slice p0 n0 c0, .slice p1 n1 c1, .slice p2 n2 c2, .agg #[.int .i64 d, .int .i64 i, .int .i64 j, .int .u32 b, .slice q m c']] w fun e w' => e = .returned (.bool true) ∧ Below w.heap.size w w' := by
  have hB0 : ∀ o, Below w.heap.size w (w.alloc o) := fun o => al (Below.refl _ _) (Nat.le_refl _)
  have HB0 := Lib.hid hB0
  clear hB0
  have hs2 : (100 : Int) < (n0 : Int) + (n1 : Int) + (n2 : Int) + (m : Int) := by omega
  go_enter Try.func4, Try.ntmps4
  go_wp2_with fail
  refine (awake20 _).mono ?_; rintro e w1 ⟨rfl, k1⟩
  have X1 : Hid (w1.heap[w.heap.size]? = some (.cells #[.int .i64 d, .int .i64 i, .int .i64 j, .int .u32 b, .slice q m c'] 39 (0, 0))) := (k1.block _ (by simp)).trans (hnew rfl)
  have K1 : Hid (Below w.heap.size w w1) := (HB0.out _).trans (k1.mono (by simp))
  clear k1
  obtain ⟨s0, s1, s2, s3, s4⟩ := cells5 X1.out
  clear hsum
  go_wp2
  go_ret
  exact ⟨rfl, K1.out⟩
theorem WayOne_any (p0 : Option Addr) (n0 c0 : Nat) (x0 : List UInt8) (p1 : Option Addr) (n1 c1 : Nat) (x1 : List UInt8) (p2 : Option Addr) (n2 c2 : Nat) (x2 : List UInt8) (A : ActD) (q : Option Addr) (m c' : Nat) (w : World)
    (h0 : Sl B8 w p0 n0 c0 x0) (h1 : Sl B8 w p1 n1 c1 x1) (h2 : Sl B8 w p2 n2 c2 x2) (hs : Sl B8 w q m c' A.bs) (bi : A.i ≤ 9223372036854775807) (bj : A.j ≤ 9223372036854775807) (bb : A.b < 4294967296)
    (z0 : n0 ≤ 140737488355328) (z1 : n1 ≤ 140737488355328) (z2 : n2 ≤ 140737488355328) (z3 : m ≤ 140737488355328) :
    Calls Try.prog 4 #[.slice p0 n0 c0, .slice p1 n1 c1, .slice p2 n2 c2, .agg #[.int .i64 A.d, .int .i64 A.i, .int .i64 A.j, .int .u32 A.b, .slice q m c']] w fun e w' => e = .returned (.bool true) ∧ Below w.heap.size w w' := by
  obtain ⟨d, i, j, b, bs⟩ := A
  simp only at hs bi bj bb ⊢
  by_cases hsum : n0 + n1 + n2 + m ≤ 100
  · by_cases h5 : d = 5
    · subst h5
      by_cases hj : j < 0
      · exact WayOne_forgeN p0 p1 p2 q n0 n1 n2 m c0 c1 c2 c' b i j x0 x1 x2 bs w h0 h1 h2 hs hsum bb bi hj
      · exact WayOne_forgeY p0 p1 p2 q n0 n1 n2 m c0 c1 c2 c' b i j x0 x1 x2 bs w h0 h1 h2 hs hsum bb bi bj (by omega)
    · by_cases hA : d < 0
      · exact WayOne_outA p0 p1 p2 q n0 n1 n2 m c0 c1 c2 c' b d i j x0 x1 x2 bs w h0 h1 h2 hs hsum bb bi bj hA
      · by_cases hB : 6 ≤ d
        · exact WayOne_outB p0 p1 p2 q n0 n1 n2 m c0 c1 c2 c' b d i j x0 x1 x2 bs w h0 h1 h2 hs hsum bb bi bj hB
        · by_cases hi : i < 0
          · by_cases h2' : d ≤ 2
            · exact WayOne_outC0 p0 p1 p2 q n0 n1 n2 m c0 c1 c2 c' b d i j x0 x1 x2 bs w h0 h1 h2 hs hsum bb bi bj (by omega) h2' hi
            · exact WayOne_outD0 p0 p1 p2 q n0 n1 n2 m c0 c1 c2 c' b d i j x0 x1 x2 bs w h0 h1 h2 hs hsum bb bi bj (by omega) (by omega) hi
          · by_cases hi3 : 3 ≤ i
            · by_cases h2' : d ≤ 2
              · exact WayOne_outC1 p0 p1 p2 q n0 n1 n2 m c0 c1 c2 c' b d i j x0 x1 x2 bs w h0 h1 h2 hs hsum bb bi bj (by omega) h2' hi3
              · exact WayOne_outD1 p0 p1 p2 q n0 n1 n2 m c0 c1 c2 c' b d i j x0 x1 x2 bs w h0 h1 h2 hs hsum bb bi bj (by omega) (by omega) hi3
            · by_cases hj : j < 0
              · by_cases h2' : d ≤ 2
                · exact WayOne_outC2 p0 p1 p2 q n0 n1 n2 m c0 c1 c2 c' b d i j x0 x1 x2 bs w h0 h1 h2 hs hsum bb bi bj (by omega) h2' (by omega) (by omega) hj
                · exact WayOne_outD2 p0 p1 p2 q n0 n1 n2 m c0 c1 c2 c' b d i j x0 x1 x2 bs w h0 h1 h2 hs hsum bb bi bj (by omega) (by omega) (by omega) (by omega) hj
              · obtain ⟨I, rfl⟩ := Int.eq_ofNat_of_zero_le (show 0 ≤ i by omega)
                obtain ⟨J, rfl⟩ := Int.eq_ofNat_of_zero_le (show 0 ≤ j by omega)
                have hI : I < 3 := by omega
                have hJ : J ≤ 9223372036854775807 := by omega
                have hd : d = 0 ∨ d = 1 ∨ d = 2 ∨ d = 3 ∨ d = 4 := by omega
                rcases hd with rfl | rfl | rfl | rfl | rfl
                · exact WayOne_drop p0 p1 p2 q n0 n1 n2 m c0 c1 c2 c' b I J x0 x1 x2 bs w h0 h1 h2 hs hsum bb hI hJ
                · exact WayOne_double p0 p1 p2 q n0 n1 n2 m c0 c1 c2 c' b I J x0 x1 x2 bs w h0 h1 h2 hs hsum bb hI hJ
                · exact WayOne_move p0 p1 p2 q n0 n1 n2 m c0 c1 c2 c' b I J x0 x1 x2 bs w h0 h1 h2 hs hsum bb hI hJ
                · exact WayOne_cut p0 p1 p2 q n0 n1 n2 m c0 c1 c2 c' b I J x0 x1 x2 bs w h0 h1 h2 hs hsum bb hI hJ
                · exact WayOne_mask p0 p1 p2 q n0 n1 n2 m c0 c1 c2 c' b I J x0 x1 x2 bs w h0 h1 h2 hs hsum bb hI hJ
  · exact WayOne_big p0 p1 p2 q n0 n1 n2 m c0 c1 c2 c' d i j b w z0 z1 z2 z3 (by omega)
end Go.Proofs.Ytlfcijpkdhdmeaa
