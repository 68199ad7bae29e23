/- The walk of the law VecTells, whole. -/
import Derived.Test.YthekakfddhgpcaaLd
namespace Go.Proofs.Ythekakfddhgpcaa
open Go.RowKit Go.By
set_option maxRecDepth 100000 in
set_option maxHeartbeats 400000 in
theorem VecTells_any (p : Option Addr) (m c : Nat) (v : List UInt8) (n i : Int) (w : World) (h : Sl B8 w p m c v) (_wn : (Lit.int .i64 n).wf = true) (_wi : (Lit.int .i64 i).wf = true) :
    Calls Try.prog 6 #[.slice p m c, .int .i64 n, .int .i64 i] w fun e w' => e = .returned (.bool true) ∧ Below w.heap.size w w' := by
  by_cases hm : m ≤ 100
  · by_cases hn : 1000 < n ∧ n ≤ 65536
    · obtain ⟨n1, n2⟩ := hn
      have g1 : ¬ (100 : Int) < (m : Int) := by omega
      clear h _wn _wi
      go_enter Try.func6, Try.ntmps6
      go_wp2_with (go_at_call 29; refine (awake03 _).mono ?_; rintro e w1 ⟨rfl, hw1⟩)
      go_ret
      exact ⟨rfl, hw1⟩
    · exact VT_main p m c v n i w h hm hn
  · have g1 : (100 : Int) < (m : Int) := by omega
    clear h hm _wn _wi
    go_enter Try.func6, Try.ntmps6
    go_wp2_with (go_at_call 29; refine (awake03 _).mono ?_; rintro e w1 ⟨rfl, hw1⟩)
    go_ret
    exact ⟨rfl, hw1⟩
end Go.Proofs.Ythekakfddhgpcaa
