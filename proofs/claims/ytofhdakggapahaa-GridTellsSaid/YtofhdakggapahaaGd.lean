/- GridTells: the walk, whole. -/
import Derived.Test.YtofhdakggapahaaGa
import Derived.Test.YtofhdakggapahaaGb
import Derived.Test.YtofhdakggapahaaGc
import Derived.OpenShut
namespace Go.Proofs.Ytofhdakggapahaa
open Go.RowKit Go.By
set_option maxRecDepth 100000 in
set_option maxHeartbeats 4000000 in
theorem GT_skip1 (width n : Int) (p : Option Addr) (m c : Nat) (xss : List (List UInt8)) (w : World) (h : Sl2 w p m c xss) (hf : (xss.all (fun y => decide (y.length ≤ 30)) && decide (m ≤ 30)) = false) :
    Calls Try.prog 3 #[.int .i64 width, .slice p m c, .int .i64 n] w fun e w' => e = .returned (.bool true) ∧ Below w.heap.size w w' := by
  have HF : Hid (∀ W, Sl2 W p m c xss → Calls Try.prog 10 #[.slice p m c] W fun e w' => e = .returned (.bool false) ∧ W = w') := fun W h => by
    have := Few7_any p m c xss W h
    rw [hf] at this; exact this
  have H := Lib.hid h
  clear h hf
  go_enter Try.func3, Try.ntmps3
  go_wp2_with fail
  refine (awake07 _).mono ?_; rintro e w1 ⟨rfl, k1⟩
  have H1 := Lib.hid (H.out.keep k1); have B1 := Lib.hid k1
  clear k1 H
  go_wp2_with fail
  refine Calls.mono (HF.out _ H1.out) ?_; rintro e w' ⟨rfl, rfl⟩
  go_wp2
  go_ret
  exact ⟨rfl, B1.out⟩
set_option maxRecDepth 100000 in
set_option maxHeartbeats 4000000 in
theorem GT_skip2 (width n : Int) (p : Option Addr) (m c : Nat) (xss : List (List UInt8)) (w : World) (h : Sl2 w p m c xss) (hf : (xss.all (fun y => decide (y.length ≤ 30)) && decide (m ≤ 30)) = true) (h1 : 40 < n) (h2 : n ≤ 256) :
    Calls Try.prog 3 #[.int .i64 width, .slice p m c, .int .i64 n] w fun e w' => e = .returned (.bool true) ∧ Below w.heap.size w w' := by
  have HF : Hid (∀ W, Sl2 W p m c xss → Calls Try.prog 10 #[.slice p m c] W fun e w' => e = .returned (.bool true) ∧ W = w') := fun W h => by
    have := Few7_any p m c xss W h
    rw [hf] at this; exact this
  have H := Lib.hid h
  clear h hf
  go_enter Try.func3, Try.ntmps3
  go_wp2_with fail
  refine (awake07 _).mono ?_; rintro e w1 ⟨rfl, k1⟩
  have H1 := Lib.hid (H.out.keep k1); have B1 := Lib.hid k1
  clear k1 H
  go_wp2_with fail
  refine Calls.mono (HF.out _ H1.out) ?_; rintro e w' ⟨rfl, rfl⟩
  go_wp2
  go_ret
  exact ⟨rfl, B1.out⟩
theorem GridTells_any (width : Int) (p : Option Addr) (m c : Nat) (xss : List (List UInt8)) (n : Int) (w : World) (w0 : (Lit.int .i64 width).wf = true) (h : Sl2 w p m c xss) (_w2 : (Lit.int .i64 n).wf = true) :
    Calls Try.prog 3 #[.int .i64 width, .slice p m c, .int .i64 n] w fun e w' => e = .returned (.bool true) ∧ Below w.heap.size w w' := by
  have hwb := (Go.bounds_i64 w0).2
  cases hfew : (xss.all (fun y => decide (y.length ≤ 30)) && decide (m ≤ 30)) with
  | false => exact GT_skip1 width n p m c xss w h hfew
  | true =>
    have hf2 := hfew
    rw [Bool.and_eq_true] at hf2
    have hm : m ≤ 30 := of_decide_eq_true hf2.2
    by_cases hskip : 40 < n ∧ n ≤ 256
    · exact GT_skip2 width n p m c xss w h hfew hskip.1 hskip.2
    · have key : (∃ wd : Nat, width = wd ∧ wd ≤ 65536 ∧ m * wd ≤ 65536 ∧ xss.all (fun y => decide (y.length = wd)) = true) ∨
          ∃ code : Int, code ≠ 0 ∧ (∀ W, Sl2 W p m c xss → Calls Try.prog 11 #[.int .i64 width, .slice p m c] W (RetG2 5 W 0 0 [] code)) ∧ (∀ W, Sl2 W p m c xss → Calls Try.prog 13 #[.int .i64 width, .slice p m c] W fun e w' => e = .returned (.int .i64 code) ∧ W = w') := by
        by_cases h1 : width < 0 ∨ 65536 < width
        · exact .inr ⟨2, by decide, fun W _ => GOf_bad width p m c W 2 (.inl ⟨h1, rfl⟩) (by omega) hwb, fun W _ => RGOf_bad width p m c W 2 (.inl ⟨h1, rfl⟩) (by omega) hwb⟩
        · obtain ⟨wd, rfl⟩ := Int.eq_ofNat_of_zero_le (show 0 ≤ width by omega)
          by_cases h2 : m * wd ≤ 65536
          · cases hall : xss.all (fun y => decide (y.length = wd)) with
            | true => exact .inl ⟨wd, rfl, by omega, h2, hall⟩
            | false =>
              refine .inr ⟨4, by decide, fun W hW => GOf_uneven wd p m c xss W hW (by omega) (by omega) h2 hall, fun W hW => ?_⟩
              have := RGOf_good wd p m c xss W hW (by omega) (by omega) h2
              rw [if_neg (by rw [hall]; decide)] at this; exact this
          · have hc : (0 : Int) ≤ (wd : Int) ∧ (wd : Int) ≤ 65536 ∧ m ≤ 65536 ∧ (65536 : Int) < (m : Int) * (wd : Int) ∧ (5 : Int) = 5 := ⟨by omega, by omega, by omega, by rw [← Int.natCast_mul]; omega, rfl⟩
            exact .inr ⟨5, by decide, fun W _ => GOf_bad wd p m c W 5 (.inr (.inr hc)) (by omega) hwb, fun W _ => RGOf_bad wd p m c W 5 (.inr (.inr hc)) (by omega) hwb⟩
      by_cases hn : n < 0 ∨ 256 < n
      · rcases key with ⟨wd, rfl, g1, g2, g3⟩ | ⟨code, g1, g2, g3⟩
        · exact GT_gb wd n p m c xss w h hf2.1 hm g1 g2 g3 hn
        · exact GT_bb width code n p m c xss w h hf2.1 hm g2 g3 g1 hn
      · obtain ⟨N, rfl⟩ := Int.eq_ofNat_of_zero_le (show 0 ≤ n by omega)
        have hN : N ≤ 40 := by omega
        rcases key with ⟨wd, rfl, g1, g2, g3⟩ | ⟨code, g1, g2, g3⟩
        · exact GT_gg wd N p m c xss w h hf2.1 hm g1 g2 g3 hN
        · exact GT_bg width code N p m c xss w h hf2.1 hm g2 g3 g1 hN
end Go.Proofs.Ytofhdakggapahaa
