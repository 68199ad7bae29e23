/- The contracts of the reference's functions of layer 2. -/
import Derived.Test.YtofhdakggapahaaW2
import Derived.Test.YtofhdakggapahaaW6
namespace Go.Proofs.Ytofhdakggapahaa
open Go.RowKit Go.By
theorem eq_of_pref {xs ys : List UInt8} {k : Nat} (h1 : xs.length = k) (h2 : ys.length = k) (h : ∀ j : Nat, j < k → xs[j]? = ys[j]?) : xs = ys := by
  apply List.ext_getElem?
  intro j
  by_cases hj : j < k
  · exact h j hj
  · rw [List.getElem?_eq_none (by omega), List.getElem?_eq_none (by omega)]
theorem u8_ne {x y : UInt8} (h : x ≠ y) : (((x.toNat : Int) != (y.toNat : Int)) = true) := by
  rw [bne_iff_ne]; intro e; exact h (UInt8.toNat_inj.1 (by omega))
theorem u8_eq (x : UInt8) : (((x.toNat : Int) != (x.toNat : Int)) = false) := by simp
set_option maxHeartbeats 400000 in
theorem Same_d (p1 p2 : Option Addr) (n1 n2 c1 c2 : Nat) (xs ys : List UInt8) (w : World) (h1 : Sl B8 w p1 n1 c1 xs) (h2 : Sl B8 w p2 n2 c2 ys) :
    Calls Try.prog 48 #[.slice p1 n1 c1, .slice p2 n2 c2] w fun e w' => e = .returned (.bool (decide (xs = ys))) ∧ ∃ q, w' = w.drewN q := by
  have b1 := h1.bound; have b2 := h2.bound
  by_cases he : n1 = n2
  · obtain rfl := he
    have H1 := Lib.hid h1; have H2 := Lib.hid h2; clear h1 h2
    go_enter Try.func48, Try.ntmps48
    go_wp2
    go_loopw [5] (fun i wr => ∃ k q : Nat, k ≤ n1 ∧ i = .int .i64 k ∧ wr = w.drewN q ∧ Hid (∀ j : Nat, j < k → xs[j]? = ys[j]?)) (fun i _ => n1 - (intOf i).toNat)
    case atStart => exact ⟨0, 0, Nat.zero_le _, rfl, rfl, fun j hj => by omega⟩
    case round =>
      obtain ⟨k, q, hk, rfl, rfl, hj⟩ := hrel
      by_cases hlt : k < n1
      · obtain ⟨b, o, x, rfl, hc, hx⟩ := H1.out.at k hlt
        obtain ⟨b', o', y, rfl, hc', hy⟩ := H2.out.at k hlt
        have i1 : (k : Int) < (n1 : Int) := by omega
        by_cases hxy : x = y
        · subst hxy
          have ht := u8_eq x
          go_wp2
          go_quiet (fail)
          go_wp2
          go_roundw
          case rel => exact ⟨k + 1, _, by omega, by go_num, rfl, fun j hj' => by
            by_cases e : j = k
            · subst e; exact hx.out.trans hy.out.symm
            · exact hj.out j (by omega)⟩
          case measure => simp [intOf]; omega
        · have ht := u8_ne hxy
          have HN := Lib.hid hxy; clear hxy
          go_wp2
          go_quiet (fail)
          go_wp2
          go_ret
          refine ⟨?_, _, by rw [World.drewN_drewN]⟩
          have : ¬ xs = ys := by rintro rfl; exact HN.out (Option.some.inj (hx.out.symm.trans hy.out))
          simp [this]
      · go_wp2
        go_ret
        refine ⟨?_, q, rfl⟩
        have : xs = ys := eq_of_pref (k := k) (by have := H1.out.len; omega) (by have := H2.out.len; omega) hj.out
        simp [this]
  · have hne : ((n1 : Int) != (n2 : Int)) = true := by simp; omega
    have HN : Hid (decide (xs = ys) = false) := by
      simp only [Hid, decide_eq_false_iff_not]; rintro rfl; exact he (h1.len.symm.trans h2.len)
    clear h1 h2
    go_enter Try.func48, Try.ntmps48
    go_wp2
    go_ret
    exact ⟨by rw [HN.out]; rfl, 0, rfl⟩
theorem below_drewN (w : World) (q : Nat) : Below w.heap.size w (w.drewN q) := ⟨rfl, rfl, rfl, Nat.le_refl _, fun _ _ => rfl⟩
theorem Same_any (p1 p2 : Option Addr) (n1 n2 c1 c2 : Nat) (xs ys : List UInt8) (w : World) (h1 : Sl B8 w p1 n1 c1 xs) (h2 : Sl B8 w p2 n2 c2 ys) :
    Calls Try.prog 48 #[.slice p1 n1 c1, .slice p2 n2 c2] w fun e w' => e = .returned (.bool (decide (xs = ys))) ∧ Below w.heap.size w w' :=
  (Same_d p1 p2 n1 n2 c1 c2 xs ys w h1 h2).mono fun e w' ⟨he, q, hq⟩ => ⟨he, by rw [hq]; exact below_drewN _ _⟩
set_option maxHeartbeats 400000 in
theorem RZero_any (p : Option Addr) (n c : Nat) (xs : List UInt8) (w : World) (h : Sl B8 w p n c xs) :
    Calls Try.prog 76 #[.slice p n c] w fun e w' => e = .returned (.bool (zeroS xs)) ∧ w = w' := by
  have b1 := h.bound
  have H1 := Lib.hid h; clear h
  go_enter Try.func76, Try.ntmps76
  go_wp2
  go_loop [3] (fun i => ∃ k : Nat, k ≤ n ∧ i = .int .i64 k ∧ Hid (∀ j x, j < k → xs[j]? = some x → x = 0)) (fun i => n - (intOf i).toNat)
  case atStart => exact ⟨0, Nat.zero_le _, rfl, fun j x hj => by omega⟩
  case round =>
    obtain ⟨k, hk, rfl, hj⟩ := hrel
    by_cases hlt : k < n
    · obtain ⟨b, o, x, rfl, hc, hx⟩ := H1.out.at k hlt
      have ht := nat_ne_zero x
      by_cases h0 : x = 0
      · rw [decide_eq_false (by simpa using h0)] at ht
        have H0 := Lib.hid h0; clear h0
        go_wp2
        go_round
        case rel => exact ⟨k + 1, by omega, by go_num, fun j y hj' hy => by
          by_cases e : j = k
          · subst e; have := hx.out.symm.trans hy; cases this; exact H0.out
          · exact hj.out j y (by omega) hy⟩
        case measure => simp [intOf]; omega
      · rw [decide_eq_true (by simpa using h0)] at ht
        have H0 := Lib.hid h0; clear h0
        go_wp2
        go_ret
        refine ⟨?_, rfl⟩
        have : zeroS xs = false := by
          unfold zeroS
          rw [List.all_eq_false]
          exact ⟨x, List.mem_of_getElem? hx.out, by simpa using H0.out⟩
        rw [this]; rfl
    · go_wp2
      go_ret
      refine ⟨?_, rfl⟩
      have : zeroS xs = true := by
        unfold zeroS
        rw [List.all_eq_true]
        intro x hx
        obtain ⟨j, hj', e⟩ := List.getElem_of_mem hx
        exact decide_eq_true (hj.out j x (by have := H1.out.len; omega) (by rw [List.getElem?_eq_getElem hj', e]))
      rw [this]; rfl
end Go.Proofs.Ytofhdakggapahaa
