/- The contract of the reference's Same of layer 7. -/
import Derived.Test.YtofhdakggapahaaV4
import Derived.Test.YtofhdakggapahaaWb
namespace Go.Proofs.Ytofhdakggapahaa
open Go.RowKit Go.By
theorem Same_q (p1 p2 : Option Addr) (n1 n2 c1 c2 : Nat) (xs ys : List UInt8) (w : World) (q : Nat) (h1 : Sl B8 w p1 n1 c1 xs) (h2 : Sl B8 w p2 n2 c2 ys) :
    Calls Try.prog 48 #[.slice p1 n1 c1, .slice p2 n2 c2] (w.drewN q) fun e w'' => e = .returned (.bool (decide (xs = ys))) ∧ ∃ m, w'' = w.drewN m :=
  Calls.quiet_of (Same_d p1 p2 n1 n2 c1 c2 xs ys (w.drewN q) (dr h1 q) (dr h2 q))
set_option maxRecDepth 100000 in
set_option maxHeartbeats 1000000 in
theorem Same7_any (p1 p2 : Option Addr) (n1 n2 c1 c2 : Nat) (xss yss : List (List UInt8)) (w : World) (h1 : Sl2 w p1 n1 c1 xss) (h2 : Sl2 w p2 n2 c2 yss) :
    Calls Try.prog 16 #[.slice p1 n1 c1, .slice p2 n2 c2] w fun e w' => e = .returned (.bool (decide (xss = yss))) ∧ Below w.heap.size w w' := by
  have b1 := h1.bound; have b2 := h2.bound
  by_cases he : n1 = n2
  · obtain rfl := he
    have H1 := Lib.hid h1; have H2 := Lib.hid h2; clear h1 h2
    go_enter Try.func16, Try.ntmps16
    go_wp2
    go_loopw [13] (fun i wr => ∃ k q : Nat, k ≤ n1 ∧ i = .int .i64 k ∧ wr = w.drewN q ∧ Hid (∀ j : Nat, j < k → xss[j]? = yss[j]?)) (fun i _ => n1 - (intOf i).toNat)
    case atStart => exact ⟨0, 0, Nat.zero_le _, rfl, rfl, fun j hj => by omega⟩
    case round =>
      obtain ⟨k, q, hk, rfl, rfl, hj⟩ := hrel
      by_cases hlt : k < n1
      · obtain ⟨b, o, q1, m1, k1, x, rfl, hc, hs1, hx⟩ := H1.out.at k hlt
        obtain ⟨b', o', q2, m2, k2, y, rfl, hc', hs2, hy⟩ := H2.out.at k hlt
        have HS1 := Lib.hid hs1; have HS2 := Lib.hid hs2
        have i1 : (k : Int) < (n1 : Int) := by omega
        have CS : Hid (∀ q', Calls Try.prog 48 #[.slice q1 m1 k1, .slice q2 m2 k2] (w.drewN (q + q')) fun e w'' => e = .returned (.bool (decide (x = y))) ∧ ∃ m, w'' = w.drewN (q + m)) := fun q' => by
          have := Same_q _ _ _ _ _ _ x y (w.drewN q) q' (dr HS1.out q) (dr HS2.out q)
          simpa only [World.drewN_drewN] using this
        clear hs1 hs2
        by_cases hxy : x = y
        · rw [decide_eq_true hxy] at CS
          have HX := Lib.hid hxy; clear hxy
          go_wp2
          go_quiet ((go_at_call 48; exact CS.out _))
          go_wp2
          go_roundw
          case rel => exact ⟨k + 1, _, by omega, by go_num, rfl, fun j hj' => by
            by_cases e : j = k
            · subst e; rw [hx.out, hy.out, HX.out]
            · exact hj.out j (by omega)⟩
          case measure => simp [intOf]; omega
        · rw [decide_eq_false hxy] at CS
          have HX := Lib.hid hxy; clear hxy
          go_wp2
          go_quiet ((go_at_call 48; exact CS.out _))
          go_wp2
          go_ret
          refine ⟨?_, bdn (below_drewN _ _)⟩
          have : ¬ xss = yss := by rintro rfl; exact HX.out (Option.some.inj (hx.out.symm.trans hy.out))
          simp [this]
      · go_wp2
        go_ret
        refine ⟨?_, below_drewN _ _⟩
        have : xss = yss := by
          apply List.ext_getElem?
          intro j
          by_cases hjk : j < k
          · exact hj.out j hjk
          · rw [List.getElem?_eq_none (by have := H1.out.len; omega), List.getElem?_eq_none (by have := H2.out.len; omega)]
        simp [this]
  · have hne : ((n1 : Int) != (n2 : Int)) = true := by simp; omega
    have HN : Hid (decide (xss = yss) = false) := by
      simp only [Hid, decide_eq_false_iff_not]; rintro rfl; exact he (h1.len.symm.trans h2.len)
    clear h1 h2
    go_enter Try.func16, Try.ntmps16
    go_wp2
    go_ret
    exact ⟨by rw [HN.out]; rfl, Below.refl _ _⟩
end Go.Proofs.Ytofhdakggapahaa
