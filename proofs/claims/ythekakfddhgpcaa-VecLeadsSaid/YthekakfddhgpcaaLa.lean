/- The walk of the law KernPairs. -/
import Derived.Test.YthekakfddhgpcaaWb
import Derived.Test.YthekakfddhgpcaaB4
namespace Go.Proofs.Ythekakfddhgpcaa
open Go.RowKit Go.By
set_option maxHeartbeats 400000 in
theorem awake02 (w : World) : Calls Try.prog 15 #[] w fun e w' => e = .returned (.bool true) ∧ Below w.heap.size w w' := by
  have HA : axpyS 2 [1, 128] [0, 1] = ([2, 28], 0) := by decide +kernel
  have C := fun p1 p2 n1 n2 c1 c2 w h1 h2 => Axpy_any 2 p1 p2 n1 n2 c1 c2 [1, 128] [0, 1] w h1 h2
  rw [HA] at C
  have HC := Lib.hid C
  clear C HA
  go_enter Try.func15, Try.ntmps15
  go_wp2_with fail
  refine Calls.mono (HC.out _ _ 2 2 2 2 _ ?_ ?_ (by simp [Room])) ?_
  · exact sl_block [1, 128] 2 (hal (hnew rfl)) rfl rfl (by simp [maxLen])
  · exact sl_block [0, 1] 2 (hnew (by simp)) rfl rfl (by simp [maxLen])
  rintro e w1 ⟨q, m, c', hm, rfl, ho, hb⟩
  have HO := Lib.hid ho; clear ho
  go_wp2_with fail
  refine Calls.mono (Same_any _ _ _ _ _ _ [2, 28] [2, 28] _ ((Sl.of_owns HO.out).keep ((Below.refl _ _).alloc (Nat.le_refl _) _)) ?_) ?_
  · exact sl_block [2, 28] 2 (hnew rfl) rfl rfl (by simp [maxLen])
  rintro e w2 ⟨rfl, hb2⟩
  go_wp2
  go_ret
  exact ⟨rfl, by
    have h1 : Below w.heap.size w w1 := bl (al (al (Below.refl _ _) (Nat.le_refl _)) (by simp)) hb (by simp; omega)
    exact bl (al h1 h1.size) hb2 (by have := h1.size; simp; omega)⟩
theorem axpy_comb (c : UInt8) (xs ys : List UInt8) : combS [c, 1] [xs, ys] = axpyS c xs ys := by
  unfold combS axpyS
  rw [if_pos (show [c, 1].length = [xs, ys].length from rfl)]
  by_cases h : xs.length = ys.length
  · rw [if_pos h, noughtS_of (x0 := xs) (m := xs.length) rfl rfl (by intro zs hz; simp at hz; rcases hz with rfl | rfl <;> simp [h])]
    simp only [if_true]
    congr 1
    have e1 : axpy c xs (List.replicate xs.length 0) = xs.map (Gf.gmul c) := by
      apply List.ext_getElem?
      intro j
      simp only [axpy, List.getElem?_zipWith, List.getElem?_map]
      by_cases hj : j < xs.length
      · simp [hj]
      · simp [show xs.length ≤ j by omega]
    simp only [combF, List.zip, List.zipWith, List.foldl, e1]
    apply List.ext_getElem?
    intro j
    simp only [axpy, List.getElem?_zipWith, List.getElem?_map]
    by_cases hj : j < xs.length
    · simp [hj, show j < ys.length by omega, Gf.one_gmul, Gf.xor_comm]
    · simp [show xs.length ≤ j by omega, show ys.length ≤ j by omega]
  · rw [if_neg h, noughtS_not (x0 := xs) (x := ys) rfl (by simp) (by simpa using fun e => h e.symm)]
    simp
set_option maxHeartbeats 1000000 in
theorem KernPairs_any (c : UInt8) (p1 p2 : Option Addr) (n1 n2 c1 c2 : Nat) (xs ys : List UInt8) (w : World) (h1 : Sl B8 w p1 n1 c1 xs) (h2 : Sl B8 w p2 n2 c2 ys) :
    Calls Try.prog 3 #[B8 c, .slice p1 n1 c1, .slice p2 n2 c2] w fun e w' => e = .returned (.bool true) ∧ Below w.heap.size w w' := by
  have b1 := h1.bound; have b2 := h2.bound
  by_cases g1 : n1 ≤ 200
  · by_cases g2 : n2 ≤ 200
    · have r1 := Lib.hid (show Room n1 by unfold Room; omega); have r2 := Lib.hid (show Room n2 by unfold Room; omega)
      have C2 := fun p1 p2 n1 n2 c1 c2 w h1 h2 hr => RComb_any p1 p2 n1 n2 c1 c2 [c, 1] [xs, ys] w h1 h2 hr
      rw [axpy_comb] at C2
      have hr : Hid (∀ zs, zs ∈ [xs, ys] → Room zs.length) := fun zs hz => by
        simp at hz
        rcases hz with rfl | rfl
        · rw [h1.len]; exact r1.out
        · rw [h2.len]; exact r2.out
      have HC := Lib.hid C2; clear C2
      have C1 := Lib.hid (fun w h1 h2 => Axpy_any c p1 p2 n1 n2 c1 c2 xs ys w h1 h2 r2.out)
      have C3 := Lib.hid (fun w h1 h2 => Dot_any p1 p2 n1 n2 c1 c2 xs ys w h1 h2)
      have C4 := Lib.hid (fun w h1 h2 => RDot_any p1 p2 n1 n2 c1 c2 xs ys w h1 h2)
      generalize axpyS c xs ys = A at *
      generalize dotS xs ys = D at *
      have H1 := Lib.hid h1; have H2 := Lib.hid h2; clear h1 h2
      go_enter Try.func3, Try.ntmps3
      go_wp2_with fail
      refine (awake02 _).mono ?_; rintro e w1 ⟨rfl, hw1⟩
      go_wp2_with fail
      refine (C1.out w1 (H1.out.keep hw1) (H2.out.keep hw1)).mono ?_; rintro e w2 ⟨q, m, c', hm, rfl, ho, hw2⟩
      have HO := Lib.hid ho; clear ho
      have k2 := bl hw1 hw2 hw1.size
      have a1 : Sl B8 w2 p1 n1 c1 xs := H1.out.keep k2
      have a2 : Sl B8 w2 p2 n2 c2 ys := H2.out.keep k2
      have A1 := Lib.hid a1; have A2 := Lib.hid a2; clear a1 a2
      go_wp2_with fail
      refine Calls.mono (HC.out _ _ 2 2 2 2 _ ?_ ?_ hr.out) ?_
      · exact sl_block [c, 1] 2 (hal (hnew rfl)) rfl rfl (by simp [maxLen])
      · exact sl2_pair (hnew (by simp)) (A1.out.keep (al (al (Below.refl _ _) (Nat.le_refl _)) (by simp))) (A2.out.keep (al (al (Below.refl _ _) (Nat.le_refl _)) (by simp)))
      rintro e w3 ⟨q', m', c'', hm', rfl, ho', hw3⟩
      have HO' := Lib.hid ho'; clear ho'
      have k3 := bl (al (al k2 k2.size) (by have := k2.size; simp; omega)) hw3 (by have := k2.size; simp; omega)
      go_wp2_with fail
      refine (C3.out w3 (H1.out.keep k3) (H2.out.keep k3)).mono ?_; rintro e w4 ⟨rfl, hw4⟩
      have k4 := bl k3 hw4 k3.size
      go_wp2_with fail
      refine (C4.out w4 (H1.out.keep k4) (H2.out.keep k4)).mono ?_; rintro e w5 ⟨rfl, hw5⟩
      have k5 := bl k4 hw5 k4.size
      have l3 : w2.heap.size ≤ w3.heap.size := by have := hw3.size; simp at this; omega
      have e2 : Sl B8 w5 q m c' A.1 := (((Sl.of_owns HO.out).keep (bl (al (al (Below.refl _ _) (Nat.le_refl _)) (by simp)) hw3 (by simp; omega))).keep hw4).keep hw5
      have e3 : Sl B8 w5 q' m' c'' A.1 := ((Sl.of_owns HO'.out).keep hw4).keep hw5
      have E2 := Lib.hid e2; have E3 := Lib.hid e3; clear e2 e3
      go_wp2_with fail
      refine Calls.mono (Same_any _ _ _ _ _ _ A.1 A.1 w5 E2.out E3.out) ?_; rintro e w6 ⟨rfl, hw6⟩
      have k6 := bl k5 hw6 k5.size
      rw [decide_eq_true rfl]
      go_wp2
      go_ret
      exact ⟨by simp, k6⟩
    · have g2' : (200 : Int) < (n2 : Int) := by omega
      have H1 := Lib.hid h1; clear h1 h2 g2
      go_enter Try.func3, Try.ntmps3
      go_wp2_with (go_at_call 15; refine (awake02 _).mono ?_; rintro e w1 ⟨rfl, hw⟩)
      go_ret
      exact ⟨rfl, hw⟩
  · have g1' : (200 : Int) < (n1 : Int) := by omega
    clear h1 h2 g1
    go_enter Try.func3, Try.ntmps3
    go_wp2_with (go_at_call 15; refine (awake02 _).mono ?_; rintro e w1 ⟨rfl, hw⟩)
    go_ret
    exact ⟨rfl, hw⟩
end Go.Proofs.Ythekakfddhgpcaa
