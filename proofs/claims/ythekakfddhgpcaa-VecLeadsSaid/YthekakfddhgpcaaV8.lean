/- The contracts of the reference's Same of layer 3, the law's helpers, Unit; the chapter's example. -/
import Derived.Test.YthekakfddhgpcaaV7
namespace Go.Proofs.Ythekakfddhgpcaa
open Go.RowKit Go.By
set_option maxRecDepth 100000 in
set_option maxHeartbeats 1000000 in
theorem RVSame_any (p1 p2 p3 p4 : Option Addr) (n1 c1 n2 c2 n3 c3 n4 c4 : Nat) (v d x y : List UInt8) (w : World) (h1 : Sl B8 w p1 n1 c1 v) (h2 : Sl B8 w p2 n2 c2 d) (h3 : Sl B8 w p3 n3 c3 x) (h4 : Sl B8 w p4 n4 c4 y) :
    Calls Try.prog 40 #[.agg #[.slice p1 n1 c1, .slice p2 n2 c2], .agg #[.slice p3 n3 c3, .slice p4 n4 c4]] w fun e w' => e = .returned (.bool (decide ((v, d) = (x, y)))) ∧ Below w.heap.size w w' := by
  have H1 := Lib.hid h1; have H2 := Lib.hid h2; have H3 := Lib.hid h3; have H4 := Lib.hid h4
  clear h1 h2 h3 h4
  have hB : ∀ o1 o2, Below w.heap.size w ((w.alloc o1).alloc o2) := fun o1 o2 => al (al (Below.refl _ _) (Nat.le_refl _)) (by simp)
  go_enter Try.func40, Try.ntmps40
  go_wp2_with fail
  refine (Same_d _ _ _ _ _ _ v x _ (H1.out.keep (hB _ _)) (H3.out.keep (hB _ _))).mono ?_; rintro e w1 ⟨rfl, q, rfl⟩
  by_cases e1 : v = x
  · rw [decide_eq_true e1]
    have HE : Hid (decide ((v, d) = (x, y)) = decide (d = y)) := by simp [Hid, e1]
    clear e1
    go_wp2_with fail
    refine (Same_d _ _ _ _ _ _ d y _ (dr (H2.out.keep (hB _ _)) q) (dr (H4.out.keep (hB _ _)) q)).mono ?_; rintro e w1 ⟨rfl, q', rfl⟩
    generalize decide (d = y) = z at HE ⊢
    go_wp2
    go_ret
    exact ⟨by rw [HE.out]; rfl, bdn (hB _ _)⟩
  · rw [decide_eq_false e1]
    have HE : Hid (decide ((v, d) = (x, y)) = false) := by simp [Hid, e1]
    clear e1
    go_wp2_with fail
    go_ret
    exact ⟨by rw [HE.out]; rfl, bdn (hB _ _)⟩
def few3 (n1 n2 : Nat) : Bool := decide (n1 ≤ 100) && decide (n2 ≤ 100)
set_option maxHeartbeats 400000 in
theorem OFew_any (p1 p2 : Option Addr) (n1 c1 n2 c2 : Nat) (w : World) (b1 : n1 ≤ 9223372036854775807) (b2 : n2 ≤ 9223372036854775807) :
    Calls Try.prog 35 #[.agg #[.slice p1 n1 c1, .slice p2 n2 c2]] w fun e w' => e = .returned (.bool (few3 n1 n2)) ∧ Below w.heap.size w w' := by
  by_cases e1 : n1 ≤ 100
  · have g1 : (n1 : Int) ≤ 100 := by omega
    by_cases e2 : n2 ≤ 100
    · have g2 : (n2 : Int) ≤ 100 := by omega
      have HR : Hid (few3 n1 n2 = true) := by simp [Hid, few3, e1, e2]
      go_enter Try.func35, Try.ntmps35
      go_wp2
      go_ret
      exact ⟨by rw [HR.out]; rfl, al (Below.refl _ _) (Nat.le_refl _)⟩
    · have g2 : ¬ (n2 : Int) ≤ 100 := by omega
      have HR : Hid (few3 n1 n2 = false) := by simp [Hid, few3, e2]
      go_enter Try.func35, Try.ntmps35
      go_wp2
      go_ret
      exact ⟨by rw [HR.out]; simp [g2], al (Below.refl _ _) (Nat.le_refl _)⟩
  · have g1 : ¬ (n1 : Int) ≤ 100 := by omega
    have HR : Hid (few3 n1 n2 = false) := by simp [Hid, few3, e1]
    go_enter Try.func35, Try.ntmps35
    go_wp2
    go_ret
    exact ⟨by rw [HR.out]; rfl, al (Below.refl _ _) (Nat.le_refl _)⟩
set_option maxHeartbeats 400000 in
theorem OMake_any (p1 p2 : Option Addr) (n1 c1 n2 c2 : Nat) (v d : List UInt8) (w : World) (h1 : Sl B8 w p1 n1 c1 v) (h2 : Sl B8 w p2 n2 c2 d) (r1 : Room n1) (r2 : Room n2) :
    Calls Try.prog 36 #[.agg #[.slice p1 n1 c1, .slice p2 n2 c2]] w (RetR 5 w (v, d)) := by
  have hi := info_row
  have H1 := Lib.hid h1; have H2 := Lib.hid h2; clear h1 h2
  go_enter Try.func36, Try.ntmps36
  go_wp2_with fail
  have hB : ∀ o1 o2, Below w.heap.size w ((w.alloc o1).alloc o2) := fun o1 o2 => al (al (Below.refl _ _) (Nat.le_refl _)) (by simp)
  refine (Of_any _ _ _ _ _ _ v d _ (H1.out.keep (hB _ _)) (H2.out.keep (hB _ _)) r1 r2).mono ?_; rintro e w1 ⟨q1, m1, c1', q2, m2, c2', g1, g2, rfl, ho1, ho2, hb⟩
  have HO1 := Lib.hid ho1; have HO2 := Lib.hid ho2; clear ho1 ho2
  have e2 : w1.heap[w.heap.size + 1]? = some (.cells #[.slice none 0 0, .slice none 0 0] 54 (0, 0)) := by
    rw [hb.block _ (by simp)]; exact hnew (by simp)
  have f0 : w1.cell? ⟨w.heap.size + 1, 0, none⟩ = some (.slice none 0 0) := cell_of_row _ _ 0 _ _ _ e2
  have f1 : w1.cell? ⟨w.heap.size + 1, 1, none⟩ = some (.slice none 0 0) := cell_of_row _ _ 1 _ _ _ e2
  have z0 : w1.frozen? ⟨w.heap.size + 1, 0, none⟩ = false := frozen_of_row _ _ 0 _ _ e2
  have z1 : w1.frozen? ⟨w.heap.size + 1, 1, none⟩ = false := frozen_of_row _ _ 1 _ _ e2
  have E2 := Lib.hid e2; clear e2
  go_wp2
  refine bodyPost_ret (results_cell_row rfl _ _ _ 54 #[.slice q1 m1 c1', .slice q2 m2 c2'] (0, 0) _ rfl (hss (hss E2.out)) Try.underlying54 rfl hi) rfl ⟨q1, m1, c1', q2, m2, c2', g1, g2, rfl, ?_, ?_, ((bl (hB _ _) hb (by simp; omega)).setCell (by simp) _).setCell (by simp) _⟩
  · exact owns_mono (owns_set (owns_set HO1.out (by simp)) (by simp)) (by simp; omega)
  · exact owns_mono (owns_set (owns_set HO2.out (by simp)) (by simp)) (by simp; omega)
set_option maxHeartbeats 400000 in
theorem ORef_any (p1 p2 : Option Addr) (n1 c1 n2 c2 : Nat) (w : World) :
    Calls Try.prog 39 #[.agg #[.slice p1 n1 c1, .slice p2 n2 c2]] w fun e w' => e = .returned (.agg #[.slice p1 n1 c1, .slice p2 n2 c2]) ∧ Below w.heap.size w w' := by
  have hi := info_ref
  go_enter Try.func39, Try.ntmps39
  go_wp2
  exact bodyPost_ret (results_cell_row rfl _ _ _ 58 #[.slice p1 n1 c1, .slice p2 n2 c2] (0, 0) _ rfl (hnew (by simp)) Try.underlying58 rfl hi) rfl ⟨rfl, al (al (Below.refl _ _) (Nat.le_refl _)) (by simp)⟩
set_option maxHeartbeats 400000 in
theorem Of03_any (p1 p2 : Option Addr) (n1 c1 n2 c2 : Nat) (w : World) :
    Calls Try.prog 41 #[.agg #[.slice p1 n1 c1, .slice p2 n2 c2]] w fun e w' => e = .returned (.agg #[.slice p1 n1 c1, .slice p2 n2 c2]) ∧ Below w.heap.size w w' := by
  have hi := info_ref
  go_enter Try.func41, Try.ntmps41
  go_wp2
  exact bodyPost_ret (results_cell_row rfl _ _ _ 58 #[.slice p1 n1 c1, .slice p2 n2 c2] (0, 0) _ rfl (hnew (by simp)) Try.underlying58 rfl hi) rfl ⟨rfl, al (al (Below.refl _ _) (Nat.le_refl _)) (by simp)⟩
set_option maxHeartbeats 1000000 in
theorem awake03 (w : World) : Calls Try.prog 29 #[] w fun e w' => e = .returned (.bool true) ∧ Below w.heap.size w w' := by
  have HA : Hid (normS ([0, 2, 4], [6]) = ([0, 1, 2], [3])) := by show _ = _; decide +kernel
  have C := fun p1 p2 n1 c1 n2 c2 W a b r1 r2 => Norm_any p1 p2 n1 c1 n2 c2 [0, 2, 4] [6] W a b r1 r2
  rw [HA.out] at C
  have HC := Lib.hid C; clear C HA
  have R : ∀ k : Nat, k < 10 → Room k := fun k h => by unfold Room; omega
  have HR := Lib.hid R; clear R
  go_enter Try.func29, Try.ntmps29
  go_wp2_with fail
  refine Calls.mono (Of_any _ _ 3 3 1 1 [0, 2, 4] [6] _ ?_ ?_ (HR.out 3 (by omega)) (HR.out 1 (by omega))) ?_
  · exact sl_block [0, 2, 4] 3 (hal (hnew rfl)) rfl rfl (by simp [maxLen])
  · exact sl_block [6] 1 (hnew (by simp)) rfl rfl (by simp [maxLen])
  rintro e w1 ⟨q1, m1, c1', q2, m2, c2', g1, g2, rfl, ho1, ho2, hb⟩
  have hm1 : m1 = 3 := g1.out.symm
  have hm2 : m2 = 1 := g2.out.symm
  subst hm1; subst hm2
  have HO1 := Lib.hid ho1; have HO2 := Lib.hid ho2; clear ho1 ho2
  have k1 : Below w.heap.size w w1 := bl (al (al (Below.refl _ _) (Nat.le_refl _)) (by simp)) hb (by simp; omega)
  go_wp2_with fail
  refine (HC.out _ _ _ _ _ _ w1 (Sl.of_owns HO1.out) (Sl.of_owns HO2.out) (HR.out 3 (by omega)) (HR.out 1 (by omega))).mono ?_
  rintro e w2 ⟨q3, m3, c3', q4, m4, c4', g3, g4, rfl, ho3, ho4, hb2⟩
  have HO3 := Lib.hid ho3; have HO4 := Lib.hid ho4; clear ho3 ho4
  have k2 := bl k1 hb2 k1.size
  go_wp2_with fail
  refine Calls.mono (Of_any _ _ 3 3 1 1 [0, 1, 2] [3] _ ?_ ?_ (HR.out 3 (by omega)) (HR.out 1 (by omega))) ?_
  · exact sl_block [0, 1, 2] 3 (hal (hnew rfl)) rfl rfl (by simp [maxLen])
  · exact sl_block [3] 1 (hnew (by simp)) rfl rfl (by simp [maxLen])
  rintro e w3 ⟨q5, m5, c5', q6, m6, c6', g5, g6, rfl, ho5, ho6, hb3⟩
  have HO5 := Lib.hid ho5; have HO6 := Lib.hid ho6; clear ho5 ho6
  have j3 : Below w2.heap.size w2 w3 := bl (al (al (Below.refl _ _) (Nat.le_refl _)) (by simp)) hb3 (by simp; omega)
  have k3 := bl k2 j3 k2.size
  go_wp2_with fail
  refine Calls.mono (VSame_any _ _ _ _ _ _ _ _ _ _ _ _ [0, 1, 2] [3] [0, 1, 2] [3] w3 ((Sl.of_owns HO3.out).keep j3) ((Sl.of_owns HO4.out).keep j3) (Sl.of_owns HO5.out) (Sl.of_owns HO6.out)) ?_
  rintro e w4 ⟨rfl, hb4⟩
  rw [decide_eq_true rfl]
  go_wp2
  go_ret
  exact ⟨rfl, bl k3 hb4 k3.size⟩
/-- a unit vector, and a code -/
def unitS (n i : Int) : List UInt8 × Int := if n < 0 ∨ 65536 < n ∨ i < 0 ∨ n ≤ i then ([], 2) else ((List.replicate n.toNat 0).set i.toNat 1, 0)
end Go.Proofs.Ythekakfddhgpcaa
