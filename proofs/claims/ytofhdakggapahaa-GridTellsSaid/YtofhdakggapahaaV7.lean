/- The contracts of the reference's Less and Same of layer 3, of the law's helpers, and of Unit. -/
import Derived.Test.YtofhdakggapahaaV6
namespace Go.Proofs.Ytofhdakggapahaa
open Go.RowKit Go.By
theorem comb_axpy (c : UInt8) (r o : List UInt8) : combS [1, c] [r, o] = axpyS c o r := by
  unfold combS axpyS
  rw [if_pos (show [1, c].length = [r, o].length from rfl)]
  by_cases h : o.length = r.length
  · rw [if_pos h, noughtS_of (x0 := r) (m := r.length) rfl rfl (by intro zs hz; simp at hz; rcases hz with rfl | rfl <;> simp [h])]
    simp only [if_true]
    congr 1
    have e1 : axpy 1 r (List.replicate r.length 0) = r := by
      apply List.ext_getElem?
      intro j
      simp only [axpy, List.getElem?_zipWith]
      by_cases hj : j < r.length
      · simp [hj, Gf.one_gmul]
      · simp [show r.length ≤ j by omega]
    simp only [combF, List.zip, List.zipWith, List.foldl, e1]
  · rw [if_neg h, noughtS_not (x0 := r) (x := o) rfl (by simp) h]
    simp
/-- two results: a row that reads so, and a code -/
def RetS2 (w : World) (r : List UInt8 × List UInt8) (code : Int) (e : Ending) (w' : World) : Prop :=
  ∃ q1 m1 c1 q2 m2 c2, e = .returned (.tuple #[.agg #[.slice q1 m1 c1, .slice q2 m2 c2], .int .i64 code]) ∧ Sl B8 w' q1 m1 c1 r.1 ∧ Sl B8 w' q2 m2 c2 r.2 ∧ Below w.heap.size w w'
set_option maxRecDepth 100000 in
set_option maxHeartbeats 1000000 in
theorem RLess_any (p1 p2 p3 p4 : Option Addr) (n1 c1 n2 c2 n3 c3 n4 c4 : Nat) (v d x y : List UInt8) (c : UInt8) (w : World) (h1 : Sl B8 w p1 n1 c1 v) (h2 : Sl B8 w p2 n2 c2 d) (h3 : Sl B8 w p3 n3 c3 x) (h4 : Sl B8 w p4 n4 c4 y) (r1 : Room n1) (r2 : Room n2) (r3 : Room n3) (r4 : Room n4) :
    Calls Try.prog 74 #[.agg #[.slice p1 n1 c1, .slice p2 n2 c2], B8 c, .agg #[.slice p3 n3 c3, .slice p4 n4 c4]] w (RetR2 5 w (lessS (v, d) c (x, y)).1 (lessS (v, d) c (x, y)).2) := by
  have hi := info_ref
  have H1 := Lib.hid h1; have H2 := Lib.hid h2; have H3 := Lib.hid h3; have H4 := Lib.hid h4
  have hB : ∀ o1 o2 o3, Below w.heap.size w (((w.alloc o1).alloc o2).alloc o3) := fun o1 o2 o3 => al (al (al (Below.refl _ _) (Nat.le_refl _)) (by simp)) (by simp; omega)
  have F : ∀ (w1 : World), (Below (w.heap.size + 3) (((w.alloc (.cells #[.slice p1 n1 c1, .slice p2 n2 c2] 68)).alloc (.cells #[.slice p3 n3 c3, .slice p4 n4 c4] 68)).alloc (.cells #[.slice none 0 0, .slice none 0 0] 68)) w1) →
      w1.heap[w.heap.size]? = some (.cells #[.slice p1 n1 c1, .slice p2 n2 c2] 68 (0, 0)) ∧ w1.heap[w.heap.size + 1]? = some (.cells #[.slice p3 n3 c3, .slice p4 n4 c4] 68 (0, 0)) ∧ w1.heap[w.heap.size + 1 + 1]? = some (.cells #[.slice none 0 0, .slice none 0 0] 68 (0, 0)) := fun w1 h =>
    ⟨(h.block _ (by omega)).trans (hal (hal (hnew rfl))), (h.block _ (by omega)).trans (hal (hnew (by simp))), (h.block _ (by omega)).trans (hnew (by simp))⟩
  have hr1 : ∀ zs, zs ∈ [v, x] → Room zs.length := fun zs hz => by
    simp at hz; rcases hz with rfl | rfl
    · rw [h1.len]; exact r1
    · rw [h3.len]; exact r3
  have hr2 : ∀ zs, zs ∈ [d, y] → Room zs.length := fun zs hz => by
    simp at hz; rcases hz with rfl | rfl
    · rw [h2.len]; exact r2
    · rw [h4.len]; exact r4
  have d1 := fun p p' k k' W a b => RComb_any p p' 2 2 k k' [1, c] [v, x] W a b hr1
  have d2 := fun p p' k k' W a b => RComb_any p p' 2 2 k k' [1, c] [d, y] W a b hr2
  rw [comb_axpy] at d1 d2
  have D1 := Lib.hid d1; have D2 := Lib.hid d2
  have HF := Lib.hid F
  have L1 := Lib.hid h1.len; have L2 := Lib.hid h2.len; have L3 := Lib.hid h3.len; have L4 := Lib.hid h4.len
  clear F h1 h2 h3 h4 d1 d2 hr1 hr2
  have cA := show axpyS c x v = (axpy c x v, 0) ∨ axpyS c x v = ([], 4) by unfold axpyS; split <;> simp
  have cB := show axpyS c y d = (axpy c y d, 0) ∨ axpyS c y d = ([], 4) by unfold axpyS; split <;> simp
  have HR : Hid (lessS (v, d) c (x, y) = if (axpyS c x v).2 = 0 ∧ (axpyS c y d).2 = 0 then (((axpyS c x v).1, (axpyS c y d).1), 0) else (([], []), 4)) := by
    show _ = _
    unfold lessS axpyS
    by_cases e1 : x.length = v.length <;> by_cases e2 : y.length = d.length <;> simp [e1, e2]
  have CA := Lib.hid cA; have CB := Lib.hid cB; clear cA cB
  generalize axpyS c x v = A at *
  generalize axpyS c y d = B at *
  go_enter Try.func74, Try.ntmps74
  go_wp2_with fail
  refine Calls.mono (D1.out _ _ _ _ _ ?_ ?_) ?_
  · exact sl_block [1, c] 2 (hal (hnew (by simp))) rfl rfl (by simp [maxLen])
  · exact sl2_pair (hnew (by simp)) (H1.out.keep (al (al (hB _ _ _) (by simp; omega)) (by simp; omega))) (H3.out.keep (al (al (hB _ _ _) (by simp; omega)) (by simp; omega)))
  rintro e w1 ⟨q1, m1, k1, g1, rfl, ho1, hb1⟩
  have HO1 := Lib.hid ho1; clear ho1
  have kb : Below (w.heap.size + 3) (((w.alloc (.cells #[.slice p1 n1 c1, .slice p2 n2 c2] 68)).alloc (.cells #[.slice p3 n3 c3, .slice p4 n4 c4] 68)).alloc (.cells #[.slice none 0 0, .slice none 0 0] 68)) w1 := bl (al (al (Below.refl _ _) (by simp)) (by simp)) hb1 (by simp)
  obtain ⟨f0, f1, f2⟩ := HF.out w1 kb
  have l0 : w1.cell? ⟨w.heap.size, 1, none⟩ = some (.slice p2 n2 c2) := cell_of_row _ _ 1 _ _ _ f0
  have l1 : w1.cell? ⟨w.heap.size + 1, 1, none⟩ = some (.slice p4 n4 c4) := cell_of_row _ _ 1 _ _ _ f1
  have l0' : ∀ o1, (w1.alloc o1).cell? ⟨w.heap.size, 1, none⟩ = some (.slice p2 n2 c2) := fun o1 => calloc l0
  have l1' : ∀ o1, (w1.alloc o1).cell? ⟨w.heap.size + 1, 1, none⟩ = some (.slice p4 n4 c4) := fun o1 => calloc l1
  have hw1 : Below w.heap.size w w1 := bl (al (al (hB _ _ _) (by simp; omega)) (by simp; omega)) hb1 (by simp; omega)
  have hs1 : w.heap.size + 5 ≤ w1.heap.size := by have := hb1.size; simp at this; omega
  clear f0 f1 f2 hB
  go_wp2_with fail
  refine Calls.mono (D2.out _ _ _ _ _ ?_ ?_) ?_
  · exact sl_block [1, c] 2 (hal (hnew (by simp))) rfl rfl (by simp [maxLen])
  · exact sl2_pair (hnew (by simp)) (H2.out.keep (al (al hw1 hw1.size) (by have := hw1.size; simp; omega))) (H4.out.keep (al (al hw1 hw1.size) (by have := hw1.size; simp; omega)))
  rintro e w2 ⟨q2, m2, k2, g2, rfl, ho2, hb2⟩
  have HO2 := Lib.hid ho2; clear ho2
  have hx2 : Below w1.heap.size w1 w2 := bl (al (al (Below.refl _ _) (Nat.le_refl _)) (by simp)) hb2 (by simp; omega)
  have kb2 := kb.trans (hx2.mono (by omega))
  have hw2 := bl hw1 hx2 hw1.size
  obtain ⟨_, _, f2⟩ := HF.out w2 kb2
  have t0 : w2.cell? ⟨w.heap.size + 1 + 1, 0, none⟩ = some (.slice none 0 0) := cell_of_row _ _ 0 _ _ _ f2
  have t1 : w2.cell? ⟨w.heap.size + 1 + 1, 1, none⟩ = some (.slice none 0 0) := cell_of_row _ _ 1 _ _ _ f2
  have z0 : w2.frozen? ⟨w.heap.size + 1 + 1, 0, none⟩ = false := frozen_of_row _ _ 0 _ _ f2
  have z1 : w2.frozen? ⟨w.heap.size + 1 + 1, 1, none⟩ = false := frozen_of_row _ _ 1 _ _ f2
  have E2 := Lib.hid f2; clear f2 kb kb2
  have O1 : Hid (w2.ownsRow (w.heap.size + 3) 5 1 (.slice q1 m1 k1) m1 (A.1.map B8)) := owns_mono (owns_keep HO1.out hx2) (by simp)
  have O2 : Hid (w2.ownsRow (w.heap.size + 3) 5 1 (.slice q2 m2 k2) m2 (B.1.map B8)) := owns_mono HO2.out (by simp; omega)
  clear HO1 HO2 hb1 hb2
  have hwb := Lib.hid hw2
  rcases CA.out with eA | eA <;> rcases CB.out with eB | eB
  · rw [eA, eB] at HR; rw [eA] at O1 g1; rw [eB] at O2 g2
    rw [eA, eB]
    go_wp2
    rw [HR.out]
    exact bodyPost_ret (results_cell_tmp rfl _ _ _ 68 #[.slice q1 m1 k1, .slice q2 m2 k2] (0, 0) _ (.int .i64 0) rfl (hss (hss E2.out)) rfl Try.underlying68 rfl hi) rfl ⟨q1, m1, k1, q2, m2, k2, g1, g2, rfl, owns_mono (owns_set (owns_set O1.out (by omega)) (by omega)) (by omega), owns_mono (owns_set (owns_set O2.out (by omega)) (by omega)) (by omega), (hwb.out.setCell (by simp; omega) _).setCell (by simp; omega) _⟩
  all_goals
    rw [eA, eB] at HR
    rw [eA, eB]
    go_wp2
    rw [HR.out]
    exact bodyPost_ret (results_cell_tmp rfl _ _ _ 68 #[.slice none 0 0, .slice none 0 0] (0, 0) _ (.int .i64 4) rfl (hss (hss E2.out)) rfl Try.underlying68 rfl hi) rfl ⟨none, 0, 0, none, 0, 0, rfl, rfl, rfl, World.ownsRow_nil _ _ _ _, World.ownsRow_nil _ _ _ _, (hwb.out.setCell (by simp; omega) _).setCell (by simp; omega) _⟩
end Go.Proofs.Ytofhdakggapahaa
