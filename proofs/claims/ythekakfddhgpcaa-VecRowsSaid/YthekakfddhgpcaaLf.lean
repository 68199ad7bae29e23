/- The walk of the law VecRows. -/
import Derived.Test.YthekakfddhgpcaaV8
import Derived.Test.YthekakfddhgpcaaR4
namespace Go.Proofs.Ythekakfddhgpcaa
open Go.RowKit Go.By
set_option maxRecDepth 100000 in
set_option maxHeartbeats 1000000 in
theorem VR_main (p1 p2 p3 p4 : Option Addr) (n1 c1 n2 c2 n3 c3 n4 c4 : Nat) (v d x y : List UInt8) (c : UInt8) (w : World) (h1 : Sl B8 w p1 n1 c1 v) (h2 : Sl B8 w p2 n2 c2 d) (h3 : Sl B8 w p3 n3 c3 x) (h4 : Sl B8 w p4 n4 c4 y)
    (b1 : n1 ≤ 100) (b2 : n2 ≤ 100) (b3 : n3 ≤ 100) (b4 : n4 ≤ 100) :
    Calls Try.prog 7 #[.agg #[.slice p1 n1 c1, .slice p2 n2 c2], .agg #[.slice p3 n3 c3, .slice p4 n4 c4], B8 c] w fun e w' => e = .returned (.bool true) ∧ Below w.heap.size w w' := by
  have H1 := Lib.hid h1; have H2 := Lib.hid h2; have H3 := Lib.hid h3; have H4 := Lib.hid h4
  have R : ∀ k : Nat, k ≤ 100 → Room k := fun k h => by unfold Room; omega
  have R1 := Lib.hid (R _ b1); have R2 := Lib.hid (R _ b2); have R3 := Lib.hid (R _ b3); have R4 := Lib.hid (R _ b4)
  have F1 : Hid (few3 n1 n2 = true) := by simp [Hid, few3, b1, b2]
  have F2 : Hid (few3 n3 n4 = true) := by simp [Hid, few3, b3, b4]
  have B : Hid (n1 ≤ 9223372036854775807 ∧ n2 ≤ 9223372036854775807 ∧ n3 ≤ 9223372036854775807 ∧ n4 ≤ 9223372036854775807) := by show _ ∧ _; omega
  clear h1 h2 h3 h4 R b1 b2 b3 b4
  have hB : ∀ o1 o2, Below w.heap.size w ((w.alloc o1).alloc o2) := fun o1 o2 => al (al (Below.refl _ _) (Nat.le_refl _)) (by simp)
  have F : ∀ (w1 : World), Below (w.heap.size + 2) ((w.alloc (.cells #[.slice p1 n1 c1, .slice p2 n2 c2] 52)).alloc (.cells #[.slice p3 n3 c3, .slice p4 n4 c4] 52)) w1 →
      w1.heap[w.heap.size]? = some (.cells #[.slice p1 n1 c1, .slice p2 n2 c2] 52 (0, 0)) ∧ w1.heap[w.heap.size + 1]? = some (.cells #[.slice p3 n3 c3, .slice p4 n4 c4] 52 (0, 0)) := fun w1 h =>
    ⟨(h.block _ (by omega)).trans (hal (hnew rfl)), (h.block _ (by omega)).trans (hnew (by simp))⟩
  have HF := Lib.hid F; have HB := Lib.hid hB; clear F hB
  go_enter Try.func7, Try.ntmps7
  go_wp2_with fail
  refine (awake03 _).mono ?_; rintro e w1 ⟨rfl, hw1⟩
  have k1 : Below (w.heap.size + 2) _ w1 := hw1.mono (by simp)
  have i1 := bl (HB.out _ _) hw1 (by simp; omega)
  obtain ⟨f0, f1⟩ := HF.out w1 k1
  obtain ⟨f00, f01⟩ := cells2 f0; obtain ⟨f10, f11⟩ := cells2 f1; clear f0 f1
  have s1 := hw1.size
  simp at s1
  go_wp2_with fail
  refine (OFew_any _ _ _ _ _ _ _ B.out.1 B.out.2.1).mono ?_; rintro e w2 ⟨rfl, hw2⟩
  rw [F1.out]
  have k2 := k1.trans (hw2.mono (by omega))
  have i2 := bl i1 hw2 i1.size
  have s2 : w.heap.size + 2 ≤ w2.heap.size := Nat.le_trans s1 hw2.size
  obtain ⟨f0, f1⟩ := HF.out w2 k2
  obtain ⟨f00, f01⟩ := cells2 f0; obtain ⟨f10, f11⟩ := cells2 f1; clear f0 f1
  go_wp2_with fail
  refine (OFew_any _ _ _ _ _ _ _ B.out.2.2.1 B.out.2.2.2).mono ?_; rintro e w3 ⟨rfl, hw3⟩
  rw [F2.out]
  have k3 := k2.trans (hw3.mono s2)
  have i3 := bl i2 hw3 i2.size
  have s3 : w.heap.size + 2 ≤ w3.heap.size := Nat.le_trans s2 hw3.size
  obtain ⟨f0, f1⟩ := HF.out w3 k3
  obtain ⟨f00, f01⟩ := cells2 f0; obtain ⟨f10, f11⟩ := cells2 f1; clear f0 f1
  go_wp2_with fail
  refine (OMake_any _ _ _ _ _ _ v d _ (H1.out.keep i3) (H2.out.keep i3) R1.out R2.out).mono ?_; rintro e w4 ⟨q1, m1, g1, q2, m2, g2, e1, e2, rfl, o1, o2, hw4⟩
  have O1 := Lib.hid o1; have O2 := Lib.hid o2; clear o1 o2
  have k4 := k3.trans (hw4.mono s3)
  have i4 := bl i3 hw4 i3.size
  have s4 : w.heap.size + 2 ≤ w4.heap.size := Nat.le_trans s3 hw4.size
  obtain ⟨f0, f1⟩ := HF.out w4 k4
  obtain ⟨f00, f01⟩ := cells2 f0; obtain ⟨f10, f11⟩ := cells2 f1; clear f0 f1
  go_wp2_with fail
  have k5 : Below w4.heap.size w4 (w4.alloc (.cells #[.slice q1 m1 g1, .slice q2 m2 g2] 54)) := al (Below.refl _ _) (Nat.le_refl _)
  have f2 : (w4.alloc (.cells #[.slice q1 m1 g1, .slice q2 m2 g2] 54)).heap[w4.heap.size]? = _ := hnew rfl
  generalize w4.alloc (.cells #[.slice q1 m1 g1, .slice q2 m2 g2] 54) = w5 at k5 f2 ⊢
  have i5 := bl i4 k5 i4.size
  have h7 : w4.heap.size < w5.heap.size := lt_of_block f2
  have k5' := k4.trans (k5.mono s4)
  have f1 := (HF.out w5 k5').2
  have h4 := lt_of_block f1
  have S1 := Lib.hid ((Sl.of_owns O1.out).keep k5); have S2 := Lib.hid ((Sl.of_owns O2.out).keep k5)
  have M1 : Hid (Room m1) := by have := e1.out; have := H1.out.len; rw [← e1.out, show (v, d).1.length = n1 from H1.out.len]; exact R1.out
  have M2 : Hid (Room m2) := by rw [← e2.out, show (v, d).2.length = n2 from H2.out.len]; exact R2.out
  have ne : (5 : Nat) ≠ 54 := by decide
  refine wp_region_boxed 54 (fun i => ([.val _ _ (.agg #[.slice q1 m1 g1, .slice q2 m2 g2]), .val _ _ (B8 c), .val _ _ (.agg #[.slice p3 n3 c3, .slice p4 n4 c4]), .row _ _ (x, y), .rowT _ _ ((lessS (v, d) c (x, y)).1) ((lessS (v, d) c (x, y)).2), .rowT _ _ ((lessS (v, d) c (x, y)).1) ((lessS (v, d) c (x, y)).2), .row _ _ ((lessS (v, d) c (x, y)).1), .val _ _ (.int .i64 (lessS (v, d) c (x, y)).2), .box _ _ 2, .any _ _, .val _ _ (.int .i64 (lessS (v, d) c (x, y)).2)][i]?).getD (.any _ _)) 9 8 (.row _ _ ((lessS (v, d) c (x, y)).1)) 86 rfl (by kernel_rfl) (by decide) (by decide) (by decide) ?_ ?_
  · refine ⟨?_, ?_, ?_, ?_, ?_, ?_, ?_, ?_, ?_, ?_, ?_, trivial⟩
    · intro a W hb hs hp hi
      have t7 : sl a 7 = .pointer (some ⟨w4.heap.size, 0, none⟩) := hi 7 (by decide)
      obtain ⟨d0, d1⟩ := cells2 ((hb.block _ h7).trans f2)
      refine ite_y rfl (wp_val (.agg #[.slice q1 m1 g1, .slice q2 m2 g2]) ?_ ?_)
      · simp only [execOp, eval_tmp, t7]; simp [go_sem, d0, d1]
      · exact ⟨_, rfl, Below.refl _ _, rfl⟩
    · intro a W hb hs hp hi
      have t2 : sl a 2 = B8 c := hi 2 (by decide)
      exact ite_y rfl (wp_val (sl a 2) rfl ⟨_, rfl, Below.refl _ _, t2⟩)
    · intro a W hb hs hp hi
      have t4 : sl a 4 = .pointer (some ⟨w.heap.size + 1, 0, none⟩) := hi 4 (by decide)
      obtain ⟨d0, d1⟩ := cells2 ((hb.block _ h4).trans f1)
      refine ite_y rfl (wp_val (.agg #[.slice p3 n3 c3, .slice p4 n4 c4]) ?_ ?_)
      · simp only [execOp, eval_tmp, t4]; simp [go_sem, d0, d1]
      · exact ⟨_, rfl, Below.refl _ _, rfl⟩
    · intro a W hb hs hp hi
      have t27 : sl a 27 = .agg #[.slice p3 n3 c3, .slice p4 n4 c4] := hp 2 (by decide)
      refine ite_y rfl (wp_enter 36 #[.agg #[.slice p3 n3 c3, .slice p4 n4 c4]] ?_ (OMake_any _ _ _ _ _ _ x y _ (H3.out.keep (bl i5 hb i5.size)) (H4.out.keep (bl i5 hb i5.size)) R3.out R4.out) ?_)
      · simp only [execOp, resolve, List.map_toArray, List.map, eval_tmp, eval_func, eval_const, t27]; simp [go_sem]
      · rintro e W' ⟨q5, m5, g5, q6, m6, g6, e5, e6, rfl, o5, o6, hw⟩
        exact ⟨_, rfl, _, rfl, hw, XRow.of_owns ne o5 o6⟩
    · intro a W hb hs hp hi
      have t25 : sl a 25 = .agg #[.slice q1 m1 g1, .slice q2 m2 g2] := hp 0 (by decide)
      have t26 : sl a 26 = B8 c := hp 1 (by decide)
      have t28 : XRow _ _ (x, y) (sl a 28) W := hp 3 (by decide)
      obtain ⟨y28a, y28b, y28c, y28d, y28e, y28f, t28, ⟨z28a, -⟩, ⟨z28b, -⟩⟩ := t28
      refine ite_y rfl (wp_enter 37 #[.agg #[.slice q1 m1 g1, .slice q2 m2 g2], B8 c, .agg #[.slice y28a y28b y28c, .slice y28d y28e y28f]] ?_ (Less_any _ _ _ _ _ _ _ _ _ _ _ _ v d x y c _ (S1.out.keep hb) (S2.out.keep hb) z28a z28b M1.out M2.out) ?_)
      · simp only [execOp, resolve, List.map_toArray, List.map, eval_tmp, eval_func, eval_const, t25, t26, t28]; simp [go_sem]
      · rintro e W' ⟨q5, m5, g5, q6, m6, g6, e5, e6, rfl, o5, o6, hw⟩
        exact ⟨_, rfl, _, rfl, hw, _, rfl, XRow.of_owns ne o5 o6⟩
    · intro a W hb hs hp hi
      exact ite_y rfl (wp_val (sl a 29) rfl ⟨_, rfl, Below.refl _ _, hp 4 (by decide)⟩)
    · intro a W hb hs hp hi
      have t24 : XRowT _ _ ((lessS (v, d) c (x, y)).1) ((lessS (v, d) c (x, y)).2) (sl a 24) W := hp 5 (by decide)
      obtain ⟨u, t24, hr⟩ := t24
      refine ite_y rfl (wp_val (u) ?_ ?_)
      · simp only [execOp, eval_tmp, t24]; rfl
      · exact ⟨_, rfl, Below.refl _ _, hr⟩
    · intro a W hb hs hp hi
      have t24 : XRowT _ _ ((lessS (v, d) c (x, y)).1) ((lessS (v, d) c (x, y)).2) (sl a 24) W := hp 5 (by decide)
      obtain ⟨u, t24, hr⟩ := t24
      refine ite_y rfl (wp_val (.int .i64 (lessS (v, d) c (x, y)).2) ?_ ?_)
      · simp only [execOp, eval_tmp, t24]; rfl
      · exact ⟨_, rfl, Below.refl _ _, rfl⟩
    · intro a W hb hs hp hi
      refine ite_y rfl (wp_val' (w' := W.alloc (.cells #[.slice none 0 0, .slice none 0 0] 54)) (.pointer (some ⟨W.heap.size, 0, none⟩)) ?_ ?_)
      · simp only [execOp]; simp [go_sem]
      · exact ⟨_, rfl, al (Below.refl _ _) (Nat.le_refl _), W.heap.size, #[.slice none 0 0, .slice none 0 0], rfl, hb.size, rfl, hnew rfl⟩
    · intro a W hb hs hp hi
      have tu : XRow _ _ _ (sl a 30) W := hp 6 (by decide)
      have tb : XBox _ _ _ (sl a 8) W := hp 8 (by decide)
      obtain ⟨q5, m5, g5, q6, m6, g6, tu, z5, z6⟩ := tu
      obtain ⟨b, cs, tb, hB, hc, hh⟩ := tb
      obtain ⟨u0, u1, rfl⟩ := size2 hc
      obtain ⟨d0, d1⟩ := cells2 hh
      have z0 : W.frozen? ⟨b, 0, none⟩ = false := frozen_of_row _ _ 0 _ _ hh
      have z1 : W.frozen? ⟨b, 1, none⟩ = false := frozen_of_row _ _ 1 _ _ hh
      refine ite_y rfl (wp_skipX (w' := (W.setCell ⟨b, 0, none⟩ (.slice q5 m5 g5)).setCell ⟨b, 1, none⟩ (.slice q6 m6 g6)) ?_ ?_)
      · simp only [execOp, eval_tmp, tu, tb]; simp [go_sem, d0, d1, z0, z1]
      · have hst := stepX_set2 (v0 := .slice q5 m5 g5) (v1 := .slice q6 m6 g6) hB hh
        exact ⟨_, rfl, hst, b, _, tb, hB, heap_set2 hh, XRow.step (by exact ⟨q5, m5, g5, q6, m6, g6, rfl, z5, z6⟩) hst⟩
    · intro a W hb hs hp hi
      have t31 : sl a 31 = .int .i64 (lessS (v, d) c (x, y)).2 := hp 7 (by decide)
      exact ite_y rfl (wp_val (sl a 31) rfl ⟨_, rfl, Below.refl _ _, t31⟩)
  · intro a w6 hb hs hd hI ht
    have ha := act_is [25, 26, 27, 28, 29, 24, 30, 31, 8, 9] hs hd ht (by decide)
    have tb : Boxed _ _ _ _ (sl a) w6 := hI 9 (by decide)
    obtain ⟨b8, cs, tb, hB8, h8, q8a, m8a, g8a, q8b, m8b, g8b, ec, ⟨z8a, -⟩, ⟨z8b, -⟩⟩ := tb
    obtain rfl : cs = #[.slice q8a m8a g8a, .slice q8b m8b g8b] := by injection ec
    have t9 : sl a 9 = .int .i64 (lessS (v, d) c (x, y)).2 := hI 10 (by decide)
    simp only [List.foldl, tb, t9] at ha
    generalize sl a 25 = u25 at ha
    generalize sl a 26 = u26 at ha
    generalize sl a 27 = u27 at ha
    generalize sl a 28 = u28 at ha
    generalize sl a 29 = u29 at ha
    generalize sl a 24 = u24 at ha
    generalize sl a 30 = u30 at ha
    generalize sl a 31 = u31 at ha
    have Z8a := Lib.hid z8a; have Z8b := Lib.hid z8b; clear z8a z8b hI
    have i6 := bl i5 hb i5.size
    have f2 : w6.heap[w4.heap.size]? = _ := (hb.block _ h7).trans f2
    have h7 : w4.heap.size < w6.heap.size := lt_of_block f2
    have k6 := k5'.trans (hb.mono h4)
    obtain ⟨f0, f1⟩ := HF.out w6 k6
    have h3 := lt_of_block f0; have h4 := lt_of_block f1
    have S1 := Lib.hid (S1.out.keep hb); have S2 := Lib.hid (S2.out.keep hb)
    have hl8 := lt_of_block h8
    have H8 := Lib.hid h8; clear h8
    rw [ha]; clear ha
    go_wp2_with fail
    have ne : (5 : Nat) ≠ 58 := by decide
    refine wp_region_boxed 58 (fun i => ([.val _ _ (.agg #[.slice p1 n1 c1, .slice p2 n2 c2]), .val _ _ (.agg #[.slice p1 n1 c1, .slice p2 n2 c2]), .val _ _ (B8 c), .val _ _ (.agg #[.slice p3 n3 c3, .slice p4 n4 c4]), .val _ _ (.agg #[.slice p3 n3 c3, .slice p4 n4 c4]), .rowT _ _ ((lessS (v, d) c (x, y)).1) ((lessS (v, d) c (x, y)).2), .rowT _ _ ((lessS (v, d) c (x, y)).1) ((lessS (v, d) c (x, y)).2), .row _ _ ((lessS (v, d) c (x, y)).1), .val _ _ (.int .i64 (lessS (v, d) c (x, y)).2), .box _ _ 2, .any _ _, .val _ _ (.int .i64 (lessS (v, d) c (x, y)).2)][i]?).getD (.any _ _)) 10 10 (.row _ _ ((lessS (v, d) c (x, y)).1)) 86 rfl (by kernel_rfl) (by decide) (by decide) (by decide) ?_ ?_
    · refine ⟨?_, ?_, ?_, ?_, ?_, ?_, ?_, ?_, ?_, ?_, ?_, ?_, trivial⟩
      · intro a W hb hs hp hi
        have t3 : sl a 3 = .pointer (some ⟨w.heap.size, 0, none⟩) := hi 3 (by decide)
        obtain ⟨d0, d1⟩ := cells2 ((hb.block _ h3).trans f0)
        refine ite_y rfl (wp_val (.agg #[.slice p1 n1 c1, .slice p2 n2 c2]) ?_ ?_)
        · simp only [execOp, eval_tmp, t3]; simp [go_sem, d0, d1]
        · exact ⟨_, rfl, Below.refl _ _, rfl⟩
      · intro a W hb hs hp hi
        have t33 : sl a 33 = .agg #[.slice p1 n1 c1, .slice p2 n2 c2] := hp 0 (by decide)
        refine ite_y rfl (wp_enter 39 #[.agg #[.slice p1 n1 c1, .slice p2 n2 c2]] ?_ (ORef_any _ _ _ _ _ _ _) ?_)
        · simp only [execOp, resolve, List.map_toArray, List.map, eval_tmp, eval_func, eval_const, t33]; simp [go_sem]
        · rintro e W' ⟨rfl, hw⟩; exact ⟨_, rfl, _, rfl, hw, rfl⟩
      · intro a W hb hs hp hi
        have t2 : sl a 2 = B8 c := hi 2 (by decide)
        exact ite_y rfl (wp_val (sl a 2) rfl ⟨_, rfl, Below.refl _ _, t2⟩)
      · intro a W hb hs hp hi
        have t4 : sl a 4 = .pointer (some ⟨w.heap.size + 1, 0, none⟩) := hi 4 (by decide)
        obtain ⟨d0, d1⟩ := cells2 ((hb.block _ h4).trans f1)
        refine ite_y rfl (wp_val (.agg #[.slice p3 n3 c3, .slice p4 n4 c4]) ?_ ?_)
        · simp only [execOp, eval_tmp, t4]; simp [go_sem, d0, d1]
        · exact ⟨_, rfl, Below.refl _ _, rfl⟩
      · intro a W hb hs hp hi
        have t36 : sl a 36 = .agg #[.slice p3 n3 c3, .slice p4 n4 c4] := hp 3 (by decide)
        refine ite_y rfl (wp_enter 39 #[.agg #[.slice p3 n3 c3, .slice p4 n4 c4]] ?_ (ORef_any _ _ _ _ _ _ _) ?_)
        · simp only [execOp, resolve, List.map_toArray, List.map, eval_tmp, eval_func, eval_const, t36]; simp [go_sem]
        · rintro e W' ⟨rfl, hw⟩; exact ⟨_, rfl, _, rfl, hw, rfl⟩
      · intro a W hb hs hp hi
        have t34 : sl a 34 = .agg #[.slice p1 n1 c1, .slice p2 n2 c2] := hp 1 (by decide)
        have t35 : sl a 35 = B8 c := hp 2 (by decide)
        have t37 : sl a 37 = .agg #[.slice p3 n3 c3, .slice p4 n4 c4] := hp 4 (by decide)
        refine ite_y rfl (wp_enter 38 #[.agg #[.slice p1 n1 c1, .slice p2 n2 c2], B8 c, .agg #[.slice p3 n3 c3, .slice p4 n4 c4]] ?_ (RLess_any _ _ _ _ _ _ _ _ _ _ _ _ v d x y c _ (H1.out.keep (bl i6 hb i6.size)) (H2.out.keep (bl i6 hb i6.size)) (H3.out.keep (bl i6 hb i6.size)) (H4.out.keep (bl i6 hb i6.size)) R1.out R2.out R3.out R4.out) ?_)
        · simp only [execOp, resolve, List.map_toArray, List.map, eval_tmp, eval_func, eval_const, t34, t35, t37]; simp [go_sem]
        · rintro e W' ⟨q5, m5, g5, q6, m6, g6, e5, e6, rfl, o5, o6, hw⟩
          exact ⟨_, rfl, _, rfl, hw, _, rfl, XRow.of_owns ne o5 o6⟩
      · intro a W hb hs hp hi
        exact ite_y rfl (wp_val (sl a 38) rfl ⟨_, rfl, Below.refl _ _, hp 5 (by decide)⟩)
      · intro a W hb hs hp hi
        have t32 : XRowT _ _ ((lessS (v, d) c (x, y)).1) ((lessS (v, d) c (x, y)).2) (sl a 32) W := hp 6 (by decide)
        obtain ⟨u, t32, hr⟩ := t32
        refine ite_y rfl (wp_val (u) ?_ ?_)
        · simp only [execOp, eval_tmp, t32]; rfl
        · exact ⟨_, rfl, Below.refl _ _, hr⟩
      · intro a W hb hs hp hi
        have t32 : XRowT _ _ ((lessS (v, d) c (x, y)).1) ((lessS (v, d) c (x, y)).2) (sl a 32) W := hp 6 (by decide)
        obtain ⟨u, t32, hr⟩ := t32
        refine ite_y rfl (wp_val (.int .i64 (lessS (v, d) c (x, y)).2) ?_ ?_)
        · simp only [execOp, eval_tmp, t32]; rfl
        · exact ⟨_, rfl, Below.refl _ _, rfl⟩
      · intro a W hb hs hp hi
        refine ite_y rfl (wp_val' (w' := W.alloc (.cells #[.slice none 0 0, .slice none 0 0] 58)) (.pointer (some ⟨W.heap.size, 0, none⟩)) ?_ ?_)
        · simp only [execOp]; simp [go_sem]
        · exact ⟨_, rfl, al (Below.refl _ _) (Nat.le_refl _), W.heap.size, #[.slice none 0 0, .slice none 0 0], rfl, hb.size, rfl, hnew rfl⟩
      · intro a W hb hs hp hi
        have tu : XRow _ _ _ (sl a 39) W := hp 7 (by decide)
        have tb : XBox _ _ _ (sl a 10) W := hp 9 (by decide)
        obtain ⟨q5, m5, g5, q6, m6, g6, tu, z5, z6⟩ := tu
        obtain ⟨b, cs, tb, hB, hc, hh⟩ := tb
        obtain ⟨u0, u1, rfl⟩ := size2 hc
        obtain ⟨d0, d1⟩ := cells2 hh
        have z0 : W.frozen? ⟨b, 0, none⟩ = false := frozen_of_row _ _ 0 _ _ hh
        have z1 : W.frozen? ⟨b, 1, none⟩ = false := frozen_of_row _ _ 1 _ _ hh
        refine ite_y rfl (wp_skipX (w' := (W.setCell ⟨b, 0, none⟩ (.slice q5 m5 g5)).setCell ⟨b, 1, none⟩ (.slice q6 m6 g6)) ?_ ?_)
        · simp only [execOp, eval_tmp, tu, tb]; simp [go_sem, d0, d1, z0, z1]
        · have hst := stepX_set2 (v0 := .slice q5 m5 g5) (v1 := .slice q6 m6 g6) hB hh
          exact ⟨_, rfl, hst, b, _, tb, hB, heap_set2 hh, XRow.step (by exact ⟨q5, m5, g5, q6, m6, g6, rfl, z5, z6⟩) hst⟩
      · intro a W hb hs hp hi
        have t40 : sl a 40 = .int .i64 (lessS (v, d) c (x, y)).2 := hp 8 (by decide)
        exact ite_y rfl (wp_val (sl a 40) rfl ⟨_, rfl, Below.refl _ _, t40⟩)
    · intro a w7 hb hs hd hI ht
      have ha := act_is [33, 34, 35, 36, 37, 38, 32, 39, 40, 10, 11] hs hd ht (by decide)
      have tb : Boxed _ _ _ _ (sl a) w7 := hI 10 (by decide)
      obtain ⟨b10, cs, tb, hB10, h10, q10a, m10a, g10a, q10b, m10b, g10b, ec, ⟨z10a, -⟩, ⟨z10b, -⟩⟩ := tb
      obtain rfl : cs = #[.slice q10a m10a g10a, .slice q10b m10b g10b] := by injection ec
      have t11 : sl a 11 = .int .i64 (lessS (v, d) c (x, y)).2 := hI 11 (by decide)
      simp only [List.foldl, tb, t11] at ha
      generalize sl a 33 = u33 at ha
      generalize sl a 34 = u34 at ha
      generalize sl a 35 = u35 at ha
      generalize sl a 36 = u36 at ha
      generalize sl a 37 = u37 at ha
      generalize sl a 38 = u38 at ha
      generalize sl a 32 = u32 at ha
      generalize sl a 39 = u39 at ha
      generalize sl a 40 = u40 at ha
      have Z10a := Lib.hid z10a; have Z10b := Lib.hid z10b; clear z10a z10b hI
      have i7 := bl i6 hb i6.size
      have f2 : w7.heap[w4.heap.size]? = _ := (hb.block _ h7).trans f2
      have h7 : w4.heap.size < w7.heap.size := lt_of_block f2
      have k7 := k6.trans (hb.mono h4)
      obtain ⟨f0, f1⟩ := HF.out w7 k7
      have h3 := lt_of_block f0; have h4 := lt_of_block f1
      have S1 := Lib.hid (S1.out.keep hb); have S2 := Lib.hid (S2.out.keep hb)
      have Z8a := Lib.hid (Z8a.out.keep hb); have Z8b := Lib.hid (Z8b.out.keep hb)
      have h8 := (hb.block _ hl8).trans H8.out
      have hl8 := lt_of_block h8; have hl10 := lt_of_block h10
      rw [ha]; clear ha
      go_wp2_with fail
      refine wp_region_shapes (fun i => ([.val (.agg #[.slice q1 m1 g1, .slice q2 m2 g2]), .row (normS (v, d)), .row (normS (v, d)), .val (.agg #[.slice p1 n1 c1, .slice p2 n2 c2]), .val (.agg #[.slice p1 n1 c1, .slice p2 n2 c2]), .row (normS (v, d)), .val (.bool true), .val (.bool true), .val (.agg #[.slice q8a m8a g8a, .slice q8b m8b g8b]), .val (.agg #[.slice q8a m8a g8a, .slice q8b m8b g8b]), .val (.agg #[.slice q10a m10a g10a, .slice q10b m10b g10b]), .val (.bool true), .val (.bool true), .val (.bool true), .val (.int .i64 (lessS (v, d) c (x, y)).2), .val (.int .i64 (lessS (v, d) c (x, y)).2), .val (.bool true), .val (.bool true), .val (.bool true), .val (.agg #[.slice q1 m1 g1, .slice q2 m2 g2]), .val (.agg #[.slice p3 n3 c3, .slice p4 n4 c4]), .row (x, y), .val (.bool (decide ((v, d) = (x, y)))), .val (.agg #[.slice p1 n1 c1, .slice p2 n2 c2]), .val (.agg #[.slice p1 n1 c1, .slice p2 n2 c2]), .val (.agg #[.slice p3 n3 c3, .slice p4 n4 c4]), .val (.agg #[.slice p3 n3 c3, .slice p4 n4 c4]), .val (.bool (decide ((v, d) = (x, y)))), .val (.bool true), .val (.bool true), .val (.bool true), .val (.agg #[.slice q1 m1 g1, .slice q2 m2 g2]), .val (.agg #[.slice q1 m1 g1, .slice q2 m2 g2]), .val (.agg #[.slice p1 n1 c1, .slice p2 n2 c2]), .val (.agg #[.slice p1 n1 c1, .slice p2 n2 c2]), .val (.bool true), .val (.bool true), .val (.bool true), .val (.agg #[.slice q1 m1 g1, .slice q2 m2 g2]), .row (v, d), .row (v, d), .val (.agg #[.slice p1 n1 c1, .slice p2 n2 c2]), .val (.agg #[.slice p1 n1 c1, .slice p2 n2 c2]), .val (.bool true), .val (.bool true), .val (.bool true)][i]?).getD (.any)) 86 rfl (by kernel_rfl) (by decide) (by decide) (by decide) ?_ ?_
      · refine ⟨?_, ?_, ?_, ?_, ?_, ?_, ?_, ?_, ?_, ?_, ?_, ?_, ?_, ?_, ?_, ?_, ?_, ?_, ?_, ?_, ?_, ?_, ?_, ?_, ?_, ?_, ?_, ?_, ?_, ?_, ?_, ?_, ?_, ?_, ?_, ?_, ?_, ?_, ?_, ?_, ?_, ?_, ?_, ?_, ?_, ?_, trivial⟩
        · intro a W hb0 hs hp hi; have hb := undrew hb0; clear hb0
          have t7 : sl a 7 = .pointer (some ⟨w4.heap.size, 0, none⟩) := hi 7 (by decide)
          obtain ⟨d0, d1⟩ := cells2 ((hb.block _ h7).trans f2)
          refine ite_y rfl (wp_val (.agg #[.slice q1 m1 g1, .slice q2 m2 g2]) ?_ ?_)
          · simp only [execOp, eval_tmp, t7]; simp [go_sem, d0, d1]
          · exact ⟨_, rfl, Below.refl _ _, rfl⟩
        · intro a W hb0 hs hp hi; have hb := undrew hb0; clear hb0
          have t41 : sl a 41 = .agg #[.slice q1 m1 g1, .slice q2 m2 g2] := hp 0 (by decide)
          refine ite_y rfl (wp_enter 42 #[.agg #[.slice q1 m1 g1, .slice q2 m2 g2]] ?_ (Norm_any _ _ _ _ _ _ v d _ (S1.out.keep hb) (S2.out.keep hb) M1.out M2.out) ?_)
          · simp only [execOp, resolve, List.map_toArray, List.map, eval_tmp, eval_func, eval_const, t41]; simp [go_sem]
          · rintro e W' ⟨q5, m5, g5, q6, m6, g6, e5, e6, rfl, o5, o6, hw⟩
            exact ⟨_, rfl, _, rfl, hw, q5, m5, g5, q6, m6, g6, rfl, Sl.of_owns o5, Sl.of_owns o6⟩
        · intro a W hb0 hs hp hi; have hb := undrew hb0; clear hb0
          have t42 : RowIs (normS (v, d)) (sl a 42) W := hp 1 (by decide)
          obtain ⟨y42a, y42b, y42c, y42d, y42e, y42f, t42, z42a, z42b⟩ := t42
          refine ite_y rfl (wp_enter 41 #[.agg #[.slice y42a y42b y42c, .slice y42d y42e y42f]] ?_ (Of03_any _ _ _ _ _ _ _) ?_)
          · simp only [execOp, resolve, List.map_toArray, List.map, eval_tmp, eval_func, eval_const, t42]; simp [go_sem]
          · rintro e W' ⟨rfl, hw⟩; exact ⟨_, rfl, _, rfl, hw, y42a, y42b, y42c, y42d, y42e, y42f, rfl, z42a.keep hw, z42b.keep hw⟩
        · intro a W hb0 hs hp hi; have hb := undrew hb0; clear hb0
          have t3 : sl a 3 = .pointer (some ⟨w.heap.size, 0, none⟩) := hi 3 (by decide)
          obtain ⟨d0, d1⟩ := cells2 ((hb.block _ h3).trans f0)
          refine ite_y rfl (wp_val (.agg #[.slice p1 n1 c1, .slice p2 n2 c2]) ?_ ?_)
          · simp only [execOp, eval_tmp, t3]; simp [go_sem, d0, d1]
          · exact ⟨_, rfl, Below.refl _ _, rfl⟩
        · intro a W hb0 hs hp hi; have hb := undrew hb0; clear hb0
          have t44 : sl a 44 = .agg #[.slice p1 n1 c1, .slice p2 n2 c2] := hp 3 (by decide)
          refine ite_y rfl (wp_enter 39 #[.agg #[.slice p1 n1 c1, .slice p2 n2 c2]] ?_ (ORef_any _ _ _ _ _ _ _) ?_)
          · simp only [execOp, resolve, List.map_toArray, List.map, eval_tmp, eval_func, eval_const, t44]; simp [go_sem]
          · rintro e W' ⟨rfl, hw⟩; exact ⟨_, rfl, _, rfl, hw, rfl⟩
        · intro a W hb0 hs hp hi; have hb := undrew hb0; clear hb0
          have t45 : sl a 45 = .agg #[.slice p1 n1 c1, .slice p2 n2 c2] := hp 4 (by decide)
          refine ite_y rfl (wp_enter 43 #[.agg #[.slice p1 n1 c1, .slice p2 n2 c2]] ?_ (RNorm_any _ _ _ _ _ _ v d _ (H1.out.keep (bl i7 hb i7.size)) (H2.out.keep (bl i7 hb i7.size)) R1.out R2.out) ?_)
          · simp only [execOp, resolve, List.map_toArray, List.map, eval_tmp, eval_func, eval_const, t45]; simp [go_sem]
          · rintro e W' ⟨q5, m5, g5, q6, m6, g6, rfl, o5, o6, hw⟩
            exact ⟨_, rfl, _, rfl, hw, q5, m5, g5, q6, m6, g6, rfl, o5, o6⟩
        · intro a W hb0 hs hp hi; have hb := undrew hb0; clear hb0
          have t43 : RowIs (normS (v, d)) (sl a 43) W := hp 2 (by decide)
          obtain ⟨y43a, y43b, y43c, y43d, y43e, y43f, t43, z43a, z43b⟩ := t43
          have t46 : RowIs (normS (v, d)) (sl a 46) W := hp 5 (by decide)
          obtain ⟨y46a, y46b, y46c, y46d, y46e, y46f, t46, z46a, z46b⟩ := t46
          refine ite_y rfl (wp_enter 40 #[.agg #[.slice y43a y43b y43c, .slice y43d y43e y43f], .agg #[.slice y46a y46b y46c, .slice y46d y46e y46f]] ?_ (RVSame_any _ _ _ _ _ _ _ _ _ _ _ _ (normS (v, d)).1 (normS (v, d)).2 (normS (v, d)).1 (normS (v, d)).2 _ (z43a) (z43b) (z46a) (z46b)) ?_)
          · simp only [execOp, resolve, List.map_toArray, List.map, eval_tmp, eval_func, eval_const, t43, t46]; simp [go_sem]
          · rintro e W' ⟨rfl, hw⟩; exact ⟨_, rfl, _, rfl, hw, congrArg Value.bool (decide_eq_true rfl)⟩
        · intro a W hb0 hs hp hi; have hb := undrew hb0; clear hb0
          have t47 : sl a 47 = .bool true := hp 6 (by decide)
          exact ite_y rfl (wp_val (sl a 47) rfl ⟨_, rfl, Below.refl _ _, t47⟩)
        · intro a W hb0 hs hp hi; have hb := undrew hb0; clear hb0
          have tg : sl a 48 = .bool true := hp 7 (by decide)
          have t8 : sl a 8 = .pointer (some ⟨b8, 0, none⟩) := hi 8 (by decide)
          obtain ⟨d0, d1⟩ := cells2 ((hb.block _ hl8).trans h8)
          refine ite_y (wanted_yes rfl rfl (by have hz : a.tmps.size = 86 := hs; rw [hz]; decide) tg) (wp_val (.agg #[.slice q8a m8a g8a, .slice q8b m8b g8b]) ?_ ?_)
          · simp only [execOp, eval_tmp, t8]; simp [go_sem, d0, d1]
          · exact ⟨_, rfl, Below.refl _ _, rfl⟩
        · intro a W hb0 hs hp hi; have hb := undrew hb0; clear hb0
          have tg : sl a 48 = .bool true := hp 7 (by decide)
          have t49 : sl a 49 = .agg #[.slice q8a m8a g8a, .slice q8b m8b g8b] := hp 8 (by decide)
          refine ite_y (wanted_yes rfl rfl (by have hz : a.tmps.size = 86 := hs; rw [hz]; decide) tg) (wp_enter 41 #[.agg #[.slice q8a m8a g8a, .slice q8b m8b g8b]] ?_ (Of03_any _ _ _ _ _ _ _) ?_)
          · simp only [execOp, resolve, List.map_toArray, List.map, eval_tmp, eval_func, eval_const, t49]; simp [go_sem]
          · rintro e W' ⟨rfl, hw⟩; exact ⟨_, rfl, _, rfl, hw, rfl⟩
        · intro a W hb0 hs hp hi; have hb := undrew hb0; clear hb0
          have tg : sl a 48 = .bool true := hp 7 (by decide)
          have t10 : sl a 10 = .pointer (some ⟨b10, 0, none⟩) := hi 10 (by decide)
          obtain ⟨d0, d1⟩ := cells2 ((hb.block _ hl10).trans h10)
          refine ite_y (wanted_yes rfl rfl (by have hz : a.tmps.size = 86 := hs; rw [hz]; decide) tg) (wp_val (.agg #[.slice q10a m10a g10a, .slice q10b m10b g10b]) ?_ ?_)
          · simp only [execOp, eval_tmp, t10]; simp [go_sem, d0, d1]
          · exact ⟨_, rfl, Below.refl _ _, rfl⟩
        · intro a W hb0 hs hp hi; have hb := undrew hb0; clear hb0
          have tg : sl a 48 = .bool true := hp 7 (by decide)
          have t50 : sl a 50 = .agg #[.slice q8a m8a g8a, .slice q8b m8b g8b] := hp 9 (by decide)
          have t51 : sl a 51 = .agg #[.slice q10a m10a g10a, .slice q10b m10b g10b] := hp 10 (by decide)
          refine ite_y (wanted_yes rfl rfl (by have hz : a.tmps.size = 86 := hs; rw [hz]; decide) tg) (wp_enter 40 #[.agg #[.slice q8a m8a g8a, .slice q8b m8b g8b], .agg #[.slice q10a m10a g10a, .slice q10b m10b g10b]] ?_ (RVSame_any _ _ _ _ _ _ _ _ _ _ _ _ ((lessS (v, d) c (x, y)).1).1 ((lessS (v, d) c (x, y)).1).2 ((lessS (v, d) c (x, y)).1).1 ((lessS (v, d) c (x, y)).1).2 _ (Z8a.out.keep hb) (Z8b.out.keep hb) (Z10a.out.keep hb) (Z10b.out.keep hb)) ?_)
          · simp only [execOp, resolve, List.map_toArray, List.map, eval_tmp, eval_func, eval_const, t50, t51]; simp [go_sem]
          · rintro e W' ⟨rfl, hw⟩; exact ⟨_, rfl, _, rfl, hw, congrArg Value.bool (decide_eq_true rfl)⟩
        · intro a W hb0 hs hp hi; have hb := undrew hb0; clear hb0
          have t48 : sl a 48 = .bool true := hp 7 (by decide)
          have t52 : sl a 52 = .bool true := hp 11 (by decide)
          refine ite_y rfl (wp_val (.bool true) ?_ ?_)
          · simp only [execOp, eval_tmp, eval_const, t48, t52]; simp [go_sem]
          · exact ⟨_, rfl, Below.refl _ _, rfl⟩
        · intro a W hb0 hs hp hi; have hb := undrew hb0; clear hb0
          have t53 : sl a 53 = .bool true := hp 12 (by decide)
          exact ite_y rfl (wp_val (sl a 53) rfl ⟨_, rfl, Below.refl _ _, t53⟩)
        · intro a W hb0 hs hp hi; have hb := undrew hb0; clear hb0
          have tg : sl a 54 = .bool true := hp 13 (by decide)
          have t9 : sl a 9 = .int .i64 (lessS (v, d) c (x, y)).2 := hi 9 (by decide)
          exact ite_y (wanted_yes rfl rfl (by have hz : a.tmps.size = 86 := hs; rw [hz]; decide) tg) (wp_val (sl a 9) rfl ⟨_, rfl, Below.refl _ _, t9⟩)
        · intro a W hb0 hs hp hi; have hb := undrew hb0; clear hb0
          have tg : sl a 54 = .bool true := hp 13 (by decide)
          have t11 : sl a 11 = .int .i64 (lessS (v, d) c (x, y)).2 := hi 11 (by decide)
          exact ite_y (wanted_yes rfl rfl (by have hz : a.tmps.size = 86 := hs; rw [hz]; decide) tg) (wp_val (sl a 11) rfl ⟨_, rfl, Below.refl _ _, t11⟩)
        · intro a W hb0 hs hp hi; have hb := undrew hb0; clear hb0
          have tg : sl a 54 = .bool true := hp 13 (by decide)
          have t55 : sl a 55 = .int .i64 (lessS (v, d) c (x, y)).2 := hp 14 (by decide)
          have t56 : sl a 56 = .int .i64 (lessS (v, d) c (x, y)).2 := hp 15 (by decide)
          refine ite_y (wanted_yes rfl rfl (by have hz : a.tmps.size = 86 := hs; rw [hz]; decide) tg) (wp_val (.bool true) ?_ ?_)
          · simp only [execOp, eval_tmp, eval_const, t55, t56]; simp [go_sem]
          · exact ⟨_, rfl, Below.refl _ _, rfl⟩
        · intro a W hb0 hs hp hi; have hb := undrew hb0; clear hb0
          have t54 : sl a 54 = .bool true := hp 13 (by decide)
          have t57 : sl a 57 = .bool true := hp 16 (by decide)
          refine ite_y rfl (wp_val (.bool true) ?_ ?_)
          · simp only [execOp, eval_tmp, eval_const, t54, t57]; simp [go_sem]
          · exact ⟨_, rfl, Below.refl _ _, rfl⟩
        · intro a W hb0 hs hp hi; have hb := undrew hb0; clear hb0
          have t58 : sl a 58 = .bool true := hp 17 (by decide)
          exact ite_y rfl (wp_val (sl a 58) rfl ⟨_, rfl, Below.refl _ _, t58⟩)
        · intro a W hb0 hs hp hi; have hb := undrew hb0; clear hb0
          have tg : sl a 59 = .bool true := hp 18 (by decide)
          have t7 : sl a 7 = .pointer (some ⟨w4.heap.size, 0, none⟩) := hi 7 (by decide)
          obtain ⟨d0, d1⟩ := cells2 ((hb.block _ h7).trans f2)
          refine ite_y (wanted_yes rfl rfl (by have hz : a.tmps.size = 86 := hs; rw [hz]; decide) tg) (wp_val (.agg #[.slice q1 m1 g1, .slice q2 m2 g2]) ?_ ?_)
          · simp only [execOp, eval_tmp, t7]; simp [go_sem, d0, d1]
          · exact ⟨_, rfl, Below.refl _ _, rfl⟩
        · intro a W hb0 hs hp hi; have hb := undrew hb0; clear hb0
          have tg : sl a 59 = .bool true := hp 18 (by decide)
          have t4 : sl a 4 = .pointer (some ⟨w.heap.size + 1, 0, none⟩) := hi 4 (by decide)
          obtain ⟨d0, d1⟩ := cells2 ((hb.block _ h4).trans f1)
          refine ite_y (wanted_yes rfl rfl (by have hz : a.tmps.size = 86 := hs; rw [hz]; decide) tg) (wp_val (.agg #[.slice p3 n3 c3, .slice p4 n4 c4]) ?_ ?_)
          · simp only [execOp, eval_tmp, t4]; simp [go_sem, d0, d1]
          · exact ⟨_, rfl, Below.refl _ _, rfl⟩
        · intro a W hb0 hs hp hi; have hb := undrew hb0; clear hb0
          have tg : sl a 59 = .bool true := hp 18 (by decide)
          have t61 : sl a 61 = .agg #[.slice p3 n3 c3, .slice p4 n4 c4] := hp 20 (by decide)
          refine ite_y (wanted_yes rfl rfl (by have hz : a.tmps.size = 86 := hs; rw [hz]; decide) tg) (wp_enter 36 #[.agg #[.slice p3 n3 c3, .slice p4 n4 c4]] ?_ (OMake_any _ _ _ _ _ _ x y _ (H3.out.keep (bl i7 hb i7.size)) (H4.out.keep (bl i7 hb i7.size)) R3.out R4.out) ?_)
          · simp only [execOp, resolve, List.map_toArray, List.map, eval_tmp, eval_func, eval_const, t61]; simp [go_sem]
          · rintro e W' ⟨q5, m5, g5, q6, m6, g6, e5, e6, rfl, o5, o6, hw⟩
            exact ⟨_, rfl, _, rfl, hw, q5, m5, g5, q6, m6, g6, rfl, Sl.of_owns o5, Sl.of_owns o6⟩
        · intro a W hb0 hs hp hi; have hb := undrew hb0; clear hb0
          have tg : sl a 59 = .bool true := hp 18 (by decide)
          have t60 : sl a 60 = .agg #[.slice q1 m1 g1, .slice q2 m2 g2] := hp 19 (by decide)
          have t62 : RowIs (x, y) (sl a 62) W := hp 21 (by decide)
          obtain ⟨y62a, y62b, y62c, y62d, y62e, y62f, t62, z62a, z62b⟩ := t62
          refine ite_y (wanted_yes rfl rfl (by have hz : a.tmps.size = 86 := hs; rw [hz]; decide) tg) (wp_enter 44 #[.agg #[.slice q1 m1 g1, .slice q2 m2 g2], .agg #[.slice y62a y62b y62c, .slice y62d y62e y62f]] ?_ (VSame_any _ _ _ _ _ _ _ _ _ _ _ _ v d x y _ (S1.out.keep hb) (S2.out.keep hb) (z62a) (z62b)) ?_)
          · simp only [execOp, resolve, List.map_toArray, List.map, eval_tmp, eval_func, eval_const, t60, t62]; simp [go_sem]
          · rintro e W' ⟨rfl, hw⟩; exact ⟨_, rfl, _, rfl, hw, rfl⟩
        · intro a W hb0 hs hp hi; have hb := undrew hb0; clear hb0
          have tg : sl a 59 = .bool true := hp 18 (by decide)
          have t3 : sl a 3 = .pointer (some ⟨w.heap.size, 0, none⟩) := hi 3 (by decide)
          obtain ⟨d0, d1⟩ := cells2 ((hb.block _ h3).trans f0)
          refine ite_y (wanted_yes rfl rfl (by have hz : a.tmps.size = 86 := hs; rw [hz]; decide) tg) (wp_val (.agg #[.slice p1 n1 c1, .slice p2 n2 c2]) ?_ ?_)
          · simp only [execOp, eval_tmp, t3]; simp [go_sem, d0, d1]
          · exact ⟨_, rfl, Below.refl _ _, rfl⟩
        · intro a W hb0 hs hp hi; have hb := undrew hb0; clear hb0
          have tg : sl a 59 = .bool true := hp 18 (by decide)
          have t64 : sl a 64 = .agg #[.slice p1 n1 c1, .slice p2 n2 c2] := hp 23 (by decide)
          refine ite_y (wanted_yes rfl rfl (by have hz : a.tmps.size = 86 := hs; rw [hz]; decide) tg) (wp_enter 39 #[.agg #[.slice p1 n1 c1, .slice p2 n2 c2]] ?_ (ORef_any _ _ _ _ _ _ _) ?_)
          · simp only [execOp, resolve, List.map_toArray, List.map, eval_tmp, eval_func, eval_const, t64]; simp [go_sem]
          · rintro e W' ⟨rfl, hw⟩; exact ⟨_, rfl, _, rfl, hw, rfl⟩
        · intro a W hb0 hs hp hi; have hb := undrew hb0; clear hb0
          have tg : sl a 59 = .bool true := hp 18 (by decide)
          have t4 : sl a 4 = .pointer (some ⟨w.heap.size + 1, 0, none⟩) := hi 4 (by decide)
          obtain ⟨d0, d1⟩ := cells2 ((hb.block _ h4).trans f1)
          refine ite_y (wanted_yes rfl rfl (by have hz : a.tmps.size = 86 := hs; rw [hz]; decide) tg) (wp_val (.agg #[.slice p3 n3 c3, .slice p4 n4 c4]) ?_ ?_)
          · simp only [execOp, eval_tmp, t4]; simp [go_sem, d0, d1]
          · exact ⟨_, rfl, Below.refl _ _, rfl⟩
        · intro a W hb0 hs hp hi; have hb := undrew hb0; clear hb0
          have tg : sl a 59 = .bool true := hp 18 (by decide)
          have t66 : sl a 66 = .agg #[.slice p3 n3 c3, .slice p4 n4 c4] := hp 25 (by decide)
          refine ite_y (wanted_yes rfl rfl (by have hz : a.tmps.size = 86 := hs; rw [hz]; decide) tg) (wp_enter 39 #[.agg #[.slice p3 n3 c3, .slice p4 n4 c4]] ?_ (ORef_any _ _ _ _ _ _ _) ?_)
          · simp only [execOp, resolve, List.map_toArray, List.map, eval_tmp, eval_func, eval_const, t66]; simp [go_sem]
          · rintro e W' ⟨rfl, hw⟩; exact ⟨_, rfl, _, rfl, hw, rfl⟩
        · intro a W hb0 hs hp hi; have hb := undrew hb0; clear hb0
          have tg : sl a 59 = .bool true := hp 18 (by decide)
          have t65 : sl a 65 = .agg #[.slice p1 n1 c1, .slice p2 n2 c2] := hp 24 (by decide)
          have t67 : sl a 67 = .agg #[.slice p3 n3 c3, .slice p4 n4 c4] := hp 26 (by decide)
          refine ite_y (wanted_yes rfl rfl (by have hz : a.tmps.size = 86 := hs; rw [hz]; decide) tg) (wp_enter 40 #[.agg #[.slice p1 n1 c1, .slice p2 n2 c2], .agg #[.slice p3 n3 c3, .slice p4 n4 c4]] ?_ (RVSame_any _ _ _ _ _ _ _ _ _ _ _ _ v d x y _ (H1.out.keep (bl i7 hb i7.size)) (H2.out.keep (bl i7 hb i7.size)) (H3.out.keep (bl i7 hb i7.size)) (H4.out.keep (bl i7 hb i7.size))) ?_)
          · simp only [execOp, resolve, List.map_toArray, List.map, eval_tmp, eval_func, eval_const, t65, t67]; simp [go_sem]
          · rintro e W' ⟨rfl, hw⟩; exact ⟨_, rfl, _, rfl, hw, rfl⟩
        · intro a W hb0 hs hp hi; have hb := undrew hb0; clear hb0
          have tg : sl a 59 = .bool true := hp 18 (by decide)
          have t63 : sl a 63 = .bool (decide ((v, d) = (x, y))) := hp 22 (by decide)
          have t68 : sl a 68 = .bool (decide ((v, d) = (x, y))) := hp 27 (by decide)
          refine ite_y (wanted_yes rfl rfl (by have hz : a.tmps.size = 86 := hs; rw [hz]; decide) tg) (wp_val (.bool true) ?_ ?_)
          · simp only [execOp, eval_tmp, eval_const, t63, t68]; simp [go_sem]
          · exact ⟨_, rfl, Below.refl _ _, rfl⟩
        · intro a W hb0 hs hp hi; have hb := undrew hb0; clear hb0
          have t59 : sl a 59 = .bool true := hp 18 (by decide)
          have t69 : sl a 69 = .bool true := hp 28 (by decide)
          refine ite_y rfl (wp_val (.bool true) ?_ ?_)
          · simp only [execOp, eval_tmp, eval_const, t59, t69]; simp [go_sem]
          · exact ⟨_, rfl, Below.refl _ _, rfl⟩
        · intro a W hb0 hs hp hi; have hb := undrew hb0; clear hb0
          have t70 : sl a 70 = .bool true := hp 29 (by decide)
          exact ite_y rfl (wp_val (sl a 70) rfl ⟨_, rfl, Below.refl _ _, t70⟩)
        · intro a W hb0 hs hp hi; have hb := undrew hb0; clear hb0
          have tg : sl a 71 = .bool true := hp 30 (by decide)
          have t7 : sl a 7 = .pointer (some ⟨w4.heap.size, 0, none⟩) := hi 7 (by decide)
          obtain ⟨d0, d1⟩ := cells2 ((hb.block _ h7).trans f2)
          refine ite_y (wanted_yes rfl rfl (by have hz : a.tmps.size = 86 := hs; rw [hz]; decide) tg) (wp_val (.agg #[.slice q1 m1 g1, .slice q2 m2 g2]) ?_ ?_)
          · simp only [execOp, eval_tmp, t7]; simp [go_sem, d0, d1]
          · exact ⟨_, rfl, Below.refl _ _, rfl⟩
        · intro a W hb0 hs hp hi; have hb := undrew hb0; clear hb0
          have tg : sl a 71 = .bool true := hp 30 (by decide)
          have t72 : sl a 72 = .agg #[.slice q1 m1 g1, .slice q2 m2 g2] := hp 31 (by decide)
          refine ite_y (wanted_yes rfl rfl (by have hz : a.tmps.size = 86 := hs; rw [hz]; decide) tg) (wp_enter 41 #[.agg #[.slice q1 m1 g1, .slice q2 m2 g2]] ?_ (Of03_any _ _ _ _ _ _ _) ?_)
          · simp only [execOp, resolve, List.map_toArray, List.map, eval_tmp, eval_func, eval_const, t72]; simp [go_sem]
          · rintro e W' ⟨rfl, hw⟩; exact ⟨_, rfl, _, rfl, hw, rfl⟩
        · intro a W hb0 hs hp hi; have hb := undrew hb0; clear hb0
          have tg : sl a 71 = .bool true := hp 30 (by decide)
          have t3 : sl a 3 = .pointer (some ⟨w.heap.size, 0, none⟩) := hi 3 (by decide)
          obtain ⟨d0, d1⟩ := cells2 ((hb.block _ h3).trans f0)
          refine ite_y (wanted_yes rfl rfl (by have hz : a.tmps.size = 86 := hs; rw [hz]; decide) tg) (wp_val (.agg #[.slice p1 n1 c1, .slice p2 n2 c2]) ?_ ?_)
          · simp only [execOp, eval_tmp, t3]; simp [go_sem, d0, d1]
          · exact ⟨_, rfl, Below.refl _ _, rfl⟩
        · intro a W hb0 hs hp hi; have hb := undrew hb0; clear hb0
          have tg : sl a 71 = .bool true := hp 30 (by decide)
          have t74 : sl a 74 = .agg #[.slice p1 n1 c1, .slice p2 n2 c2] := hp 33 (by decide)
          refine ite_y (wanted_yes rfl rfl (by have hz : a.tmps.size = 86 := hs; rw [hz]; decide) tg) (wp_enter 39 #[.agg #[.slice p1 n1 c1, .slice p2 n2 c2]] ?_ (ORef_any _ _ _ _ _ _ _) ?_)
          · simp only [execOp, resolve, List.map_toArray, List.map, eval_tmp, eval_func, eval_const, t74]; simp [go_sem]
          · rintro e W' ⟨rfl, hw⟩; exact ⟨_, rfl, _, rfl, hw, rfl⟩
        · intro a W hb0 hs hp hi; have hb := undrew hb0; clear hb0
          have tg : sl a 71 = .bool true := hp 30 (by decide)
          have t73 : sl a 73 = .agg #[.slice q1 m1 g1, .slice q2 m2 g2] := hp 32 (by decide)
          have t75 : sl a 75 = .agg #[.slice p1 n1 c1, .slice p2 n2 c2] := hp 34 (by decide)
          refine ite_y (wanted_yes rfl rfl (by have hz : a.tmps.size = 86 := hs; rw [hz]; decide) tg) (wp_enter 40 #[.agg #[.slice q1 m1 g1, .slice q2 m2 g2], .agg #[.slice p1 n1 c1, .slice p2 n2 c2]] ?_ (RVSame_any _ _ _ _ _ _ _ _ _ _ _ _ v d v d _ (S1.out.keep hb) (S2.out.keep hb) (H1.out.keep (bl i7 hb i7.size)) (H2.out.keep (bl i7 hb i7.size))) ?_)
          · simp only [execOp, resolve, List.map_toArray, List.map, eval_tmp, eval_func, eval_const, t73, t75]; simp [go_sem]
          · rintro e W' ⟨rfl, hw⟩; exact ⟨_, rfl, _, rfl, hw, congrArg Value.bool (decide_eq_true rfl)⟩
        · intro a W hb0 hs hp hi; have hb := undrew hb0; clear hb0
          have t71 : sl a 71 = .bool true := hp 30 (by decide)
          have t76 : sl a 76 = .bool true := hp 35 (by decide)
          refine ite_y rfl (wp_val (.bool true) ?_ ?_)
          · simp only [execOp, eval_tmp, eval_const, t71, t76]; simp [go_sem]
          · exact ⟨_, rfl, Below.refl _ _, rfl⟩
        · intro a W hb0 hs hp hi; have hb := undrew hb0; clear hb0
          have t77 : sl a 77 = .bool true := hp 36 (by decide)
          exact ite_y rfl (wp_val (sl a 77) rfl ⟨_, rfl, Below.refl _ _, t77⟩)
        · intro a W hb0 hs hp hi; have hb := undrew hb0; clear hb0
          have tg : sl a 78 = .bool true := hp 37 (by decide)
          have t7 : sl a 7 = .pointer (some ⟨w4.heap.size, 0, none⟩) := hi 7 (by decide)
          obtain ⟨d0, d1⟩ := cells2 ((hb.block _ h7).trans f2)
          refine ite_y (wanted_yes rfl rfl (by have hz : a.tmps.size = 86 := hs; rw [hz]; decide) tg) (wp_val (.agg #[.slice q1 m1 g1, .slice q2 m2 g2]) ?_ ?_)
          · simp only [execOp, eval_tmp, t7]; simp [go_sem, d0, d1]
          · exact ⟨_, rfl, Below.refl _ _, rfl⟩
        · intro a W hb0 hs hp hi; have hb := undrew hb0; clear hb0
          have tg : sl a 78 = .bool true := hp 37 (by decide)
          have t79 : sl a 79 = .agg #[.slice q1 m1 g1, .slice q2 m2 g2] := hp 38 (by decide)
          refine ite_y (wanted_yes rfl rfl (by have hz : a.tmps.size = 86 := hs; rw [hz]; decide) tg) (wp_enter 45 #[.agg #[.slice q1 m1 g1, .slice q2 m2 g2]] ?_ (RClone_any _ _ _ _ _ _ v d _ (S1.out.keep hb) (S2.out.keep hb) M1.out M2.out) ?_)
          · simp only [execOp, resolve, List.map_toArray, List.map, eval_tmp, eval_func, eval_const, t79]; simp [go_sem]
          · rintro e W' ⟨q5, m5, g5, q6, m6, g6, e5, e6, rfl, o5, o6, hw⟩
            exact ⟨_, rfl, _, rfl, hw, q5, m5, g5, q6, m6, g6, rfl, Sl.of_owns o5, Sl.of_owns o6⟩
        · intro a W hb0 hs hp hi; have hb := undrew hb0; clear hb0
          have tg : sl a 78 = .bool true := hp 37 (by decide)
          have t80 : RowIs (v, d) (sl a 80) W := hp 39 (by decide)
          obtain ⟨y80a, y80b, y80c, y80d, y80e, y80f, t80, z80a, z80b⟩ := t80
          refine ite_y (wanted_yes rfl rfl (by have hz : a.tmps.size = 86 := hs; rw [hz]; decide) tg) (wp_enter 41 #[.agg #[.slice y80a y80b y80c, .slice y80d y80e y80f]] ?_ (Of03_any _ _ _ _ _ _ _) ?_)
          · simp only [execOp, resolve, List.map_toArray, List.map, eval_tmp, eval_func, eval_const, t80]; simp [go_sem]
          · rintro e W' ⟨rfl, hw⟩; exact ⟨_, rfl, _, rfl, hw, y80a, y80b, y80c, y80d, y80e, y80f, rfl, z80a.keep hw, z80b.keep hw⟩
        · intro a W hb0 hs hp hi; have hb := undrew hb0; clear hb0
          have tg : sl a 78 = .bool true := hp 37 (by decide)
          have t3 : sl a 3 = .pointer (some ⟨w.heap.size, 0, none⟩) := hi 3 (by decide)
          obtain ⟨d0, d1⟩ := cells2 ((hb.block _ h3).trans f0)
          refine ite_y (wanted_yes rfl rfl (by have hz : a.tmps.size = 86 := hs; rw [hz]; decide) tg) (wp_val (.agg #[.slice p1 n1 c1, .slice p2 n2 c2]) ?_ ?_)
          · simp only [execOp, eval_tmp, t3]; simp [go_sem, d0, d1]
          · exact ⟨_, rfl, Below.refl _ _, rfl⟩
        · intro a W hb0 hs hp hi; have hb := undrew hb0; clear hb0
          have tg : sl a 78 = .bool true := hp 37 (by decide)
          have t82 : sl a 82 = .agg #[.slice p1 n1 c1, .slice p2 n2 c2] := hp 41 (by decide)
          refine ite_y (wanted_yes rfl rfl (by have hz : a.tmps.size = 86 := hs; rw [hz]; decide) tg) (wp_enter 39 #[.agg #[.slice p1 n1 c1, .slice p2 n2 c2]] ?_ (ORef_any _ _ _ _ _ _ _) ?_)
          · simp only [execOp, resolve, List.map_toArray, List.map, eval_tmp, eval_func, eval_const, t82]; simp [go_sem]
          · rintro e W' ⟨rfl, hw⟩; exact ⟨_, rfl, _, rfl, hw, rfl⟩
        · intro a W hb0 hs hp hi; have hb := undrew hb0; clear hb0
          have tg : sl a 78 = .bool true := hp 37 (by decide)
          have t81 : RowIs (v, d) (sl a 81) W := hp 40 (by decide)
          obtain ⟨y81a, y81b, y81c, y81d, y81e, y81f, t81, z81a, z81b⟩ := t81
          have t83 : sl a 83 = .agg #[.slice p1 n1 c1, .slice p2 n2 c2] := hp 42 (by decide)
          refine ite_y (wanted_yes rfl rfl (by have hz : a.tmps.size = 86 := hs; rw [hz]; decide) tg) (wp_enter 40 #[.agg #[.slice y81a y81b y81c, .slice y81d y81e y81f], .agg #[.slice p1 n1 c1, .slice p2 n2 c2]] ?_ (RVSame_any _ _ _ _ _ _ _ _ _ _ _ _ v d v d _ (z81a) (z81b) (H1.out.keep (bl i7 hb i7.size)) (H2.out.keep (bl i7 hb i7.size))) ?_)
          · simp only [execOp, resolve, List.map_toArray, List.map, eval_tmp, eval_func, eval_const, t81, t83]; simp [go_sem]
          · rintro e W' ⟨rfl, hw⟩; exact ⟨_, rfl, _, rfl, hw, congrArg Value.bool (decide_eq_true rfl)⟩
        · intro a W hb0 hs hp hi; have hb := undrew hb0; clear hb0
          have t78 : sl a 78 = .bool true := hp 37 (by decide)
          have t84 : sl a 84 = .bool true := hp 43 (by decide)
          refine ite_y rfl (wp_val (.bool true) ?_ ?_)
          · simp only [execOp, eval_tmp, eval_const, t78, t84]; simp [go_sem]
          · exact ⟨_, rfl, Below.refl _ _, rfl⟩
        · intro a W hb0 hs hp hi; have hb := undrew hb0; clear hb0
          have t85 : sl a 85 = .bool true := hp 44 (by decide)
          exact ite_y rfl (wp_val (sl a 85) rfl ⟨_, rfl, Below.refl _ _, t85⟩)
      · intro a w8 hb hs hd hI ht
        have ha := act_is [41, 42, 43, 44, 45, 46, 47, 48, 49, 50, 51, 52, 53, 54, 55, 56, 57, 58, 59, 60, 61, 62, 63, 64, 65, 66, 67, 68, 69, 70, 71, 72, 73, 74, 75, 76, 77, 78, 79, 80, 81, 82, 83, 84, 85, 6] hs hd ht (by decide)
        have t6 : sl a 6 = .bool true := hI 45 (by decide)
        simp only [List.foldl, t6] at ha
        generalize sl a 41 = u41 at ha
        generalize sl a 42 = u42 at ha
        generalize sl a 43 = u43 at ha
        generalize sl a 44 = u44 at ha
        generalize sl a 45 = u45 at ha
        generalize sl a 46 = u46 at ha
        generalize sl a 47 = u47 at ha
        generalize sl a 48 = u48 at ha
        generalize sl a 49 = u49 at ha
        generalize sl a 50 = u50 at ha
        generalize sl a 51 = u51 at ha
        generalize sl a 52 = u52 at ha
        generalize sl a 53 = u53 at ha
        generalize sl a 54 = u54 at ha
        generalize sl a 55 = u55 at ha
        generalize sl a 56 = u56 at ha
        generalize sl a 57 = u57 at ha
        generalize sl a 58 = u58 at ha
        generalize sl a 59 = u59 at ha
        generalize sl a 60 = u60 at ha
        generalize sl a 61 = u61 at ha
        generalize sl a 62 = u62 at ha
        generalize sl a 63 = u63 at ha
        generalize sl a 64 = u64 at ha
        generalize sl a 65 = u65 at ha
        generalize sl a 66 = u66 at ha
        generalize sl a 67 = u67 at ha
        generalize sl a 68 = u68 at ha
        generalize sl a 69 = u69 at ha
        generalize sl a 70 = u70 at ha
        generalize sl a 71 = u71 at ha
        generalize sl a 72 = u72 at ha
        generalize sl a 73 = u73 at ha
        generalize sl a 74 = u74 at ha
        generalize sl a 75 = u75 at ha
        generalize sl a 76 = u76 at ha
        generalize sl a 77 = u77 at ha
        generalize sl a 78 = u78 at ha
        generalize sl a 79 = u79 at ha
        generalize sl a 80 = u80 at ha
        generalize sl a 81 = u81 at ha
        generalize sl a 82 = u82 at ha
        generalize sl a 83 = u83 at ha
        generalize sl a 84 = u84 at ha
        generalize sl a 85 = u85 at ha
        rw [ha]; clear ha
        go_wp2_with fail
        go_ret
        exact ⟨rfl, bl i7 hb i7.size⟩
end Go.Proofs.Ythekakfddhgpcaa
