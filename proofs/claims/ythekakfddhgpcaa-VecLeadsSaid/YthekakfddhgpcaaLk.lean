/- The walk of the law VecLeads. -/
import Derived.Test.YthekakfddhgpcaaV8
import Derived.Test.YthekakfddhgpcaaLh
import Derived.Test.YthekakfddhgpcaaR4
namespace Go.Proofs.Ythekakfddhgpcaa
open Go.RowKit Go.By
set_option maxRecDepth 100000 in
set_option maxHeartbeats 2000000 in
theorem VL_yes (p1 p2 p3 p4 : Option Addr) (n1 c1 n2 c2 n3 c3 n4 c4 : Nat) (v d x y : List UInt8) (w : World) (h1 : Sl B8 w p1 n1 c1 v) (h2 : Sl B8 w p2 n2 c2 d) (h3 : Sl B8 w p3 n3 c3 x) (h4 : Sl B8 w p4 n4 c4 y)
    (b1 : n1 ≤ 100) (b2 : n2 ≤ 100) (b3 : n3 ≤ 100) (b4 : n4 ≤ 100) (hL : 0 ≤ leadS v) (hx : leadS x = leadS v) (hn : n1 = n3 ∧ n2 = n4) :
    Calls Try.prog 8 #[.agg #[.slice p1 n1 c1, .slice p2 n2 c2], .agg #[.slice p3 n3 c3, .slice p4 n4 c4]] w fun e w' => e = .returned (.bool true) ∧ Below w.heap.size w w' := by
  have H1 := Lib.hid h1; have H2 := Lib.hid h2; have H3 := Lib.hid h3; have H4 := Lib.hid h4
  have R : ∀ k : Nat, k ≤ 100 → Room k := fun k h => by unfold Room; omega
  have R1 := Lib.hid (R _ b1); have R2 := Lib.hid (R _ b2); have R3 := Lib.hid (R _ b3); have R4 := Lib.hid (R _ b4)
  have F1 : Hid (few3 n1 n2 = true) := by simp [Hid, few3, b1, b2]
  have F2 : Hid (few3 n3 n4 = true) := by simp [Hid, few3, b3, b4]
  have B : Hid (n1 ≤ 9223372036854775807 ∧ n2 ≤ 9223372036854775807 ∧ n3 ≤ 9223372036854775807 ∧ n4 ≤ 9223372036854775807) := by show _ ∧ _; omega
  have HL := Lib.hid hL; have NL := Lib.hid (norm_lead v d); have NN := Lib.hid (norm_norm v d); have NZ := Lib.hid (norm_len v d)
  have NA := Lib.hid (norm_at v d hL)
  have q1 : (normS (v, d)).1.length = x.length := by rw [NZ.out.1, h1.len, h3.len]; exact hn.1
  have q2 : (normS (v, d)).2.length = y.length := by rw [NZ.out.2, h2.len, h4.len]; exact hn.2
  have HX := Lib.hid hx
  have HS : Hid (lessS (x, y) (atS x (leadS v)) (normS (v, d)) = ((axpy (atS x (leadS v)) (normS (v, d)).1 x, axpy (atS x (leadS v)) (normS (v, d)).2 y), 0)) := if_pos ⟨q1, q2⟩
  have HS2 : Hid (lessS (axpy (atS x (leadS v)) (normS (v, d)).1 x, axpy (atS x (leadS v)) (normS (v, d)).2 y) (atS x (leadS v)) (normS (v, d)) = ((x, y), 0)) := by
    show _ = _
    unfold lessS
    rw [if_pos ⟨q1.trans (axpy_length _ _ _ q1).symm, q2.trans (axpy_length _ _ _ q2).symm⟩]
    simp only [axpy_back _ _ _ q1, axpy_back _ _ _ q2]
  have U1 : Hid ((axpy (atS x (leadS v)) (normS (v, d)).1 x).length = n3) := (axpy_length _ _ _ q1).trans h3.len
  have U2 : Hid ((axpy (atS x (leadS v)) (normS (v, d)).2 y).length = n4) := (axpy_length _ _ _ q2).trans h4.len
  have HZ : Hid (atS (axpy (atS x (leadS v)) (normS (v, d)).1 x) (leadS v) = 0 ∧ (leadS v < leadS (axpy (atS x (leadS v)) (normS (v, d)).1 x) ∨ zeroS (axpy (atS x (leadS v)) (normS (v, d)).1 x) = true)) := by
    obtain ⟨k, hk⟩ : ∃ k : Nat, leadS v = (k : Int) := ⟨(leadS v).toNat, by omega⟩
    have := less_later (normS (v, d)).1 x k q1 ((norm_lead v d).trans hk) (by rw [← hk]; exact norm_at v d hL) (hx.trans hk)
    rw [← hk] at this; exact this
  clear q1 q2
  clear h1 h2 h3 h4 R b1 b2 b3 b4 hL hx hn
  have hB : ∀ o1 o2, Below w.heap.size w ((w.alloc o1).alloc o2) := fun o1 o2 => al (al (Below.refl _ _) (Nat.le_refl _)) (by simp)
  have F : ∀ (w1 : World), Below (w.heap.size + 2) ((w.alloc (.cells #[.slice p1 n1 c1, .slice p2 n2 c2] 52)).alloc (.cells #[.slice p3 n3 c3, .slice p4 n4 c4] 52)) w1 →
      w1.heap[w.heap.size]? = some (.cells #[.slice p1 n1 c1, .slice p2 n2 c2] 52 (0, 0)) ∧ w1.heap[w.heap.size + 1]? = some (.cells #[.slice p3 n3 c3, .slice p4 n4 c4] 52 (0, 0)) := fun w1 h =>
    ⟨(h.block _ (by omega)).trans (hal (hnew rfl)), (h.block _ (by omega)).trans (hnew (by simp))⟩
  have HF := Lib.hid F; have HB := Lib.hid hB; clear F hB
  go_enter Try.func8, Try.ntmps8
  go_wp2_with fail
  refine (awake03 _).mono ?_; rintro e w1 ⟨rfl, hw1⟩
  have k1 : Below (w.heap.size + 2) _ w1 := hw1.mono (by simp)
  have i1 := bl (HB.out _ _) hw1 (by simp; omega)
  obtain ⟨f0, f1⟩ := HF.out w1 k1
  obtain ⟨f00, f01⟩ := cells2 f0; obtain ⟨f10, f11⟩ := cells2 f1; clear f0 f1
  have s1 := hw1.size
  simp at s1
  go_wp2_with fail
  refine (OFew_any _ _ _ _ _ _ _ B.out.1 B.out.2.1).mono ?_; rintro e w2 ⟨rfl, hw2⟩
  rw [F1.out]
  have k2 := k1.trans (hw2.mono (by omega))
  have i2 := bl i1 hw2 i1.size
  have s2 : w.heap.size + 2 ≤ w2.heap.size := Nat.le_trans s1 hw2.size
  obtain ⟨f0, f1⟩ := HF.out w2 k2
  obtain ⟨f00, f01⟩ := cells2 f0; obtain ⟨f10, f11⟩ := cells2 f1; clear f0 f1
  go_wp2_with fail
  refine (OFew_any _ _ _ _ _ _ _ B.out.2.2.1 B.out.2.2.2).mono ?_; rintro e w3 ⟨rfl, hw3⟩
  rw [F2.out]
  have k3 := k2.trans (hw3.mono s2)
  have i3 := bl i2 hw3 i2.size
  have s3 : w.heap.size + 2 ≤ w3.heap.size := Nat.le_trans s2 hw3.size
  obtain ⟨f0, f1⟩ := HF.out w3 k3
  obtain ⟨f00, f01⟩ := cells2 f0; obtain ⟨f10, f11⟩ := cells2 f1; clear f0 f1
  go_wp2_with fail
  refine (OMake_any _ _ _ _ _ _ v d _ (H1.out.keep i3) (H2.out.keep i3) R1.out R2.out).mono ?_; rintro e w4 ⟨q1, m1, g1, q2, m2, g2, e1, e2, rfl, o1, o2, hw4⟩
  have O1 := Lib.hid o1; have O2 := Lib.hid o2; clear o1 o2
  have k4 := k3.trans (hw4.mono s3)
  have i4 := bl i3 hw4 i3.size
  have s4 : w.heap.size + 2 ≤ w4.heap.size := Nat.le_trans s3 hw4.size
  obtain ⟨f0, f1⟩ := HF.out w4 k4
  obtain ⟨f00, f01⟩ := cells2 f0; obtain ⟨f10, f11⟩ := cells2 f1; clear f0 f1
  have k5 : Below w4.heap.size w4 (w4.alloc (.cells #[.slice q1 m1 g1, .slice q2 m2 g2] 54)) := al (Below.refl _ _) (Nat.le_refl _)
  have f2 : (w4.alloc (.cells #[.slice q1 m1 g1, .slice q2 m2 g2] 54)).heap[w4.heap.size]? = _ := hnew rfl
  have ⟨f20, f21⟩ := cells2 f2
  have h5 := lt_of_block f2
  have i5 := bl i4 k5 i4.size
  have S1 := Lib.hid ((Sl.of_owns O1.out).keep k5); have S2 := Lib.hid ((Sl.of_owns O2.out).keep k5)
  have M1 : Hid (Room m1) := rm_of S1.out (by rw [show (v, d).1.length = n1 from H1.out.len]; exact R1.out)
  have M2 : Hid (Room m2) := rm_of S2.out (by rw [show (v, d).2.length = n2 from H2.out.len]; exact R2.out)
  have k5' := k4.trans (k5.mono s4)
  have s5 : w.heap.size + 2 ≤ (w4.alloc (.cells #[.slice q1 m1 g1, .slice q2 m2 g2] 54)).heap.size := Nat.le_trans s4 k5.size
  go_wp2_with fail
  generalize w4.alloc (.cells #[.slice q1 m1 g1, .slice q2 m2 g2] 54) = w5 at k5 f2 f20 f21 h5 i5 S1 S2 k5' s5 ⊢
  refine (Norm_any _ _ _ _ _ _ v d _ S1.out S2.out M1.out M2.out).mono ?_; rintro e w6 ⟨q6a, m6a, g6a, q6b, m6b, g6b, e3, e4, rfl, o3, o4, hw6⟩
  have f5 : w6.heap[w4.heap.size]? = _ := (hw6.block _ h5).trans f2
  have ⟨f50, f51⟩ := cells2 f5
  have f50' := fun o1 => calloc (o := o1) f50
  have k7 : Below w6.heap.size w6 (w6.alloc (.cells #[.slice q6a m6a g6a, .slice q6b m6b g6b] 54)) := al (Below.refl _ _) (Nat.le_refl _)
  have f6 : (w6.alloc (.cells #[.slice q6a m6a g6a, .slice q6b m6b g6b] 54)).heap[w6.heap.size]? = _ := hnew rfl
  have f5 := (k7.block _ (lt_of_block f5)).trans f5
  have i6 := bl i5 hw6 i5.size
  have i7 := bl i6 k7 i6.size
  have k7' := (k5'.trans (hw6.mono s5)).trans (k7.mono (Nat.le_trans s5 hw6.size))
  have S1 := Lib.hid ((S1.out.keep hw6).keep k7); have S2 := Lib.hid ((S2.out.keep hw6).keep k7)
  have N1 := Lib.hid ((Sl.of_owns o3).keep k7); have N2 := Lib.hid ((Sl.of_owns o4).keep k7)
  have Q1 : Hid (Room m6a) := rm_of N1.out (by rw [NZ.out.1, H1.out.len]; exact R1.out)
  have Q2 : Hid (Room m6b) := rm_of N2.out (by rw [NZ.out.2, H2.out.len]; exact R2.out)
  have s7 : w.heap.size + 2 ≤ (w6.alloc (.cells #[.slice q6a m6a g6a, .slice q6b m6b g6b] 54)).heap.size := Nat.le_trans (Nat.le_trans s5 hw6.size) k7.size
  clear o3 o4 f20 f21 f50 f51 f2 S1 S2
  have S1 := Lib.hid (((Sl.of_owns O1.out).keep k5).keep hw6 |>.keep k7)
  clear O1 O2
  go_wp2_with fail
  generalize w6.alloc (.cells #[.slice q6a m6a g6a, .slice q6b m6b g6b] 54) = w7 at k7 f6 f5 i7 k7' S1 N1 N2 s7 ⊢
  refine (Lead_any _ _ _ v _ S1.out).mono ?_; rintro e w8 ⟨rfl, rfl⟩
  go_wp2_with fail
  have hl6 := lt_of_block f6
  obtain ⟨f0, f1⟩ := HF.out w7 k7'
  have h3 := lt_of_block f0; have h4 := lt_of_block f1
  refine wp_region_shapes (fun i => ([.val (.pointer (some ⟨w6.heap.size, 0, none⟩)), .val (.slice q6a m6a g6a), .val (.int .i64 (leadS v)), .val (.int .i64 (leadS v)), .val (.bool false), .val (.bool false), .val (.int .i64 (leadS v)), .val (.bool true), .val (.bool true), .val (.pointer (some ⟨w6.heap.size, 0, none⟩)), .val (.slice q6a m6a g6a), .val (.int .i64 (leadS v)), .val (B8 1), .val (.bool false), .val (.bool false), .val (.bool false), .val (.bool false), .val (.agg #[.slice q6a m6a g6a, .slice q6b m6b g6b]), .row (normS (normS (v, d))), .val (.agg #[.slice q6a m6a g6a, .slice q6b m6b g6b]), .val (.bool true), .val (.bool false), .val (.bool false)][i]?).getD (.any)) 128 rfl (by kernel_rfl) (by decide) (by decide) (by decide) ?_ ?_
  · refine ⟨?_, ?_, ?_, ?_, ?_, ?_, ?_, ?_, ?_, ?_, ?_, ?_, ?_, ?_, ?_, ?_, ?_, ?_, ?_, ?_, ?_, ?_, ?_, trivial⟩
    · intro a W hb0 hs hp hi; have hb := undrew hb0; clear hb0
      have t6 : sl a 6 = .pointer (some ⟨w6.heap.size, 0, none⟩) := hi 6 (by decide)
      refine ite_y rfl (wp_val (.pointer (some ⟨w6.heap.size, 0, none⟩)) ?_ ?_)
      · simp only [execOp, eval_tmp, eval_const, t6]; simp [go_sem]
      · exact ⟨_, rfl, Below.refl _ _, rfl⟩
    · intro a W hb0 hs hp hi; have hb := undrew hb0; clear hb0
      have t30 : sl a 30 = .pointer (some ⟨w6.heap.size, 0, none⟩) := hp 0 (by decide)
      obtain ⟨d0, d1⟩ := cells2 ((hb.block _ hl6).trans f6)
      refine ite_y rfl (wp_val (.slice q6a m6a g6a) ?_ ?_)
      · simp only [execOp, eval_tmp, t30]; simp [go_sem, d0, d1]
      · exact ⟨_, rfl, Below.refl _ _, rfl⟩
    · intro a W hb0 hs hp hi; have hb := undrew hb0; clear hb0
      have t31 : sl a 31 = .slice q6a m6a g6a := hp 1 (by decide)
      refine ite_y rfl (wp_enter 30 #[.slice q6a m6a g6a] ?_ (Lead_any _ _ _ (normS (v, d)).1 _ (N1.out.keep hb)) ?_)
      · simp only [execOp, resolve, List.map_toArray, List.map, eval_tmp, eval_func, eval_const, t31]; simp [go_sem]
      · rintro e W' ⟨rfl, rfl⟩; exact ⟨_, rfl, _, rfl, Below.refl _ _, by rw [NL.out]; rfl⟩
    · intro a W hb0 hs hp hi; have hb := undrew hb0; clear hb0
      have t7 : sl a 7 = .int .i64 (leadS v) := hi 7 (by decide)
      exact ite_y rfl (wp_val (sl a 7) rfl ⟨_, rfl, Below.refl _ _, t7⟩)
    · intro a W hb0 hs hp hi; have hb := undrew hb0; clear hb0
      have t32 : sl a 32 = .int .i64 (leadS v) := hp 2 (by decide)
      have t33 : sl a 33 = .int .i64 (leadS v) := hp 3 (by decide)
      refine ite_y rfl (wp_val (.bool false) ?_ ?_)
      · simp only [execOp, eval_tmp, eval_const, t32, t33]; simp [go_sem]
      · exact ⟨_, rfl, Below.refl _ _, rfl⟩
    · intro a W hb0 hs hp hi; have hb := undrew hb0; clear hb0
      have t34 : sl a 34 = .bool false := hp 4 (by decide)
      exact ite_y rfl (wp_val (sl a 34) rfl ⟨_, rfl, Below.refl _ _, t34⟩)
    · intro a W hb0 hs hp hi; have hb := undrew hb0; clear hb0
      have tg : sl a 35 = .bool false := hp 5 (by decide)
      have t7 : sl a 7 = .int .i64 (leadS v) := hi 7 (by decide)
      exact ite_y (wanted_yes rfl rfl (by have hz : a.tmps.size = 128 := hs; rw [hz]; decide) tg) (wp_val (sl a 7) rfl ⟨_, rfl, Below.refl _ _, t7⟩)
    · intro a W hb0 hs hp hi; have hb := undrew hb0; clear hb0
      have tg : sl a 35 = .bool false := hp 5 (by decide)
      have t36 : sl a 36 = .int .i64 (leadS v) := hp 6 (by decide)
      refine ite_y (wanted_yes rfl rfl (by have hz : a.tmps.size = 128 := hs; rw [hz]; decide) tg) (wp_val (.bool true) ?_ ?_)
      · simp only [execOp, eval_tmp, eval_const, t36]; simp [go_sem, HL.out]
      · exact ⟨_, rfl, Below.refl _ _, rfl⟩
    · intro a W hb0 hs hp hi; have hb := undrew hb0; clear hb0
      have tg : sl a 35 = .bool false := hp 5 (by decide)
      have t37 : sl a 37 = .bool true := hp 7 (by decide)
      exact ite_y (wanted_yes rfl rfl (by have hz : a.tmps.size = 128 := hs; rw [hz]; decide) tg) (wp_val (sl a 37) rfl ⟨_, rfl, Below.refl _ _, t37⟩)
    · intro a W hb0 hs hp hi; have hb := undrew hb0; clear hb0
      have tg : sl a 38 = .bool true := hp 8 (by decide)
      have t6 : sl a 6 = .pointer (some ⟨w6.heap.size, 0, none⟩) := hi 6 (by decide)
      refine ite_y (wanted_yes rfl rfl (by have hz : a.tmps.size = 128 := hs; rw [hz]; decide) tg) (wp_val (.pointer (some ⟨w6.heap.size, 0, none⟩)) ?_ ?_)
      · simp only [execOp, eval_tmp, eval_const, t6]; simp [go_sem]
      · exact ⟨_, rfl, Below.refl _ _, rfl⟩
    · intro a W hb0 hs hp hi; have hb := undrew hb0; clear hb0
      have tg : sl a 38 = .bool true := hp 8 (by decide)
      have t39 : sl a 39 = .pointer (some ⟨w6.heap.size, 0, none⟩) := hp 9 (by decide)
      obtain ⟨d0, d1⟩ := cells2 ((hb.block _ hl6).trans f6)
      refine ite_y (wanted_yes rfl rfl (by have hz : a.tmps.size = 128 := hs; rw [hz]; decide) tg) (wp_val (.slice q6a m6a g6a) ?_ ?_)
      · simp only [execOp, eval_tmp, t39]; simp [go_sem, d0, d1]
      · exact ⟨_, rfl, Below.refl _ _, rfl⟩
    · intro a W hb0 hs hp hi; have hb := undrew hb0; clear hb0
      have tg : sl a 38 = .bool true := hp 8 (by decide)
      have t7 : sl a 7 = .int .i64 (leadS v) := hi 7 (by decide)
      exact ite_y (wanted_yes rfl rfl (by have hz : a.tmps.size = 128 := hs; rw [hz]; decide) tg) (wp_val (sl a 7) rfl ⟨_, rfl, Below.refl _ _, t7⟩)
    · intro a W hb0 hs hp hi; have hb := undrew hb0; clear hb0
      have tg : sl a 38 = .bool true := hp 8 (by decide)
      have t40 : sl a 40 = .slice q6a m6a g6a := hp 10 (by decide)
      have t41 : sl a 41 = .int .i64 (leadS v) := hp 11 (by decide)
      refine ite_y (wanted_yes rfl rfl (by have hz : a.tmps.size = 128 := hs; rw [hz]; decide) tg) (wp_enter 33 #[.slice q6a m6a g6a, .int .i64 (leadS v)] ?_ (At_any _ _ _ (normS (v, d)).1 (leadS v) _ (N1.out.keep hb)) ?_)
      · simp only [execOp, resolve, List.map_toArray, List.map, eval_tmp, eval_func, eval_const, t40, t41]; simp [go_sem]
      · rintro e W' ⟨rfl, rfl⟩; exact ⟨_, rfl, _, rfl, Below.refl _ _, by rw [NA.out]; rfl⟩
    · intro a W hb0 hs hp hi; have hb := undrew hb0; clear hb0
      have tg : sl a 38 = .bool true := hp 8 (by decide)
      have t42 : sl a 42 = B8 1 := hp 12 (by decide)
      refine ite_y (wanted_yes rfl rfl (by have hz : a.tmps.size = 128 := hs; rw [hz]; decide) tg) (wp_val (.bool false) ?_ ?_)
      · simp only [execOp, eval_tmp, eval_const, t42]; simp [go_sem]
      · exact ⟨_, rfl, Below.refl _ _, rfl⟩
    · intro a W hb0 hs hp hi; have hb := undrew hb0; clear hb0
      have tg : sl a 35 = .bool false := hp 5 (by decide)
      have t38 : sl a 38 = .bool true := hp 8 (by decide)
      have t43 : sl a 43 = .bool false := hp 13 (by decide)
      refine ite_y (wanted_yes rfl rfl (by have hz : a.tmps.size = 128 := hs; rw [hz]; decide) tg) (wp_val (.bool false) ?_ ?_)
      · simp only [execOp, eval_tmp, eval_const, t38, t43]; simp [go_sem]
      · exact ⟨_, rfl, Below.refl _ _, rfl⟩
    · intro a W hb0 hs hp hi; have hb := undrew hb0; clear hb0
      have t35 : sl a 35 = .bool false := hp 5 (by decide)
      have t44 : sl a 44 = .bool false := hp 14 (by decide)
      refine ite_y rfl (wp_val (.bool false) ?_ ?_)
      · simp only [execOp, eval_tmp, eval_const, t35, t44]; simp [go_sem]
      · exact ⟨_, rfl, Below.refl _ _, rfl⟩
    · intro a W hb0 hs hp hi; have hb := undrew hb0; clear hb0
      have t45 : sl a 45 = .bool false := hp 15 (by decide)
      exact ite_y rfl (wp_val (sl a 45) rfl ⟨_, rfl, Below.refl _ _, t45⟩)
    · intro a W hb0 hs hp hi; have hb := undrew hb0; clear hb0
      have tg : sl a 46 = .bool false := hp 16 (by decide)
      have t6 : sl a 6 = .pointer (some ⟨w6.heap.size, 0, none⟩) := hi 6 (by decide)
      obtain ⟨d0, d1⟩ := cells2 ((hb.block _ hl6).trans f6)
      refine ite_y (wanted_yes rfl rfl (by have hz : a.tmps.size = 128 := hs; rw [hz]; decide) tg) (wp_val (.agg #[.slice q6a m6a g6a, .slice q6b m6b g6b]) ?_ ?_)
      · simp only [execOp, eval_tmp, t6]; simp [go_sem, d0, d1]
      · exact ⟨_, rfl, Below.refl _ _, rfl⟩
    · intro a W hb0 hs hp hi; have hb := undrew hb0; clear hb0
      have tg : sl a 46 = .bool false := hp 16 (by decide)
      have t47 : sl a 47 = .agg #[.slice q6a m6a g6a, .slice q6b m6b g6b] := hp 17 (by decide)
      refine ite_y (wanted_yes rfl rfl (by have hz : a.tmps.size = 128 := hs; rw [hz]; decide) tg) (wp_enter 42 #[.agg #[.slice q6a m6a g6a, .slice q6b m6b g6b]] ?_ (Norm_any _ _ _ _ _ _ (normS (v, d)).1 (normS (v, d)).2 _ (N1.out.keep hb) (N2.out.keep hb) Q1.out Q2.out) ?_)
      · simp only [execOp, resolve, List.map_toArray, List.map, eval_tmp, eval_func, eval_const, t47]; simp [go_sem]
      · rintro e W' ⟨q5, m5, g5, q6, m6, g6, e5, e6, rfl, o5, o6, hw⟩
        exact ⟨_, rfl, _, rfl, hw, q5, m5, g5, q6, m6, g6, rfl, Sl.of_owns o5, Sl.of_owns o6⟩
    · intro a W hb0 hs hp hi; have hb := undrew hb0; clear hb0
      have tg : sl a 46 = .bool false := hp 16 (by decide)
      have t6 : sl a 6 = .pointer (some ⟨w6.heap.size, 0, none⟩) := hi 6 (by decide)
      obtain ⟨d0, d1⟩ := cells2 ((hb.block _ hl6).trans f6)
      refine ite_y (wanted_yes rfl rfl (by have hz : a.tmps.size = 128 := hs; rw [hz]; decide) tg) (wp_val (.agg #[.slice q6a m6a g6a, .slice q6b m6b g6b]) ?_ ?_)
      · simp only [execOp, eval_tmp, t6]; simp [go_sem, d0, d1]
      · exact ⟨_, rfl, Below.refl _ _, rfl⟩
    · intro a W hb0 hs hp hi; have hb := undrew hb0; clear hb0
      have tg : sl a 46 = .bool false := hp 16 (by decide)
      have t48 : RowIs (normS (normS (v, d))) (sl a 48) W := hp 18 (by decide)
      obtain ⟨y48a, y48b, y48c, y48d, y48e, y48f, t48, z48a, z48b⟩ := t48
      have t49 : sl a 49 = .agg #[.slice q6a m6a g6a, .slice q6b m6b g6b] := hp 19 (by decide)
      refine ite_y (wanted_yes rfl rfl (by have hz : a.tmps.size = 128 := hs; rw [hz]; decide) tg) (wp_enter 44 #[.agg #[.slice y48a y48b y48c, .slice y48d y48e y48f], .agg #[.slice q6a m6a g6a, .slice q6b m6b g6b]] ?_ (VSame_any _ _ _ _ _ _ _ _ _ _ _ _ (normS (normS (v, d))).1 (normS (normS (v, d))).2 (normS (v, d)).1 (normS (v, d)).2 _ z48a z48b (N1.out.keep hb) (N2.out.keep hb)) ?_)
      · simp only [execOp, resolve, List.map_toArray, List.map, eval_tmp, eval_func, eval_const, t48, t49]; simp [go_sem]
      · rintro e W' ⟨rfl, hw⟩; exact ⟨_, rfl, _, rfl, hw, congrArg Value.bool (decide_eq_true (by rw [NN.out]))⟩
    · intro a W hb0 hs hp hi; have hb := undrew hb0; clear hb0
      have tg : sl a 46 = .bool false := hp 16 (by decide)
      have t50 : sl a 50 = .bool true := hp 20 (by decide)
      refine ite_y (wanted_yes rfl rfl (by have hz : a.tmps.size = 128 := hs; rw [hz]; decide) tg) (wp_val (.bool false) ?_ ?_)
      · simp only [execOp, eval_tmp, eval_const, t50]; simp [go_sem]
      · exact ⟨_, rfl, Below.refl _ _, rfl⟩
    · intro a W hb0 hs hp hi; have hb := undrew hb0; clear hb0
      have t46 : sl a 46 = .bool false := hp 16 (by decide)
      have t51 : sl a 51 = .bool false := hp 21 (by decide)
      refine ite_y rfl (wp_val (.bool false) ?_ ?_)
      · simp only [execOp, eval_tmp, eval_const, t46, t51]; simp [go_sem]
      · exact ⟨_, rfl, Below.refl _ _, rfl⟩
  · intro a w9 hb hs hd hI ht
    have ha := act_is [30, 31, 32, 33, 34, 35, 36, 37, 38, 39, 40, 41, 42, 43, 44, 45, 46, 47, 48, 49, 50, 51, 52] hs hd ht (by decide)
    have t52 : sl a 52 = .bool false := hI 22 (by decide)
    simp only [List.foldl, t52] at ha
    generalize sl a 30 = u30 at ha
    generalize sl a 31 = u31 at ha
    generalize sl a 32 = u32 at ha
    generalize sl a 33 = u33 at ha
    generalize sl a 34 = u34 at ha
    generalize sl a 35 = u35 at ha
    generalize sl a 36 = u36 at ha
    generalize sl a 37 = u37 at ha
    generalize sl a 38 = u38 at ha
    generalize sl a 39 = u39 at ha
    generalize sl a 40 = u40 at ha
    generalize sl a 41 = u41 at ha
    generalize sl a 42 = u42 at ha
    generalize sl a 43 = u43 at ha
    generalize sl a 44 = u44 at ha
    generalize sl a 45 = u45 at ha
    generalize sl a 46 = u46 at ha
    generalize sl a 47 = u47 at ha
    generalize sl a 48 = u48 at ha
    generalize sl a 49 = u49 at ha
    generalize sl a 50 = u50 at ha
    generalize sl a 51 = u51 at ha
    simp only [Act.put, List.setIfInBounds_toArray, List.set_cons_zero, List.set_cons_succ] at ha
    have i9 := bl i7 hb i7.size
    have f6 := (hb.block _ hl6).trans f6
    have k9 := k7'.trans (hb.mono s7)
    have s9 := Nat.le_trans s7 hb.size
    obtain ⟨f0, f1⟩ := HF.out w9 k9
    have ⟨f10, f11⟩ := cells2 f1
    have N1 := Lib.hid (N1.out.keep hb); have N2 := Lib.hid (N2.out.keep hb)
    have hl6 := lt_of_block f6
    rw [ha]; clear ha hI ht
    go_wp2_with fail
    refine (OMake_any _ _ _ _ _ _ x y _ (H3.out.keep i9) (H4.out.keep i9) R3.out R4.out).mono ?_; rintro e w10 ⟨q8a, m8a, g8a, q8b, m8b, g8b, e5, e6, rfl, o5, o6, hw10⟩
    have k11 : Below w10.heap.size w10 (w10.alloc (.cells #[.slice q8a m8a g8a, .slice q8b m8b g8b] 54)) := al (Below.refl _ _) (Nat.le_refl _)
    have f8 : (w10.alloc (.cells #[.slice q8a m8a g8a, .slice q8b m8b g8b] 54)).heap[w10.heap.size]? = _ := hnew rfl
    have j11 := hw10.trans (k11.mono hw10.size)
    have i11 := bl i9 j11 i9.size
    have f6 := (j11.block _ hl6).trans f6
    have hl6 := lt_of_block f6; have hl8 := lt_of_block f8
    have k11' := k9.trans (j11.mono s9)
    have s11 := Nat.le_trans s9 j11.size
    have N1 := Lib.hid (N1.out.keep j11); have N2 := Lib.hid (N2.out.keep j11)
    have O1 := Lib.hid ((Sl.of_owns o5).keep k11); have O2 := Lib.hid ((Sl.of_owns o6).keep k11)
    have P1 : Hid (Room m8a) := rm_of O1.out (by rw [H3.out.len]; exact R3.out)
    have P2 : Hid (Room m8b) := rm_of O2.out (by rw [H4.out.len]; exact R4.out)
    have ⟨f80, f81⟩ := cells2 f8
    clear o5 o6 f0 f10 f11
    have g1 : ¬ leadS v < 0 := Int.not_lt.2 HL.out
    go_wp2_with fail
    generalize w10.alloc (.cells #[.slice q8a m8a g8a, .slice q8b m8b g8b] 54) = w11 at k11 f8 j11 i11 f6 hl6 hl8 k11' s11 N1 N2 O1 O2 f80 f81 ⊢
    refine (Lead_any _ _ _ x _ O1.out).mono ?_; rintro e w12 ⟨rfl, rfl⟩
    have g2 : (leadS x != leadS v) = false := by simpa using HX.out
    go_wp2_with fail
    have hl6 := lt_of_block f6; have hl8 := lt_of_block f8
    have ne : (5 : Nat) ≠ 54 := by decide
    refine wp_region_boxed 54 (fun i => ([.val _ _ (.agg #[.slice q8a m8a g8a, .slice q8b m8b g8b]), .val _ _ (.pointer (some ⟨w10.heap.size, 0, none⟩)), .val _ _ (.slice q8a m8a g8a), .val _ _ (.int .i64 (leadS v)), .val _ _ (B8 (atS x (leadS v))), .val _ _ (.agg #[.slice q6a m6a g6a, .slice q6b m6b g6b]), .rowT _ _ ((lessS (x, y) (atS x (leadS v)) (normS (v, d))).1) ((lessS (x, y) (atS x (leadS v)) (normS (v, d))).2), .rowT _ _ ((lessS (x, y) (atS x (leadS v)) (normS (v, d))).1) ((lessS (x, y) (atS x (leadS v)) (normS (v, d))).2), .row _ _ ((lessS (x, y) (atS x (leadS v)) (normS (v, d))).1), .val _ _ (.int .i64 (lessS (x, y) (atS x (leadS v)) (normS (v, d))).2), .box _ _ 2, .any _ _, .val _ _ (.int .i64 (lessS (x, y) (atS x (leadS v)) (normS (v, d))).2)][i]?).getD (.any _ _)) 11 9 (.row _ _ ((lessS (x, y) (atS x (leadS v)) (normS (v, d))).1)) 128 rfl (by kernel_rfl) (by decide) (by decide) (by decide) ?_ ?_
    · refine ⟨?_, ?_, ?_, ?_, ?_, ?_, ?_, ?_, ?_, ?_, ?_, ?_, ?_, trivial⟩
      · intro a W hb hs hp hi
        have t8 : sl a 8 = .pointer (some ⟨w10.heap.size, 0, none⟩) := hi 8 (by decide)
        obtain ⟨d0, d1⟩ := cells2 ((hb.block _ hl8).trans f8)
        refine ite_y rfl (wp_val (.agg #[.slice q8a m8a g8a, .slice q8b m8b g8b]) ?_ ?_)
        · simp only [execOp, eval_tmp, t8]; simp [go_sem, d0, d1]
        · exact ⟨_, rfl, Below.refl _ _, rfl⟩
      · intro a W hb hs hp hi
        have t8 : sl a 8 = .pointer (some ⟨w10.heap.size, 0, none⟩) := hi 8 (by decide)
        refine ite_y rfl (wp_val (.pointer (some ⟨w10.heap.size, 0, none⟩)) ?_ ?_)
        · simp only [execOp, eval_tmp, eval_const, t8]; simp [go_sem]
        · exact ⟨_, rfl, Below.refl _ _, rfl⟩
      · intro a W hb hs hp hi
        have t66 : sl a 66 = .pointer (some ⟨w10.heap.size, 0, none⟩) := hp 1 (by decide)
        obtain ⟨d0, d1⟩ := cells2 ((hb.block _ hl8).trans f8)
        refine ite_y rfl (wp_val (.slice q8a m8a g8a) ?_ ?_)
        · simp only [execOp, eval_tmp, t66]; simp [go_sem, d0, d1]
        · exact ⟨_, rfl, Below.refl _ _, rfl⟩
      · intro a W hb hs hp hi
        have t7 : sl a 7 = .int .i64 (leadS v) := hi 7 (by decide)
        exact ite_y rfl (wp_val (sl a 7) rfl ⟨_, rfl, Below.refl _ _, t7⟩)
      · intro a W hb hs hp hi
        have t67 : sl a 67 = .slice q8a m8a g8a := hp 2 (by decide)
        have t68 : sl a 68 = .int .i64 (leadS v) := hp 3 (by decide)
        refine ite_y rfl (wp_enter 33 #[.slice q8a m8a g8a, .int .i64 (leadS v)] ?_ (At_any _ _ _ x (leadS v) _ (O1.out.keep hb)) ?_)
        · simp only [execOp, resolve, List.map_toArray, List.map, eval_tmp, eval_func, eval_const, t67, t68]; simp [go_sem]
        · rintro e W' ⟨rfl, rfl⟩; exact ⟨_, rfl, _, rfl, Below.refl _ _, rfl⟩
      · intro a W hb hs hp hi
        have t6 : sl a 6 = .pointer (some ⟨w6.heap.size, 0, none⟩) := hi 6 (by decide)
        obtain ⟨d0, d1⟩ := cells2 ((hb.block _ hl6).trans f6)
        refine ite_y rfl (wp_val (.agg #[.slice q6a m6a g6a, .slice q6b m6b g6b]) ?_ ?_)
        · simp only [execOp, eval_tmp, t6]; simp [go_sem, d0, d1]
        · exact ⟨_, rfl, Below.refl _ _, rfl⟩
      · intro a W hb hs hp hi
        have t65 : sl a 65 = .agg #[.slice q8a m8a g8a, .slice q8b m8b g8b] := hp 0 (by decide)
        have t69 : sl a 69 = B8 (atS x (leadS v)) := hp 4 (by decide)
        have t70 : sl a 70 = .agg #[.slice q6a m6a g6a, .slice q6b m6b g6b] := hp 5 (by decide)
        refine ite_y rfl (wp_enter 37 #[.agg #[.slice q8a m8a g8a, .slice q8b m8b g8b], B8 (atS x (leadS v)), .agg #[.slice q6a m6a g6a, .slice q6b m6b g6b]] ?_ (Less_any _ _ _ _ _ _ _ _ _ _ _ _ x y (normS (v, d)).1 (normS (v, d)).2 (atS x (leadS v)) _ (O1.out.keep hb) (O2.out.keep hb) (N1.out.keep hb) (N2.out.keep hb) P1.out P2.out) ?_)
        · simp only [execOp, resolve, List.map_toArray, List.map, eval_tmp, eval_func, eval_const, t65, t69, t70]; simp [go_sem]
        · rintro e W' ⟨q5, m5, g5, q6, m6, g6, e5, e6, rfl, o5, o6, hw⟩
          exact ⟨_, rfl, _, rfl, hw, _, rfl, XRow.of_owns ne o5 o6⟩
      · intro a W hb hs hp hi
        exact ite_y rfl (wp_val (sl a 71) rfl ⟨_, rfl, Below.refl _ _, hp 6 (by decide)⟩)
      · intro a W hb hs hp hi
        have t64 : XRowT _ _ ((lessS (x, y) (atS x (leadS v)) (normS (v, d))).1) ((lessS (x, y) (atS x (leadS v)) (normS (v, d))).2) (sl a 64) W := hp 7 (by decide)
        obtain ⟨u, t64, hr⟩ := t64
        refine ite_y rfl (wp_val (u) ?_ ?_)
        · simp only [execOp, eval_tmp, t64]; rfl
        · exact ⟨_, rfl, Below.refl _ _, hr⟩
      · intro a W hb hs hp hi
        have t64 : XRowT _ _ ((lessS (x, y) (atS x (leadS v)) (normS (v, d))).1) ((lessS (x, y) (atS x (leadS v)) (normS (v, d))).2) (sl a 64) W := hp 7 (by decide)
        obtain ⟨u, t64, hr⟩ := t64
        refine ite_y rfl (wp_val (.int .i64 (lessS (x, y) (atS x (leadS v)) (normS (v, d))).2) ?_ ?_)
        · simp only [execOp, eval_tmp, t64]; rfl
        · exact ⟨_, rfl, Below.refl _ _, rfl⟩
      · intro a W hb hs hp hi
        refine ite_y rfl (wp_val' (w' := W.alloc (.cells #[.slice none 0 0, .slice none 0 0] 54)) (.pointer (some ⟨W.heap.size, 0, none⟩)) ?_ ?_)
        · simp only [execOp]; simp [go_sem]
        · exact ⟨_, rfl, al (Below.refl _ _) (Nat.le_refl _), W.heap.size, #[.slice none 0 0, .slice none 0 0], rfl, hb.size, rfl, hnew rfl⟩
      · intro a W hb hs hp hi
        have tu : XRow _ _ _ (sl a 72) W := hp 8 (by decide)
        have tb : XBox _ _ _ (sl a 9) W := hp 10 (by decide)
        obtain ⟨q5, m5, g5, q6, m6, g6, tu, z5, z6⟩ := tu
        obtain ⟨b, cs, tb, hB, hc, hh⟩ := tb
        obtain ⟨u0, u1, rfl⟩ := size2 hc
        obtain ⟨d0, d1⟩ := cells2 hh
        have z0 : W.frozen? ⟨b, 0, none⟩ = false := frozen_of_row _ _ 0 _ _ hh
        have z1 : W.frozen? ⟨b, 1, none⟩ = false := frozen_of_row _ _ 1 _ _ hh
        refine ite_y rfl (wp_skipX (w' := (W.setCell ⟨b, 0, none⟩ (.slice q5 m5 g5)).setCell ⟨b, 1, none⟩ (.slice q6 m6 g6)) ?_ ?_)
        · simp only [execOp, eval_tmp, tu, tb]; simp [go_sem, d0, d1, z0, z1]
        · have hst := stepX_set2 (v0 := .slice q5 m5 g5) (v1 := .slice q6 m6 g6) hB hh
          exact ⟨_, rfl, hst, b, _, tb, hB, heap_set2 hh, XRow.step (by exact ⟨q5, m5, g5, q6, m6, g6, rfl, z5, z6⟩) hst⟩
      · intro a W hb hs hp hi
        have t73 : sl a 73 = .int .i64 (lessS (x, y) (atS x (leadS v)) (normS (v, d))).2 := hp 9 (by decide)
        exact ite_y rfl (wp_val (sl a 73) rfl ⟨_, rfl, Below.refl _ _, t73⟩)
    · intro a w13 hb hs hd hI ht
      have ha := act_is [65, 66, 67, 68, 69, 70, 71, 64, 72, 73, 9, 10] hs hd ht (by decide)
      have tb : Boxed _ _ _ _ (sl a) w13 := hI 11 (by decide)
      obtain ⟨b9, cs, tb, hB9, h9, q9a, m9a, g9a, q9b, m9b, g9b, ec, ⟨z9a, -⟩, ⟨z9b, -⟩⟩ := tb
      obtain rfl : cs = #[.slice q9a m9a g9a, .slice q9b m9b g9b] := by injection ec
      have t10 : sl a 10 = .int .i64 (lessS (x, y) (atS x (leadS v)) (normS (v, d))).2 := hI 12 (by decide)
      simp only [List.foldl, tb, t10] at ha
      generalize sl a 65 = u65 at ha
      generalize sl a 66 = u66 at ha
      generalize sl a 67 = u67 at ha
      generalize sl a 68 = u68 at ha
      generalize sl a 69 = u69 at ha
      generalize sl a 70 = u70 at ha
      generalize sl a 71 = u71 at ha
      generalize sl a 64 = u64 at ha
      generalize sl a 72 = u72 at ha
      generalize sl a 73 = u73 at ha
      simp only [Act.put, List.setIfInBounds_toArray, List.set_cons_zero, List.set_cons_succ] at ha
      have i13 := bl i11 hb i11.size
      have t10' : sl a 10 = .int .i64 0 := by rw [t10, HS.out]
      have Z9a : Hid (Sl B8 w13 q9a m9a g9a (axpy (atS x (leadS v)) (normS (v, d)).1 x)) := by show Sl _ _ _ _ _ _; rw [HS.out] at z9a; exact z9a
      have Z9b : Hid (Sl B8 w13 q9b m9b g9b (axpy (atS x (leadS v)) (normS (v, d)).2 y)) := by show Sl _ _ _ _ _ _; rw [HS.out] at z9b; exact z9b
      clear z9a z9b
      have V1 : Hid (Room m9a) := rm_of Z9a.out (by rw [U1.out]; exact R3.out)
      have V2 : Hid (Room m9b) := rm_of Z9b.out (by rw [U2.out]; exact R4.out)
      have f6 := (hb.block _ hl6).trans f6
      have f8 := (hb.block _ hl8).trans f8
      have hl6 := lt_of_block f6; have hl8 := lt_of_block f8; have hl9 := lt_of_block h9
      have N1 := Lib.hid (N1.out.keep hb); have N2 := Lib.hid (N2.out.keep hb)
      have O1 := Lib.hid (O1.out.keep hb); have O2 := Lib.hid (O2.out.keep hb)
      rw [HS.out] at ha
      rw [ha]; clear ha hI ht t10 t10' f80 f81
      go_wp2_with fail
      have ne : (5 : Nat) ≠ 54 := by decide
      refine wp_region_boxed 54 (fun i => ([.val _ _ (.agg #[.slice q9a m9a g9a, .slice q9b m9b g9b]), .val _ _ (.pointer (some ⟨w10.heap.size, 0, none⟩)), .val _ _ (.slice q8a m8a g8a), .val _ _ (.int .i64 (leadS v)), .val _ _ (B8 (atS x (leadS v))), .val _ _ (.agg #[.slice q6a m6a g6a, .slice q6b m6b g6b]), .rowT _ _ ((lessS (axpy (atS x (leadS v)) (normS (v, d)).1 x, axpy (atS x (leadS v)) (normS (v, d)).2 y) (atS x (leadS v)) (normS (v, d))).1) ((lessS (axpy (atS x (leadS v)) (normS (v, d)).1 x, axpy (atS x (leadS v)) (normS (v, d)).2 y) (atS x (leadS v)) (normS (v, d))).2), .rowT _ _ ((lessS (axpy (atS x (leadS v)) (normS (v, d)).1 x, axpy (atS x (leadS v)) (normS (v, d)).2 y) (atS x (leadS v)) (normS (v, d))).1) ((lessS (axpy (atS x (leadS v)) (normS (v, d)).1 x, axpy (atS x (leadS v)) (normS (v, d)).2 y) (atS x (leadS v)) (normS (v, d))).2), .row _ _ ((lessS (axpy (atS x (leadS v)) (normS (v, d)).1 x, axpy (atS x (leadS v)) (normS (v, d)).2 y) (atS x (leadS v)) (normS (v, d))).1), .val _ _ (.int .i64 (lessS (axpy (atS x (leadS v)) (normS (v, d)).1 x, axpy (atS x (leadS v)) (normS (v, d)).2 y) (atS x (leadS v)) (normS (v, d))).2), .box _ _ 2, .any _ _, .val _ _ (.int .i64 (lessS (axpy (atS x (leadS v)) (normS (v, d)).1 x, axpy (atS x (leadS v)) (normS (v, d)).2 y) (atS x (leadS v)) (normS (v, d))).2)][i]?).getD (.any _ _)) 11 11 (.row _ _ ((lessS (axpy (atS x (leadS v)) (normS (v, d)).1 x, axpy (atS x (leadS v)) (normS (v, d)).2 y) (atS x (leadS v)) (normS (v, d))).1)) 128 rfl (by kernel_rfl) (by decide) (by decide) (by decide) ?_ ?_
      · refine ⟨?_, ?_, ?_, ?_, ?_, ?_, ?_, ?_, ?_, ?_, ?_, ?_, ?_, trivial⟩
        · intro a W hb hs hp hi
          have t9 : sl a 9 = .pointer (some ⟨b9, 0, none⟩) := hi 9 (by decide)
          obtain ⟨d0, d1⟩ := cells2 ((hb.block _ hl9).trans h9)
          refine ite_y rfl (wp_val (.agg #[.slice q9a m9a g9a, .slice q9b m9b g9b]) ?_ ?_)
          · simp only [execOp, eval_tmp, t9]; simp [go_sem, d0, d1]
          · exact ⟨_, rfl, Below.refl _ _, rfl⟩
        · intro a W hb hs hp hi
          have t8 : sl a 8 = .pointer (some ⟨w10.heap.size, 0, none⟩) := hi 8 (by decide)
          refine ite_y rfl (wp_val (.pointer (some ⟨w10.heap.size, 0, none⟩)) ?_ ?_)
          · simp only [execOp, eval_tmp, eval_const, t8]; simp [go_sem]
          · exact ⟨_, rfl, Below.refl _ _, rfl⟩
        · intro a W hb hs hp hi
          have t94 : sl a 94 = .pointer (some ⟨w10.heap.size, 0, none⟩) := hp 1 (by decide)
          obtain ⟨d0, d1⟩ := cells2 ((hb.block _ hl8).trans f8)
          refine ite_y rfl (wp_val (.slice q8a m8a g8a) ?_ ?_)
          · simp only [execOp, eval_tmp, t94]; simp [go_sem, d0, d1]
          · exact ⟨_, rfl, Below.refl _ _, rfl⟩
        · intro a W hb hs hp hi
          have t7 : sl a 7 = .int .i64 (leadS v) := hi 7 (by decide)
          exact ite_y rfl (wp_val (sl a 7) rfl ⟨_, rfl, Below.refl _ _, t7⟩)
        · intro a W hb hs hp hi
          have t95 : sl a 95 = .slice q8a m8a g8a := hp 2 (by decide)
          have t96 : sl a 96 = .int .i64 (leadS v) := hp 3 (by decide)
          refine ite_y rfl (wp_enter 33 #[.slice q8a m8a g8a, .int .i64 (leadS v)] ?_ (At_any _ _ _ x (leadS v) _ (O1.out.keep hb)) ?_)
          · simp only [execOp, resolve, List.map_toArray, List.map, eval_tmp, eval_func, eval_const, t95, t96]; simp [go_sem]
          · rintro e W' ⟨rfl, rfl⟩; exact ⟨_, rfl, _, rfl, Below.refl _ _, rfl⟩
        · intro a W hb hs hp hi
          have t6 : sl a 6 = .pointer (some ⟨w6.heap.size, 0, none⟩) := hi 6 (by decide)
          obtain ⟨d0, d1⟩ := cells2 ((hb.block _ hl6).trans f6)
          refine ite_y rfl (wp_val (.agg #[.slice q6a m6a g6a, .slice q6b m6b g6b]) ?_ ?_)
          · simp only [execOp, eval_tmp, t6]; simp [go_sem, d0, d1]
          · exact ⟨_, rfl, Below.refl _ _, rfl⟩
        · intro a W hb hs hp hi
          have t93 : sl a 93 = .agg #[.slice q9a m9a g9a, .slice q9b m9b g9b] := hp 0 (by decide)
          have t97 : sl a 97 = B8 (atS x (leadS v)) := hp 4 (by decide)
          have t98 : sl a 98 = .agg #[.slice q6a m6a g6a, .slice q6b m6b g6b] := hp 5 (by decide)
          refine ite_y rfl (wp_enter 37 #[.agg #[.slice q9a m9a g9a, .slice q9b m9b g9b], B8 (atS x (leadS v)), .agg #[.slice q6a m6a g6a, .slice q6b m6b g6b]] ?_ (Less_any _ _ _ _ _ _ _ _ _ _ _ _ (axpy (atS x (leadS v)) (normS (v, d)).1 x) (axpy (atS x (leadS v)) (normS (v, d)).2 y) (normS (v, d)).1 (normS (v, d)).2 (atS x (leadS v)) _ (Z9a.out.keep hb) (Z9b.out.keep hb) (N1.out.keep hb) (N2.out.keep hb) V1.out V2.out) ?_)
          · simp only [execOp, resolve, List.map_toArray, List.map, eval_tmp, eval_func, eval_const, t93, t97, t98]; simp [go_sem]
          · rintro e W' ⟨q5, m5, g5, q6, m6, g6, e5, e6, rfl, o5, o6, hw⟩
            exact ⟨_, rfl, _, rfl, hw, _, rfl, XRow.of_owns ne o5 o6⟩
        · intro a W hb hs hp hi
          exact ite_y rfl (wp_val (sl a 99) rfl ⟨_, rfl, Below.refl _ _, hp 6 (by decide)⟩)
        · intro a W hb hs hp hi
          have t92 : XRowT _ _ ((lessS (axpy (atS x (leadS v)) (normS (v, d)).1 x, axpy (atS x (leadS v)) (normS (v, d)).2 y) (atS x (leadS v)) (normS (v, d))).1) ((lessS (axpy (atS x (leadS v)) (normS (v, d)).1 x, axpy (atS x (leadS v)) (normS (v, d)).2 y) (atS x (leadS v)) (normS (v, d))).2) (sl a 92) W := hp 7 (by decide)
          obtain ⟨u, t92, hr⟩ := t92
          refine ite_y rfl (wp_val (u) ?_ ?_)
          · simp only [execOp, eval_tmp, t92]; rfl
          · exact ⟨_, rfl, Below.refl _ _, hr⟩
        · intro a W hb hs hp hi
          have t92 : XRowT _ _ ((lessS (axpy (atS x (leadS v)) (normS (v, d)).1 x, axpy (atS x (leadS v)) (normS (v, d)).2 y) (atS x (leadS v)) (normS (v, d))).1) ((lessS (axpy (atS x (leadS v)) (normS (v, d)).1 x, axpy (atS x (leadS v)) (normS (v, d)).2 y) (atS x (leadS v)) (normS (v, d))).2) (sl a 92) W := hp 7 (by decide)
          obtain ⟨u, t92, hr⟩ := t92
          refine ite_y rfl (wp_val (.int .i64 (lessS (axpy (atS x (leadS v)) (normS (v, d)).1 x, axpy (atS x (leadS v)) (normS (v, d)).2 y) (atS x (leadS v)) (normS (v, d))).2) ?_ ?_)
          · simp only [execOp, eval_tmp, t92]; rfl
          · exact ⟨_, rfl, Below.refl _ _, rfl⟩
        · intro a W hb hs hp hi
          refine ite_y rfl (wp_val' (w' := W.alloc (.cells #[.slice none 0 0, .slice none 0 0] 54)) (.pointer (some ⟨W.heap.size, 0, none⟩)) ?_ ?_)
          · simp only [execOp]; simp [go_sem]
          · exact ⟨_, rfl, al (Below.refl _ _) (Nat.le_refl _), W.heap.size, #[.slice none 0 0, .slice none 0 0], rfl, hb.size, rfl, hnew rfl⟩
        · intro a W hb hs hp hi
          have tu : XRow _ _ _ (sl a 100) W := hp 8 (by decide)
          have tb : XBox _ _ _ (sl a 11) W := hp 10 (by decide)
          obtain ⟨q5, m5, g5, q6, m6, g6, tu, z5, z6⟩ := tu
          obtain ⟨b, cs, tb, hB, hc, hh⟩ := tb
          obtain ⟨u0, u1, rfl⟩ := size2 hc
          obtain ⟨d0, d1⟩ := cells2 hh
          have z0 : W.frozen? ⟨b, 0, none⟩ = false := frozen_of_row _ _ 0 _ _ hh
          have z1 : W.frozen? ⟨b, 1, none⟩ = false := frozen_of_row _ _ 1 _ _ hh
          refine ite_y rfl (wp_skipX (w' := (W.setCell ⟨b, 0, none⟩ (.slice q5 m5 g5)).setCell ⟨b, 1, none⟩ (.slice q6 m6 g6)) ?_ ?_)
          · simp only [execOp, eval_tmp, tu, tb]; simp [go_sem, d0, d1, z0, z1]
          · have hst := stepX_set2 (v0 := .slice q5 m5 g5) (v1 := .slice q6 m6 g6) hB hh
            exact ⟨_, rfl, hst, b, _, tb, hB, heap_set2 hh, XRow.step (by exact ⟨q5, m5, g5, q6, m6, g6, rfl, z5, z6⟩) hst⟩
        · intro a W hb hs hp hi
          have t101 : sl a 101 = .int .i64 (lessS (axpy (atS x (leadS v)) (normS (v, d)).1 x, axpy (atS x (leadS v)) (normS (v, d)).2 y) (atS x (leadS v)) (normS (v, d))).2 := hp 9 (by decide)
          exact ite_y rfl (wp_val (sl a 101) rfl ⟨_, rfl, Below.refl _ _, t101⟩)
      · intro a w16 hb hs hd hI ht
        have ha := act_is [93, 94, 95, 96, 97, 98, 99, 92, 100, 101, 11, 12] hs hd ht (by decide)
        have tb : Boxed _ _ _ _ (sl a) w16 := hI 11 (by decide)
        obtain ⟨b11, cs, tb, hB11, h11, q11a, m11a, g11a, q11b, m11b, g11b, ec, ⟨z11a, -⟩, ⟨z11b, -⟩⟩ := tb
        obtain rfl : cs = #[.slice q11a m11a g11a, .slice q11b m11b g11b] := by injection ec
        have t12 : sl a 12 = .int .i64 (lessS (axpy (atS x (leadS v)) (normS (v, d)).1 x, axpy (atS x (leadS v)) (normS (v, d)).2 y) (atS x (leadS v)) (normS (v, d))).2 := hI 12 (by decide)
        simp only [List.foldl, tb, t12] at ha
        generalize sl a 93 = u93 at ha
        generalize sl a 94 = u94 at ha
        generalize sl a 95 = u95 at ha
        generalize sl a 96 = u96 at ha
        generalize sl a 97 = u97 at ha
        generalize sl a 98 = u98 at ha
        generalize sl a 99 = u99 at ha
        generalize sl a 92 = u92 at ha
        generalize sl a 100 = u100 at ha
        generalize sl a 101 = u101 at ha
        simp only [Act.put, List.setIfInBounds_toArray, List.set_cons_zero, List.set_cons_succ] at ha
        have i16 := bl i13 hb i13.size
        have t12' : sl a 12 = .int .i64 0 := by rw [t12, HS2.out]
        have Z11a : Hid (Sl B8 w16 q11a m11a g11a x) := by show Sl _ _ _ _ _ _; rw [HS2.out] at z11a; exact z11a
        have Z11b : Hid (Sl B8 w16 q11b m11b g11b y) := by show Sl _ _ _ _ _ _; rw [HS2.out] at z11b; exact z11b
        clear z11a z11b
        have f8 := (hb.block _ hl8).trans f8
        have f9 := (hb.block _ hl9).trans h9
        have hl8 := lt_of_block f8; have hl9 := lt_of_block f9
        have O1 := Lib.hid (O1.out.keep hb); have O2 := Lib.hid (O2.out.keep hb)
        have Z9a := Lib.hid (Z9a.out.keep hb)
        have ⟨f80, f81⟩ := cells2 f8
        have ⟨f90, f91⟩ := cells2 f9
        have ⟨fb0, fb1⟩ := cells2 h11
        rw [HS2.out] at ha
        rw [ha]; clear ha hI ht t12 t12' hB9 hB11 h9 h11
        go_wp2_with fail
        refine (VSame_any _ _ _ _ _ _ _ _ _ _ _ _ x y x y _ Z11a.out Z11b.out O1.out O2.out).mono ?_; rintro e w17 ⟨rfl, hb7⟩
        rw [decide_eq_true rfl]
        have i17 := bl i16 hb7 i16.size
        have f9 := (hb7.block _ hl9).trans f9
        have ⟨f90, f91⟩ := cells2 f9
        have Z9a := Lib.hid (Z9a.out.keep hb7)
        clear f80 f81 fb0 fb1 f8 f6
        go_wp2_with fail
        refine (Lead_any _ _ _ (axpy (atS x (leadS v)) (normS (v, d)).1 x) _ Z9a.out).mono ?_; rintro e w18 ⟨rfl, rfl⟩
        by_cases q : leadS v < leadS (axpy (atS x (leadS v)) (normS (v, d)).1 x)
        · go_wp2_with fail
          refine (At_any _ _ _ (axpy (atS x (leadS v)) (normS (v, d)).1 x) (leadS v) _ Z9a.out).mono ?_; rintro e w19 ⟨rfl, rfl⟩
          rw [HZ.out.1]
          go_wp2_with fail
          go_ret
          exact ⟨rfl, i17⟩
        · have HQ : Hid (zeroS (axpy (atS x (leadS v)) (normS (v, d)).1 x) = true) := HZ.out.2.resolve_left q
          have q' : leadS (axpy (atS x (leadS v)) (normS (v, d)).1 x) ≤ leadS v := Int.not_lt.1 q
          clear q
          go_wp2_with fail
          refine (VZero_any _ _ _ (axpy (atS x (leadS v)) (normS (v, d)).1 x) _ Z9a.out).mono ?_; rintro e w19 ⟨rfl, rfl⟩
          rw [HQ.out]
          go_wp2_with fail
          refine (At_any _ _ _ (axpy (atS x (leadS v)) (normS (v, d)).1 x) (leadS v) _ Z9a.out).mono ?_; rintro e w20 ⟨rfl, rfl⟩
          rw [HZ.out.1]
          go_wp2_with fail
          go_ret
          exact ⟨rfl, i17⟩
end Go.Proofs.Ythekakfddhgpcaa
