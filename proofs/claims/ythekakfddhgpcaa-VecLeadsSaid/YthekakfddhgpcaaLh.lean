/- The walk of the law VecLeads. -/
import Derived.Test.YthekakfddhgpcaaV8
import Derived.Test.YthekakfddhgpcaaM2
import Derived.Test.YthekakfddhgpcaaR4
namespace Go.Proofs.Ythekakfddhgpcaa
open Go.RowKit Go.By
theorem rm_of {p : Option Addr} {n c : Nat} {xs : List UInt8} {w : World} (h : Sl B8 w p n c xs) (hr : Room xs.length) : Room n := by rw [← h.len]; exact hr
set_option maxRecDepth 100000 in
set_option maxHeartbeats 2000000 in
theorem VL_neg (p1 p2 p3 p4 : Option Addr) (n1 c1 n2 c2 n3 c3 n4 c4 : Nat) (v d x y : List UInt8) (w : World) (h1 : Sl B8 w p1 n1 c1 v) (h2 : Sl B8 w p2 n2 c2 d) (h3 : Sl B8 w p3 n3 c3 x) (h4 : Sl B8 w p4 n4 c4 y)
    (b1 : n1 ≤ 100) (b2 : n2 ≤ 100) (b3 : n3 ≤ 100) (b4 : n4 ≤ 100) (hL : leadS v < 0) :
    Calls Try.prog 8 #[.agg #[.slice p1 n1 c1, .slice p2 n2 c2], .agg #[.slice p3 n3 c3, .slice p4 n4 c4]] w fun e w' => e = .returned (.bool true) ∧ Below w.heap.size w w' := by
  have H1 := Lib.hid h1; have H2 := Lib.hid h2; have H3 := Lib.hid h3; have H4 := Lib.hid h4
  have R : ∀ k : Nat, k ≤ 100 → Room k := fun k h => by unfold Room; omega
  have R1 := Lib.hid (R _ b1); have R2 := Lib.hid (R _ b2); have R3 := Lib.hid (R _ b3); have R4 := Lib.hid (R _ b4)
  have F1 : Hid (few3 n1 n2 = true) := by simp [Hid, few3, b1, b2]
  have F2 : Hid (few3 n3 n4 = true) := by simp [Hid, few3, b3, b4]
  have B : Hid (n1 ≤ 9223372036854775807 ∧ n2 ≤ 9223372036854775807 ∧ n3 ≤ 9223372036854775807 ∧ n4 ≤ 9223372036854775807) := by show _ ∧ _; omega
  have HL := Lib.hid hL; have NL := Lib.hid (norm_lead v d); have NN := Lib.hid (norm_norm v d); have NZ := Lib.hid (norm_len v d)
  clear h1 h2 h3 h4 R b1 b2 b3 b4 hL
  have hB : ∀ o1 o2, Below w.heap.size w ((w.alloc o1).alloc o2) := fun o1 o2 => al (al (Below.refl _ _) (Nat.le_refl _)) (by simp)
  have F : ∀ (w1 : World), Below (w.heap.size + 2) ((w.alloc (.cells #[.slice p1 n1 c1, .slice p2 n2 c2] 52)).alloc (.cells #[.slice p3 n3 c3, .slice p4 n4 c4] 52)) w1 →
      w1.heap[w.heap.size]? = some (.cells #[.slice p1 n1 c1, .slice p2 n2 c2] 52 (0, 0)) ∧ w1.heap[w.heap.size + 1]? = some (.cells #[.slice p3 n3 c3, .slice p4 n4 c4] 52 (0, 0)) := fun w1 h =>
    ⟨(h.block _ (by omega)).trans (hal (hnew rfl)), (h.block _ (by omega)).trans (hnew (by simp))⟩
  have HF := Lib.hid F; have HB := Lib.hid hB; clear F hB
  go_enter Try.func8, Try.ntmps8
  go_wp2_with fail
  refine (awake03 _).mono ?_; rintro e w1 ⟨rfl, hw1⟩
  have k1 : Below (w.heap.size + 2) _ w1 := hw1.mono (by simp)
  have i1 := bl (HB.out _ _) hw1 (by simp; omega)
  obtain ⟨f0, f1⟩ := HF.out w1 k1
  obtain ⟨f00, f01⟩ := cells2 f0; obtain ⟨f10, f11⟩ := cells2 f1; clear f0 f1
  have s1 := hw1.size
  simp at s1
  go_wp2_with fail
  refine (OFew_any _ _ _ _ _ _ _ B.out.1 B.out.2.1).mono ?_; rintro e w2 ⟨rfl, hw2⟩
  rw [F1.out]
  have k2 := k1.trans (hw2.mono (by omega))
  have i2 := bl i1 hw2 i1.size
  have s2 : w.heap.size + 2 ≤ w2.heap.size := Nat.le_trans s1 hw2.size
  obtain ⟨f0, f1⟩ := HF.out w2 k2
  obtain ⟨f00, f01⟩ := cells2 f0; obtain ⟨f10, f11⟩ := cells2 f1; clear f0 f1
  go_wp2_with fail
  refine (OFew_any _ _ _ _ _ _ _ B.out.2.2.1 B.out.2.2.2).mono ?_; rintro e w3 ⟨rfl, hw3⟩
  rw [F2.out]
  have k3 := k2.trans (hw3.mono s2)
  have i3 := bl i2 hw3 i2.size
  have s3 : w.heap.size + 2 ≤ w3.heap.size := Nat.le_trans s2 hw3.size
  obtain ⟨f0, f1⟩ := HF.out w3 k3
  obtain ⟨f00, f01⟩ := cells2 f0; obtain ⟨f10, f11⟩ := cells2 f1; clear f0 f1
  go_wp2_with fail
  refine (OMake_any _ _ _ _ _ _ v d _ (H1.out.keep i3) (H2.out.keep i3) R1.out R2.out).mono ?_; rintro e w4 ⟨q1, m1, g1, q2, m2, g2, e1, e2, rfl, o1, o2, hw4⟩
  have O1 := Lib.hid o1; have O2 := Lib.hid o2; clear o1 o2
  have k4 := k3.trans (hw4.mono s3)
  have i4 := bl i3 hw4 i3.size
  have s4 : w.heap.size + 2 ≤ w4.heap.size := Nat.le_trans s3 hw4.size
  obtain ⟨f0, f1⟩ := HF.out w4 k4
  obtain ⟨f00, f01⟩ := cells2 f0; obtain ⟨f10, f11⟩ := cells2 f1; clear f0 f1
  have k5 : Below w4.heap.size w4 (w4.alloc (.cells #[.slice q1 m1 g1, .slice q2 m2 g2] 54)) := al (Below.refl _ _) (Nat.le_refl _)
  have f2 : (w4.alloc (.cells #[.slice q1 m1 g1, .slice q2 m2 g2] 54)).heap[w4.heap.size]? = _ := hnew rfl
  have ⟨f20, f21⟩ := cells2 f2
  have h5 := lt_of_block f2
  have i5 := bl i4 k5 i4.size
  have S1 := Lib.hid ((Sl.of_owns O1.out).keep k5); have S2 := Lib.hid ((Sl.of_owns O2.out).keep k5)
  have M1 : Hid (Room m1) := rm_of S1.out (by rw [show (v, d).1.length = n1 from H1.out.len]; exact R1.out)
  have M2 : Hid (Room m2) := rm_of S2.out (by rw [show (v, d).2.length = n2 from H2.out.len]; exact R2.out)
  have k5' := k4.trans (k5.mono s4)
  have s5 : w.heap.size + 2 ≤ (w4.alloc (.cells #[.slice q1 m1 g1, .slice q2 m2 g2] 54)).heap.size := Nat.le_trans s4 k5.size
  go_wp2_with fail
  generalize w4.alloc (.cells #[.slice q1 m1 g1, .slice q2 m2 g2] 54) = w5 at k5 f2 f20 f21 h5 i5 S1 S2 k5' s5 ⊢
  refine (Norm_any _ _ _ _ _ _ v d _ S1.out S2.out M1.out M2.out).mono ?_; rintro e w6 ⟨q6a, m6a, g6a, q6b, m6b, g6b, e3, e4, rfl, o3, o4, hw6⟩
  have f5 : w6.heap[w4.heap.size]? = _ := (hw6.block _ h5).trans f2
  have ⟨f50, f51⟩ := cells2 f5
  have f50' := fun o1 => calloc (o := o1) f50
  have k7 : Below w6.heap.size w6 (w6.alloc (.cells #[.slice q6a m6a g6a, .slice q6b m6b g6b] 54)) := al (Below.refl _ _) (Nat.le_refl _)
  have f6 : (w6.alloc (.cells #[.slice q6a m6a g6a, .slice q6b m6b g6b] 54)).heap[w6.heap.size]? = _ := hnew rfl
  have f5 := (k7.block _ (lt_of_block f5)).trans f5
  have i6 := bl i5 hw6 i5.size
  have i7 := bl i6 k7 i6.size
  have k7' := (k5'.trans (hw6.mono s5)).trans (k7.mono (Nat.le_trans s5 hw6.size))
  have S1 := Lib.hid ((S1.out.keep hw6).keep k7); have S2 := Lib.hid ((S2.out.keep hw6).keep k7)
  have N1 := Lib.hid ((Sl.of_owns o3).keep k7); have N2 := Lib.hid ((Sl.of_owns o4).keep k7)
  have Q1 : Hid (Room m6a) := rm_of N1.out (by rw [NZ.out.1, H1.out.len]; exact R1.out)
  have Q2 : Hid (Room m6b) := rm_of N2.out (by rw [NZ.out.2, H2.out.len]; exact R2.out)
  have s7 : w.heap.size + 2 ≤ (w6.alloc (.cells #[.slice q6a m6a g6a, .slice q6b m6b g6b] 54)).heap.size := Nat.le_trans (Nat.le_trans s5 hw6.size) k7.size
  clear o3 o4 f20 f21 f50 f51 f2 S1 S2
  have S1 := Lib.hid (((Sl.of_owns O1.out).keep k5).keep hw6 |>.keep k7)
  clear O1 O2
  go_wp2_with fail
  generalize w6.alloc (.cells #[.slice q6a m6a g6a, .slice q6b m6b g6b] 54) = w7 at k7 f6 f5 i7 k7' S1 N1 N2 s7 ⊢
  refine (Lead_any _ _ _ v _ S1.out).mono ?_; rintro e w8 ⟨rfl, rfl⟩
  go_wp2_with fail
  have hl6 := lt_of_block f6
  obtain ⟨f0, f1⟩ := HF.out w7 k7'
  have h3 := lt_of_block f0; have h4 := lt_of_block f1
  refine wp_region_shapes (fun i => ([.val (.pointer (some ⟨w6.heap.size, 0, none⟩)), .val (.slice q6a m6a g6a), .val (.int .i64 (leadS v)), .val (.int .i64 (leadS v)), .val (.bool false), .val (.bool false), .val (.int .i64 (leadS v)), .val (.bool false), .val (.bool false), .any, .any, .any, .any, .any, .val (.bool false), .val (.bool false), .val (.bool false), .val (.agg #[.slice q6a m6a g6a, .slice q6b m6b g6b]), .row (normS (normS (v, d))), .val (.agg #[.slice q6a m6a g6a, .slice q6b m6b g6b]), .val (.bool true), .val (.bool false), .val (.bool false)][i]?).getD (.any)) 128 rfl (by kernel_rfl) (by decide) (by decide) (by decide) ?_ ?_
  · refine ⟨?_, ?_, ?_, ?_, ?_, ?_, ?_, ?_, ?_, ?_, ?_, ?_, ?_, ?_, ?_, ?_, ?_, ?_, ?_, ?_, ?_, ?_, ?_, trivial⟩
    · intro a W hb0 hs hp hi; have hb := undrew hb0; clear hb0
      have t6 : sl a 6 = .pointer (some ⟨w6.heap.size, 0, none⟩) := hi 6 (by decide)
      refine ite_y rfl (wp_val (.pointer (some ⟨w6.heap.size, 0, none⟩)) ?_ ?_)
      · simp only [execOp, eval_tmp, eval_const, t6]; simp [go_sem]
      · exact ⟨_, rfl, Below.refl _ _, rfl⟩
    · intro a W hb0 hs hp hi; have hb := undrew hb0; clear hb0
      have t30 : sl a 30 = .pointer (some ⟨w6.heap.size, 0, none⟩) := hp 0 (by decide)
      obtain ⟨d0, d1⟩ := cells2 ((hb.block _ hl6).trans f6)
      refine ite_y rfl (wp_val (.slice q6a m6a g6a) ?_ ?_)
      · simp only [execOp, eval_tmp, t30]; simp [go_sem, d0, d1]
      · exact ⟨_, rfl, Below.refl _ _, rfl⟩
    · intro a W hb0 hs hp hi; have hb := undrew hb0; clear hb0
      have t31 : sl a 31 = .slice q6a m6a g6a := hp 1 (by decide)
      refine ite_y rfl (wp_enter 30 #[.slice q6a m6a g6a] ?_ (Lead_any _ _ _ (normS (v, d)).1 _ (N1.out.keep hb)) ?_)
      · simp only [execOp, resolve, List.map_toArray, List.map, eval_tmp, eval_func, eval_const, t31]; simp [go_sem]
      · rintro e W' ⟨rfl, rfl⟩; exact ⟨_, rfl, _, rfl, Below.refl _ _, by rw [NL.out]; rfl⟩
    · intro a W hb0 hs hp hi; have hb := undrew hb0; clear hb0
      have t7 : sl a 7 = .int .i64 (leadS v) := hi 7 (by decide)
      exact ite_y rfl (wp_val (sl a 7) rfl ⟨_, rfl, Below.refl _ _, t7⟩)
    · intro a W hb0 hs hp hi; have hb := undrew hb0; clear hb0
      have t32 : sl a 32 = .int .i64 (leadS v) := hp 2 (by decide)
      have t33 : sl a 33 = .int .i64 (leadS v) := hp 3 (by decide)
      refine ite_y rfl (wp_val (.bool false) ?_ ?_)
      · simp only [execOp, eval_tmp, eval_const, t32, t33]; simp [go_sem]
      · exact ⟨_, rfl, Below.refl _ _, rfl⟩
    · intro a W hb0 hs hp hi; have hb := undrew hb0; clear hb0
      have t34 : sl a 34 = .bool false := hp 4 (by decide)
      exact ite_y rfl (wp_val (sl a 34) rfl ⟨_, rfl, Below.refl _ _, t34⟩)
    · intro a W hb0 hs hp hi; have hb := undrew hb0; clear hb0
      have tg : sl a 35 = .bool false := hp 5 (by decide)
      have t7 : sl a 7 = .int .i64 (leadS v) := hi 7 (by decide)
      exact ite_y (wanted_yes rfl rfl (by have hz : a.tmps.size = 128 := hs; rw [hz]; decide) tg) (wp_val (sl a 7) rfl ⟨_, rfl, Below.refl _ _, t7⟩)
    · intro a W hb0 hs hp hi; have hb := undrew hb0; clear hb0
      have tg : sl a 35 = .bool false := hp 5 (by decide)
      have t36 : sl a 36 = .int .i64 (leadS v) := hp 6 (by decide)
      refine ite_y (wanted_yes rfl rfl (by have hz : a.tmps.size = 128 := hs; rw [hz]; decide) tg) (wp_val (.bool false) ?_ ?_)
      · simp only [execOp, eval_tmp, eval_const, t36]; simp [go_sem, Int.not_le.2 HL.out]
      · exact ⟨_, rfl, Below.refl _ _, rfl⟩
    · intro a W hb0 hs hp hi; have hb := undrew hb0; clear hb0
      have tg : sl a 35 = .bool false := hp 5 (by decide)
      have t37 : sl a 37 = .bool false := hp 7 (by decide)
      exact ite_y (wanted_yes rfl rfl (by have hz : a.tmps.size = 128 := hs; rw [hz]; decide) tg) (wp_val (sl a 37) rfl ⟨_, rfl, Below.refl _ _, t37⟩)
    · intro a W hb0 hs hp hi; have hb := undrew hb0; clear hb0
      have tg : sl a 38 = .bool false := hp 8 (by decide)
      exact ite_n (wanted_no rfl rfl (by have hz : a.tmps.size = 128 := hs; rw [hz]; decide) tg (by decide)) trivial
    · intro a W hb0 hs hp hi; have hb := undrew hb0; clear hb0
      have tg : sl a 38 = .bool false := hp 8 (by decide)
      exact ite_n (wanted_no rfl rfl (by have hz : a.tmps.size = 128 := hs; rw [hz]; decide) tg (by decide)) trivial
    · intro a W hb0 hs hp hi; have hb := undrew hb0; clear hb0
      have tg : sl a 38 = .bool false := hp 8 (by decide)
      exact ite_n (wanted_no rfl rfl (by have hz : a.tmps.size = 128 := hs; rw [hz]; decide) tg (by decide)) trivial
    · intro a W hb0 hs hp hi; have hb := undrew hb0; clear hb0
      have tg : sl a 38 = .bool false := hp 8 (by decide)
      exact ite_n (wanted_no rfl rfl (by have hz : a.tmps.size = 128 := hs; rw [hz]; decide) tg (by decide)) trivial
    · intro a W hb0 hs hp hi; have hb := undrew hb0; clear hb0
      have tg : sl a 38 = .bool false := hp 8 (by decide)
      exact ite_n (wanted_no rfl rfl (by have hz : a.tmps.size = 128 := hs; rw [hz]; decide) tg (by decide)) trivial
    · intro a W hb0 hs hp hi; have hb := undrew hb0; clear hb0
      have tg : sl a 35 = .bool false := hp 5 (by decide)
      have t38 : sl a 38 = .bool false := hp 8 (by decide)
      refine ite_y (wanted_yes rfl rfl (by have hz : a.tmps.size = 128 := hs; rw [hz]; decide) tg) (wp_val (.bool false) ?_ ?_)
      · simp only [execOp, eval_tmp, eval_const, t38]; simp [go_sem]
      · exact ⟨_, rfl, Below.refl _ _, rfl⟩
    · intro a W hb0 hs hp hi; have hb := undrew hb0; clear hb0
      have t35 : sl a 35 = .bool false := hp 5 (by decide)
      have t44 : sl a 44 = .bool false := hp 14 (by decide)
      refine ite_y rfl (wp_val (.bool false) ?_ ?_)
      · simp only [execOp, eval_tmp, eval_const, t35, t44]; simp [go_sem]
      · exact ⟨_, rfl, Below.refl _ _, rfl⟩
    · intro a W hb0 hs hp hi; have hb := undrew hb0; clear hb0
      have t45 : sl a 45 = .bool false := hp 15 (by decide)
      exact ite_y rfl (wp_val (sl a 45) rfl ⟨_, rfl, Below.refl _ _, t45⟩)
    · intro a W hb0 hs hp hi; have hb := undrew hb0; clear hb0
      have tg : sl a 46 = .bool false := hp 16 (by decide)
      have t6 : sl a 6 = .pointer (some ⟨w6.heap.size, 0, none⟩) := hi 6 (by decide)
      obtain ⟨d0, d1⟩ := cells2 ((hb.block _ hl6).trans f6)
      refine ite_y (wanted_yes rfl rfl (by have hz : a.tmps.size = 128 := hs; rw [hz]; decide) tg) (wp_val (.agg #[.slice q6a m6a g6a, .slice q6b m6b g6b]) ?_ ?_)
      · simp only [execOp, eval_tmp, t6]; simp [go_sem, d0, d1]
      · exact ⟨_, rfl, Below.refl _ _, rfl⟩
    · intro a W hb0 hs hp hi; have hb := undrew hb0; clear hb0
      have tg : sl a 46 = .bool false := hp 16 (by decide)
      have t47 : sl a 47 = .agg #[.slice q6a m6a g6a, .slice q6b m6b g6b] := hp 17 (by decide)
      refine ite_y (wanted_yes rfl rfl (by have hz : a.tmps.size = 128 := hs; rw [hz]; decide) tg) (wp_enter 42 #[.agg #[.slice q6a m6a g6a, .slice q6b m6b g6b]] ?_ (Norm_any _ _ _ _ _ _ (normS (v, d)).1 (normS (v, d)).2 _ (N1.out.keep hb) (N2.out.keep hb) Q1.out Q2.out) ?_)
      · simp only [execOp, resolve, List.map_toArray, List.map, eval_tmp, eval_func, eval_const, t47]; simp [go_sem]
      · rintro e W' ⟨q5, m5, g5, q6, m6, g6, e5, e6, rfl, o5, o6, hw⟩
        exact ⟨_, rfl, _, rfl, hw, q5, m5, g5, q6, m6, g6, rfl, Sl.of_owns o5, Sl.of_owns o6⟩
    · intro a W hb0 hs hp hi; have hb := undrew hb0; clear hb0
      have tg : sl a 46 = .bool false := hp 16 (by decide)
      have t6 : sl a 6 = .pointer (some ⟨w6.heap.size, 0, none⟩) := hi 6 (by decide)
      obtain ⟨d0, d1⟩ := cells2 ((hb.block _ hl6).trans f6)
      refine ite_y (wanted_yes rfl rfl (by have hz : a.tmps.size = 128 := hs; rw [hz]; decide) tg) (wp_val (.agg #[.slice q6a m6a g6a, .slice q6b m6b g6b]) ?_ ?_)
      · simp only [execOp, eval_tmp, t6]; simp [go_sem, d0, d1]
      · exact ⟨_, rfl, Below.refl _ _, rfl⟩
    · intro a W hb0 hs hp hi; have hb := undrew hb0; clear hb0
      have tg : sl a 46 = .bool false := hp 16 (by decide)
      have t48 : RowIs (normS (normS (v, d))) (sl a 48) W := hp 18 (by decide)
      obtain ⟨y48a, y48b, y48c, y48d, y48e, y48f, t48, z48a, z48b⟩ := t48
      have t49 : sl a 49 = .agg #[.slice q6a m6a g6a, .slice q6b m6b g6b] := hp 19 (by decide)
      refine ite_y (wanted_yes rfl rfl (by have hz : a.tmps.size = 128 := hs; rw [hz]; decide) tg) (wp_enter 44 #[.agg #[.slice y48a y48b y48c, .slice y48d y48e y48f], .agg #[.slice q6a m6a g6a, .slice q6b m6b g6b]] ?_ (VSame_any _ _ _ _ _ _ _ _ _ _ _ _ (normS (normS (v, d))).1 (normS (normS (v, d))).2 (normS (v, d)).1 (normS (v, d)).2 _ z48a z48b (N1.out.keep hb) (N2.out.keep hb)) ?_)
      · simp only [execOp, resolve, List.map_toArray, List.map, eval_tmp, eval_func, eval_const, t48, t49]; simp [go_sem]
      · rintro e W' ⟨rfl, hw⟩; exact ⟨_, rfl, _, rfl, hw, congrArg Value.bool (decide_eq_true (by rw [NN.out]))⟩
    · intro a W hb0 hs hp hi; have hb := undrew hb0; clear hb0
      have tg : sl a 46 = .bool false := hp 16 (by decide)
      have t50 : sl a 50 = .bool true := hp 20 (by decide)
      refine ite_y (wanted_yes rfl rfl (by have hz : a.tmps.size = 128 := hs; rw [hz]; decide) tg) (wp_val (.bool false) ?_ ?_)
      · simp only [execOp, eval_tmp, eval_const, t50]; simp [go_sem]
      · exact ⟨_, rfl, Below.refl _ _, rfl⟩
    · intro a W hb0 hs hp hi; have hb := undrew hb0; clear hb0
      have t46 : sl a 46 = .bool false := hp 16 (by decide)
      have t51 : sl a 51 = .bool false := hp 21 (by decide)
      refine ite_y rfl (wp_val (.bool false) ?_ ?_)
      · simp only [execOp, eval_tmp, eval_const, t46, t51]; simp [go_sem]
      · exact ⟨_, rfl, Below.refl _ _, rfl⟩
  · intro a w9 hb hs hd hI ht
    have ha := act_is [30, 31, 32, 33, 34, 35, 36, 37, 38, 39, 40, 41, 42, 43, 44, 45, 46, 47, 48, 49, 50, 51, 52] hs hd ht (by decide)
    have t52 : sl a 52 = .bool false := hI 22 (by decide)
    simp only [List.foldl, t52] at ha
    generalize sl a 30 = u30 at ha
    generalize sl a 31 = u31 at ha
    generalize sl a 32 = u32 at ha
    generalize sl a 33 = u33 at ha
    generalize sl a 34 = u34 at ha
    generalize sl a 35 = u35 at ha
    generalize sl a 36 = u36 at ha
    generalize sl a 37 = u37 at ha
    generalize sl a 38 = u38 at ha
    generalize sl a 39 = u39 at ha
    generalize sl a 40 = u40 at ha
    generalize sl a 41 = u41 at ha
    generalize sl a 42 = u42 at ha
    generalize sl a 43 = u43 at ha
    generalize sl a 44 = u44 at ha
    generalize sl a 45 = u45 at ha
    generalize sl a 46 = u46 at ha
    generalize sl a 47 = u47 at ha
    generalize sl a 48 = u48 at ha
    generalize sl a 49 = u49 at ha
    generalize sl a 50 = u50 at ha
    generalize sl a 51 = u51 at ha
    simp only [Act.put, List.setIfInBounds_toArray, List.set_cons_zero, List.set_cons_succ] at ha
    have i9 := bl i7 hb i7.size
    have f6 := (hb.block _ hl6).trans f6
    have k9 := k7'.trans (hb.mono s7)
    have s9 := Nat.le_trans s7 hb.size
    obtain ⟨f0, f1⟩ := HF.out w9 k9
    have ⟨f10, f11⟩ := cells2 f1
    have N1 := Lib.hid (N1.out.keep hb); have N2 := Lib.hid (N2.out.keep hb)
    have hl6 := lt_of_block f6
    rw [ha]; clear ha hI ht
    go_wp2_with fail
    refine (OMake_any _ _ _ _ _ _ x y _ (H3.out.keep i9) (H4.out.keep i9) R3.out R4.out).mono ?_; rintro e w10 ⟨q8a, m8a, g8a, q8b, m8b, g8b, e5, e6, rfl, o5, o6, hw10⟩
    have k11 : Below w10.heap.size w10 (w10.alloc (.cells #[.slice q8a m8a g8a, .slice q8b m8b g8b] 54)) := al (Below.refl _ _) (Nat.le_refl _)
    have f8 : (w10.alloc (.cells #[.slice q8a m8a g8a, .slice q8b m8b g8b] 54)).heap[w10.heap.size]? = _ := hnew rfl
    have j11 := hw10.trans (k11.mono hw10.size)
    have i11 := bl i9 j11 i9.size
    have f6 := (j11.block _ hl6).trans f6
    have hl6 := lt_of_block f6; have hl8 := lt_of_block f8
    have k11' := k9.trans (j11.mono s9)
    have s11 := Nat.le_trans s9 j11.size
    have N1 := Lib.hid (N1.out.keep j11); have N2 := Lib.hid (N2.out.keep j11)
    have O1 := Lib.hid ((Sl.of_owns o5).keep k11); have O2 := Lib.hid ((Sl.of_owns o6).keep k11)
    have P1 : Hid (Room m8a) := rm_of O1.out (by rw [H3.out.len]; exact R3.out)
    have P2 : Hid (Room m8b) := rm_of O2.out (by rw [H4.out.len]; exact R4.out)
    have ⟨f80, f81⟩ := cells2 f8
    clear o5 o6 f0 f10 f11
    have g1 := HL.out
    go_wp2_with fail
    generalize w10.alloc (.cells #[.slice q8a m8a g8a, .slice q8b m8b g8b] 54) = w11 at k11 f8 j11 i11 f6 hl6 hl8 k11' s11 N1 N2 O1 O2 f80 f81 ⊢
    go_ret
    exact ⟨rfl, i11⟩
end Go.Proofs.Ythekakfddhgpcaa
