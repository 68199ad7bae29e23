/- The walk of the law GlueJoins. -/
import Derived.Test.YtnlfohbmdmeodaaP7
import Derived.Test.YtnlfohbmdmeodaaR4
import Derived.Test.YtnlfohbmdmeodaaB5
namespace Go.Proofs.Ytnlfohbmdmeodaa
open Go.RowKit Go.By
set_option maxRecDepth 100000 in
set_option maxHeartbeats 2000000 in
theorem GlueJoins_main (l s n d : Int) (p : Option Addr) (m c : Nat) (xss : List (List UInt8)) (w : World) (h : Sl2 w p m c xss) (hl2 : l ≤ 9223372036854775807) :
    Calls Try.prog 3 #[.agg #[.int .i64 l, .int .i64 s, .int .i64 n, .int .u32 d], .slice p m c] w fun e w' => e = .returned (.bool true) ∧ Below w.heap.size w w' := by
  have H := Lib.hid h; clear h
  have HL2 := Lib.hid hl2
  have HF := Lib.hid (fun w h => few12_any l s n d p m c xss w h hl2)
  have HJn := Lib.hid (fun w h => Join_any l s n d p m c xss w h hl2)
  have HAl := Lib.hid (fun w h => RAll_any l s n d p m c xss w h hl2)
  have HCl := Lib.hid (fun w h => Clean_any l s n d p m c xss w h hl2)
  have hB := fun o => al (o := o) (Below.refl w.heap.size w) (Nat.le_refl _)
  have HB0 := Lib.hid (show w.heap.size < (w.alloc (.cells #[.int .i64 l, .int .i64 s, .int .i64 n, .int .u32 d] 24)).heap.size by simp)
  have f0 : Hid ((w.alloc (.cells #[.int .i64 l, .int .i64 s, .int .i64 n, .int .u32 d] 24)).heap[w.heap.size]? = some (.cells #[.int .i64 l, .int .i64 s, .int .i64 n, .int .u32 d] 24 (0, 0))) := hnew rfl
  go_enter Try.func3, Try.ntmps3
  go_wp2_with fail
  refine (awake12 _).mono ?_; rintro e w1 ⟨rfl, hw1⟩
  have k1 : Below w.heap.size w w1 := bl (hB _) hw1 (by simp)
  have f1 := (hw1.block _ HB0.out).trans f0.out
  have b1 : w.heap.size < w1.heap.size := lt_of_blk f1
  obtain ⟨d0, d1, d2, d3⟩ := cells4 f1
  have F1 := Lib.hid f1; clear f1 hB
  go_wp2_with fail
  refine (HF.out _ (H.out.keep k1)).mono ?_; rintro e w2 ⟨b, rfl, hw2⟩
  have k2 := bl k1 hw2 k1.size
  have f2 := (hw2.block _ b1).trans F1.out
  have b2 : w.heap.size < w2.heap.size := lt_of_blk f2
  clear d0 d1 d2 d3
  obtain ⟨d0, d1, d2, d3⟩ := cells4 f2
  have F2 := Lib.hid f2; clear f2
  cases b with
  | false =>
    go_wp2
    go_ret
    exact ⟨rfl, k2⟩
  | true =>
  go_wp2_with fail
  refine (HJn.out _ (H.out.keep k2)).mono ?_; rintro e w3 ⟨q1, m1, g1, rfl, hq1, hw3⟩
  have HQ1 := Lib.hid hq1; clear hq1
  have k3 := bl k2 hw3 k2.size
  have f3 := (hw3.block _ b2).trans F2.out
  have b3 : w.heap.size < w3.heap.size := lt_of_blk f3
  clear d0 d1 d2 d3
  obtain ⟨d0, d1, d2, d3⟩ := cells4 f3
  have F3 := Lib.hid f3; clear f3
  go_wp2_with fail
  refine (HAl.out _ (H.out.keep k3)).mono ?_; rintro e w5 ⟨q2, m2, g2, hm2, rfl, ho2, hw5⟩
  have HQ2 := Lib.hid (Sl.of_owns ho2); clear ho2
  have HQ1 := Lib.hid (HQ1.out.keep hw5)
  have k5 := bl k3 hw5 k3.size
  have f5 := (hw5.block _ b3).trans F3.out
  clear d0 d1 d2 d3
  obtain ⟨d0, d1, d2, d3⟩ := cells4 f5
  have HS5 := Lib.hid (H.out.keep k5)
  have F5 := Lib.hid f5; clear f5 F1 F2 F3 HB0 f0
  have HJ : Hid (joinS l s n xss = ((wholeS l s n xss).1.take l.toNat, (wholeS l s n xss).2)) := rfl
  rw [HJ.out] at HQ1 ⊢
  rcases wholeS_cases l s n xss with ⟨g1', g2'⟩ | ⟨g1', g2', g3', g4', g5'⟩
  · have hb : ((wholeS l s n xss).2 != 0) = true := by simpa using g1'
    have hm1 : m1 = 0 := by have := HQ1.out.len; rw [g2'] at this; simpa using this.symm
    have HR := Lib.hid (decide_eq_false g1')
    have HC2 : Hid (∀ (w : World), Sl2 w p m c xss → Calls Try.prog 9 #[.agg #[.int .i64 l, .int .i64 s, .int .i64 n, .int .u32 d], .slice p m c] w fun e w' => e = .returned (.bool false) ∧ Below w.heap.size w w') := fun w h => by
      have := HCl.out w h; rw [HR.out, Bool.false_and] at this; exact this
    subst hm1
    clear HCl
    generalize wholeS l s n xss = X at *
    obtain ⟨X1, k⟩ := X
    simp only at hb g1' g2' ⊢
    clear g1' g2' HQ1 HQ2 HR HJ
    go_wp2_with fail
    refine (HC2.out _ HS5.out).mono ?_; rintro e w6 ⟨rfl, hw6⟩
    go_wp2
    go_ret
    exact ⟨by simp, bl k5 hw6 k5.size⟩
  · obtain ⟨l0, rfl⟩ := Int.eq_ofNat_of_zero_le g4'
    have hl0 : l0 ≤ xss.flatten.length := by omega
    have HC2 : Hid (∀ (w : World), Sl2 w p m c xss → Calls Try.prog 9 #[.agg #[.int .i64 l0, .int .i64 s, .int .i64 n, .int .u32 d], .slice p m c] w fun e w' => e = .returned (.bool (zeroS (xss.flatten.drop l0))) ∧ Below w.heap.size w w') := fun w h => by
      have := HCl.out w h; rw [decide_eq_true g1', Bool.true_and, g3', Int.toNat_natCast] at this; exact this
    have bb1 : l0 ≤ m2 := by have := HQ2.out.len; rw [g3'] at this; omega
    have bb2 := HQ2.out.le
    have bb3 : g2 ≤ 9223372036854775807 := by have := HQ2.out.max; unfold maxLen at this; exact this
    rw [g1']
    rw [g3'] at HQ2; rw [g3', Int.toNat_natCast] at HQ1
    clear HCl HJ HJn HAl HF g1' g2' g3' g4' g5' hm2 hl0
    have HCl := Lib.hid HC2.out
    generalize xss.flatten = Y at *
    have HZ := Lib.hid (fun p n c W h => RZero_any p n c (Y.drop l0) W h)
    generalize zeroS (Y.drop l0) = Z at *
    go_wp2
    have f0 := F5.out
    have h3 : w.heap.size < w5.heap.size := lt_of_blk f0
    clear d0 d1 d2 d3
    refine wp_region_shapes (fun i => ([.val (.int .i64 0), .val (.bool true), .val (.bool true), .val (.slice q1 m1 g1), .val (.slice q2 m2 g2), .val (.pointer (some ⟨w.heap.size, 0, none⟩)), .val (.int .i64 (l0 : Nat)), .bytes (Y.take l0), .val (.bool true), .val (.bool true), .val (.bool true), .val (.agg #[.int .i64 l0, .int .i64 s, .int .i64 n, .int .u32 d]), .val (.slice p m c), .val (.bool Z), .val (.slice q2 m2 g2), .val (.pointer (some ⟨w.heap.size, 0, none⟩)), .val (.int .i64 (l0 : Nat)), .bytes (Y.drop l0), .val (.bool Z), .val (.bool true), .val (.bool true), .val (.bool true)][i]?).getD (.any)) 64 rfl (by kernel_rfl) (by decide) (by decide) (by decide) ?_ ?_
    · refine ⟨?_, ?_, ?_, ?_, ?_, ?_, ?_, ?_, ?_, ?_, ?_, ?_, ?_, ?_, ?_, ?_, ?_, ?_, ?_, ?_, ?_, ?_, trivial⟩
      · intro a W hb0 hs hp hi; have hb := undrew hb0; clear hb0
        have t6 : sl a 6 = .int .i64 0 := hi 6 (by decide)
        exact ite_y rfl (wp_val (sl a 6) rfl ⟨_, rfl, Below.refl _ _, t6⟩)
      · intro a W hb0 hs hp hi; have hb := undrew hb0; clear hb0
        have t43 : sl a 43 = .int .i64 0 := hp 0 (by decide)
        refine ite_y rfl (wp_val (.bool true) ?_ ?_)
        · simp only [execOp, eval_tmp, eval_const, t43]; simp [go_sem]
        · exact ⟨_, rfl, Below.refl _ _, rfl⟩
      · intro a W hb0 hs hp hi; have hb := undrew hb0; clear hb0
        have t44 : sl a 44 = .bool true := hp 1 (by decide)
        exact ite_y rfl (wp_val (sl a 44) rfl ⟨_, rfl, Below.refl _ _, t44⟩)
      · intro a W hb0 hs hp hi; have hb := undrew hb0; clear hb0
        have tg : sl a 45 = .bool true := hp 2 (by decide)
        have t5 : sl a 5 = .slice q1 m1 g1 := hi 5 (by decide)
        exact ite_y (wanted_yes rfl rfl (by have hz : a.tmps.size = 64 := hs; rw [hz]; decide) tg) (wp_val (sl a 5) rfl ⟨_, rfl, Below.refl _ _, t5⟩)
      · intro a W hb0 hs hp hi; have hb := undrew hb0; clear hb0
        have tg : sl a 45 = .bool true := hp 2 (by decide)
        have t7 : sl a 7 = .slice q2 m2 g2 := hi 7 (by decide)
        exact ite_y (wanted_yes rfl rfl (by have hz : a.tmps.size = 64 := hs; rw [hz]; decide) tg) (wp_val (sl a 7) rfl ⟨_, rfl, Below.refl _ _, t7⟩)
      · intro a W hb0 hs hp hi; have hb := undrew hb0; clear hb0
        have tg : sl a 45 = .bool true := hp 2 (by decide)
        have t2 : sl a 2 = .pointer (some ⟨w.heap.size, 0, none⟩) := hi 2 (by decide)
        refine ite_y (wanted_yes rfl rfl (by have hz : a.tmps.size = 64 := hs; rw [hz]; decide) tg) (wp_val (.pointer (some ⟨w.heap.size, 0, none⟩)) ?_ ?_)
        · simp only [execOp, eval_tmp, eval_const, t2]; simp [go_sem]
        · exact ⟨_, rfl, Below.refl _ _, rfl⟩
      · intro a W hb0 hs hp hi; have hb := undrew hb0; clear hb0
        have tg : sl a 45 = .bool true := hp 2 (by decide)
        have t48 : sl a 48 = .pointer (some ⟨w.heap.size, 0, none⟩) := hp 5 (by decide)
        obtain ⟨d0, d1, d2, d3⟩ := cells4 ((hb.block _ h3).trans f0)
        refine ite_y (wanted_yes rfl rfl (by have hz : a.tmps.size = 64 := hs; rw [hz]; decide) tg) (wp_val (.int .i64 (l0 : Nat)) ?_ ?_)
        · simp only [execOp, eval_tmp, t48]; simp [go_sem, d0, d1, d2, d3]
        · exact ⟨_, rfl, Below.refl _ _, rfl⟩
      · intro a W hb0 hs hp hi; have hb := undrew hb0; clear hb0
        have tg : sl a 45 = .bool true := hp 2 (by decide)
        have t47 : sl a 47 = .slice q2 m2 g2 := hp 4 (by decide)
        have t49 : sl a 49 = .int .i64 (l0 : Nat) := hp 6 (by decide)
        have v49 : a.tmps[49]?.getD undef = .int .i64 (l0 : Nat) := by simpa [sl] using t49
        rcases hq2 : q2 with _ | ad
        · subst hq2
          obtain ⟨z1, z2⟩ := HQ2.out.nil rfl
          have z3 : l0 = 0 := by omega
          have HQ3 := HQ2.out
          subst z1; subst z2; subst z3
          refine ite_y (wanted_yes rfl rfl (by have hz : a.tmps.size = 64 := hs; rw [hz]; decide) tg) (wp_val (.slice none 0 0) ?_ ?_)
          · simp only [execOp, eval_tmp, t47, t49]; simp [go_sem, v49]
          · exact ⟨_, rfl, Below.refl _ _, none, 0, 0, rfl, by simpa using Sl.nil0 B8 W⟩
        · subst hq2
          refine ite_y (wanted_yes rfl rfl (by have hz : a.tmps.size = 64 := hs; rw [hz]; decide) tg) (wp_val (.slice (some ad) l0 g2) ?_ ?_)
          · have q1 : ¬ ((l0 : Int) < 0) := by omega
            have q3 : ¬ ((g2 : Int) < (l0 : Int)) := by omega
            have q4 : ¬ (g2 < l0) := by omega
            simp only [execOp, eval_tmp, t47, t49]; simp [go_sem, v49, bb1, bb2, bb3, q1, q3, q4]
          · exact ⟨_, rfl, Below.refl _ _, _, _, _, rfl, Sl.take (HQ2.out.keep hb) bb1 (by omega) (Nat.le_refl _)⟩
      · intro a W hb0 hs hp hi; have hb := undrew hb0; clear hb0
        have tg : sl a 45 = .bool true := hp 2 (by decide)
        have t46 : sl a 46 = .slice q1 m1 g1 := hp 3 (by decide)
        have t50 : BytesIs (Y.take l0) (sl a 50) W := hp 7 (by decide)
        obtain ⟨y50a, y50b, y50c, t50, z50a⟩ := t50
        refine ite_y (wanted_yes rfl rfl (by have hz : a.tmps.size = 64 := hs; rw [hz]; decide) tg) (wp_enter 10 #[.slice q1 m1 g1, .slice y50a y50b y50c] ?_ (Same_any _ _ _ _ _ _ (Y.take l0) (Y.take l0) _ (HQ1.out.keep hb) z50a) ?_)
        · simp only [execOp, resolve, List.map_toArray, List.map, eval_tmp, eval_func, eval_const, t46, t50]; simp [go_sem]
        · rintro e W' ⟨rfl, hw⟩; exact ⟨_, rfl, _, rfl, hw, congrArg Value.bool (decide_eq_true rfl)⟩
      · intro a W hb0 hs hp hi; have hb := undrew hb0; clear hb0
        have t45 : sl a 45 = .bool true := hp 2 (by decide)
        have t51 : sl a 51 = .bool true := hp 8 (by decide)
        refine ite_y rfl (wp_val (.bool true) ?_ ?_)
        · simp only [execOp, eval_tmp, eval_const, t45, t51]; simp [go_sem]
        · exact ⟨_, rfl, Below.refl _ _, rfl⟩
      · intro a W hb0 hs hp hi; have hb := undrew hb0; clear hb0
        have t52 : sl a 52 = .bool true := hp 9 (by decide)
        exact ite_y rfl (wp_val (sl a 52) rfl ⟨_, rfl, Below.refl _ _, t52⟩)
      · intro a W hb0 hs hp hi; have hb := undrew hb0; clear hb0
        have tg : sl a 53 = .bool true := hp 10 (by decide)
        have t2 : sl a 2 = .pointer (some ⟨w.heap.size, 0, none⟩) := hi 2 (by decide)
        obtain ⟨d0, d1, d2, d3⟩ := cells4 ((hb.block _ h3).trans f0)
        refine ite_y (wanted_yes rfl rfl (by have hz : a.tmps.size = 64 := hs; rw [hz]; decide) tg) (wp_val (.agg #[.int .i64 l0, .int .i64 s, .int .i64 n, .int .u32 d]) ?_ ?_)
        · simp only [execOp, eval_tmp, t2]; simp [go_sem, d0, d1, d2, d3]
        · exact ⟨_, rfl, Below.refl _ _, rfl⟩
      · intro a W hb0 hs hp hi; have hb := undrew hb0; clear hb0
        have tg : sl a 53 = .bool true := hp 10 (by decide)
        have t1 : sl a 1 = .slice p m c := hi 1 (by decide)
        exact ite_y (wanted_yes rfl rfl (by have hz : a.tmps.size = 64 := hs; rw [hz]; decide) tg) (wp_val (sl a 1) rfl ⟨_, rfl, Below.refl _ _, t1⟩)
      · intro a W hb0 hs hp hi; have hb := undrew hb0; clear hb0
        have tg : sl a 53 = .bool true := hp 10 (by decide)
        have t54 : sl a 54 = .agg #[.int .i64 l0, .int .i64 s, .int .i64 n, .int .u32 d] := hp 11 (by decide)
        have t55 : sl a 55 = .slice p m c := hp 12 (by decide)
        refine ite_y (wanted_yes rfl rfl (by have hz : a.tmps.size = 64 := hs; rw [hz]; decide) tg) (wp_enter 9 #[.agg #[.int .i64 l0, .int .i64 s, .int .i64 n, .int .u32 d], .slice p m c] ?_ (HCl.out _ (HS5.out.keep hb)) ?_)
        · simp only [execOp, resolve, List.map_toArray, List.map, eval_tmp, eval_func, eval_const, t54, t55]; simp [go_sem]
        · rintro e W' ⟨rfl, hw⟩; exact ⟨_, rfl, _, rfl, hw, rfl⟩
      · intro a W hb0 hs hp hi; have hb := undrew hb0; clear hb0
        have tg : sl a 53 = .bool true := hp 10 (by decide)
        have t7 : sl a 7 = .slice q2 m2 g2 := hi 7 (by decide)
        exact ite_y (wanted_yes rfl rfl (by have hz : a.tmps.size = 64 := hs; rw [hz]; decide) tg) (wp_val (sl a 7) rfl ⟨_, rfl, Below.refl _ _, t7⟩)
      · intro a W hb0 hs hp hi; have hb := undrew hb0; clear hb0
        have tg : sl a 53 = .bool true := hp 10 (by decide)
        have t2 : sl a 2 = .pointer (some ⟨w.heap.size, 0, none⟩) := hi 2 (by decide)
        refine ite_y (wanted_yes rfl rfl (by have hz : a.tmps.size = 64 := hs; rw [hz]; decide) tg) (wp_val (.pointer (some ⟨w.heap.size, 0, none⟩)) ?_ ?_)
        · simp only [execOp, eval_tmp, eval_const, t2]; simp [go_sem]
        · exact ⟨_, rfl, Below.refl _ _, rfl⟩
      · intro a W hb0 hs hp hi; have hb := undrew hb0; clear hb0
        have tg : sl a 53 = .bool true := hp 10 (by decide)
        have t58 : sl a 58 = .pointer (some ⟨w.heap.size, 0, none⟩) := hp 15 (by decide)
        obtain ⟨d0, d1, d2, d3⟩ := cells4 ((hb.block _ h3).trans f0)
        refine ite_y (wanted_yes rfl rfl (by have hz : a.tmps.size = 64 := hs; rw [hz]; decide) tg) (wp_val (.int .i64 (l0 : Nat)) ?_ ?_)
        · simp only [execOp, eval_tmp, t58]; simp [go_sem, d0, d1, d2, d3]
        · exact ⟨_, rfl, Below.refl _ _, rfl⟩
      · intro a W hb0 hs hp hi; have hb := undrew hb0; clear hb0
        have tg : sl a 53 = .bool true := hp 10 (by decide)
        have t57 : sl a 57 = .slice q2 m2 g2 := hp 14 (by decide)
        have t59 : sl a 59 = .int .i64 (l0 : Nat) := hp 16 (by decide)
        have v59 : a.tmps[59]?.getD undef = .int .i64 (l0 : Nat) := by simpa [sl] using t59
        rcases hq2 : q2 with _ | ad
        · subst hq2
          obtain ⟨z1, z2⟩ := HQ2.out.nil rfl
          have z3 : l0 = 0 := by omega
          have HQ3 := HQ2.out
          subst z1; subst z2; subst z3
          refine ite_y (wanted_yes rfl rfl (by have hz : a.tmps.size = 64 := hs; rw [hz]; decide) tg) (wp_val (.slice none 0 0) ?_ ?_)
          · simp only [execOp, eval_tmp, t57, t59]; simp [go_sem, v59]
          · exact ⟨_, rfl, Below.refl _ _, none, 0, 0, rfl, by simpa using HQ2.out.keep hb⟩
        · subst hq2
          by_cases hz : g2 = l0
          · subst hz
            have z4 : m2 = g2 := by omega
            subst z4
            refine ite_y (wanted_yes rfl rfl (by have hz : a.tmps.size = 64 := hs; rw [hz]; decide) tg) (wp_val (.slice (some ad) 0 0) ?_ ?_)
            · simp only [execOp, eval_tmp, t57, t59]; simp [go_sem, v59, bb3]
            · exact ⟨_, rfl, Below.refl _ _, some ad, 0, 0, rfl, by rw [show Y.drop m2 = [] from List.drop_eq_nil_of_le (by rw [HQ2.out.len]; omega)]; exact ⟨rfl, by simp, by simp [maxLen], fun h => (by cases h), fun i hi => absurd hi (by simp)⟩⟩
          · refine ite_y (wanted_yes rfl rfl (by have hz : a.tmps.size = 64 := hs; rw [hz]; decide) tg) (wp_val (.slice (some (ad.add l0)) (m2 - l0) (g2 - l0)) ?_ ?_)
            · have q3 : ¬ ((m2 : Int) < (l0 : Int)) := by omega
              have q4 : ¬ ((g2 : Int) < (m2 : Int)) := by omega
              have q5 : ¬ (m2 < l0) := by omega
              have q6 : ¬ (g2 < m2) := by omega
              simp only [execOp, eval_tmp, t57, t59]; simp [go_sem, v59, bb1, bb2, bb3, q3, q4, q5, q6, hz]
            · exact ⟨_, rfl, Below.refl _ _, _, _, _, rfl, Sl.drop_at (HQ2.out.keep hb) bb1⟩
      · intro a W hb0 hs hp hi; have hb := undrew hb0; clear hb0
        have tg : sl a 53 = .bool true := hp 10 (by decide)
        have t60 : BytesIs (Y.drop l0) (sl a 60) W := hp 17 (by decide)
        obtain ⟨y60a, y60b, y60c, t60, z60a⟩ := t60
        refine ite_y (wanted_yes rfl rfl (by have hz : a.tmps.size = 64 := hs; rw [hz]; decide) tg) (wp_enter 11 #[.slice y60a y60b y60c] ?_ (HZ.out _ _ _ _ z60a) ?_)
        · simp only [execOp, resolve, List.map_toArray, List.map, eval_tmp, eval_func, eval_const, t60]; simp [go_sem]
        · rintro e W' ⟨rfl, rfl⟩; exact ⟨_, rfl, _, rfl, Below.refl _ _, rfl⟩
      · intro a W hb0 hs hp hi; have hb := undrew hb0; clear hb0
        have tg : sl a 53 = .bool true := hp 10 (by decide)
        have t56 : sl a 56 = .bool Z := hp 13 (by decide)
        have t61 : sl a 61 = .bool Z := hp 18 (by decide)
        refine ite_y (wanted_yes rfl rfl (by have hz : a.tmps.size = 64 := hs; rw [hz]; decide) tg) (wp_val (.bool true) ?_ ?_)
        · simp only [execOp, eval_tmp, eval_const, t56, t61]; simp [go_sem]
        · exact ⟨_, rfl, Below.refl _ _, rfl⟩
      · intro a W hb0 hs hp hi; have hb := undrew hb0; clear hb0
        have t53 : sl a 53 = .bool true := hp 10 (by decide)
        have t62 : sl a 62 = .bool true := hp 19 (by decide)
        refine ite_y rfl (wp_val (.bool true) ?_ ?_)
        · simp only [execOp, eval_tmp, eval_const, t53, t62]; simp [go_sem]
        · exact ⟨_, rfl, Below.refl _ _, rfl⟩
      · intro a W hb0 hs hp hi; have hb := undrew hb0; clear hb0
        have t63 : sl a 63 = .bool true := hp 20 (by decide)
        exact ite_y rfl (wp_val (sl a 63) rfl ⟨_, rfl, Below.refl _ _, t63⟩)
    · intro a w9 hb hs hd hI ht
      have ha := act_is [43, 44, 45, 46, 47, 48, 49, 50, 51, 52, 53, 54, 55, 56, 57, 58, 59, 60, 61, 62, 63, 4] hs hd ht (by decide)
      have t4 : sl a 4 = .bool true := hI 21 (by decide)
      simp only [List.foldl, t4] at ha
      generalize sl a 43 = u43 at ha
      generalize sl a 44 = u44 at ha
      generalize sl a 45 = u45 at ha
      generalize sl a 46 = u46 at ha
      generalize sl a 47 = u47 at ha
      generalize sl a 48 = u48 at ha
      generalize sl a 49 = u49 at ha
      generalize sl a 50 = u50 at ha
      generalize sl a 51 = u51 at ha
      generalize sl a 52 = u52 at ha
      generalize sl a 53 = u53 at ha
      generalize sl a 54 = u54 at ha
      generalize sl a 55 = u55 at ha
      generalize sl a 56 = u56 at ha
      generalize sl a 57 = u57 at ha
      generalize sl a 58 = u58 at ha
      generalize sl a 59 = u59 at ha
      generalize sl a 60 = u60 at ha
      generalize sl a 61 = u61 at ha
      generalize sl a 62 = u62 at ha
      generalize sl a 63 = u63 at ha
      simp only [Act.put, List.setIfInBounds_toArray, List.set_cons_zero, List.set_cons_succ] at ha
      rw [ha]; clear ha
      go_wp2_with fail
      go_ret
      exact ⟨rfl, bl k5 hb k5.size⟩
theorem GlueJoins_any (l s n d : Int) (p : Option Addr) (m c : Nat) (xss : List (List UInt8)) (w : World) (w0 : (Lit.int .i64 l).wf = true) (_w1 : (Lit.int .i64 s).wf = true) (_w2 : (Lit.int .i64 n).wf = true) (_w3 : (Lit.int .u32 d).wf = true) (h : Sl2 w p m c xss) :
    Calls Try.prog 3 #[.agg #[.int .i64 l, .int .i64 s, .int .i64 n, .int .u32 d], .slice p m c] w fun e w' => e = .returned (.bool true) ∧ Below w.heap.size w w' :=
  GlueJoins_main l s n d p m c xss w h (Go.bounds_i64 w0).2
end Go.Proofs.Ytnlfohbmdmeodaa
