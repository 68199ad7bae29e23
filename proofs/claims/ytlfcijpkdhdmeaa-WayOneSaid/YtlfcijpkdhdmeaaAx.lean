/- WayOne: the walk, out of the list. -/
import Derived.Test.YtlfcijpkdhdmeaaAi
import Derived.Test.YtlfcijpkdhdmeaaM4
import Derived.Test.YtlfcijpkdhdmeaaR5
namespace Go.Proofs.Ytlfcijpkdhdmeaa
open Go.RowKit Go.By
set_option maxRecDepth 100000 in
set_option maxHeartbeats 4000000 in
theorem WayOne_outD0 (p0 p1 p2 q : Option Addr) (n0 n1 n2 m c0 c1 c2 c' b : Nat) (d : Int) (i : Int) (j : Int)  (x0 x1 x2 bs : List UInt8) (w : World) (h0 : Sl B8 w p0 n0 c0 x0) (h1 : Sl B8 w p1 n1 c1 x1) (h2 : Sl B8 w p2 n2 c2 x2) (hs : Sl B8 w q m c' bs) (hsum : n0 + n1 + n2 + m ≤ 100) (bb : b < 4294967296) (bi : i ≤ 9223372036854775807) (bj : j ≤ 9223372036854775807) (hd0 : 3 ≤ d) (hd : d ≤ 4) (hi : i < 0) :
    Calls Try.prog 4 #[.slice p0 n0 c0, .slice p1 n1 c1, .slice p2 n2 c2, .agg #[.int .i64 d, .int .i64 i, .int .i64 j, .int .u32 b, .slice q m c']] w fun e w' => e = .returned (.bool true) ∧ Below w.heap.size w w' := by
  have H0 := Lib.hid h0; have H1 := Lib.hid h1; have H2 := Lib.hid h2; have HS := Lib.hid hs
  have e0 := Lib.hid h0.len; have e1 := Lib.hid h1.len; have e2 := Lib.hid h2.len; have em := Lib.hid hs.len
  obtain ⟨A, hA⟩ : ∃ A : ActD, A = ⟨d, i, j, b, bs⟩ := ⟨_, rfl⟩
  have HA := Lib.hid hA
  have hB0 : ∀ o, Below w.heap.size w (w.alloc o) := fun o => al (Below.refl _ _) (Nat.le_refl _)
  have HB0 := Lib.hid hB0
  clear h0 h1 h2 hs hA hB0
  go_enter Try.func4, Try.ntmps4
  go_wp2_with fail
  refine (awake20 _).mono ?_; rintro e w1 ⟨rfl, k1⟩
  have X1 : Hid (w1.heap[w.heap.size]? = some (.cells #[.int .i64 d, .int .i64 i, .int .i64 j, .int .u32 b, .slice q m c'] 39 (0, 0))) := (k1.block _ (by simp)).trans (hnew rfl)
  have K1 : Hid (Below w.heap.size w w1) := (HB0.out _).trans (k1.mono (by simp))
  clear k1
  obtain ⟨s0, s1, s2, s3, s4⟩ := cells5 X1.out
  obtain ⟨r0, r1, r2, r3, r4⟩ := cells5 (hal (o := .cells #[.slice p0 n0 c0, .slice p1 n1 c1, .slice p2 n2 c2] 28) X1.out)
  go_wp2_with fail
  refine use_w2 (fun W => W.heap[w1.heap.size]? = some (.cells #[.slice p0 n0 c0, .slice p1 n1 c1, .slice p2 n2 c2] 28 (0, 0)) ∧ W.heap[w1.heap.size + 1]? = some (.cells #[.int .i64 d, .int .i64 i, .int .i64 j, .int .u32 b, .slice q m c'] 39 (0, 0)) ∧ Below w1.heap.size w1 W) ⟨hal (hnew rfl), hnew (by simp), al (al (Below.refl _ _) (Nat.le_refl _)) (by simp)⟩ ?_
  rintro w2 ⟨hl, ha2, hb2⟩
  have K2 : Hid (Below w.heap.size w w2) := K1.out.trans (hb2.mono K1.out.size)
  have S2 : Hid (Sl2 w2 (some ⟨w1.heap.size, 0, none⟩) 3 3 [x0, x1, x2]) := sl2_three hl (H0.out.keep K2.out) (H1.out.keep K2.out) (H2.out.keep K2.out)
  have SA2 : Hid (SlA w2 (some ⟨w1.heap.size + 1, 0, none⟩) 1 1 [A]) := by show SlA _ _ _ _ _; rw [HA.out]; exact sla_one ⟨d, i, j, b, bs⟩ ha2 (HS.out.keep K2.out) (by simp only; omega) (by simp only; omega) bb
  have X2 : Hid (w2.heap[w.heap.size]? = some (.cells #[.int .i64 d, .int .i64 i, .int .i64 j, .int .u32 b, .slice q m c'] 39 (0, 0))) := (hb2.block _ (blk_lt X1.out)).trans X1.out
  have L2 := Lib.hid hl
  obtain ⟨gl, hgl⟩ : ∃ gl, gl = w1.heap.size := ⟨_, rfl⟩
  rw [← hgl] at S2 SA2 L2 ⊢
  clear hl ha2 hb2 s0 s1 s2 s3 s4 r0 r1 r2 r3 r4 X1 K1 hgl
  have RM : Hid (∀ xs, xs ∈ [x0, x1, x2] → Room xs.length) := by
    intro xs hx; have := e0.out; have := e1.out; have := e2.out
    simp at hx; rcases hx with rfl | rfl | rfl <;> exact room300 (by omega)
  have RA : Hid (∀ a, a ∈ [A] → Room a.bs.length) := by
    intro a ha; have := em.out; simp at ha; subst ha; rw [HA.out]; exact room300 (by simp only; omega)
  have HAp : Hid (∀ p c W (h : Sl2 W p 3 c [x0, x1, x2]) (ha : SlA W (some ⟨gl + 1, 0, none⟩) 1 1 [A]), Calls Try.prog 16 #[.slice p 3 c, .slice (some ⟨gl + 1, 0, none⟩) 1 1] W (RetRows W (cameS [x0, x1, x2] A))) := fun p c W h ha => Apply_any p (some ⟨gl + 1, 0, none⟩) 3 c 1 1 [x0, x1, x2] [A] W h ha RM.out RA.out (by decide)
  refine Calls.mono (HAp.out _ _ w2 S2.out SA2.out) ?_; rintro e w9 ⟨q9, c9, rfl, ho9, hw9⟩
  have O9 := Lib.hid ho9.sl2
  have K9 := Lib.hid (bl K2.out hw9 K2.out.size)
  have f9 := (hw9.block _ (blk_lt X2.out)).trans X2.out
  have l9 := (hw9.block _ (blk_lt L2.out)).trans L2.out
  have SL9 := Lib.hid (S2.out.keep hw9)
  have L9 := Lib.hid l9; have F9 := Lib.hid f9
  clear ho9 hw9 S2 SA2 X2 L2 K2 l9
  obtain ⟨s0, s1, s2, s3, s4⟩ := cells5 f9
  have CM : Hid (cameS [x0, x1, x2] A = [x0, x1, x2]) := came_same _ _ (by rw [HA.out]; simp only [List.length_cons, List.length_nil]; omega)
  rw [CM.out] at O9 ⊢
  simp only [List.length_cons, List.length_nil] at O9 ⊢
  have dd5 : (d == 5) = false := by simp; omega
  clear f9
  have d5 : d ≤ 5 := by omega
  have io : decide (0 ≤ i) = false := by simp; omega
  go_wp2

  all_goals
    refine wp_region_shapes (fun ix => ([.val (.agg #[.int .i64 d, .int .i64 i, .int .i64 j, .int .u32 b, .slice q m c']), .val (.bool true), .val (.pointer (some ⟨w.heap.size, 0, none⟩)), .val (.int .i64 d), .val (.bool true), .val (.bool true), .val (.pointer (some ⟨w.heap.size, 0, none⟩)), .val (.int .i64 d), .val (.bool true), .val (.bool true), .val (.bool false)][ix]?).getD (.any)) 204 rfl (by kernel_rfl) (by decide) (by decide) (by decide) ?_ ?_
    · refine ⟨?_, ?_, ?_, ?_, ?_, ?_, ?_, ?_, ?_, ?_, ?_, trivial⟩
      · intro a W hb0 hs hp hi; have hb := undrew hb0; clear hb0
        have tt : sl a 7 = .pointer (some ⟨w.heap.size, 0, none⟩) := hi 7 (by decide)
        have dd0 := (hb.cell (p := ⟨w.heap.size, 0, none⟩) (lt_of_cell s0)).trans s0
        have dd1 := (hb.cell (p := ⟨w.heap.size, 1, none⟩) (lt_of_cell s1)).trans s1
        have dd2 := (hb.cell (p := ⟨w.heap.size, 2, none⟩) (lt_of_cell s2)).trans s2
        have dd3 := (hb.cell (p := ⟨w.heap.size, 3, none⟩) (lt_of_cell s3)).trans s3
        have dd4 := (hb.cell (p := ⟨w.heap.size, 4, none⟩) (lt_of_cell s4)).trans s4
        refine ite_y rfl (wp_val (.agg #[.int .i64 d, .int .i64 i, .int .i64 j, .int .u32 b, .slice q m c']) ?_ ?_)
        · simp only [execOp, eval_tmp, tt]; simp [go_sem, dd0, dd1, dd2, dd3, dd4]
        · exact ⟨_, rfl, Below.refl _ _, rfl⟩
      · intro a W hb0 hs hp hi; have hb := undrew hb0; clear hb0
        have t49 : sl a 49 = .agg #[.int .i64 d, .int .i64 i, .int .i64 j, .int .u32 b, .slice q m c'] := hp 0 (by decide)
        refine ite_y rfl (wp_enter 17 #[.agg #[.int .i64 d, .int .i64 i, .int .i64 j, .int .u32 b, .slice q m c']] ?_ (Harms_any (d) (i) (j) b (.slice q m c') _) ?_)
        · simp only [execOp, resolve, List.map_toArray, List.map, eval_tmp, eval_func, eval_const, t49]; simp [go_sem]
        · rintro e W' ⟨rfl, hw⟩; exact ⟨_, rfl, _, rfl, hw, congrArg Value.bool (by unfold harmsS; simp; omega)⟩
      · intro a W hb0 hs hp hi; have hb := undrew hb0; clear hb0
        have t7 : sl a 7 = .pointer (some ⟨w.heap.size, 0, none⟩) := hi 7 (by decide)
        refine ite_y rfl (wp_val (.pointer (some ⟨w.heap.size, 0, none⟩)) ?_ ?_)
        · simp only [execOp, eval_tmp, eval_const, t7]; simp [go_sem]
        · exact ⟨_, rfl, Below.refl _ _, rfl⟩
      · intro a W hb0 hs hp hi; have hb := undrew hb0; clear hb0
        have tt : sl a 51 = .pointer (some ⟨w.heap.size, 0, none⟩) := hp 2 (by decide)
        have dd := (hb.cell (p := ⟨w.heap.size, 0, none⟩) (lt_of_cell s0)).trans s0
        refine ite_y rfl (wp_val (.int .i64 d) ?_ ?_)
        · simp only [execOp, eval_tmp, tt]; simp [go_sem, dd]
        · exact ⟨_, rfl, Below.refl _ _, rfl⟩
      · intro a W hb0 hs hp hi; have hb := undrew hb0; clear hb0
        have t52 : sl a 52 = .int .i64 d := hp 3 (by decide)
        refine ite_y rfl (wp_val (.bool true) ?_ ?_)
        · simp only [execOp, eval_tmp, eval_const, t52]; simp [go_sem, hd0]
        · exact ⟨_, rfl, Below.refl _ _, rfl⟩
      · intro a W hb0 hs hp hi; have hb := undrew hb0; clear hb0
        have t53 : sl a 53 = .bool true := hp 4 (by decide)
        exact ite_y rfl (wp_val (sl a 53) rfl ⟨_, rfl, Below.refl _ _, t53⟩)
      · intro a W hb0 hs hp hi; have hb := undrew hb0; clear hb0
        have tg : sl a 54 = .bool true := hp 5 (by decide)
        have t7 : sl a 7 = .pointer (some ⟨w.heap.size, 0, none⟩) := hi 7 (by decide)
        refine ite_y (wanted_yes rfl rfl (by have hz : a.tmps.size = 204 := hs; rw [hz]; decide) tg) (wp_val (.pointer (some ⟨w.heap.size, 0, none⟩)) ?_ ?_)
        · simp only [execOp, eval_tmp, eval_const, t7]; simp [go_sem]
        · exact ⟨_, rfl, Below.refl _ _, rfl⟩
      · intro a W hb0 hs hp hi; have hb := undrew hb0; clear hb0
        have tg : sl a 54 = .bool true := hp 5 (by decide)
        have tt : sl a 55 = .pointer (some ⟨w.heap.size, 0, none⟩) := hp 6 (by decide)
        have dd := (hb.cell (p := ⟨w.heap.size, 0, none⟩) (lt_of_cell s0)).trans s0
        refine ite_y (wanted_yes rfl rfl (by have hz : a.tmps.size = 204 := hs; rw [hz]; decide) tg) (wp_val (.int .i64 d) ?_ ?_)
        · simp only [execOp, eval_tmp, tt]; simp [go_sem, dd]
        · exact ⟨_, rfl, Below.refl _ _, rfl⟩
      · intro a W hb0 hs hp hi; have hb := undrew hb0; clear hb0
        have tg : sl a 54 = .bool true := hp 5 (by decide)
        have t56 : sl a 56 = .int .i64 d := hp 7 (by decide)
        refine ite_y (wanted_yes rfl rfl (by have hz : a.tmps.size = 204 := hs; rw [hz]; decide) tg) (wp_val (.bool true) ?_ ?_)
        · simp only [execOp, eval_tmp, eval_const, t56]; simp [go_sem, d5]
        · exact ⟨_, rfl, Below.refl _ _, rfl⟩
      · intro a W hb0 hs hp hi; have hb := undrew hb0; clear hb0
        have t54 : sl a 54 = .bool true := hp 5 (by decide)
        have t57 : sl a 57 = .bool true := hp 8 (by decide)
        refine ite_y rfl (wp_val (.bool true) ?_ ?_)
        · simp only [execOp, eval_tmp, eval_const, t54, t57]; simp [go_sem]
        · exact ⟨_, rfl, Below.refl _ _, rfl⟩
      · intro a W hb0 hs hp hi; have hb := undrew hb0; clear hb0
        have t50 : sl a 50 = .bool true := hp 1 (by decide)
        have t58 : sl a 58 = .bool true := hp 9 (by decide)
        refine ite_y rfl (wp_val (.bool false) ?_ ?_)
        · simp only [execOp, eval_tmp, eval_const, t50, t58]; simp [go_sem]
        · exact ⟨_, rfl, Below.refl _ _, rfl⟩
    · intro a w10 hb hs hd hI ht
      have ha := act_is [49, 50, 51, 52, 53, 54, 55, 56, 57, 58, 59] hs hd ht (by decide)
      have t59 : sl a 59 = .bool false := hI 10 (by decide)
      simp only [List.foldl, t59] at ha
      generalize sl a 49 = u49 at ha
      generalize sl a 50 = u50 at ha
      generalize sl a 51 = u51 at ha
      generalize sl a 52 = u52 at ha
      generalize sl a 53 = u53 at ha
      generalize sl a 54 = u54 at ha
      generalize sl a 55 = u55 at ha
      generalize sl a 56 = u56 at ha
      generalize sl a 57 = u57 at ha
      generalize sl a 58 = u58 at ha
      simp only [Act.put, List.setIfInBounds_toArray, List.set_cons_zero, List.set_cons_succ] at ha
      rw [ha]; clear ha
      have F10 := Lib.hid ((hb.block _ (blk_lt F9.out)).trans F9.out)
      have L10 := Lib.hid ((hb.block _ (blk_lt L9.out)).trans L9.out)
      have O10 := Lib.hid (O9.out.keep hb)
      have SL10 := Lib.hid (SL9.out.keep hb)
      have K10 := Lib.hid (bl K9.out hb K9.out.size)
      clear hb F9 L9 O9 SL9 K9 hI
      try clear s0 s1 s2 s3 s4
      obtain ⟨s0, s1, s2, s3, s4⟩ := cells5 F10.out
      go_wp2_with fail
      all_goals
        refine Calls.mono (Same7_any _ _ _ _ _ _ [x0, x1, x2] [x0, x1, x2] _ O10.out SL10.out) ?_
        rintro e w11 ⟨rfl, hw⟩
        have K11 := Lib.hid (bl K10.out hw K10.out.size)
        simp only [decide_true]
        clear hw
        go_wp2
        go_ret
        exact ⟨rfl, K11.out⟩
set_option maxRecDepth 100000 in
set_option maxHeartbeats 4000000 in
theorem WayOne_outD1 (p0 p1 p2 q : Option Addr) (n0 n1 n2 m c0 c1 c2 c' b : Nat) (d : Int) (i : Int) (j : Int)  (x0 x1 x2 bs : List UInt8) (w : World) (h0 : Sl B8 w p0 n0 c0 x0) (h1 : Sl B8 w p1 n1 c1 x1) (h2 : Sl B8 w p2 n2 c2 x2) (hs : Sl B8 w q m c' bs) (hsum : n0 + n1 + n2 + m ≤ 100) (bb : b < 4294967296) (bi : i ≤ 9223372036854775807) (bj : j ≤ 9223372036854775807) (hd0 : 3 ≤ d) (hd : d ≤ 4) (hi : 3 ≤ i) :
    Calls Try.prog 4 #[.slice p0 n0 c0, .slice p1 n1 c1, .slice p2 n2 c2, .agg #[.int .i64 d, .int .i64 i, .int .i64 j, .int .u32 b, .slice q m c']] w fun e w' => e = .returned (.bool true) ∧ Below w.heap.size w w' := by
  have H0 := Lib.hid h0; have H1 := Lib.hid h1; have H2 := Lib.hid h2; have HS := Lib.hid hs
  have e0 := Lib.hid h0.len; have e1 := Lib.hid h1.len; have e2 := Lib.hid h2.len; have em := Lib.hid hs.len
  obtain ⟨A, hA⟩ : ∃ A : ActD, A = ⟨d, i, j, b, bs⟩ := ⟨_, rfl⟩
  have HA := Lib.hid hA
  have hB0 : ∀ o, Below w.heap.size w (w.alloc o) := fun o => al (Below.refl _ _) (Nat.le_refl _)
  have HB0 := Lib.hid hB0
  clear h0 h1 h2 hs hA hB0
  go_enter Try.func4, Try.ntmps4
  go_wp2_with fail
  refine (awake20 _).mono ?_; rintro e w1 ⟨rfl, k1⟩
  have X1 : Hid (w1.heap[w.heap.size]? = some (.cells #[.int .i64 d, .int .i64 i, .int .i64 j, .int .u32 b, .slice q m c'] 39 (0, 0))) := (k1.block _ (by simp)).trans (hnew rfl)
  have K1 : Hid (Below w.heap.size w w1) := (HB0.out _).trans (k1.mono (by simp))
  clear k1
  obtain ⟨s0, s1, s2, s3, s4⟩ := cells5 X1.out
  obtain ⟨r0, r1, r2, r3, r4⟩ := cells5 (hal (o := .cells #[.slice p0 n0 c0, .slice p1 n1 c1, .slice p2 n2 c2] 28) X1.out)
  go_wp2_with fail
  refine use_w2 (fun W => W.heap[w1.heap.size]? = some (.cells #[.slice p0 n0 c0, .slice p1 n1 c1, .slice p2 n2 c2] 28 (0, 0)) ∧ W.heap[w1.heap.size + 1]? = some (.cells #[.int .i64 d, .int .i64 i, .int .i64 j, .int .u32 b, .slice q m c'] 39 (0, 0)) ∧ Below w1.heap.size w1 W) ⟨hal (hnew rfl), hnew (by simp), al (al (Below.refl _ _) (Nat.le_refl _)) (by simp)⟩ ?_
  rintro w2 ⟨hl, ha2, hb2⟩
  have K2 : Hid (Below w.heap.size w w2) := K1.out.trans (hb2.mono K1.out.size)
  have S2 : Hid (Sl2 w2 (some ⟨w1.heap.size, 0, none⟩) 3 3 [x0, x1, x2]) := sl2_three hl (H0.out.keep K2.out) (H1.out.keep K2.out) (H2.out.keep K2.out)
  have SA2 : Hid (SlA w2 (some ⟨w1.heap.size + 1, 0, none⟩) 1 1 [A]) := by show SlA _ _ _ _ _; rw [HA.out]; exact sla_one ⟨d, i, j, b, bs⟩ ha2 (HS.out.keep K2.out) (by simp only; omega) (by simp only; omega) bb
  have X2 : Hid (w2.heap[w.heap.size]? = some (.cells #[.int .i64 d, .int .i64 i, .int .i64 j, .int .u32 b, .slice q m c'] 39 (0, 0))) := (hb2.block _ (blk_lt X1.out)).trans X1.out
  have L2 := Lib.hid hl
  obtain ⟨gl, hgl⟩ : ∃ gl, gl = w1.heap.size := ⟨_, rfl⟩
  rw [← hgl] at S2 SA2 L2 ⊢
  clear hl ha2 hb2 s0 s1 s2 s3 s4 r0 r1 r2 r3 r4 X1 K1 hgl
  have RM : Hid (∀ xs, xs ∈ [x0, x1, x2] → Room xs.length) := by
    intro xs hx; have := e0.out; have := e1.out; have := e2.out
    simp at hx; rcases hx with rfl | rfl | rfl <;> exact room300 (by omega)
  have RA : Hid (∀ a, a ∈ [A] → Room a.bs.length) := by
    intro a ha; have := em.out; simp at ha; subst ha; rw [HA.out]; exact room300 (by simp only; omega)
  have HAp : Hid (∀ p c W (h : Sl2 W p 3 c [x0, x1, x2]) (ha : SlA W (some ⟨gl + 1, 0, none⟩) 1 1 [A]), Calls Try.prog 16 #[.slice p 3 c, .slice (some ⟨gl + 1, 0, none⟩) 1 1] W (RetRows W (cameS [x0, x1, x2] A))) := fun p c W h ha => Apply_any p (some ⟨gl + 1, 0, none⟩) 3 c 1 1 [x0, x1, x2] [A] W h ha RM.out RA.out (by decide)
  refine Calls.mono (HAp.out _ _ w2 S2.out SA2.out) ?_; rintro e w9 ⟨q9, c9, rfl, ho9, hw9⟩
  have O9 := Lib.hid ho9.sl2
  have K9 := Lib.hid (bl K2.out hw9 K2.out.size)
  have f9 := (hw9.block _ (blk_lt X2.out)).trans X2.out
  have l9 := (hw9.block _ (blk_lt L2.out)).trans L2.out
  have SL9 := Lib.hid (S2.out.keep hw9)
  have L9 := Lib.hid l9; have F9 := Lib.hid f9
  clear ho9 hw9 S2 SA2 X2 L2 K2 l9
  obtain ⟨s0, s1, s2, s3, s4⟩ := cells5 f9
  have CM : Hid (cameS [x0, x1, x2] A = [x0, x1, x2]) := came_same _ _ (by rw [HA.out]; simp only [List.length_cons, List.length_nil]; omega)
  rw [CM.out] at O9 ⊢
  simp only [List.length_cons, List.length_nil] at O9 ⊢
  have dd5 : (d == 5) = false := by simp; omega
  clear f9
  have d5 : d ≤ 5 := by omega
  have io : decide (0 ≤ i) = true := by simp; omega
  have i3 : decide (i < 3) = false := by simp; omega
  go_wp2

  all_goals
    refine wp_region_shapes (fun ix => ([.val (.agg #[.int .i64 d, .int .i64 i, .int .i64 j, .int .u32 b, .slice q m c']), .val (.bool true), .val (.pointer (some ⟨w.heap.size, 0, none⟩)), .val (.int .i64 d), .val (.bool true), .val (.bool true), .val (.pointer (some ⟨w.heap.size, 0, none⟩)), .val (.int .i64 d), .val (.bool true), .val (.bool true), .val (.bool false)][ix]?).getD (.any)) 204 rfl (by kernel_rfl) (by decide) (by decide) (by decide) ?_ ?_
    · refine ⟨?_, ?_, ?_, ?_, ?_, ?_, ?_, ?_, ?_, ?_, ?_, trivial⟩
      · intro a W hb0 hs hp hi; have hb := undrew hb0; clear hb0
        have tt : sl a 7 = .pointer (some ⟨w.heap.size, 0, none⟩) := hi 7 (by decide)
        have dd0 := (hb.cell (p := ⟨w.heap.size, 0, none⟩) (lt_of_cell s0)).trans s0
        have dd1 := (hb.cell (p := ⟨w.heap.size, 1, none⟩) (lt_of_cell s1)).trans s1
        have dd2 := (hb.cell (p := ⟨w.heap.size, 2, none⟩) (lt_of_cell s2)).trans s2
        have dd3 := (hb.cell (p := ⟨w.heap.size, 3, none⟩) (lt_of_cell s3)).trans s3
        have dd4 := (hb.cell (p := ⟨w.heap.size, 4, none⟩) (lt_of_cell s4)).trans s4
        refine ite_y rfl (wp_val (.agg #[.int .i64 d, .int .i64 i, .int .i64 j, .int .u32 b, .slice q m c']) ?_ ?_)
        · simp only [execOp, eval_tmp, tt]; simp [go_sem, dd0, dd1, dd2, dd3, dd4]
        · exact ⟨_, rfl, Below.refl _ _, rfl⟩
      · intro a W hb0 hs hp hi; have hb := undrew hb0; clear hb0
        have t49 : sl a 49 = .agg #[.int .i64 d, .int .i64 i, .int .i64 j, .int .u32 b, .slice q m c'] := hp 0 (by decide)
        refine ite_y rfl (wp_enter 17 #[.agg #[.int .i64 d, .int .i64 i, .int .i64 j, .int .u32 b, .slice q m c']] ?_ (Harms_any (d) (i) (j) b (.slice q m c') _) ?_)
        · simp only [execOp, resolve, List.map_toArray, List.map, eval_tmp, eval_func, eval_const, t49]; simp [go_sem]
        · rintro e W' ⟨rfl, hw⟩; exact ⟨_, rfl, _, rfl, hw, congrArg Value.bool (by unfold harmsS; simp; omega)⟩
      · intro a W hb0 hs hp hi; have hb := undrew hb0; clear hb0
        have t7 : sl a 7 = .pointer (some ⟨w.heap.size, 0, none⟩) := hi 7 (by decide)
        refine ite_y rfl (wp_val (.pointer (some ⟨w.heap.size, 0, none⟩)) ?_ ?_)
        · simp only [execOp, eval_tmp, eval_const, t7]; simp [go_sem]
        · exact ⟨_, rfl, Below.refl _ _, rfl⟩
      · intro a W hb0 hs hp hi; have hb := undrew hb0; clear hb0
        have tt : sl a 51 = .pointer (some ⟨w.heap.size, 0, none⟩) := hp 2 (by decide)
        have dd := (hb.cell (p := ⟨w.heap.size, 0, none⟩) (lt_of_cell s0)).trans s0
        refine ite_y rfl (wp_val (.int .i64 d) ?_ ?_)
        · simp only [execOp, eval_tmp, tt]; simp [go_sem, dd]
        · exact ⟨_, rfl, Below.refl _ _, rfl⟩
      · intro a W hb0 hs hp hi; have hb := undrew hb0; clear hb0
        have t52 : sl a 52 = .int .i64 d := hp 3 (by decide)
        refine ite_y rfl (wp_val (.bool true) ?_ ?_)
        · simp only [execOp, eval_tmp, eval_const, t52]; simp [go_sem, hd0]
        · exact ⟨_, rfl, Below.refl _ _, rfl⟩
      · intro a W hb0 hs hp hi; have hb := undrew hb0; clear hb0
        have t53 : sl a 53 = .bool true := hp 4 (by decide)
        exact ite_y rfl (wp_val (sl a 53) rfl ⟨_, rfl, Below.refl _ _, t53⟩)
      · intro a W hb0 hs hp hi; have hb := undrew hb0; clear hb0
        have tg : sl a 54 = .bool true := hp 5 (by decide)
        have t7 : sl a 7 = .pointer (some ⟨w.heap.size, 0, none⟩) := hi 7 (by decide)
        refine ite_y (wanted_yes rfl rfl (by have hz : a.tmps.size = 204 := hs; rw [hz]; decide) tg) (wp_val (.pointer (some ⟨w.heap.size, 0, none⟩)) ?_ ?_)
        · simp only [execOp, eval_tmp, eval_const, t7]; simp [go_sem]
        · exact ⟨_, rfl, Below.refl _ _, rfl⟩
      · intro a W hb0 hs hp hi; have hb := undrew hb0; clear hb0
        have tg : sl a 54 = .bool true := hp 5 (by decide)
        have tt : sl a 55 = .pointer (some ⟨w.heap.size, 0, none⟩) := hp 6 (by decide)
        have dd := (hb.cell (p := ⟨w.heap.size, 0, none⟩) (lt_of_cell s0)).trans s0
        refine ite_y (wanted_yes rfl rfl (by have hz : a.tmps.size = 204 := hs; rw [hz]; decide) tg) (wp_val (.int .i64 d) ?_ ?_)
        · simp only [execOp, eval_tmp, tt]; simp [go_sem, dd]
        · exact ⟨_, rfl, Below.refl _ _, rfl⟩
      · intro a W hb0 hs hp hi; have hb := undrew hb0; clear hb0
        have tg : sl a 54 = .bool true := hp 5 (by decide)
        have t56 : sl a 56 = .int .i64 d := hp 7 (by decide)
        refine ite_y (wanted_yes rfl rfl (by have hz : a.tmps.size = 204 := hs; rw [hz]; decide) tg) (wp_val (.bool true) ?_ ?_)
        · simp only [execOp, eval_tmp, eval_const, t56]; simp [go_sem, d5]
        · exact ⟨_, rfl, Below.refl _ _, rfl⟩
      · intro a W hb0 hs hp hi; have hb := undrew hb0; clear hb0
        have t54 : sl a 54 = .bool true := hp 5 (by decide)
        have t57 : sl a 57 = .bool true := hp 8 (by decide)
        refine ite_y rfl (wp_val (.bool true) ?_ ?_)
        · simp only [execOp, eval_tmp, eval_const, t54, t57]; simp [go_sem]
        · exact ⟨_, rfl, Below.refl _ _, rfl⟩
      · intro a W hb0 hs hp hi; have hb := undrew hb0; clear hb0
        have t50 : sl a 50 = .bool true := hp 1 (by decide)
        have t58 : sl a 58 = .bool true := hp 9 (by decide)
        refine ite_y rfl (wp_val (.bool false) ?_ ?_)
        · simp only [execOp, eval_tmp, eval_const, t50, t58]; simp [go_sem]
        · exact ⟨_, rfl, Below.refl _ _, rfl⟩
    · intro a w10 hb hs hd hI ht
      have ha := act_is [49, 50, 51, 52, 53, 54, 55, 56, 57, 58, 59] hs hd ht (by decide)
      have t59 : sl a 59 = .bool false := hI 10 (by decide)
      simp only [List.foldl, t59] at ha
      generalize sl a 49 = u49 at ha
      generalize sl a 50 = u50 at ha
      generalize sl a 51 = u51 at ha
      generalize sl a 52 = u52 at ha
      generalize sl a 53 = u53 at ha
      generalize sl a 54 = u54 at ha
      generalize sl a 55 = u55 at ha
      generalize sl a 56 = u56 at ha
      generalize sl a 57 = u57 at ha
      generalize sl a 58 = u58 at ha
      simp only [Act.put, List.setIfInBounds_toArray, List.set_cons_zero, List.set_cons_succ] at ha
      rw [ha]; clear ha
      have F10 := Lib.hid ((hb.block _ (blk_lt F9.out)).trans F9.out)
      have L10 := Lib.hid ((hb.block _ (blk_lt L9.out)).trans L9.out)
      have O10 := Lib.hid (O9.out.keep hb)
      have SL10 := Lib.hid (SL9.out.keep hb)
      have K10 := Lib.hid (bl K9.out hb K9.out.size)
      clear hb F9 L9 O9 SL9 K9 hI
      try clear s0 s1 s2 s3 s4
      obtain ⟨s0, s1, s2, s3, s4⟩ := cells5 F10.out
      go_wp2_with fail
      all_goals
        refine Calls.mono (Same7_any _ _ _ _ _ _ [x0, x1, x2] [x0, x1, x2] _ O10.out SL10.out) ?_
        rintro e w11 ⟨rfl, hw⟩
        have K11 := Lib.hid (bl K10.out hw K10.out.size)
        simp only [decide_true]
        clear hw
        go_wp2
        go_ret
        exact ⟨rfl, K11.out⟩
set_option maxRecDepth 100000 in
set_option maxHeartbeats 4000000 in
theorem WayOne_outD2 (p0 p1 p2 q : Option Addr) (n0 n1 n2 m c0 c1 c2 c' b : Nat) (d : Int) (i : Int) (j : Int)  (x0 x1 x2 bs : List UInt8) (w : World) (h0 : Sl B8 w p0 n0 c0 x0) (h1 : Sl B8 w p1 n1 c1 x1) (h2 : Sl B8 w p2 n2 c2 x2) (hs : Sl B8 w q m c' bs) (hsum : n0 + n1 + n2 + m ≤ 100) (bb : b < 4294967296) (bi : i ≤ 9223372036854775807) (bj : j ≤ 9223372036854775807) (hd0 : 3 ≤ d) (hd : d ≤ 4) (hi : 0 ≤ i) (hi3 : i < 3) (hj : j < 0) :
    Calls Try.prog 4 #[.slice p0 n0 c0, .slice p1 n1 c1, .slice p2 n2 c2, .agg #[.int .i64 d, .int .i64 i, .int .i64 j, .int .u32 b, .slice q m c']] w fun e w' => e = .returned (.bool true) ∧ Below w.heap.size w w' := by
  have H0 := Lib.hid h0; have H1 := Lib.hid h1; have H2 := Lib.hid h2; have HS := Lib.hid hs
  have e0 := Lib.hid h0.len; have e1 := Lib.hid h1.len; have e2 := Lib.hid h2.len; have em := Lib.hid hs.len
  obtain ⟨A, hA⟩ : ∃ A : ActD, A = ⟨d, i, j, b, bs⟩ := ⟨_, rfl⟩
  have HA := Lib.hid hA
  have hB0 : ∀ o, Below w.heap.size w (w.alloc o) := fun o => al (Below.refl _ _) (Nat.le_refl _)
  have HB0 := Lib.hid hB0
  clear h0 h1 h2 hs hA hB0
  go_enter Try.func4, Try.ntmps4
  go_wp2_with fail
  refine (awake20 _).mono ?_; rintro e w1 ⟨rfl, k1⟩
  have X1 : Hid (w1.heap[w.heap.size]? = some (.cells #[.int .i64 d, .int .i64 i, .int .i64 j, .int .u32 b, .slice q m c'] 39 (0, 0))) := (k1.block _ (by simp)).trans (hnew rfl)
  have K1 : Hid (Below w.heap.size w w1) := (HB0.out _).trans (k1.mono (by simp))
  clear k1
  obtain ⟨s0, s1, s2, s3, s4⟩ := cells5 X1.out
  obtain ⟨r0, r1, r2, r3, r4⟩ := cells5 (hal (o := .cells #[.slice p0 n0 c0, .slice p1 n1 c1, .slice p2 n2 c2] 28) X1.out)
  go_wp2_with fail
  refine use_w2 (fun W => W.heap[w1.heap.size]? = some (.cells #[.slice p0 n0 c0, .slice p1 n1 c1, .slice p2 n2 c2] 28 (0, 0)) ∧ W.heap[w1.heap.size + 1]? = some (.cells #[.int .i64 d, .int .i64 i, .int .i64 j, .int .u32 b, .slice q m c'] 39 (0, 0)) ∧ Below w1.heap.size w1 W) ⟨hal (hnew rfl), hnew (by simp), al (al (Below.refl _ _) (Nat.le_refl _)) (by simp)⟩ ?_
  rintro w2 ⟨hl, ha2, hb2⟩
  have K2 : Hid (Below w.heap.size w w2) := K1.out.trans (hb2.mono K1.out.size)
  have S2 : Hid (Sl2 w2 (some ⟨w1.heap.size, 0, none⟩) 3 3 [x0, x1, x2]) := sl2_three hl (H0.out.keep K2.out) (H1.out.keep K2.out) (H2.out.keep K2.out)
  have SA2 : Hid (SlA w2 (some ⟨w1.heap.size + 1, 0, none⟩) 1 1 [A]) := by show SlA _ _ _ _ _; rw [HA.out]; exact sla_one ⟨d, i, j, b, bs⟩ ha2 (HS.out.keep K2.out) (by simp only; omega) (by simp only; omega) bb
  have X2 : Hid (w2.heap[w.heap.size]? = some (.cells #[.int .i64 d, .int .i64 i, .int .i64 j, .int .u32 b, .slice q m c'] 39 (0, 0))) := (hb2.block _ (blk_lt X1.out)).trans X1.out
  have L2 := Lib.hid hl
  obtain ⟨gl, hgl⟩ : ∃ gl, gl = w1.heap.size := ⟨_, rfl⟩
  rw [← hgl] at S2 SA2 L2 ⊢
  clear hl ha2 hb2 s0 s1 s2 s3 s4 r0 r1 r2 r3 r4 X1 K1 hgl
  have RM : Hid (∀ xs, xs ∈ [x0, x1, x2] → Room xs.length) := by
    intro xs hx; have := e0.out; have := e1.out; have := e2.out
    simp at hx; rcases hx with rfl | rfl | rfl <;> exact room300 (by omega)
  have RA : Hid (∀ a, a ∈ [A] → Room a.bs.length) := by
    intro a ha; have := em.out; simp at ha; subst ha; rw [HA.out]; exact room300 (by simp only; omega)
  have HAp : Hid (∀ p c W (h : Sl2 W p 3 c [x0, x1, x2]) (ha : SlA W (some ⟨gl + 1, 0, none⟩) 1 1 [A]), Calls Try.prog 16 #[.slice p 3 c, .slice (some ⟨gl + 1, 0, none⟩) 1 1] W (RetRows W (cameS [x0, x1, x2] A))) := fun p c W h ha => Apply_any p (some ⟨gl + 1, 0, none⟩) 3 c 1 1 [x0, x1, x2] [A] W h ha RM.out RA.out (by decide)
  refine Calls.mono (HAp.out _ _ w2 S2.out SA2.out) ?_; rintro e w9 ⟨q9, c9, rfl, ho9, hw9⟩
  have O9 := Lib.hid ho9.sl2
  have K9 := Lib.hid (bl K2.out hw9 K2.out.size)
  have f9 := (hw9.block _ (blk_lt X2.out)).trans X2.out
  have l9 := (hw9.block _ (blk_lt L2.out)).trans L2.out
  have SL9 := Lib.hid (S2.out.keep hw9)
  have L9 := Lib.hid l9; have F9 := Lib.hid f9
  clear ho9 hw9 S2 SA2 X2 L2 K2 l9
  obtain ⟨s0, s1, s2, s3, s4⟩ := cells5 f9
  have CM : Hid (cameS [x0, x1, x2] A = [x0, x1, x2]) := came_same _ _ (by rw [HA.out]; simp only [List.length_cons, List.length_nil]; omega)
  rw [CM.out] at O9 ⊢
  simp only [List.length_cons, List.length_nil] at O9 ⊢
  have dd5 : (d == 5) = false := by simp; omega
  clear f9
  have d5 : d ≤ 5 := by omega
  have jo : decide (0 ≤ j) = false := by simp; omega
  go_wp2

  all_goals
    refine wp_region_shapes (fun ix => ([.val (.agg #[.int .i64 d, .int .i64 i, .int .i64 j, .int .u32 b, .slice q m c']), .val (.bool true), .val (.pointer (some ⟨w.heap.size, 0, none⟩)), .val (.int .i64 d), .val (.bool true), .val (.bool true), .val (.pointer (some ⟨w.heap.size, 0, none⟩)), .val (.int .i64 d), .val (.bool true), .val (.bool true), .val (.bool false)][ix]?).getD (.any)) 204 rfl (by kernel_rfl) (by decide) (by decide) (by decide) ?_ ?_
    · refine ⟨?_, ?_, ?_, ?_, ?_, ?_, ?_, ?_, ?_, ?_, ?_, trivial⟩
      · intro a W hb0 hs hp hi; have hb := undrew hb0; clear hb0
        have tt : sl a 7 = .pointer (some ⟨w.heap.size, 0, none⟩) := hi 7 (by decide)
        have dd0 := (hb.cell (p := ⟨w.heap.size, 0, none⟩) (lt_of_cell s0)).trans s0
        have dd1 := (hb.cell (p := ⟨w.heap.size, 1, none⟩) (lt_of_cell s1)).trans s1
        have dd2 := (hb.cell (p := ⟨w.heap.size, 2, none⟩) (lt_of_cell s2)).trans s2
        have dd3 := (hb.cell (p := ⟨w.heap.size, 3, none⟩) (lt_of_cell s3)).trans s3
        have dd4 := (hb.cell (p := ⟨w.heap.size, 4, none⟩) (lt_of_cell s4)).trans s4
        refine ite_y rfl (wp_val (.agg #[.int .i64 d, .int .i64 i, .int .i64 j, .int .u32 b, .slice q m c']) ?_ ?_)
        · simp only [execOp, eval_tmp, tt]; simp [go_sem, dd0, dd1, dd2, dd3, dd4]
        · exact ⟨_, rfl, Below.refl _ _, rfl⟩
      · intro a W hb0 hs hp hi; have hb := undrew hb0; clear hb0
        have t49 : sl a 49 = .agg #[.int .i64 d, .int .i64 i, .int .i64 j, .int .u32 b, .slice q m c'] := hp 0 (by decide)
        refine ite_y rfl (wp_enter 17 #[.agg #[.int .i64 d, .int .i64 i, .int .i64 j, .int .u32 b, .slice q m c']] ?_ (Harms_any (d) (i) (j) b (.slice q m c') _) ?_)
        · simp only [execOp, resolve, List.map_toArray, List.map, eval_tmp, eval_func, eval_const, t49]; simp [go_sem]
        · rintro e W' ⟨rfl, hw⟩; exact ⟨_, rfl, _, rfl, hw, congrArg Value.bool (by unfold harmsS; simp; omega)⟩
      · intro a W hb0 hs hp hi; have hb := undrew hb0; clear hb0
        have t7 : sl a 7 = .pointer (some ⟨w.heap.size, 0, none⟩) := hi 7 (by decide)
        refine ite_y rfl (wp_val (.pointer (some ⟨w.heap.size, 0, none⟩)) ?_ ?_)
        · simp only [execOp, eval_tmp, eval_const, t7]; simp [go_sem]
        · exact ⟨_, rfl, Below.refl _ _, rfl⟩
      · intro a W hb0 hs hp hi; have hb := undrew hb0; clear hb0
        have tt : sl a 51 = .pointer (some ⟨w.heap.size, 0, none⟩) := hp 2 (by decide)
        have dd := (hb.cell (p := ⟨w.heap.size, 0, none⟩) (lt_of_cell s0)).trans s0
        refine ite_y rfl (wp_val (.int .i64 d) ?_ ?_)
        · simp only [execOp, eval_tmp, tt]; simp [go_sem, dd]
        · exact ⟨_, rfl, Below.refl _ _, rfl⟩
      · intro a W hb0 hs hp hi; have hb := undrew hb0; clear hb0
        have t52 : sl a 52 = .int .i64 d := hp 3 (by decide)
        refine ite_y rfl (wp_val (.bool true) ?_ ?_)
        · simp only [execOp, eval_tmp, eval_const, t52]; simp [go_sem, hd0]
        · exact ⟨_, rfl, Below.refl _ _, rfl⟩
      · intro a W hb0 hs hp hi; have hb := undrew hb0; clear hb0
        have t53 : sl a 53 = .bool true := hp 4 (by decide)
        exact ite_y rfl (wp_val (sl a 53) rfl ⟨_, rfl, Below.refl _ _, t53⟩)
      · intro a W hb0 hs hp hi; have hb := undrew hb0; clear hb0
        have tg : sl a 54 = .bool true := hp 5 (by decide)
        have t7 : sl a 7 = .pointer (some ⟨w.heap.size, 0, none⟩) := hi 7 (by decide)
        refine ite_y (wanted_yes rfl rfl (by have hz : a.tmps.size = 204 := hs; rw [hz]; decide) tg) (wp_val (.pointer (some ⟨w.heap.size, 0, none⟩)) ?_ ?_)
        · simp only [execOp, eval_tmp, eval_const, t7]; simp [go_sem]
        · exact ⟨_, rfl, Below.refl _ _, rfl⟩
      · intro a W hb0 hs hp hi; have hb := undrew hb0; clear hb0
        have tg : sl a 54 = .bool true := hp 5 (by decide)
        have tt : sl a 55 = .pointer (some ⟨w.heap.size, 0, none⟩) := hp 6 (by decide)
        have dd := (hb.cell (p := ⟨w.heap.size, 0, none⟩) (lt_of_cell s0)).trans s0
        refine ite_y (wanted_yes rfl rfl (by have hz : a.tmps.size = 204 := hs; rw [hz]; decide) tg) (wp_val (.int .i64 d) ?_ ?_)
        · simp only [execOp, eval_tmp, tt]; simp [go_sem, dd]
        · exact ⟨_, rfl, Below.refl _ _, rfl⟩
      · intro a W hb0 hs hp hi; have hb := undrew hb0; clear hb0
        have tg : sl a 54 = .bool true := hp 5 (by decide)
        have t56 : sl a 56 = .int .i64 d := hp 7 (by decide)
        refine ite_y (wanted_yes rfl rfl (by have hz : a.tmps.size = 204 := hs; rw [hz]; decide) tg) (wp_val (.bool true) ?_ ?_)
        · simp only [execOp, eval_tmp, eval_const, t56]; simp [go_sem, d5]
        · exact ⟨_, rfl, Below.refl _ _, rfl⟩
      · intro a W hb0 hs hp hi; have hb := undrew hb0; clear hb0
        have t54 : sl a 54 = .bool true := hp 5 (by decide)
        have t57 : sl a 57 = .bool true := hp 8 (by decide)
        refine ite_y rfl (wp_val (.bool true) ?_ ?_)
        · simp only [execOp, eval_tmp, eval_const, t54, t57]; simp [go_sem]
        · exact ⟨_, rfl, Below.refl _ _, rfl⟩
      · intro a W hb0 hs hp hi; have hb := undrew hb0; clear hb0
        have t50 : sl a 50 = .bool true := hp 1 (by decide)
        have t58 : sl a 58 = .bool true := hp 9 (by decide)
        refine ite_y rfl (wp_val (.bool false) ?_ ?_)
        · simp only [execOp, eval_tmp, eval_const, t50, t58]; simp [go_sem]
        · exact ⟨_, rfl, Below.refl _ _, rfl⟩
    · intro a w10 hb hs hd hI ht
      have ha := act_is [49, 50, 51, 52, 53, 54, 55, 56, 57, 58, 59] hs hd ht (by decide)
      have t59 : sl a 59 = .bool false := hI 10 (by decide)
      simp only [List.foldl, t59] at ha
      generalize sl a 49 = u49 at ha
      generalize sl a 50 = u50 at ha
      generalize sl a 51 = u51 at ha
      generalize sl a 52 = u52 at ha
      generalize sl a 53 = u53 at ha
      generalize sl a 54 = u54 at ha
      generalize sl a 55 = u55 at ha
      generalize sl a 56 = u56 at ha
      generalize sl a 57 = u57 at ha
      generalize sl a 58 = u58 at ha
      simp only [Act.put, List.setIfInBounds_toArray, List.set_cons_zero, List.set_cons_succ] at ha
      rw [ha]; clear ha
      have F10 := Lib.hid ((hb.block _ (blk_lt F9.out)).trans F9.out)
      have L10 := Lib.hid ((hb.block _ (blk_lt L9.out)).trans L9.out)
      have O10 := Lib.hid (O9.out.keep hb)
      have SL10 := Lib.hid (SL9.out.keep hb)
      have K10 := Lib.hid (bl K9.out hb K9.out.size)
      clear hb F9 L9 O9 SL9 K9 hI
      try clear s0 s1 s2 s3 s4
      obtain ⟨s0, s1, s2, s3, s4⟩ := cells5 F10.out
      go_wp2_with fail
      all_goals
        refine Calls.mono (Same7_any _ _ _ _ _ _ [x0, x1, x2] [x0, x1, x2] _ O10.out SL10.out) ?_
        rintro e w11 ⟨rfl, hw⟩
        have K11 := Lib.hid (bl K10.out hw K10.out.size)
        simp only [decide_true]
        clear hw
        go_wp2
        go_ret
        exact ⟨rfl, K11.out⟩
end Go.Proofs.Ytlfcijpkdhdmeaa
