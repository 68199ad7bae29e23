/- WayOne: the walk, forge. -/
import Derived.Test.YtlfcijpkdhdmeaaAi
import Derived.Test.YtlfcijpkdhdmeaaM4
import Derived.Test.YtlfcijpkdhdmeaaR5
namespace Go.Proofs.Ytlfcijpkdhdmeaa
open Go.RowKit Go.By
set_option maxRecDepth 100000 in
set_option maxHeartbeats 4000000 in
theorem WayOne_forgeN (p0 p1 p2 q : Option Addr) (n0 n1 n2 m c0 c1 c2 c' b : Nat) (i : Int) (j : Int)  (x0 x1 x2 bs : List UInt8) (w : World) (h0 : Sl B8 w p0 n0 c0 x0) (h1 : Sl B8 w p1 n1 c1 x1) (h2 : Sl B8 w p2 n2 c2 x2) (hs : Sl B8 w q m c' bs) (hsum : n0 + n1 + n2 + m ≤ 100) (bb : b < 4294967296) (bi : i ≤ 9223372036854775807) (hj : j < 0) :
    Calls Try.prog 4 #[.slice p0 n0 c0, .slice p1 n1 c1, .slice p2 n2 c2, .agg #[.int .i64 5, .int .i64 i, .int .i64 j, .int .u32 b, .slice q m c']] w fun e w' => e = .returned (.bool true) ∧ Below w.heap.size w w' := by
  have H0 := Lib.hid h0; have H1 := Lib.hid h1; have H2 := Lib.hid h2; have HS := Lib.hid hs
  have e0 := Lib.hid h0.len; have e1 := Lib.hid h1.len; have e2 := Lib.hid h2.len; have em := Lib.hid hs.len
  obtain ⟨A, hA⟩ : ∃ A : ActD, A = ⟨5, i, j, b, bs⟩ := ⟨_, rfl⟩
  have HA := Lib.hid hA
  have hB0 : ∀ o, Below w.heap.size w (w.alloc o) := fun o => al (Below.refl _ _) (Nat.le_refl _)
  have HB0 := Lib.hid hB0
  clear h0 h1 h2 hs hA hB0
  go_enter Try.func4, Try.ntmps4
  go_wp2_with fail
  refine (awake20 _).mono ?_; rintro e w1 ⟨rfl, k1⟩
  have X1 : Hid (w1.heap[w.heap.size]? = some (.cells #[.int .i64 5, .int .i64 i, .int .i64 j, .int .u32 b, .slice q m c'] 39 (0, 0))) := (k1.block _ (by simp)).trans (hnew rfl)
  have K1 : Hid (Below w.heap.size w w1) := (HB0.out _).trans (k1.mono (by simp))
  clear k1
  obtain ⟨s0, s1, s2, s3, s4⟩ := cells5 X1.out
  obtain ⟨r0, r1, r2, r3, r4⟩ := cells5 (hal (o := .cells #[.slice p0 n0 c0, .slice p1 n1 c1, .slice p2 n2 c2] 28) X1.out)
  go_wp2_with fail
  refine use_w2 (fun W => W.heap[w1.heap.size]? = some (.cells #[.slice p0 n0 c0, .slice p1 n1 c1, .slice p2 n2 c2] 28 (0, 0)) ∧ W.heap[w1.heap.size + 1]? = some (.cells #[.int .i64 5, .int .i64 i, .int .i64 j, .int .u32 b, .slice q m c'] 39 (0, 0)) ∧ Below w1.heap.size w1 W) ⟨hal (hnew rfl), hnew (by simp), al (al (Below.refl _ _) (Nat.le_refl _)) (by simp)⟩ ?_
  rintro w2 ⟨hl, ha2, hb2⟩
  have K2 : Hid (Below w.heap.size w w2) := K1.out.trans (hb2.mono K1.out.size)
  have S2 : Hid (Sl2 w2 (some ⟨w1.heap.size, 0, none⟩) 3 3 [x0, x1, x2]) := sl2_three hl (H0.out.keep K2.out) (H1.out.keep K2.out) (H2.out.keep K2.out)
  have SA2 : Hid (SlA w2 (some ⟨w1.heap.size + 1, 0, none⟩) 1 1 [A]) := by show SlA _ _ _ _ _; rw [HA.out]; exact sla_one ⟨5, i, j, b, bs⟩ ha2 (HS.out.keep K2.out) (by simp only; omega) (by simp only; omega) bb
  have X2 : Hid (w2.heap[w.heap.size]? = some (.cells #[.int .i64 5, .int .i64 i, .int .i64 j, .int .u32 b, .slice q m c'] 39 (0, 0))) := (hb2.block _ (blk_lt X1.out)).trans X1.out
  have L2 := Lib.hid hl
  obtain ⟨gl, hgl⟩ : ∃ gl, gl = w1.heap.size := ⟨_, rfl⟩
  rw [← hgl] at S2 SA2 L2 ⊢
  clear hl ha2 hb2 s0 s1 s2 s3 s4 r0 r1 r2 r3 r4 X1 K1 hgl
  have RM : Hid (∀ xs, xs ∈ [x0, x1, x2] → Room xs.length) := by
    intro xs hx; have := e0.out; have := e1.out; have := e2.out
    simp at hx; rcases hx with rfl | rfl | rfl <;> exact room300 (by omega)
  have RA : Hid (∀ a, a ∈ [A] → Room a.bs.length) := by
    intro a ha; have := em.out; simp at ha; subst ha; rw [HA.out]; exact room300 (by simp only; omega)
  have HAp : Hid (∀ p c W (h : Sl2 W p 3 c [x0, x1, x2]) (ha : SlA W (some ⟨gl + 1, 0, none⟩) 1 1 [A]), Calls Try.prog 16 #[.slice p 3 c, .slice (some ⟨gl + 1, 0, none⟩) 1 1] W (RetRows W (cameS [x0, x1, x2] A))) := fun p c W h ha => Apply_any p (some ⟨gl + 1, 0, none⟩) 3 c 1 1 [x0, x1, x2] [A] W h ha RM.out RA.out (by decide)
  refine Calls.mono (HAp.out _ _ w2 S2.out SA2.out) ?_; rintro e w9 ⟨q9, c9, rfl, ho9, hw9⟩
  have O9 := Lib.hid ho9.sl2
  have K9 := Lib.hid (bl K2.out hw9 K2.out.size)
  have f9 := (hw9.block _ (blk_lt X2.out)).trans X2.out
  have l9 := (hw9.block _ (blk_lt L2.out)).trans L2.out
  have SL9 := Lib.hid (S2.out.keep hw9)
  have L9 := Lib.hid l9; have F9 := Lib.hid f9
  clear ho9 hw9 S2 SA2 X2 L2 K2 l9
  obtain ⟨s0, s1, s2, s3, s4⟩ := cells5 f9
  have jn : ¬ (0 ≤ j) := by omega
  have CM : Hid (cameS [x0, x1, x2] A = [x0, x1, x2]) := came_same _ _ (by rw [HA.out]; simp only; omega)
  rw [CM.out] at O9 ⊢
  simp only [List.length_cons, List.length_nil] at O9 ⊢
  clear f9
  go_wp2

  all_goals
    refine wp_region_shapes (fun ix => ([.val (.agg #[.int .i64 5, .int .i64 i, .int .i64 j, .int .u32 b, .slice q m c']), .val (.bool true), .val (.pointer (some ⟨w.heap.size, 0, none⟩)), .val (.int .i64 5), .val (.bool true), .val (.bool true), .val (.pointer (some ⟨w.heap.size, 0, none⟩)), .val (.int .i64 5), .val (.bool true), .val (.bool true), .val (.bool false)][ix]?).getD (.any)) 204 rfl (by kernel_rfl) (by decide) (by decide) (by decide) ?_ ?_
    · refine ⟨?_, ?_, ?_, ?_, ?_, ?_, ?_, ?_, ?_, ?_, ?_, trivial⟩
      · intro a W hb0 hs hp hi; have hb := undrew hb0; clear hb0
        have tt : sl a 7 = .pointer (some ⟨w.heap.size, 0, none⟩) := hi 7 (by decide)
        have dd0 := (hb.cell (p := ⟨w.heap.size, 0, none⟩) (lt_of_cell s0)).trans s0
        have dd1 := (hb.cell (p := ⟨w.heap.size, 1, none⟩) (lt_of_cell s1)).trans s1
        have dd2 := (hb.cell (p := ⟨w.heap.size, 2, none⟩) (lt_of_cell s2)).trans s2
        have dd3 := (hb.cell (p := ⟨w.heap.size, 3, none⟩) (lt_of_cell s3)).trans s3
        have dd4 := (hb.cell (p := ⟨w.heap.size, 4, none⟩) (lt_of_cell s4)).trans s4
        refine ite_y rfl (wp_val (.agg #[.int .i64 5, .int .i64 i, .int .i64 j, .int .u32 b, .slice q m c']) ?_ ?_)
        · simp only [execOp, eval_tmp, tt]; simp [go_sem, dd0, dd1, dd2, dd3, dd4]
        · exact ⟨_, rfl, Below.refl _ _, rfl⟩
      · intro a W hb0 hs hp hi; have hb := undrew hb0; clear hb0
        have t49 : sl a 49 = .agg #[.int .i64 5, .int .i64 i, .int .i64 j, .int .u32 b, .slice q m c'] := hp 0 (by decide)
        refine ite_y rfl (wp_enter 17 #[.agg #[.int .i64 5, .int .i64 i, .int .i64 j, .int .u32 b, .slice q m c']] ?_ (Harms_any (5) (i) (j) b (.slice q m c') _) ?_)
        · simp only [execOp, resolve, List.map_toArray, List.map, eval_tmp, eval_func, eval_const, t49]; simp [go_sem]
        · rintro e W' ⟨rfl, hw⟩; exact ⟨_, rfl, _, rfl, hw, congrArg Value.bool (by decide)⟩
      · intro a W hb0 hs hp hi; have hb := undrew hb0; clear hb0
        have t7 : sl a 7 = .pointer (some ⟨w.heap.size, 0, none⟩) := hi 7 (by decide)
        refine ite_y rfl (wp_val (.pointer (some ⟨w.heap.size, 0, none⟩)) ?_ ?_)
        · simp only [execOp, eval_tmp, eval_const, t7]; simp [go_sem]
        · exact ⟨_, rfl, Below.refl _ _, rfl⟩
      · intro a W hb0 hs hp hi; have hb := undrew hb0; clear hb0
        have tt : sl a 51 = .pointer (some ⟨w.heap.size, 0, none⟩) := hp 2 (by decide)
        have dd := (hb.cell (p := ⟨w.heap.size, 0, none⟩) (lt_of_cell s0)).trans s0
        refine ite_y rfl (wp_val (.int .i64 5) ?_ ?_)
        · simp only [execOp, eval_tmp, tt]; simp [go_sem, dd]
        · exact ⟨_, rfl, Below.refl _ _, rfl⟩
      · intro a W hb0 hs hp hi; have hb := undrew hb0; clear hb0
        have t52 : sl a 52 = .int .i64 5 := hp 3 (by decide)
        refine ite_y rfl (wp_val (.bool true) ?_ ?_)
        · simp only [execOp, eval_tmp, eval_const, t52]; simp [go_sem]
        · exact ⟨_, rfl, Below.refl _ _, rfl⟩
      · intro a W hb0 hs hp hi; have hb := undrew hb0; clear hb0
        have t53 : sl a 53 = .bool true := hp 4 (by decide)
        exact ite_y rfl (wp_val (sl a 53) rfl ⟨_, rfl, Below.refl _ _, t53⟩)
      · intro a W hb0 hs hp hi; have hb := undrew hb0; clear hb0
        have tg : sl a 54 = .bool true := hp 5 (by decide)
        have t7 : sl a 7 = .pointer (some ⟨w.heap.size, 0, none⟩) := hi 7 (by decide)
        refine ite_y (wanted_yes rfl rfl (by have hz : a.tmps.size = 204 := hs; rw [hz]; decide) tg) (wp_val (.pointer (some ⟨w.heap.size, 0, none⟩)) ?_ ?_)
        · simp only [execOp, eval_tmp, eval_const, t7]; simp [go_sem]
        · exact ⟨_, rfl, Below.refl _ _, rfl⟩
      · intro a W hb0 hs hp hi; have hb := undrew hb0; clear hb0
        have tg : sl a 54 = .bool true := hp 5 (by decide)
        have tt : sl a 55 = .pointer (some ⟨w.heap.size, 0, none⟩) := hp 6 (by decide)
        have dd := (hb.cell (p := ⟨w.heap.size, 0, none⟩) (lt_of_cell s0)).trans s0
        refine ite_y (wanted_yes rfl rfl (by have hz : a.tmps.size = 204 := hs; rw [hz]; decide) tg) (wp_val (.int .i64 5) ?_ ?_)
        · simp only [execOp, eval_tmp, tt]; simp [go_sem, dd]
        · exact ⟨_, rfl, Below.refl _ _, rfl⟩
      · intro a W hb0 hs hp hi; have hb := undrew hb0; clear hb0
        have tg : sl a 54 = .bool true := hp 5 (by decide)
        have t56 : sl a 56 = .int .i64 5 := hp 7 (by decide)
        refine ite_y (wanted_yes rfl rfl (by have hz : a.tmps.size = 204 := hs; rw [hz]; decide) tg) (wp_val (.bool true) ?_ ?_)
        · simp only [execOp, eval_tmp, eval_const, t56]; simp [go_sem]
        · exact ⟨_, rfl, Below.refl _ _, rfl⟩
      · intro a W hb0 hs hp hi; have hb := undrew hb0; clear hb0
        have t54 : sl a 54 = .bool true := hp 5 (by decide)
        have t57 : sl a 57 = .bool true := hp 8 (by decide)
        refine ite_y rfl (wp_val (.bool true) ?_ ?_)
        · simp only [execOp, eval_tmp, eval_const, t54, t57]; simp [go_sem]
        · exact ⟨_, rfl, Below.refl _ _, rfl⟩
      · intro a W hb0 hs hp hi; have hb := undrew hb0; clear hb0
        have t50 : sl a 50 = .bool true := hp 1 (by decide)
        have t58 : sl a 58 = .bool true := hp 9 (by decide)
        refine ite_y rfl (wp_val (.bool false) ?_ ?_)
        · simp only [execOp, eval_tmp, eval_const, t50, t58]; simp [go_sem]
        · exact ⟨_, rfl, Below.refl _ _, rfl⟩
    · intro a w10 hb hs hd hI ht
      have ha := act_is [49, 50, 51, 52, 53, 54, 55, 56, 57, 58, 59] hs hd ht (by decide)
      have t59 : sl a 59 = .bool false := hI 10 (by decide)
      simp only [List.foldl, t59] at ha
      generalize sl a 49 = u49 at ha
      generalize sl a 50 = u50 at ha
      generalize sl a 51 = u51 at ha
      generalize sl a 52 = u52 at ha
      generalize sl a 53 = u53 at ha
      generalize sl a 54 = u54 at ha
      generalize sl a 55 = u55 at ha
      generalize sl a 56 = u56 at ha
      generalize sl a 57 = u57 at ha
      generalize sl a 58 = u58 at ha
      simp only [Act.put, List.setIfInBounds_toArray, List.set_cons_zero, List.set_cons_succ] at ha
      rw [ha]; clear ha
      have F10 := Lib.hid ((hb.block _ (blk_lt F9.out)).trans F9.out)
      have L10 := Lib.hid ((hb.block _ (blk_lt L9.out)).trans L9.out)
      have O10 := Lib.hid (O9.out.keep hb)
      have SL10 := Lib.hid (SL9.out.keep hb)
      have K10 := Lib.hid (bl K9.out hb K9.out.size)
      clear hb F9 L9 O9 SL9 K9 hI
      try clear s0 s1 s2 s3 s4
      obtain ⟨s0, s1, s2, s3, s4⟩ := cells5 F10.out
      go_wp2
      refine wp_region_shapes (fun ix => ([.val (.pointer (some ⟨w.heap.size, 2, none⟩)), .val (.int .i64 j), .val (.bool true), .val (.bool true), .val (.slice q9 3 c9), .val (.int .i64 3), .val (.bool true), .val (.bool true), .val (.bool true), .val (undef), .val (undef), .val (undef), .val (undef), .val (undef), .val (undef), .val (undef), .val (undef), .val (undef), .val (undef), .val (undef), .val (undef), .val (undef), .val (undef), .val (undef), .val (undef), .val (.bool true), .val (.bool true)][ix]?).getD (.any)) 204 rfl (by kernel_rfl) (by decide) (by decide) (by decide) ?_ ?_
      · refine ⟨?_, ?_, ?_, ?_, ?_, ?_, ?_, ?_, ?_, ?_, ?_, ?_, ?_, ?_, ?_, ?_, ?_, ?_, ?_, ?_, ?_, ?_, ?_, ?_, ?_, ?_, ?_, trivial⟩
        · intro a W hb0 hs hp hi; have hb := undrew hb0; clear hb0
          have t7 : sl a 7 = .pointer (some ⟨w.heap.size, 0, none⟩) := hi 7 (by decide)
          refine ite_y rfl (wp_val (.pointer (some ⟨w.heap.size, 2, none⟩)) ?_ ?_)
          · simp only [execOp, eval_tmp, eval_const, t7]; simp [go_sem]
          · exact ⟨_, rfl, Below.refl _ _, rfl⟩
        · intro a W hb0 hs hp hi; have hb := undrew hb0; clear hb0
          have tt : sl a 64 = .pointer (some ⟨w.heap.size, 2, none⟩) := hp 0 (by decide)
          have dd := (hb.cell (p := ⟨w.heap.size, 2, none⟩) (lt_of_cell s2)).trans s2
          refine ite_y rfl (wp_val (.int .i64 j) ?_ ?_)
          · simp only [execOp, eval_tmp, tt]; simp [go_sem, dd]
          · exact ⟨_, rfl, Below.refl _ _, rfl⟩
        · intro a W hb0 hs hp hi; have hb := undrew hb0; clear hb0
          have t65 : sl a 65 = .int .i64 j := hp 1 (by decide)
          refine ite_y rfl (wp_val (.bool true) ?_ ?_)
          · simp only [execOp, eval_tmp, eval_const, t65]; simp [go_sem, hj]
          · exact ⟨_, rfl, Below.refl _ _, rfl⟩
        · intro a W hb0 hs hp hi; have hb := undrew hb0; clear hb0
          have t66 : sl a 66 = .bool true := hp 2 (by decide)
          exact ite_y rfl (wp_val (sl a 66) rfl ⟨_, rfl, Below.refl _ _, t66⟩)
        · intro a W hb0 hs hp hi; have hb := undrew hb0; clear hb0
          have tg : sl a 67 = .bool true := hp 3 (by decide)
          have t10 : sl a 10 = .slice q9 3 c9 := hi 10 (by decide)
          exact ite_y (wanted_yes rfl rfl (by have hz : a.tmps.size = 204 := hs; rw [hz]; decide) tg) (wp_val (sl a 10) rfl ⟨_, rfl, Below.refl _ _, t10⟩)
        · intro a W hb0 hs hp hi; have hb := undrew hb0; clear hb0
          have tg : sl a 67 = .bool true := hp 3 (by decide)
          have t68 : sl a 68 = .slice q9 3 c9 := hp 4 (by decide)
          refine ite_y (wanted_yes rfl rfl (by have hz : a.tmps.size = 204 := hs; rw [hz]; decide) tg) (wp_val (.int .i64 3) ?_ ?_)
          · simp only [execOp, resolve, List.map_toArray, List.map, eval_tmp, eval_func, eval_const, t68]; simp [go_sem]
          · exact ⟨_, rfl, Below.refl _ _, rfl⟩
        · intro a W hb0 hs hp hi; have hb := undrew hb0; clear hb0
          have tg : sl a 67 = .bool true := hp 3 (by decide)
          have t69 : sl a 69 = .int .i64 3 := hp 5 (by decide)
          refine ite_y (wanted_yes rfl rfl (by have hz : a.tmps.size = 204 := hs; rw [hz]; decide) tg) (wp_val (.bool true) ?_ ?_)
          · simp only [execOp, eval_tmp, eval_const, t69]; simp [go_sem]
          · exact ⟨_, rfl, Below.refl _ _, rfl⟩
        · intro a W hb0 hs hp hi; have hb := undrew hb0; clear hb0
          have t67 : sl a 67 = .bool true := hp 3 (by decide)
          have t70 : sl a 70 = .bool true := hp 6 (by decide)
          refine ite_y rfl (wp_val (.bool true) ?_ ?_)
          · simp only [execOp, eval_tmp, eval_const, t67, t70]; simp [go_sem]
          · exact ⟨_, rfl, Below.refl _ _, rfl⟩
        · intro a W hb0 hs hp hi; have hb := undrew hb0; clear hb0
          have t71 : sl a 71 = .bool true := hp 7 (by decide)
          exact ite_y rfl (wp_val (sl a 71) rfl ⟨_, rfl, Below.refl _ _, t71⟩)
        · intro a W hb0 hs hp hi; have hb := undrew hb0; clear hb0
          have tg : sl a 72 = .bool true := hp 8 (by decide)
          exact ite_n (wanted_no rfl rfl (by have hz : a.tmps.size = 204 := hs; rw [hz]; decide) tg (by decide)) rfl
        · intro a W hb0 hs hp hi; have hb := undrew hb0; clear hb0
          have tg : sl a 72 = .bool true := hp 8 (by decide)
          exact ite_n (wanted_no rfl rfl (by have hz : a.tmps.size = 204 := hs; rw [hz]; decide) tg (by decide)) rfl
        · intro a W hb0 hs hp hi; have hb := undrew hb0; clear hb0
          have tg : sl a 72 = .bool true := hp 8 (by decide)
          exact ite_n (wanted_no rfl rfl (by have hz : a.tmps.size = 204 := hs; rw [hz]; decide) tg (by decide)) rfl
        · intro a W hb0 hs hp hi; have hb := undrew hb0; clear hb0
          have tg : sl a 72 = .bool true := hp 8 (by decide)
          exact ite_n (wanted_no rfl rfl (by have hz : a.tmps.size = 204 := hs; rw [hz]; decide) tg (by decide)) rfl
        · intro a W hb0 hs hp hi; have hb := undrew hb0; clear hb0
          have tg : sl a 76 = undef := hp 12 (by decide)
          exact ite_n (wanted_undef rfl rfl (by have hz : a.tmps.size = 204 := hs; rw [hz]; decide) tg) rfl
        · intro a W hb0 hs hp hi; have hb := undrew hb0; clear hb0
          have tg : sl a 76 = undef := hp 12 (by decide)
          exact ite_n (wanted_undef rfl rfl (by have hz : a.tmps.size = 204 := hs; rw [hz]; decide) tg) rfl
        · intro a W hb0 hs hp hi; have hb := undrew hb0; clear hb0
          have tg : sl a 76 = undef := hp 12 (by decide)
          exact ite_n (wanted_undef rfl rfl (by have hz : a.tmps.size = 204 := hs; rw [hz]; decide) tg) rfl
        · intro a W hb0 hs hp hi; have hb := undrew hb0; clear hb0
          have tg : sl a 72 = .bool true := hp 8 (by decide)
          exact ite_n (wanted_no rfl rfl (by have hz : a.tmps.size = 204 := hs; rw [hz]; decide) tg (by decide)) rfl
        · intro a W hb0 hs hp hi; have hb := undrew hb0; clear hb0
          have tg : sl a 72 = .bool true := hp 8 (by decide)
          exact ite_n (wanted_no rfl rfl (by have hz : a.tmps.size = 204 := hs; rw [hz]; decide) tg (by decide)) rfl
        · intro a W hb0 hs hp hi; have hb := undrew hb0; clear hb0
          have tg : sl a 81 = undef := hp 17 (by decide)
          exact ite_n (wanted_undef rfl rfl (by have hz : a.tmps.size = 204 := hs; rw [hz]; decide) tg) rfl
        · intro a W hb0 hs hp hi; have hb := undrew hb0; clear hb0
          have tg : sl a 81 = undef := hp 17 (by decide)
          exact ite_n (wanted_undef rfl rfl (by have hz : a.tmps.size = 204 := hs; rw [hz]; decide) tg) rfl
        · intro a W hb0 hs hp hi; have hb := undrew hb0; clear hb0
          have tg : sl a 81 = undef := hp 17 (by decide)
          exact ite_n (wanted_undef rfl rfl (by have hz : a.tmps.size = 204 := hs; rw [hz]; decide) tg) rfl
        · intro a W hb0 hs hp hi; have hb := undrew hb0; clear hb0
          have tg : sl a 81 = undef := hp 17 (by decide)
          exact ite_n (wanted_undef rfl rfl (by have hz : a.tmps.size = 204 := hs; rw [hz]; decide) tg) rfl
        · intro a W hb0 hs hp hi; have hb := undrew hb0; clear hb0
          have tg : sl a 81 = undef := hp 17 (by decide)
          exact ite_n (wanted_undef rfl rfl (by have hz : a.tmps.size = 204 := hs; rw [hz]; decide) tg) rfl
        · intro a W hb0 hs hp hi; have hb := undrew hb0; clear hb0
          have tg : sl a 81 = undef := hp 17 (by decide)
          exact ite_n (wanted_undef rfl rfl (by have hz : a.tmps.size = 204 := hs; rw [hz]; decide) tg) rfl
        · intro a W hb0 hs hp hi; have hb := undrew hb0; clear hb0
          have tg : sl a 72 = .bool true := hp 8 (by decide)
          exact ite_n (wanted_no rfl rfl (by have hz : a.tmps.size = 204 := hs; rw [hz]; decide) tg (by decide)) rfl
        · intro a W hb0 hs hp hi; have hb := undrew hb0; clear hb0
          have t72 : sl a 72 = .bool true := hp 8 (by decide)
          have t88 : sl a 88 = undef := hp 24 (by decide)
          refine ite_y rfl (wp_val (.bool true) ?_ ?_)
          · simp only [execOp, eval_tmp, eval_const, t72, t88]; simp [go_sem]
          · exact ⟨_, rfl, Below.refl _ _, rfl⟩
        · intro a W hb0 hs hp hi; have hb := undrew hb0; clear hb0
          have t89 : sl a 89 = .bool true := hp 25 (by decide)
          exact ite_y rfl (wp_val (sl a 89) rfl ⟨_, rfl, Below.refl _ _, t89⟩)
      · intro a w11 hb hs hd hI ht
        have ha := act_is [64, 65, 66, 67, 68, 69, 70, 71, 72, 73, 74, 75, 76, 77, 78, 79, 80, 81, 82, 83, 84, 85, 86, 87, 88, 89, 8] hs hd ht (by decide)
        have t8 : sl a 8 = .bool true := hI 26 (by decide)
        simp only [List.foldl, t8] at ha
        generalize sl a 64 = u64 at ha
        generalize sl a 65 = u65 at ha
        generalize sl a 66 = u66 at ha
        generalize sl a 67 = u67 at ha
        generalize sl a 68 = u68 at ha
        generalize sl a 69 = u69 at ha
        generalize sl a 70 = u70 at ha
        generalize sl a 71 = u71 at ha
        generalize sl a 72 = u72 at ha
        generalize sl a 73 = u73 at ha
        generalize sl a 74 = u74 at ha
        generalize sl a 75 = u75 at ha
        generalize sl a 76 = u76 at ha
        generalize sl a 77 = u77 at ha
        generalize sl a 78 = u78 at ha
        generalize sl a 79 = u79 at ha
        generalize sl a 80 = u80 at ha
        generalize sl a 81 = u81 at ha
        generalize sl a 82 = u82 at ha
        generalize sl a 83 = u83 at ha
        generalize sl a 84 = u84 at ha
        generalize sl a 85 = u85 at ha
        generalize sl a 86 = u86 at ha
        generalize sl a 87 = u87 at ha
        generalize sl a 88 = u88 at ha
        generalize sl a 89 = u89 at ha
        simp only [Act.put, List.setIfInBounds_toArray, List.set_cons_zero, List.set_cons_succ] at ha
        rw [ha]; clear ha
        have K11 := Lib.hid (bl K10.out hb K10.out.size)
        clear hI hb
        go_wp2
        go_ret
        exact ⟨rfl, K11.out⟩
set_option maxRecDepth 100000 in
set_option maxHeartbeats 4000000 in
theorem WayOne_forgeY (p0 p1 p2 q : Option Addr) (n0 n1 n2 m c0 c1 c2 c' b : Nat) (i : Int) (j : Int)  (x0 x1 x2 bs : List UInt8) (w : World) (h0 : Sl B8 w p0 n0 c0 x0) (h1 : Sl B8 w p1 n1 c1 x1) (h2 : Sl B8 w p2 n2 c2 x2) (hs : Sl B8 w q m c' bs) (hsum : n0 + n1 + n2 + m ≤ 100) (bb : b < 4294967296) (bi : i ≤ 9223372036854775807) (bj : j ≤ 9223372036854775807) (hj : 0 ≤ j) :
    Calls Try.prog 4 #[.slice p0 n0 c0, .slice p1 n1 c1, .slice p2 n2 c2, .agg #[.int .i64 5, .int .i64 i, .int .i64 j, .int .u32 b, .slice q m c']] w fun e w' => e = .returned (.bool true) ∧ Below w.heap.size w w' := by
  have H0 := Lib.hid h0; have H1 := Lib.hid h1; have H2 := Lib.hid h2; have HS := Lib.hid hs
  have e0 := Lib.hid h0.len; have e1 := Lib.hid h1.len; have e2 := Lib.hid h2.len; have em := Lib.hid hs.len
  obtain ⟨A, hA⟩ : ∃ A : ActD, A = ⟨5, i, j, b, bs⟩ := ⟨_, rfl⟩
  have HA := Lib.hid hA
  have hB0 : ∀ o, Below w.heap.size w (w.alloc o) := fun o => al (Below.refl _ _) (Nat.le_refl _)
  have HB0 := Lib.hid hB0
  clear h0 h1 h2 hs hA hB0
  go_enter Try.func4, Try.ntmps4
  go_wp2_with fail
  refine (awake20 _).mono ?_; rintro e w1 ⟨rfl, k1⟩
  have X1 : Hid (w1.heap[w.heap.size]? = some (.cells #[.int .i64 5, .int .i64 i, .int .i64 j, .int .u32 b, .slice q m c'] 39 (0, 0))) := (k1.block _ (by simp)).trans (hnew rfl)
  have K1 : Hid (Below w.heap.size w w1) := (HB0.out _).trans (k1.mono (by simp))
  clear k1
  obtain ⟨s0, s1, s2, s3, s4⟩ := cells5 X1.out
  obtain ⟨r0, r1, r2, r3, r4⟩ := cells5 (hal (o := .cells #[.slice p0 n0 c0, .slice p1 n1 c1, .slice p2 n2 c2] 28) X1.out)
  go_wp2_with fail
  refine use_w2 (fun W => W.heap[w1.heap.size]? = some (.cells #[.slice p0 n0 c0, .slice p1 n1 c1, .slice p2 n2 c2] 28 (0, 0)) ∧ W.heap[w1.heap.size + 1]? = some (.cells #[.int .i64 5, .int .i64 i, .int .i64 j, .int .u32 b, .slice q m c'] 39 (0, 0)) ∧ Below w1.heap.size w1 W) ⟨hal (hnew rfl), hnew (by simp), al (al (Below.refl _ _) (Nat.le_refl _)) (by simp)⟩ ?_
  rintro w2 ⟨hl, ha2, hb2⟩
  have K2 : Hid (Below w.heap.size w w2) := K1.out.trans (hb2.mono K1.out.size)
  have S2 : Hid (Sl2 w2 (some ⟨w1.heap.size, 0, none⟩) 3 3 [x0, x1, x2]) := sl2_three hl (H0.out.keep K2.out) (H1.out.keep K2.out) (H2.out.keep K2.out)
  have SA2 : Hid (SlA w2 (some ⟨w1.heap.size + 1, 0, none⟩) 1 1 [A]) := by show SlA _ _ _ _ _; rw [HA.out]; exact sla_one ⟨5, i, j, b, bs⟩ ha2 (HS.out.keep K2.out) (by simp only; omega) (by simp only; omega) bb
  have X2 : Hid (w2.heap[w.heap.size]? = some (.cells #[.int .i64 5, .int .i64 i, .int .i64 j, .int .u32 b, .slice q m c'] 39 (0, 0))) := (hb2.block _ (blk_lt X1.out)).trans X1.out
  have L2 := Lib.hid hl
  obtain ⟨gl, hgl⟩ : ∃ gl, gl = w1.heap.size := ⟨_, rfl⟩
  rw [← hgl] at S2 SA2 L2 ⊢
  clear hl ha2 hb2 s0 s1 s2 s3 s4 r0 r1 r2 r3 r4 X1 K1 hgl
  have RM : Hid (∀ xs, xs ∈ [x0, x1, x2] → Room xs.length) := by
    intro xs hx; have := e0.out; have := e1.out; have := e2.out
    simp at hx; rcases hx with rfl | rfl | rfl <;> exact room300 (by omega)
  have RA : Hid (∀ a, a ∈ [A] → Room a.bs.length) := by
    intro a ha; have := em.out; simp at ha; subst ha; rw [HA.out]; exact room300 (by simp only; omega)
  have HAp : Hid (∀ p c W (h : Sl2 W p 3 c [x0, x1, x2]) (ha : SlA W (some ⟨gl + 1, 0, none⟩) 1 1 [A]), Calls Try.prog 16 #[.slice p 3 c, .slice (some ⟨gl + 1, 0, none⟩) 1 1] W (RetRows W (cameS [x0, x1, x2] A))) := fun p c W h ha => Apply_any p (some ⟨gl + 1, 0, none⟩) 3 c 1 1 [x0, x1, x2] [A] W h ha RM.out RA.out (by decide)
  refine Calls.mono (HAp.out _ _ w2 S2.out SA2.out) ?_; rintro e w9 ⟨q9, c9, rfl, ho9, hw9⟩
  have O9 := Lib.hid ho9.sl2
  have K9 := Lib.hid (bl K2.out hw9 K2.out.size)
  have f9 := (hw9.block _ (blk_lt X2.out)).trans X2.out
  have l9 := (hw9.block _ (blk_lt L2.out)).trans L2.out
  have SL9 := Lib.hid (S2.out.keep hw9)
  have L9 := Lib.hid l9; have F9 := Lib.hid f9
  clear ho9 hw9 S2 SA2 X2 L2 K2 l9
  obtain ⟨s0, s1, s2, s3, s4⟩ := cells5 f9
  have jn : ¬ (j < 0) := by omega
  have CM : Hid (cameS [x0, x1, x2] A = [x0, x1, x2, bs]) := by show _ = _; rw [came_forge _ _ (by rw [HA.out]) (by rw [HA.out]; exact hj), HA.out]; rfl
  rw [CM.out] at O9 ⊢
  simp only [List.length_cons, List.length_nil] at O9 ⊢
  clear f9
  go_wp2

  all_goals
    refine wp_region_shapes (fun ix => ([.val (.agg #[.int .i64 5, .int .i64 i, .int .i64 j, .int .u32 b, .slice q m c']), .val (.bool true), .val (.pointer (some ⟨w.heap.size, 0, none⟩)), .val (.int .i64 5), .val (.bool true), .val (.bool true), .val (.pointer (some ⟨w.heap.size, 0, none⟩)), .val (.int .i64 5), .val (.bool true), .val (.bool true), .val (.bool false)][ix]?).getD (.any)) 204 rfl (by kernel_rfl) (by decide) (by decide) (by decide) ?_ ?_
    · refine ⟨?_, ?_, ?_, ?_, ?_, ?_, ?_, ?_, ?_, ?_, ?_, trivial⟩
      · intro a W hb0 hs hp hi; have hb := undrew hb0; clear hb0
        have tt : sl a 7 = .pointer (some ⟨w.heap.size, 0, none⟩) := hi 7 (by decide)
        have dd0 := (hb.cell (p := ⟨w.heap.size, 0, none⟩) (lt_of_cell s0)).trans s0
        have dd1 := (hb.cell (p := ⟨w.heap.size, 1, none⟩) (lt_of_cell s1)).trans s1
        have dd2 := (hb.cell (p := ⟨w.heap.size, 2, none⟩) (lt_of_cell s2)).trans s2
        have dd3 := (hb.cell (p := ⟨w.heap.size, 3, none⟩) (lt_of_cell s3)).trans s3
        have dd4 := (hb.cell (p := ⟨w.heap.size, 4, none⟩) (lt_of_cell s4)).trans s4
        refine ite_y rfl (wp_val (.agg #[.int .i64 5, .int .i64 i, .int .i64 j, .int .u32 b, .slice q m c']) ?_ ?_)
        · simp only [execOp, eval_tmp, tt]; simp [go_sem, dd0, dd1, dd2, dd3, dd4]
        · exact ⟨_, rfl, Below.refl _ _, rfl⟩
      · intro a W hb0 hs hp hi; have hb := undrew hb0; clear hb0
        have t49 : sl a 49 = .agg #[.int .i64 5, .int .i64 i, .int .i64 j, .int .u32 b, .slice q m c'] := hp 0 (by decide)
        refine ite_y rfl (wp_enter 17 #[.agg #[.int .i64 5, .int .i64 i, .int .i64 j, .int .u32 b, .slice q m c']] ?_ (Harms_any (5) (i) (j) b (.slice q m c') _) ?_)
        · simp only [execOp, resolve, List.map_toArray, List.map, eval_tmp, eval_func, eval_const, t49]; simp [go_sem]
        · rintro e W' ⟨rfl, hw⟩; exact ⟨_, rfl, _, rfl, hw, congrArg Value.bool (by decide)⟩
      · intro a W hb0 hs hp hi; have hb := undrew hb0; clear hb0
        have t7 : sl a 7 = .pointer (some ⟨w.heap.size, 0, none⟩) := hi 7 (by decide)
        refine ite_y rfl (wp_val (.pointer (some ⟨w.heap.size, 0, none⟩)) ?_ ?_)
        · simp only [execOp, eval_tmp, eval_const, t7]; simp [go_sem]
        · exact ⟨_, rfl, Below.refl _ _, rfl⟩
      · intro a W hb0 hs hp hi; have hb := undrew hb0; clear hb0
        have tt : sl a 51 = .pointer (some ⟨w.heap.size, 0, none⟩) := hp 2 (by decide)
        have dd := (hb.cell (p := ⟨w.heap.size, 0, none⟩) (lt_of_cell s0)).trans s0
        refine ite_y rfl (wp_val (.int .i64 5) ?_ ?_)
        · simp only [execOp, eval_tmp, tt]; simp [go_sem, dd]
        · exact ⟨_, rfl, Below.refl _ _, rfl⟩
      · intro a W hb0 hs hp hi; have hb := undrew hb0; clear hb0
        have t52 : sl a 52 = .int .i64 5 := hp 3 (by decide)
        refine ite_y rfl (wp_val (.bool true) ?_ ?_)
        · simp only [execOp, eval_tmp, eval_const, t52]; simp [go_sem]
        · exact ⟨_, rfl, Below.refl _ _, rfl⟩
      · intro a W hb0 hs hp hi; have hb := undrew hb0; clear hb0
        have t53 : sl a 53 = .bool true := hp 4 (by decide)
        exact ite_y rfl (wp_val (sl a 53) rfl ⟨_, rfl, Below.refl _ _, t53⟩)
      · intro a W hb0 hs hp hi; have hb := undrew hb0; clear hb0
        have tg : sl a 54 = .bool true := hp 5 (by decide)
        have t7 : sl a 7 = .pointer (some ⟨w.heap.size, 0, none⟩) := hi 7 (by decide)
        refine ite_y (wanted_yes rfl rfl (by have hz : a.tmps.size = 204 := hs; rw [hz]; decide) tg) (wp_val (.pointer (some ⟨w.heap.size, 0, none⟩)) ?_ ?_)
        · simp only [execOp, eval_tmp, eval_const, t7]; simp [go_sem]
        · exact ⟨_, rfl, Below.refl _ _, rfl⟩
      · intro a W hb0 hs hp hi; have hb := undrew hb0; clear hb0
        have tg : sl a 54 = .bool true := hp 5 (by decide)
        have tt : sl a 55 = .pointer (some ⟨w.heap.size, 0, none⟩) := hp 6 (by decide)
        have dd := (hb.cell (p := ⟨w.heap.size, 0, none⟩) (lt_of_cell s0)).trans s0
        refine ite_y (wanted_yes rfl rfl (by have hz : a.tmps.size = 204 := hs; rw [hz]; decide) tg) (wp_val (.int .i64 5) ?_ ?_)
        · simp only [execOp, eval_tmp, tt]; simp [go_sem, dd]
        · exact ⟨_, rfl, Below.refl _ _, rfl⟩
      · intro a W hb0 hs hp hi; have hb := undrew hb0; clear hb0
        have tg : sl a 54 = .bool true := hp 5 (by decide)
        have t56 : sl a 56 = .int .i64 5 := hp 7 (by decide)
        refine ite_y (wanted_yes rfl rfl (by have hz : a.tmps.size = 204 := hs; rw [hz]; decide) tg) (wp_val (.bool true) ?_ ?_)
        · simp only [execOp, eval_tmp, eval_const, t56]; simp [go_sem]
        · exact ⟨_, rfl, Below.refl _ _, rfl⟩
      · intro a W hb0 hs hp hi; have hb := undrew hb0; clear hb0
        have t54 : sl a 54 = .bool true := hp 5 (by decide)
        have t57 : sl a 57 = .bool true := hp 8 (by decide)
        refine ite_y rfl (wp_val (.bool true) ?_ ?_)
        · simp only [execOp, eval_tmp, eval_const, t54, t57]; simp [go_sem]
        · exact ⟨_, rfl, Below.refl _ _, rfl⟩
      · intro a W hb0 hs hp hi; have hb := undrew hb0; clear hb0
        have t50 : sl a 50 = .bool true := hp 1 (by decide)
        have t58 : sl a 58 = .bool true := hp 9 (by decide)
        refine ite_y rfl (wp_val (.bool false) ?_ ?_)
        · simp only [execOp, eval_tmp, eval_const, t50, t58]; simp [go_sem]
        · exact ⟨_, rfl, Below.refl _ _, rfl⟩
    · intro a w10 hb hs hd hI ht
      have ha := act_is [49, 50, 51, 52, 53, 54, 55, 56, 57, 58, 59] hs hd ht (by decide)
      have t59 : sl a 59 = .bool false := hI 10 (by decide)
      simp only [List.foldl, t59] at ha
      generalize sl a 49 = u49 at ha
      generalize sl a 50 = u50 at ha
      generalize sl a 51 = u51 at ha
      generalize sl a 52 = u52 at ha
      generalize sl a 53 = u53 at ha
      generalize sl a 54 = u54 at ha
      generalize sl a 55 = u55 at ha
      generalize sl a 56 = u56 at ha
      generalize sl a 57 = u57 at ha
      generalize sl a 58 = u58 at ha
      simp only [Act.put, List.setIfInBounds_toArray, List.set_cons_zero, List.set_cons_succ] at ha
      rw [ha]; clear ha
      have F10 := Lib.hid ((hb.block _ (blk_lt F9.out)).trans F9.out)
      have L10 := Lib.hid ((hb.block _ (blk_lt L9.out)).trans L9.out)
      have O10 := Lib.hid (O9.out.keep hb)
      have SL10 := Lib.hid (SL9.out.keep hb)
      have K10 := Lib.hid (bl K9.out hb K9.out.size)
      clear hb F9 L9 O9 SL9 K9 hI
      try clear s0 s1 s2 s3 s4
      obtain ⟨s0, s1, s2, s3, s4⟩ := cells5 F10.out
      go_wp2
      obtain ⟨gb, go, qx, mx, cx, xs, rfl, hcx, hsx, hxs⟩ := O10.out.at 3 (by decide)
      obtain rfl : bs = xs := by simpa using hxs.out
      have HSX := Lib.hid hsx
      have HS10 := Lib.hid (HS.out.keep K10.out)
      clear hsx hxs
      refine wp_region_shapes (fun ix => ([.val (.pointer (some ⟨w.heap.size, 2, none⟩)), .val (.int .i64 j), .val (.bool false), .val (.bool false), .val (undef), .val (undef), .val (undef), .val (.bool false), .val (.bool false), .val (.pointer (some ⟨w.heap.size, 2, none⟩)), .val (.int .i64 j), .val (.bool true), .val (.bool true), .val (.slice (some ⟨gb, go, none⟩) 4 c9), .val (.int .i64 4), .val (.bool true), .val (.bool true), .val (.bool true), .val (.slice (some ⟨gb, go, none⟩) 4 c9), .val (.pointer (some ⟨gb, go + 3, none⟩)), .val (.slice qx mx cx), .val (.pointer (some ⟨w.heap.size, 4, none⟩)), .val (.slice q m c'), .val (.bool true), .val (.bool true), .val (.bool true), .val (.bool true)][ix]?).getD (.any)) 204 rfl (by kernel_rfl) (by decide) (by decide) (by decide) ?_ ?_
      · refine ⟨?_, ?_, ?_, ?_, ?_, ?_, ?_, ?_, ?_, ?_, ?_, ?_, ?_, ?_, ?_, ?_, ?_, ?_, ?_, ?_, ?_, ?_, ?_, ?_, ?_, ?_, ?_, trivial⟩
        · intro a W hb0 hs hp hi; have hb := undrew hb0; clear hb0
          have t7 : sl a 7 = .pointer (some ⟨w.heap.size, 0, none⟩) := hi 7 (by decide)
          refine ite_y rfl (wp_val (.pointer (some ⟨w.heap.size, 2, none⟩)) ?_ ?_)
          · simp only [execOp, eval_tmp, eval_const, t7]; simp [go_sem]
          · exact ⟨_, rfl, Below.refl _ _, rfl⟩
        · intro a W hb0 hs hp hi; have hb := undrew hb0; clear hb0
          have tt : sl a 64 = .pointer (some ⟨w.heap.size, 2, none⟩) := hp 0 (by decide)
          have dd := (hb.cell (p := ⟨w.heap.size, 2, none⟩) (lt_of_cell s2)).trans s2
          refine ite_y rfl (wp_val (.int .i64 j) ?_ ?_)
          · simp only [execOp, eval_tmp, tt]; simp [go_sem, dd]
          · exact ⟨_, rfl, Below.refl _ _, rfl⟩
        · intro a W hb0 hs hp hi; have hb := undrew hb0; clear hb0
          have t65 : sl a 65 = .int .i64 j := hp 1 (by decide)
          refine ite_y rfl (wp_val (.bool false) ?_ ?_)
          · simp only [execOp, eval_tmp, eval_const, t65]; simp [go_sem, jn]
          · exact ⟨_, rfl, Below.refl _ _, rfl⟩
        · intro a W hb0 hs hp hi; have hb := undrew hb0; clear hb0
          have t66 : sl a 66 = .bool false := hp 2 (by decide)
          exact ite_y rfl (wp_val (sl a 66) rfl ⟨_, rfl, Below.refl _ _, t66⟩)
        · intro a W hb0 hs hp hi; have hb := undrew hb0; clear hb0
          have tg : sl a 67 = .bool false := hp 3 (by decide)
          exact ite_n (wanted_no rfl rfl (by have hz : a.tmps.size = 204 := hs; rw [hz]; decide) tg (by decide)) rfl
        · intro a W hb0 hs hp hi; have hb := undrew hb0; clear hb0
          have tg : sl a 67 = .bool false := hp 3 (by decide)
          exact ite_n (wanted_no rfl rfl (by have hz : a.tmps.size = 204 := hs; rw [hz]; decide) tg (by decide)) rfl
        · intro a W hb0 hs hp hi; have hb := undrew hb0; clear hb0
          have tg : sl a 67 = .bool false := hp 3 (by decide)
          exact ite_n (wanted_no rfl rfl (by have hz : a.tmps.size = 204 := hs; rw [hz]; decide) tg (by decide)) rfl
        · intro a W hb0 hs hp hi; have hb := undrew hb0; clear hb0
          have t67 : sl a 67 = .bool false := hp 3 (by decide)
          have t70 : sl a 70 = undef := hp 6 (by decide)
          refine ite_y rfl (wp_val (.bool false) ?_ ?_)
          · simp only [execOp, eval_tmp, eval_const, t67, t70]; simp [go_sem]
          · exact ⟨_, rfl, Below.refl _ _, rfl⟩
        · intro a W hb0 hs hp hi; have hb := undrew hb0; clear hb0
          have t71 : sl a 71 = .bool false := hp 7 (by decide)
          exact ite_y rfl (wp_val (sl a 71) rfl ⟨_, rfl, Below.refl _ _, t71⟩)
        · intro a W hb0 hs hp hi; have hb := undrew hb0; clear hb0
          have tg : sl a 72 = .bool false := hp 8 (by decide)
          have t7 : sl a 7 = .pointer (some ⟨w.heap.size, 0, none⟩) := hi 7 (by decide)
          refine ite_y (wanted_yes rfl rfl (by have hz : a.tmps.size = 204 := hs; rw [hz]; decide) tg) (wp_val (.pointer (some ⟨w.heap.size, 2, none⟩)) ?_ ?_)
          · simp only [execOp, eval_tmp, eval_const, t7]; simp [go_sem]
          · exact ⟨_, rfl, Below.refl _ _, rfl⟩
        · intro a W hb0 hs hp hi; have hb := undrew hb0; clear hb0
          have tg : sl a 72 = .bool false := hp 8 (by decide)
          have tt : sl a 73 = .pointer (some ⟨w.heap.size, 2, none⟩) := hp 9 (by decide)
          have dd := (hb.cell (p := ⟨w.heap.size, 2, none⟩) (lt_of_cell s2)).trans s2
          refine ite_y (wanted_yes rfl rfl (by have hz : a.tmps.size = 204 := hs; rw [hz]; decide) tg) (wp_val (.int .i64 j) ?_ ?_)
          · simp only [execOp, eval_tmp, tt]; simp [go_sem, dd]
          · exact ⟨_, rfl, Below.refl _ _, rfl⟩
        · intro a W hb0 hs hp hi; have hb := undrew hb0; clear hb0
          have tg : sl a 72 = .bool false := hp 8 (by decide)
          have t74 : sl a 74 = .int .i64 j := hp 10 (by decide)
          refine ite_y (wanted_yes rfl rfl (by have hz : a.tmps.size = 204 := hs; rw [hz]; decide) tg) (wp_val (.bool true) ?_ ?_)
          · simp only [execOp, eval_tmp, eval_const, t74]; simp [go_sem, hj]
          · exact ⟨_, rfl, Below.refl _ _, rfl⟩
        · intro a W hb0 hs hp hi; have hb := undrew hb0; clear hb0
          have tg : sl a 72 = .bool false := hp 8 (by decide)
          have t75 : sl a 75 = .bool true := hp 11 (by decide)
          exact ite_y (wanted_yes rfl rfl (by have hz : a.tmps.size = 204 := hs; rw [hz]; decide) tg) (wp_val (sl a 75) rfl ⟨_, rfl, Below.refl _ _, t75⟩)
        · intro a W hb0 hs hp hi; have hb := undrew hb0; clear hb0
          have tg : sl a 76 = .bool true := hp 12 (by decide)
          have t10 : sl a 10 = .slice (some ⟨gb, go, none⟩) 4 c9 := hi 10 (by decide)
          exact ite_y (wanted_yes rfl rfl (by have hz : a.tmps.size = 204 := hs; rw [hz]; decide) tg) (wp_val (sl a 10) rfl ⟨_, rfl, Below.refl _ _, t10⟩)
        · intro a W hb0 hs hp hi; have hb := undrew hb0; clear hb0
          have tg : sl a 76 = .bool true := hp 12 (by decide)
          have t77 : sl a 77 = .slice (some ⟨gb, go, none⟩) 4 c9 := hp 13 (by decide)
          refine ite_y (wanted_yes rfl rfl (by have hz : a.tmps.size = 204 := hs; rw [hz]; decide) tg) (wp_val (.int .i64 4) ?_ ?_)
          · simp only [execOp, resolve, List.map_toArray, List.map, eval_tmp, eval_func, eval_const, t77]; simp [go_sem]
          · exact ⟨_, rfl, Below.refl _ _, rfl⟩
        · intro a W hb0 hs hp hi; have hb := undrew hb0; clear hb0
          have tg : sl a 76 = .bool true := hp 12 (by decide)
          have t78 : sl a 78 = .int .i64 4 := hp 14 (by decide)
          refine ite_y (wanted_yes rfl rfl (by have hz : a.tmps.size = 204 := hs; rw [hz]; decide) tg) (wp_val (.bool true) ?_ ?_)
          · simp only [execOp, eval_tmp, eval_const, t78]; simp [go_sem]
          · exact ⟨_, rfl, Below.refl _ _, rfl⟩
        · intro a W hb0 hs hp hi; have hb := undrew hb0; clear hb0
          have tg : sl a 72 = .bool false := hp 8 (by decide)
          have t76 : sl a 76 = .bool true := hp 12 (by decide)
          have t79 : sl a 79 = .bool true := hp 15 (by decide)
          refine ite_y (wanted_yes rfl rfl (by have hz : a.tmps.size = 204 := hs; rw [hz]; decide) tg) (wp_val (.bool true) ?_ ?_)
          · simp only [execOp, eval_tmp, eval_const, t76, t79]; simp [go_sem]
          · exact ⟨_, rfl, Below.refl _ _, rfl⟩
        · intro a W hb0 hs hp hi; have hb := undrew hb0; clear hb0
          have tg : sl a 72 = .bool false := hp 8 (by decide)
          have t80 : sl a 80 = .bool true := hp 16 (by decide)
          exact ite_y (wanted_yes rfl rfl (by have hz : a.tmps.size = 204 := hs; rw [hz]; decide) tg) (wp_val (sl a 80) rfl ⟨_, rfl, Below.refl _ _, t80⟩)
        · intro a W hb0 hs hp hi; have hb := undrew hb0; clear hb0
          have tg : sl a 81 = .bool true := hp 17 (by decide)
          have t10 : sl a 10 = .slice (some ⟨gb, go, none⟩) 4 c9 := hi 10 (by decide)
          exact ite_y (wanted_yes rfl rfl (by have hz : a.tmps.size = 204 := hs; rw [hz]; decide) tg) (wp_val (sl a 10) rfl ⟨_, rfl, Below.refl _ _, t10⟩)
        · intro a W hb0 hs hp hi; have hb := undrew hb0; clear hb0
          have tg : sl a 81 = .bool true := hp 17 (by decide)
          have ti0 : sl a 82 = .slice (some ⟨gb, go, none⟩) 4 c9 := hp 18 (by decide)
          refine ite_y (wanted_yes rfl rfl (by have hz : a.tmps.size = 204 := hs; rw [hz]; decide) tg) (wp_val (.pointer (some ⟨gb, go + 3, none⟩)) ?_ ?_)
          · simp only [execOp, eval_tmp, eval_const, ti0]; simp [go_sem]
          · exact ⟨_, rfl, Below.refl _ _, rfl⟩
        · intro a W hb0 hs hp hi; have hb := undrew hb0; clear hb0
          have tg : sl a 81 = .bool true := hp 17 (by decide)
          have tt : sl a 83 = .pointer (some ⟨gb, go + 3, none⟩) := hp 19 (by decide)
          have dd := (hb.cell (p := ⟨gb, go + 3, none⟩) (lt_of_cell hcx)).trans hcx
          refine ite_y (wanted_yes rfl rfl (by have hz : a.tmps.size = 204 := hs; rw [hz]; decide) tg) (wp_val (.slice qx mx cx) ?_ ?_)
          · simp only [execOp, eval_tmp, tt]; simp [go_sem, dd]
          · exact ⟨_, rfl, Below.refl _ _, rfl⟩
        · intro a W hb0 hs hp hi; have hb := undrew hb0; clear hb0
          have tg : sl a 81 = .bool true := hp 17 (by decide)
          have t7 : sl a 7 = .pointer (some ⟨w.heap.size, 0, none⟩) := hi 7 (by decide)
          refine ite_y (wanted_yes rfl rfl (by have hz : a.tmps.size = 204 := hs; rw [hz]; decide) tg) (wp_val (.pointer (some ⟨w.heap.size, 4, none⟩)) ?_ ?_)
          · simp only [execOp, eval_tmp, eval_const, t7]; simp [go_sem]
          · exact ⟨_, rfl, Below.refl _ _, rfl⟩
        · intro a W hb0 hs hp hi; have hb := undrew hb0; clear hb0
          have tg : sl a 81 = .bool true := hp 17 (by decide)
          have tt : sl a 85 = .pointer (some ⟨w.heap.size, 4, none⟩) := hp 21 (by decide)
          have dd := (hb.cell (p := ⟨w.heap.size, 4, none⟩) (lt_of_cell s4)).trans s4
          refine ite_y (wanted_yes rfl rfl (by have hz : a.tmps.size = 204 := hs; rw [hz]; decide) tg) (wp_val (.slice q m c') ?_ ?_)
          · simp only [execOp, eval_tmp, tt]; simp [go_sem, dd]
          · exact ⟨_, rfl, Below.refl _ _, rfl⟩
        · intro a W hb0 hs hp hi; have hb := undrew hb0; clear hb0
          have tg : sl a 81 = .bool true := hp 17 (by decide)
          have t84 : sl a 84 = .slice qx mx cx := hp 20 (by decide)
          have t86 : sl a 86 = .slice q m c' := hp 22 (by decide)
          refine ite_y (wanted_yes rfl rfl (by have hz : a.tmps.size = 204 := hs; rw [hz]; decide) tg) (wp_enter 13 #[.slice qx mx cx, .slice q m c'] ?_ (Same_any _ _ _ _ _ _ bs bs _ (HSX.out.keep hb) (HS10.out.keep hb)) ?_)
          · simp only [execOp, resolve, List.map_toArray, List.map, eval_tmp, eval_func, eval_const, t84, t86]; simp [go_sem]
          · rintro e W' ⟨rfl, hw⟩; exact ⟨_, rfl, _, rfl, hw, congrArg Value.bool (decide_eq_true rfl)⟩
        · intro a W hb0 hs hp hi; have hb := undrew hb0; clear hb0
          have tg : sl a 72 = .bool false := hp 8 (by decide)
          have t81 : sl a 81 = .bool true := hp 17 (by decide)
          have t87 : sl a 87 = .bool true := hp 23 (by decide)
          refine ite_y (wanted_yes rfl rfl (by have hz : a.tmps.size = 204 := hs; rw [hz]; decide) tg) (wp_val (.bool true) ?_ ?_)
          · simp only [execOp, eval_tmp, eval_const, t81, t87]; simp [go_sem]
          · exact ⟨_, rfl, Below.refl _ _, rfl⟩
        · intro a W hb0 hs hp hi; have hb := undrew hb0; clear hb0
          have t72 : sl a 72 = .bool false := hp 8 (by decide)
          have t88 : sl a 88 = .bool true := hp 24 (by decide)
          refine ite_y rfl (wp_val (.bool true) ?_ ?_)
          · simp only [execOp, eval_tmp, eval_const, t72, t88]; simp [go_sem]
          · exact ⟨_, rfl, Below.refl _ _, rfl⟩
        · intro a W hb0 hs hp hi; have hb := undrew hb0; clear hb0
          have t89 : sl a 89 = .bool true := hp 25 (by decide)
          exact ite_y rfl (wp_val (sl a 89) rfl ⟨_, rfl, Below.refl _ _, t89⟩)
      · intro a w11 hb hs hd hI ht
        have ha := act_is [64, 65, 66, 67, 68, 69, 70, 71, 72, 73, 74, 75, 76, 77, 78, 79, 80, 81, 82, 83, 84, 85, 86, 87, 88, 89, 8] hs hd ht (by decide)
        have t8 : sl a 8 = .bool true := hI 26 (by decide)
        simp only [List.foldl, t8] at ha
        generalize sl a 64 = u64 at ha
        generalize sl a 65 = u65 at ha
        generalize sl a 66 = u66 at ha
        generalize sl a 67 = u67 at ha
        generalize sl a 68 = u68 at ha
        generalize sl a 69 = u69 at ha
        generalize sl a 70 = u70 at ha
        generalize sl a 71 = u71 at ha
        generalize sl a 72 = u72 at ha
        generalize sl a 73 = u73 at ha
        generalize sl a 74 = u74 at ha
        generalize sl a 75 = u75 at ha
        generalize sl a 76 = u76 at ha
        generalize sl a 77 = u77 at ha
        generalize sl a 78 = u78 at ha
        generalize sl a 79 = u79 at ha
        generalize sl a 80 = u80 at ha
        generalize sl a 81 = u81 at ha
        generalize sl a 82 = u82 at ha
        generalize sl a 83 = u83 at ha
        generalize sl a 84 = u84 at ha
        generalize sl a 85 = u85 at ha
        generalize sl a 86 = u86 at ha
        generalize sl a 87 = u87 at ha
        generalize sl a 88 = u88 at ha
        generalize sl a 89 = u89 at ha
        simp only [Act.put, List.setIfInBounds_toArray, List.set_cons_zero, List.set_cons_succ] at ha
        rw [ha]; clear ha
        have K11 := Lib.hid (bl K10.out hb K10.out.size)
        clear hI hb
        go_wp2
        go_ret
        exact ⟨rfl, K11.out⟩
end Go.Proofs.Ytlfcijpkdhdmeaa
