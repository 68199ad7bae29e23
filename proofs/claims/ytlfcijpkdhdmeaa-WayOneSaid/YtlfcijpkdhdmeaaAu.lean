/- WayOne: the walk, move, cut. -/
import Derived.Test.YtlfcijpkdhdmeaaAi
import Derived.Test.YtlfcijpkdhdmeaaM4
import Derived.Test.YtlfcijpkdhdmeaaR5
namespace Go.Proofs.Ytlfcijpkdhdmeaa
open Go.RowKit Go.By
set_option maxRecDepth 100000 in
set_option maxHeartbeats 4000000 in
theorem WayOne_move (p0 p1 p2 q : Option Addr) (n0 n1 n2 m c0 c1 c2 c' b : Nat) (i j : Nat)  (x0 x1 x2 bs : List UInt8) (w : World) (h0 : Sl B8 w p0 n0 c0 x0) (h1 : Sl B8 w p1 n1 c1 x1) (h2 : Sl B8 w p2 n2 c2 x2) (hs : Sl B8 w q m c' bs) (hsum : n0 + n1 + n2 + m ≤ 100) (bb : b < 4294967296) (hi : i < 3) (hj : j ≤ 9223372036854775807) :
    Calls Try.prog 4 #[.slice p0 n0 c0, .slice p1 n1 c1, .slice p2 n2 c2, .agg #[.int .i64 2, .int .i64 (i : Nat), .int .i64 (j : Nat), .int .u32 b, .slice q m c']] w fun e w' => e = .returned (.bool true) ∧ Below w.heap.size w w' := by
  have H0 := Lib.hid h0; have H1 := Lib.hid h1; have H2 := Lib.hid h2; have HS := Lib.hid hs
  have e0 := Lib.hid h0.len; have e1 := Lib.hid h1.len; have e2 := Lib.hid h2.len; have em := Lib.hid hs.len
  obtain ⟨A, hA⟩ : ∃ A : ActD, A = ⟨2, (i : Nat), (j : Nat), b, bs⟩ := ⟨_, rfl⟩
  have HA := Lib.hid hA
  have hB0 : ∀ o, Below w.heap.size w (w.alloc o) := fun o => al (Below.refl _ _) (Nat.le_refl _)
  have HB0 := Lib.hid hB0
  clear h0 h1 h2 hs hA hB0
  go_enter Try.func4, Try.ntmps4
  go_wp2_with fail
  refine (awake20 _).mono ?_; rintro e w1 ⟨rfl, k1⟩
  have X1 : Hid (w1.heap[w.heap.size]? = some (.cells #[.int .i64 2, .int .i64 (i : Nat), .int .i64 (j : Nat), .int .u32 b, .slice q m c'] 39 (0, 0))) := (k1.block _ (by simp)).trans (hnew rfl)
  have K1 : Hid (Below w.heap.size w w1) := (HB0.out _).trans (k1.mono (by simp))
  clear k1
  obtain ⟨s0, s1, s2, s3, s4⟩ := cells5 X1.out
  obtain ⟨r0, r1, r2, r3, r4⟩ := cells5 (hal (o := .cells #[.slice p0 n0 c0, .slice p1 n1 c1, .slice p2 n2 c2] 28) X1.out)
  go_wp2_with fail
  refine use_w2 (fun W => W.heap[w1.heap.size]? = some (.cells #[.slice p0 n0 c0, .slice p1 n1 c1, .slice p2 n2 c2] 28 (0, 0)) ∧ W.heap[w1.heap.size + 1]? = some (.cells #[.int .i64 2, .int .i64 (i : Nat), .int .i64 (j : Nat), .int .u32 b, .slice q m c'] 39 (0, 0)) ∧ Below w1.heap.size w1 W) ⟨hal (hnew rfl), hnew (by simp), al (al (Below.refl _ _) (Nat.le_refl _)) (by simp)⟩ ?_
  rintro w2 ⟨hl, ha2, hb2⟩
  have K2 : Hid (Below w.heap.size w w2) := K1.out.trans (hb2.mono K1.out.size)
  have S2 : Hid (Sl2 w2 (some ⟨w1.heap.size, 0, none⟩) 3 3 [x0, x1, x2]) := sl2_three hl (H0.out.keep K2.out) (H1.out.keep K2.out) (H2.out.keep K2.out)
  have SA2 : Hid (SlA w2 (some ⟨w1.heap.size + 1, 0, none⟩) 1 1 [A]) := by show SlA _ _ _ _ _; rw [HA.out]; exact sla_one ⟨2, (i : Nat), (j : Nat), b, bs⟩ ha2 (HS.out.keep K2.out) (by simp only; omega) (by simp only; omega) bb
  have X2 : Hid (w2.heap[w.heap.size]? = some (.cells #[.int .i64 2, .int .i64 (i : Nat), .int .i64 (j : Nat), .int .u32 b, .slice q m c'] 39 (0, 0))) := (hb2.block _ (blk_lt X1.out)).trans X1.out
  have L2 := Lib.hid hl
  obtain ⟨gl, hgl⟩ : ∃ gl, gl = w1.heap.size := ⟨_, rfl⟩
  rw [← hgl] at S2 SA2 L2 ⊢
  clear hl ha2 hb2 s0 s1 s2 s3 s4 r0 r1 r2 r3 r4 X1 K1 hgl
  have RM : Hid (∀ xs, xs ∈ [x0, x1, x2] → Room xs.length) := by
    intro xs hx; have := e0.out; have := e1.out; have := e2.out
    simp at hx; rcases hx with rfl | rfl | rfl <;> exact room300 (by omega)
  have RA : Hid (∀ a, a ∈ [A] → Room a.bs.length) := by
    intro a ha; have := em.out; simp at ha; subst ha; rw [HA.out]; exact room300 (by simp only; omega)
  have HAp : Hid (∀ p c W (h : Sl2 W p 3 c [x0, x1, x2]) (ha : SlA W (some ⟨gl + 1, 0, none⟩) 1 1 [A]), Calls Try.prog 16 #[.slice p 3 c, .slice (some ⟨gl + 1, 0, none⟩) 1 1] W (RetRows W (cameS [x0, x1, x2] A))) := fun p c W h ha => Apply_any p (some ⟨gl + 1, 0, none⟩) 3 c 1 1 [x0, x1, x2] [A] W h ha RM.out RA.out (by decide)
  refine Calls.mono (HAp.out _ _ w2 S2.out SA2.out) ?_; rintro e w9 ⟨q9, c9, rfl, ho9, hw9⟩
  have O9 := Lib.hid ho9.sl2
  have K9 := Lib.hid (bl K2.out hw9 K2.out.size)
  have f9 := (hw9.block _ (blk_lt X2.out)).trans X2.out
  have l9 := (hw9.block _ (blk_lt L2.out)).trans L2.out
  have SL9 := Lib.hid (S2.out.keep hw9)
  have L9 := Lib.hid l9; have F9 := Lib.hid f9
  clear ho9 hw9 S2 SA2 X2 L2 K2 l9
  obtain ⟨s0, s1, s2, s3, s4⟩ := cells5 f9
  obtain ⟨xi, hxi⟩ : ∃ xi, [x0, x1, x2][i]? = some xi := ⟨_, List.getElem?_eq_getElem (by simp only [List.length_cons, List.length_nil]; omega)⟩
  have i3 : (i : Int) < 3 := by omega
  obtain ⟨M, hM⟩ : ∃ M, M = cameS [x0, x1, x2] A := ⟨_, rfl⟩
  rw [← hM] at O9 ⊢
  have AD : A.d = 2 := by rw [HA.out]
  have AJ : 0 ≤ A.j := by rw [HA.out]; exact Int.natCast_nonneg _
  have AI : A.i = (i : Nat) := by rw [HA.out]
  have HXI := Lib.hid hxi
  have CL : M.length = 3 := by rw [hM, (came_move AD AJ AI hxi).1]; rfl
  have CM : Hid (M[min j 2]? = some xi) := by have := (came_move AD AJ AI hxi).2; rw [← hM, HA.out] at this; exact this
  rw [CL] at O9 ⊢
  clear CL
  clear f9 hxi hM AD AJ AI
  go_wp2

  refine wp_region_shapes (fun ix => ([.val (.agg #[.int .i64 2, .int .i64 (i : Nat), .int .i64 (j : Nat), .int .u32 b, .slice q m c']), .val (.bool false), .val (.pointer (some ⟨w.heap.size, 0, none⟩)), .val (.int .i64 2), .val (.bool false), .val (.bool false), .val (undef), .val (undef), .val (undef), .val (.bool false), .val (.bool false)][ix]?).getD (.any)) 204 rfl (by kernel_rfl) (by decide) (by decide) (by decide) ?_ ?_
  · refine ⟨?_, ?_, ?_, ?_, ?_, ?_, ?_, ?_, ?_, ?_, ?_, trivial⟩
    · intro a W hb0 hs hp hi; have hb := undrew hb0; clear hb0
      have tt : sl a 7 = .pointer (some ⟨w.heap.size, 0, none⟩) := hi 7 (by decide)
      have dd0 := (hb.cell (p := ⟨w.heap.size, 0, none⟩) (lt_of_cell s0)).trans s0
      have dd1 := (hb.cell (p := ⟨w.heap.size, 1, none⟩) (lt_of_cell s1)).trans s1
      have dd2 := (hb.cell (p := ⟨w.heap.size, 2, none⟩) (lt_of_cell s2)).trans s2
      have dd3 := (hb.cell (p := ⟨w.heap.size, 3, none⟩) (lt_of_cell s3)).trans s3
      have dd4 := (hb.cell (p := ⟨w.heap.size, 4, none⟩) (lt_of_cell s4)).trans s4
      refine ite_y rfl (wp_val (.agg #[.int .i64 2, .int .i64 (i : Nat), .int .i64 (j : Nat), .int .u32 b, .slice q m c']) ?_ ?_)
      · simp only [execOp, eval_tmp, tt]; simp [go_sem, dd0, dd1, dd2, dd3, dd4]
      · exact ⟨_, rfl, Below.refl _ _, rfl⟩
    · intro a W hb0 hs hp hi; have hb := undrew hb0; clear hb0
      have t49 : sl a 49 = .agg #[.int .i64 2, .int .i64 (i : Nat), .int .i64 (j : Nat), .int .u32 b, .slice q m c'] := hp 0 (by decide)
      refine ite_y rfl (wp_enter 17 #[.agg #[.int .i64 2, .int .i64 (i : Nat), .int .i64 (j : Nat), .int .u32 b, .slice q m c']] ?_ (Harms_any (2) ((i : Nat)) ((j : Nat)) b (.slice q m c') _) ?_)
      · simp only [execOp, resolve, List.map_toArray, List.map, eval_tmp, eval_func, eval_const, t49]; simp [go_sem]
      · rintro e W' ⟨rfl, hw⟩; exact ⟨_, rfl, _, rfl, hw, congrArg Value.bool (by decide)⟩
    · intro a W hb0 hs hp hi; have hb := undrew hb0; clear hb0
      have t7 : sl a 7 = .pointer (some ⟨w.heap.size, 0, none⟩) := hi 7 (by decide)
      refine ite_y rfl (wp_val (.pointer (some ⟨w.heap.size, 0, none⟩)) ?_ ?_)
      · simp only [execOp, eval_tmp, eval_const, t7]; simp [go_sem]
      · exact ⟨_, rfl, Below.refl _ _, rfl⟩
    · intro a W hb0 hs hp hi; have hb := undrew hb0; clear hb0
      have tt : sl a 51 = .pointer (some ⟨w.heap.size, 0, none⟩) := hp 2 (by decide)
      have dd := (hb.cell (p := ⟨w.heap.size, 0, none⟩) (lt_of_cell s0)).trans s0
      refine ite_y rfl (wp_val (.int .i64 2) ?_ ?_)
      · simp only [execOp, eval_tmp, tt]; simp [go_sem, dd]
      · exact ⟨_, rfl, Below.refl _ _, rfl⟩
    · intro a W hb0 hs hp hi; have hb := undrew hb0; clear hb0
      have t52 : sl a 52 = .int .i64 2 := hp 3 (by decide)
      refine ite_y rfl (wp_val (.bool false) ?_ ?_)
      · simp only [execOp, eval_tmp, eval_const, t52]; simp [go_sem]
      · exact ⟨_, rfl, Below.refl _ _, rfl⟩
    · intro a W hb0 hs hp hi; have hb := undrew hb0; clear hb0
      have t53 : sl a 53 = .bool false := hp 4 (by decide)
      exact ite_y rfl (wp_val (sl a 53) rfl ⟨_, rfl, Below.refl _ _, t53⟩)
    · intro a W hb0 hs hp hi; have hb := undrew hb0; clear hb0
      have tg : sl a 54 = .bool false := hp 5 (by decide)
      exact ite_n (wanted_no rfl rfl (by have hz : a.tmps.size = 204 := hs; rw [hz]; decide) tg (by decide)) rfl
    · intro a W hb0 hs hp hi; have hb := undrew hb0; clear hb0
      have tg : sl a 54 = .bool false := hp 5 (by decide)
      exact ite_n (wanted_no rfl rfl (by have hz : a.tmps.size = 204 := hs; rw [hz]; decide) tg (by decide)) rfl
    · intro a W hb0 hs hp hi; have hb := undrew hb0; clear hb0
      have tg : sl a 54 = .bool false := hp 5 (by decide)
      exact ite_n (wanted_no rfl rfl (by have hz : a.tmps.size = 204 := hs; rw [hz]; decide) tg (by decide)) rfl
    · intro a W hb0 hs hp hi; have hb := undrew hb0; clear hb0
      have t54 : sl a 54 = .bool false := hp 5 (by decide)
      have t57 : sl a 57 = undef := hp 8 (by decide)
      refine ite_y rfl (wp_val (.bool false) ?_ ?_)
      · simp only [execOp, eval_tmp, eval_const, t54, t57]; simp [go_sem]
      · exact ⟨_, rfl, Below.refl _ _, rfl⟩
    · intro a W hb0 hs hp hi; have hb := undrew hb0; clear hb0
      have t50 : sl a 50 = .bool false := hp 1 (by decide)
      have t58 : sl a 58 = .bool false := hp 9 (by decide)
      refine ite_y rfl (wp_val (.bool false) ?_ ?_)
      · simp only [execOp, eval_tmp, eval_const, t50, t58]; simp [go_sem]
      · exact ⟨_, rfl, Below.refl _ _, rfl⟩
  · intro a w10 hb hs hd hI ht
    have ha := act_is [49, 50, 51, 52, 53, 54, 55, 56, 57, 58, 59] hs hd ht (by decide)
    have t59 : sl a 59 = .bool false := hI 10 (by decide)
    simp only [List.foldl, t59] at ha
    generalize sl a 49 = u49 at ha
    generalize sl a 50 = u50 at ha
    generalize sl a 51 = u51 at ha
    generalize sl a 52 = u52 at ha
    generalize sl a 53 = u53 at ha
    generalize sl a 54 = u54 at ha
    generalize sl a 55 = u55 at ha
    generalize sl a 56 = u56 at ha
    generalize sl a 57 = u57 at ha
    generalize sl a 58 = u58 at ha
    simp only [Act.put, List.setIfInBounds_toArray, List.set_cons_zero, List.set_cons_succ] at ha
    rw [ha]; clear ha
    have F10 := Lib.hid ((hb.block _ (blk_lt F9.out)).trans F9.out)
    have L10 := Lib.hid ((hb.block _ (blk_lt L9.out)).trans L9.out)
    have O10 := Lib.hid (O9.out.keep hb)
    have SL10 := Lib.hid (SL9.out.keep hb)
    have K10 := Lib.hid (bl K9.out hb K9.out.size)
    clear hb F9 L9 O9 SL9 K9 hI
    try clear s0 s1 s2 s3 s4
    obtain ⟨s0, s1, s2, s3, s4⟩ := cells5 F10.out
    obtain ⟨qi, mi, ci, xi', hci, hsi, hxi'⟩ := SL10.out.at0 i (by omega)
    obtain rfl : xi = xi' := by have e1 := HXI.out; have e2 := hxi'.out; rw [e1] at e2; injection e2
    have HSI := Lib.hid hsi
    clear hsi hxi'
    go_wp2
    obtain ⟨mj, hmj⟩ : ∃ mj, mj = min j 2 := ⟨_, rfl⟩
    have hmin : min (j : Int) 2 = (mj : Int) := by omega
    have mj3 : mj < 3 := by omega
    have mj3' : (mj : Int) < 3 := by omega
    obtain ⟨gb, go, qx, mx, cx, xs, rfl, hcx, hsx, hxs⟩ := O10.out.at mj mj3
    obtain rfl : xi = xs := by have e1 := CM.out; have e2 := hxs.out; rw [hmj, e1] at e2; injection e2
    have HSX := Lib.hid hsx
    clear hsx hxs hmj
    refine wp_region_shapes (fun ix => ([.val (.slice (some ⟨gb, go, none⟩) 3 c9), .val (.int .i64 3), .val (.bool true), .val (.bool true), .val (.slice (some ⟨gb, go, none⟩) 3 c9), .val (.pointer (some ⟨w.heap.size, 2, none⟩)), .val (.int .i64 (j : Nat)), .val (.int .i64 (mj : Nat)), .val (.pointer (some ⟨gb, go + mj, none⟩)), .val (.slice qx mx cx), .val (.slice (some ⟨gl, 0, none⟩) 3 3), .val (.pointer (some ⟨w.heap.size, 1, none⟩)), .val (.int .i64 (i : Nat)), .val (.pointer (some ⟨gl, i, none⟩)), .val (.slice qi mi ci), .val (.bool true), .val (.bool true), .val (.bool true)][ix]?).getD (.any)) 204 rfl (by kernel_rfl) (by decide) (by decide) (by decide) ?_ ?_
    · refine ⟨?_, ?_, ?_, ?_, ?_, ?_, ?_, ?_, ?_, ?_, ?_, ?_, ?_, ?_, ?_, ?_, ?_, ?_, trivial⟩
      · intro a W hb0 hs hp hi; have hb := undrew hb0; clear hb0
        have t10 : sl a 10 = .slice (some ⟨gb, go, none⟩) 3 c9 := hi 10 (by decide)
        exact ite_y rfl (wp_val (sl a 10) rfl ⟨_, rfl, Below.refl _ _, t10⟩)
      · intro a W hb0 hs hp hi; have hb := undrew hb0; clear hb0
        have t135 : sl a 135 = .slice (some ⟨gb, go, none⟩) 3 c9 := hp 0 (by decide)
        refine ite_y rfl (wp_val (.int .i64 3) ?_ ?_)
        · simp only [execOp, resolve, List.map_toArray, List.map, eval_tmp, eval_func, eval_const, t135]; simp [go_sem]
        · exact ⟨_, rfl, Below.refl _ _, rfl⟩
      · intro a W hb0 hs hp hi; have hb := undrew hb0; clear hb0
        have t136 : sl a 136 = .int .i64 3 := hp 1 (by decide)
        refine ite_y rfl (wp_val (.bool true) ?_ ?_)
        · simp only [execOp, eval_tmp, eval_const, t136]; simp [go_sem]
        · exact ⟨_, rfl, Below.refl _ _, rfl⟩
      · intro a W hb0 hs hp hi; have hb := undrew hb0; clear hb0
        have t137 : sl a 137 = .bool true := hp 2 (by decide)
        exact ite_y rfl (wp_val (sl a 137) rfl ⟨_, rfl, Below.refl _ _, t137⟩)
      · intro a W hb0 hs hp hi; have hb := undrew hb0; clear hb0
        have tg : sl a 138 = .bool true := hp 3 (by decide)
        have t10 : sl a 10 = .slice (some ⟨gb, go, none⟩) 3 c9 := hi 10 (by decide)
        exact ite_y (wanted_yes rfl rfl (by have hz : a.tmps.size = 204 := hs; rw [hz]; decide) tg) (wp_val (sl a 10) rfl ⟨_, rfl, Below.refl _ _, t10⟩)
      · intro a W hb0 hs hp hi; have hb := undrew hb0; clear hb0
        have tg : sl a 138 = .bool true := hp 3 (by decide)
        have t7 : sl a 7 = .pointer (some ⟨w.heap.size, 0, none⟩) := hi 7 (by decide)
        refine ite_y (wanted_yes rfl rfl (by have hz : a.tmps.size = 204 := hs; rw [hz]; decide) tg) (wp_val (.pointer (some ⟨w.heap.size, 2, none⟩)) ?_ ?_)
        · simp only [execOp, eval_tmp, eval_const, t7]; simp [go_sem]
        · exact ⟨_, rfl, Below.refl _ _, rfl⟩
      · intro a W hb0 hs hp hi; have hb := undrew hb0; clear hb0
        have tg : sl a 138 = .bool true := hp 3 (by decide)
        have tt : sl a 140 = .pointer (some ⟨w.heap.size, 2, none⟩) := hp 5 (by decide)
        have dd := (hb.cell (p := ⟨w.heap.size, 2, none⟩) (lt_of_cell s2)).trans s2
        refine ite_y (wanted_yes rfl rfl (by have hz : a.tmps.size = 204 := hs; rw [hz]; decide) tg) (wp_val (.int .i64 (j : Nat)) ?_ ?_)
        · simp only [execOp, eval_tmp, tt]; simp [go_sem, dd]
        · exact ⟨_, rfl, Below.refl _ _, rfl⟩
      · intro a W hb0 hs hp hi; have hb := undrew hb0; clear hb0
        have tg : sl a 138 = .bool true := hp 3 (by decide)
        have ti0 : sl a 141 = .int .i64 (j : Nat) := hp 6 (by decide)
        have vi0 : a.tmps[141]?.getD undef = .int .i64 (j : Nat) := by simpa [sl] using ti0
        refine ite_y (wanted_yes rfl rfl (by have hz : a.tmps.size = 204 := hs; rw [hz]; decide) tg) (wp_val (.int .i64 (mj : Nat)) ?_ ?_)
        · simp only [execOp, resolve, List.map_toArray, List.map, eval_tmp, eval_func, eval_const, ti0]; simp [go_sem, hmin]
        · exact ⟨_, rfl, Below.refl _ _, rfl⟩
      · intro a W hb0 hs hp hi; have hb := undrew hb0; clear hb0
        have tg : sl a 138 = .bool true := hp 3 (by decide)
        have ti0 : sl a 139 = .slice (some ⟨gb, go, none⟩) 3 c9 := hp 4 (by decide)
        have ti1 : sl a 142 = .int .i64 (mj : Nat) := hp 7 (by decide)
        refine ite_y (wanted_yes rfl rfl (by have hz : a.tmps.size = 204 := hs; rw [hz]; decide) tg) (wp_val (.pointer (some ⟨gb, go + mj, none⟩)) ?_ ?_)
        · simp only [execOp, eval_tmp, eval_const, ti0, ti1]; simp [go_sem, mj3, mj3']
        · exact ⟨_, rfl, Below.refl _ _, rfl⟩
      · intro a W hb0 hs hp hi; have hb := undrew hb0; clear hb0
        have tg : sl a 138 = .bool true := hp 3 (by decide)
        have tt : sl a 143 = .pointer (some ⟨gb, go + mj, none⟩) := hp 8 (by decide)
        have dd := (hb.cell (p := ⟨gb, go + mj, none⟩) (lt_of_cell hcx)).trans hcx
        refine ite_y (wanted_yes rfl rfl (by have hz : a.tmps.size = 204 := hs; rw [hz]; decide) tg) (wp_val (.slice qx mx cx) ?_ ?_)
        · simp only [execOp, eval_tmp, tt]; simp [go_sem, dd]
        · exact ⟨_, rfl, Below.refl _ _, rfl⟩
      · intro a W hb0 hs hp hi; have hb := undrew hb0; clear hb0
        have tg : sl a 138 = .bool true := hp 3 (by decide)
        have t9 : sl a 9 = .slice (some ⟨gl, 0, none⟩) 3 3 := hi 9 (by decide)
        exact ite_y (wanted_yes rfl rfl (by have hz : a.tmps.size = 204 := hs; rw [hz]; decide) tg) (wp_val (sl a 9) rfl ⟨_, rfl, Below.refl _ _, t9⟩)
      · intro a W hb0 hs hp hi; have hb := undrew hb0; clear hb0
        have tg : sl a 138 = .bool true := hp 3 (by decide)
        have t7 : sl a 7 = .pointer (some ⟨w.heap.size, 0, none⟩) := hi 7 (by decide)
        refine ite_y (wanted_yes rfl rfl (by have hz : a.tmps.size = 204 := hs; rw [hz]; decide) tg) (wp_val (.pointer (some ⟨w.heap.size, 1, none⟩)) ?_ ?_)
        · simp only [execOp, eval_tmp, eval_const, t7]; simp [go_sem]
        · exact ⟨_, rfl, Below.refl _ _, rfl⟩
      · intro a W hb0 hs hp hi; have hb := undrew hb0; clear hb0
        have tg : sl a 138 = .bool true := hp 3 (by decide)
        have tt : sl a 146 = .pointer (some ⟨w.heap.size, 1, none⟩) := hp 11 (by decide)
        have dd := (hb.cell (p := ⟨w.heap.size, 1, none⟩) (lt_of_cell s1)).trans s1
        refine ite_y (wanted_yes rfl rfl (by have hz : a.tmps.size = 204 := hs; rw [hz]; decide) tg) (wp_val (.int .i64 (i : Nat)) ?_ ?_)
        · simp only [execOp, eval_tmp, tt]; simp [go_sem, dd]
        · exact ⟨_, rfl, Below.refl _ _, rfl⟩
      · intro a W hb0 hs hp hi; have hb := undrew hb0; clear hb0
        have tg : sl a 138 = .bool true := hp 3 (by decide)
        have ti0 : sl a 145 = .slice (some ⟨gl, 0, none⟩) 3 3 := hp 10 (by decide)
        have ti1 : sl a 147 = .int .i64 (i : Nat) := hp 12 (by decide)
        refine ite_y (wanted_yes rfl rfl (by have hz : a.tmps.size = 204 := hs; rw [hz]; decide) tg) (wp_val (.pointer (some ⟨gl, i, none⟩)) ?_ ?_)
        · simp only [execOp, eval_tmp, eval_const, ti0, ti1]; simp [go_sem, i3, hi]
        · exact ⟨_, rfl, Below.refl _ _, rfl⟩
      · intro a W hb0 hs hp hi; have hb := undrew hb0; clear hb0
        have tg : sl a 138 = .bool true := hp 3 (by decide)
        have tt : sl a 148 = .pointer (some ⟨gl, i, none⟩) := hp 13 (by decide)
        have dd := (hb.cell (p := ⟨gl, i, none⟩) (lt_of_cell hci)).trans hci
        refine ite_y (wanted_yes rfl rfl (by have hz : a.tmps.size = 204 := hs; rw [hz]; decide) tg) (wp_val (.slice qi mi ci) ?_ ?_)
        · simp only [execOp, eval_tmp, tt]; simp [go_sem, dd]
        · exact ⟨_, rfl, Below.refl _ _, rfl⟩
      · intro a W hb0 hs hp hi; have hb := undrew hb0; clear hb0
        have tg : sl a 138 = .bool true := hp 3 (by decide)
        have t144 : sl a 144 = .slice qx mx cx := hp 9 (by decide)
        have t149 : sl a 149 = .slice qi mi ci := hp 14 (by decide)
        refine ite_y (wanted_yes rfl rfl (by have hz : a.tmps.size = 204 := hs; rw [hz]; decide) tg) (wp_enter 13 #[.slice qx mx cx, .slice qi mi ci] ?_ (Same_any _ _ _ _ _ _ xi xi _ (HSX.out.keep hb) (HSI.out.keep hb)) ?_)
        · simp only [execOp, resolve, List.map_toArray, List.map, eval_tmp, eval_func, eval_const, t144, t149]; simp [go_sem]
        · rintro e W' ⟨rfl, hw⟩; exact ⟨_, rfl, _, rfl, hw, congrArg Value.bool (decide_eq_true rfl)⟩
      · intro a W hb0 hs hp hi; have hb := undrew hb0; clear hb0
        have t138 : sl a 138 = .bool true := hp 3 (by decide)
        have t150 : sl a 150 = .bool true := hp 15 (by decide)
        refine ite_y rfl (wp_val (.bool true) ?_ ?_)
        · simp only [execOp, eval_tmp, eval_const, t138, t150]; simp [go_sem]
        · exact ⟨_, rfl, Below.refl _ _, rfl⟩
      · intro a W hb0 hs hp hi; have hb := undrew hb0; clear hb0
        have t151 : sl a 151 = .bool true := hp 16 (by decide)
        exact ite_y rfl (wp_val (sl a 151) rfl ⟨_, rfl, Below.refl _ _, t151⟩)
    · intro a w11 hb hs hd hI ht
      have ha := act_is [135, 136, 137, 138, 139, 140, 141, 142, 143, 144, 145, 146, 147, 148, 149, 150, 151, 8] hs hd ht (by decide)
      have t8 : sl a 8 = .bool true := hI 17 (by decide)
      simp only [List.foldl, t8] at ha
      generalize sl a 135 = u135 at ha
      generalize sl a 136 = u136 at ha
      generalize sl a 137 = u137 at ha
      generalize sl a 138 = u138 at ha
      generalize sl a 139 = u139 at ha
      generalize sl a 140 = u140 at ha
      generalize sl a 141 = u141 at ha
      generalize sl a 142 = u142 at ha
      generalize sl a 143 = u143 at ha
      generalize sl a 144 = u144 at ha
      generalize sl a 145 = u145 at ha
      generalize sl a 146 = u146 at ha
      generalize sl a 147 = u147 at ha
      generalize sl a 148 = u148 at ha
      generalize sl a 149 = u149 at ha
      generalize sl a 150 = u150 at ha
      generalize sl a 151 = u151 at ha
      simp only [Act.put, List.setIfInBounds_toArray, List.set_cons_zero, List.set_cons_succ] at ha
      rw [ha]; clear ha
      have K11 := Lib.hid (bl K10.out hb K10.out.size)
      clear hI hb
      go_wp2
      go_ret
      exact ⟨rfl, K11.out⟩
set_option maxRecDepth 100000 in
set_option maxHeartbeats 4000000 in
theorem WayOne_cut (p0 p1 p2 q : Option Addr) (n0 n1 n2 m c0 c1 c2 c' b : Nat) (i j : Nat)  (x0 x1 x2 bs : List UInt8) (w : World) (h0 : Sl B8 w p0 n0 c0 x0) (h1 : Sl B8 w p1 n1 c1 x1) (h2 : Sl B8 w p2 n2 c2 x2) (hs : Sl B8 w q m c' bs) (hsum : n0 + n1 + n2 + m ≤ 100) (bb : b < 4294967296) (hi : i < 3) (hj : j ≤ 9223372036854775807) :
    Calls Try.prog 4 #[.slice p0 n0 c0, .slice p1 n1 c1, .slice p2 n2 c2, .agg #[.int .i64 3, .int .i64 (i : Nat), .int .i64 (j : Nat), .int .u32 b, .slice q m c']] w fun e w' => e = .returned (.bool true) ∧ Below w.heap.size w w' := by
  have H0 := Lib.hid h0; have H1 := Lib.hid h1; have H2 := Lib.hid h2; have HS := Lib.hid hs
  have e0 := Lib.hid h0.len; have e1 := Lib.hid h1.len; have e2 := Lib.hid h2.len; have em := Lib.hid hs.len
  obtain ⟨A, hA⟩ : ∃ A : ActD, A = ⟨3, (i : Nat), (j : Nat), b, bs⟩ := ⟨_, rfl⟩
  have HA := Lib.hid hA
  have hB0 : ∀ o, Below w.heap.size w (w.alloc o) := fun o => al (Below.refl _ _) (Nat.le_refl _)
  have HB0 := Lib.hid hB0
  clear h0 h1 h2 hs hA hB0
  go_enter Try.func4, Try.ntmps4
  go_wp2_with fail
  refine (awake20 _).mono ?_; rintro e w1 ⟨rfl, k1⟩
  have X1 : Hid (w1.heap[w.heap.size]? = some (.cells #[.int .i64 3, .int .i64 (i : Nat), .int .i64 (j : Nat), .int .u32 b, .slice q m c'] 39 (0, 0))) := (k1.block _ (by simp)).trans (hnew rfl)
  have K1 : Hid (Below w.heap.size w w1) := (HB0.out _).trans (k1.mono (by simp))
  clear k1
  obtain ⟨s0, s1, s2, s3, s4⟩ := cells5 X1.out
  obtain ⟨r0, r1, r2, r3, r4⟩ := cells5 (hal (o := .cells #[.slice p0 n0 c0, .slice p1 n1 c1, .slice p2 n2 c2] 28) X1.out)
  go_wp2_with fail
  refine use_w2 (fun W => W.heap[w1.heap.size]? = some (.cells #[.slice p0 n0 c0, .slice p1 n1 c1, .slice p2 n2 c2] 28 (0, 0)) ∧ W.heap[w1.heap.size + 1]? = some (.cells #[.int .i64 3, .int .i64 (i : Nat), .int .i64 (j : Nat), .int .u32 b, .slice q m c'] 39 (0, 0)) ∧ Below w1.heap.size w1 W) ⟨hal (hnew rfl), hnew (by simp), al (al (Below.refl _ _) (Nat.le_refl _)) (by simp)⟩ ?_
  rintro w2 ⟨hl, ha2, hb2⟩
  have K2 : Hid (Below w.heap.size w w2) := K1.out.trans (hb2.mono K1.out.size)
  have S2 : Hid (Sl2 w2 (some ⟨w1.heap.size, 0, none⟩) 3 3 [x0, x1, x2]) := sl2_three hl (H0.out.keep K2.out) (H1.out.keep K2.out) (H2.out.keep K2.out)
  have SA2 : Hid (SlA w2 (some ⟨w1.heap.size + 1, 0, none⟩) 1 1 [A]) := by show SlA _ _ _ _ _; rw [HA.out]; exact sla_one ⟨3, (i : Nat), (j : Nat), b, bs⟩ ha2 (HS.out.keep K2.out) (by simp only; omega) (by simp only; omega) bb
  have X2 : Hid (w2.heap[w.heap.size]? = some (.cells #[.int .i64 3, .int .i64 (i : Nat), .int .i64 (j : Nat), .int .u32 b, .slice q m c'] 39 (0, 0))) := (hb2.block _ (blk_lt X1.out)).trans X1.out
  have L2 := Lib.hid hl
  obtain ⟨gl, hgl⟩ : ∃ gl, gl = w1.heap.size := ⟨_, rfl⟩
  rw [← hgl] at S2 SA2 L2 ⊢
  clear hl ha2 hb2 s0 s1 s2 s3 s4 r0 r1 r2 r3 r4 X1 K1 hgl
  have RM : Hid (∀ xs, xs ∈ [x0, x1, x2] → Room xs.length) := by
    intro xs hx; have := e0.out; have := e1.out; have := e2.out
    simp at hx; rcases hx with rfl | rfl | rfl <;> exact room300 (by omega)
  have RA : Hid (∀ a, a ∈ [A] → Room a.bs.length) := by
    intro a ha; have := em.out; simp at ha; subst ha; rw [HA.out]; exact room300 (by simp only; omega)
  have HAp : Hid (∀ p c W (h : Sl2 W p 3 c [x0, x1, x2]) (ha : SlA W (some ⟨gl + 1, 0, none⟩) 1 1 [A]), Calls Try.prog 16 #[.slice p 3 c, .slice (some ⟨gl + 1, 0, none⟩) 1 1] W (RetRows W (cameS [x0, x1, x2] A))) := fun p c W h ha => Apply_any p (some ⟨gl + 1, 0, none⟩) 3 c 1 1 [x0, x1, x2] [A] W h ha RM.out RA.out (by decide)
  refine Calls.mono (HAp.out _ _ w2 S2.out SA2.out) ?_; rintro e w9 ⟨q9, c9, rfl, ho9, hw9⟩
  have O9 := Lib.hid ho9.sl2
  have K9 := Lib.hid (bl K2.out hw9 K2.out.size)
  have f9 := (hw9.block _ (blk_lt X2.out)).trans X2.out
  have l9 := (hw9.block _ (blk_lt L2.out)).trans L2.out
  have SL9 := Lib.hid (S2.out.keep hw9)
  have L9 := Lib.hid l9; have F9 := Lib.hid f9
  clear ho9 hw9 S2 SA2 X2 L2 K2 l9
  obtain ⟨s0, s1, s2, s3, s4⟩ := cells5 f9
  obtain ⟨xi, hxi⟩ : ∃ xi, [x0, x1, x2][i]? = some xi := ⟨_, List.getElem?_eq_getElem (by simp only [List.length_cons, List.length_nil]; omega)⟩
  have i3 : (i : Int) < 3 := by omega
  obtain ⟨M, hM⟩ : ∃ M, M = cameS [x0, x1, x2] A := ⟨_, rfl⟩
  rw [← hM] at O9 ⊢
  have AD : A.d = 3 := by rw [HA.out]
  have AJ : 0 ≤ A.j := by rw [HA.out]; exact Int.natCast_nonneg _
  have AI : A.i = (i : Nat) := by rw [HA.out]
  have HXI := Lib.hid hxi
  have CL : M.length = 3 := by rw [hM, (came_cut AD AJ AI hxi).1]; rfl
  have CM : Hid (∃ y, M[i]? = some y ∧ y.length = min j xi.length) := by have := (came_cut AD AJ AI hxi).2; rw [← hM, HA.out] at this; exact this
  rw [CL] at O9 ⊢
  clear CL
  clear f9 hxi hM AD AJ AI
  go_wp2

  refine wp_region_shapes (fun ix => ([.val (.agg #[.int .i64 3, .int .i64 (i : Nat), .int .i64 (j : Nat), .int .u32 b, .slice q m c']), .val (.bool true), .val (.pointer (some ⟨w.heap.size, 0, none⟩)), .val (.int .i64 3), .val (.bool true), .val (.bool true), .val (.pointer (some ⟨w.heap.size, 0, none⟩)), .val (.int .i64 3), .val (.bool true), .val (.bool true), .val (.bool false)][ix]?).getD (.any)) 204 rfl (by kernel_rfl) (by decide) (by decide) (by decide) ?_ ?_
  · refine ⟨?_, ?_, ?_, ?_, ?_, ?_, ?_, ?_, ?_, ?_, ?_, trivial⟩
    · intro a W hb0 hs hp hi; have hb := undrew hb0; clear hb0
      have tt : sl a 7 = .pointer (some ⟨w.heap.size, 0, none⟩) := hi 7 (by decide)
      have dd0 := (hb.cell (p := ⟨w.heap.size, 0, none⟩) (lt_of_cell s0)).trans s0
      have dd1 := (hb.cell (p := ⟨w.heap.size, 1, none⟩) (lt_of_cell s1)).trans s1
      have dd2 := (hb.cell (p := ⟨w.heap.size, 2, none⟩) (lt_of_cell s2)).trans s2
      have dd3 := (hb.cell (p := ⟨w.heap.size, 3, none⟩) (lt_of_cell s3)).trans s3
      have dd4 := (hb.cell (p := ⟨w.heap.size, 4, none⟩) (lt_of_cell s4)).trans s4
      refine ite_y rfl (wp_val (.agg #[.int .i64 3, .int .i64 (i : Nat), .int .i64 (j : Nat), .int .u32 b, .slice q m c']) ?_ ?_)
      · simp only [execOp, eval_tmp, tt]; simp [go_sem, dd0, dd1, dd2, dd3, dd4]
      · exact ⟨_, rfl, Below.refl _ _, rfl⟩
    · intro a W hb0 hs hp hi; have hb := undrew hb0; clear hb0
      have t49 : sl a 49 = .agg #[.int .i64 3, .int .i64 (i : Nat), .int .i64 (j : Nat), .int .u32 b, .slice q m c'] := hp 0 (by decide)
      refine ite_y rfl (wp_enter 17 #[.agg #[.int .i64 3, .int .i64 (i : Nat), .int .i64 (j : Nat), .int .u32 b, .slice q m c']] ?_ (Harms_any (3) ((i : Nat)) ((j : Nat)) b (.slice q m c') _) ?_)
      · simp only [execOp, resolve, List.map_toArray, List.map, eval_tmp, eval_func, eval_const, t49]; simp [go_sem]
      · rintro e W' ⟨rfl, hw⟩; exact ⟨_, rfl, _, rfl, hw, congrArg Value.bool (by decide)⟩
    · intro a W hb0 hs hp hi; have hb := undrew hb0; clear hb0
      have t7 : sl a 7 = .pointer (some ⟨w.heap.size, 0, none⟩) := hi 7 (by decide)
      refine ite_y rfl (wp_val (.pointer (some ⟨w.heap.size, 0, none⟩)) ?_ ?_)
      · simp only [execOp, eval_tmp, eval_const, t7]; simp [go_sem]
      · exact ⟨_, rfl, Below.refl _ _, rfl⟩
    · intro a W hb0 hs hp hi; have hb := undrew hb0; clear hb0
      have tt : sl a 51 = .pointer (some ⟨w.heap.size, 0, none⟩) := hp 2 (by decide)
      have dd := (hb.cell (p := ⟨w.heap.size, 0, none⟩) (lt_of_cell s0)).trans s0
      refine ite_y rfl (wp_val (.int .i64 3) ?_ ?_)
      · simp only [execOp, eval_tmp, tt]; simp [go_sem, dd]
      · exact ⟨_, rfl, Below.refl _ _, rfl⟩
    · intro a W hb0 hs hp hi; have hb := undrew hb0; clear hb0
      have t52 : sl a 52 = .int .i64 3 := hp 3 (by decide)
      refine ite_y rfl (wp_val (.bool true) ?_ ?_)
      · simp only [execOp, eval_tmp, eval_const, t52]; simp [go_sem]
      · exact ⟨_, rfl, Below.refl _ _, rfl⟩
    · intro a W hb0 hs hp hi; have hb := undrew hb0; clear hb0
      have t53 : sl a 53 = .bool true := hp 4 (by decide)
      exact ite_y rfl (wp_val (sl a 53) rfl ⟨_, rfl, Below.refl _ _, t53⟩)
    · intro a W hb0 hs hp hi; have hb := undrew hb0; clear hb0
      have tg : sl a 54 = .bool true := hp 5 (by decide)
      have t7 : sl a 7 = .pointer (some ⟨w.heap.size, 0, none⟩) := hi 7 (by decide)
      refine ite_y (wanted_yes rfl rfl (by have hz : a.tmps.size = 204 := hs; rw [hz]; decide) tg) (wp_val (.pointer (some ⟨w.heap.size, 0, none⟩)) ?_ ?_)
      · simp only [execOp, eval_tmp, eval_const, t7]; simp [go_sem]
      · exact ⟨_, rfl, Below.refl _ _, rfl⟩
    · intro a W hb0 hs hp hi; have hb := undrew hb0; clear hb0
      have tg : sl a 54 = .bool true := hp 5 (by decide)
      have tt : sl a 55 = .pointer (some ⟨w.heap.size, 0, none⟩) := hp 6 (by decide)
      have dd := (hb.cell (p := ⟨w.heap.size, 0, none⟩) (lt_of_cell s0)).trans s0
      refine ite_y (wanted_yes rfl rfl (by have hz : a.tmps.size = 204 := hs; rw [hz]; decide) tg) (wp_val (.int .i64 3) ?_ ?_)
      · simp only [execOp, eval_tmp, tt]; simp [go_sem, dd]
      · exact ⟨_, rfl, Below.refl _ _, rfl⟩
    · intro a W hb0 hs hp hi; have hb := undrew hb0; clear hb0
      have tg : sl a 54 = .bool true := hp 5 (by decide)
      have t56 : sl a 56 = .int .i64 3 := hp 7 (by decide)
      refine ite_y (wanted_yes rfl rfl (by have hz : a.tmps.size = 204 := hs; rw [hz]; decide) tg) (wp_val (.bool true) ?_ ?_)
      · simp only [execOp, eval_tmp, eval_const, t56]; simp [go_sem]
      · exact ⟨_, rfl, Below.refl _ _, rfl⟩
    · intro a W hb0 hs hp hi; have hb := undrew hb0; clear hb0
      have t54 : sl a 54 = .bool true := hp 5 (by decide)
      have t57 : sl a 57 = .bool true := hp 8 (by decide)
      refine ite_y rfl (wp_val (.bool true) ?_ ?_)
      · simp only [execOp, eval_tmp, eval_const, t54, t57]; simp [go_sem]
      · exact ⟨_, rfl, Below.refl _ _, rfl⟩
    · intro a W hb0 hs hp hi; have hb := undrew hb0; clear hb0
      have t50 : sl a 50 = .bool true := hp 1 (by decide)
      have t58 : sl a 58 = .bool true := hp 9 (by decide)
      refine ite_y rfl (wp_val (.bool false) ?_ ?_)
      · simp only [execOp, eval_tmp, eval_const, t50, t58]; simp [go_sem]
      · exact ⟨_, rfl, Below.refl _ _, rfl⟩
  · intro a w10 hb hs hd hI ht
    have ha := act_is [49, 50, 51, 52, 53, 54, 55, 56, 57, 58, 59] hs hd ht (by decide)
    have t59 : sl a 59 = .bool false := hI 10 (by decide)
    simp only [List.foldl, t59] at ha
    generalize sl a 49 = u49 at ha
    generalize sl a 50 = u50 at ha
    generalize sl a 51 = u51 at ha
    generalize sl a 52 = u52 at ha
    generalize sl a 53 = u53 at ha
    generalize sl a 54 = u54 at ha
    generalize sl a 55 = u55 at ha
    generalize sl a 56 = u56 at ha
    generalize sl a 57 = u57 at ha
    generalize sl a 58 = u58 at ha
    simp only [Act.put, List.setIfInBounds_toArray, List.set_cons_zero, List.set_cons_succ] at ha
    rw [ha]; clear ha
    have F10 := Lib.hid ((hb.block _ (blk_lt F9.out)).trans F9.out)
    have L10 := Lib.hid ((hb.block _ (blk_lt L9.out)).trans L9.out)
    have O10 := Lib.hid (O9.out.keep hb)
    have SL10 := Lib.hid (SL9.out.keep hb)
    have K10 := Lib.hid (bl K9.out hb K9.out.size)
    clear hb F9 L9 O9 SL9 K9 hI
    try clear s0 s1 s2 s3 s4
    obtain ⟨s0, s1, s2, s3, s4⟩ := cells5 F10.out
    obtain ⟨qi, mi, ci, xi', hci, hsi, hxi'⟩ := SL10.out.at0 i (by omega)
    obtain rfl : xi = xi' := by have e1 := HXI.out; have e2 := hxi'.out; rw [e1] at e2; injection e2
    have HSI := Lib.hid hsi
    clear hsi hxi'
    go_wp2
    obtain ⟨gb, go, qx, mx, cx, xs, rfl, hcx, hsx, hxs⟩ := O10.out.at i hi
    have hmin : min (j : Int) (mi : Int) = (mx : Int) := by
      obtain ⟨y, hy, hy2⟩ := CM.out
      have e2 := hxs.out; rw [hy] at e2; injection e2 with e2; subst e2
      have l1 := hsx.len; have l2 := HSI.out.len; omega
    clear hsx hxs
    refine wp_region_shapes (fun ix => ([.val (.slice (some ⟨gb, go, none⟩) 3 c9), .val (.int .i64 3), .val (.bool true), .val (.bool true), .val (.slice (some ⟨gb, go, none⟩) 3 c9), .val (.pointer (some ⟨w.heap.size, 1, none⟩)), .val (.int .i64 (i : Nat)), .val (.pointer (some ⟨gb, go + i, none⟩)), .val (.slice qx mx cx), .val (.int .i64 (mx : Nat)), .val (.pointer (some ⟨w.heap.size, 2, none⟩)), .val (.int .i64 (j : Nat)), .val (.slice (some ⟨gl, 0, none⟩) 3 3), .val (.pointer (some ⟨w.heap.size, 1, none⟩)), .val (.int .i64 (i : Nat)), .val (.pointer (some ⟨gl, i, none⟩)), .val (.slice qi mi ci), .val (.int .i64 (mi : Nat)), .val (.int .i64 (mx : Nat)), .val (.bool true), .val (.bool true), .val (.bool true)][ix]?).getD (.any)) 204 rfl (by kernel_rfl) (by decide) (by decide) (by decide) ?_ ?_
    · refine ⟨?_, ?_, ?_, ?_, ?_, ?_, ?_, ?_, ?_, ?_, ?_, ?_, ?_, ?_, ?_, ?_, ?_, ?_, ?_, ?_, ?_, ?_, trivial⟩
      · intro a W hb0 hs hp hi; have hb := undrew hb0; clear hb0
        have t10 : sl a 10 = .slice (some ⟨gb, go, none⟩) 3 c9 := hi 10 (by decide)
        exact ite_y rfl (wp_val (sl a 10) rfl ⟨_, rfl, Below.refl _ _, t10⟩)
      · intro a W hb0 hs hp hi; have hb := undrew hb0; clear hb0
        have t156 : sl a 156 = .slice (some ⟨gb, go, none⟩) 3 c9 := hp 0 (by decide)
        refine ite_y rfl (wp_val (.int .i64 3) ?_ ?_)
        · simp only [execOp, resolve, List.map_toArray, List.map, eval_tmp, eval_func, eval_const, t156]; simp [go_sem]
        · exact ⟨_, rfl, Below.refl _ _, rfl⟩
      · intro a W hb0 hs hp hi; have hb := undrew hb0; clear hb0
        have t157 : sl a 157 = .int .i64 3 := hp 1 (by decide)
        refine ite_y rfl (wp_val (.bool true) ?_ ?_)
        · simp only [execOp, eval_tmp, eval_const, t157]; simp [go_sem]
        · exact ⟨_, rfl, Below.refl _ _, rfl⟩
      · intro a W hb0 hs hp hi; have hb := undrew hb0; clear hb0
        have t158 : sl a 158 = .bool true := hp 2 (by decide)
        exact ite_y rfl (wp_val (sl a 158) rfl ⟨_, rfl, Below.refl _ _, t158⟩)
      · intro a W hb0 hs hp hi; have hb := undrew hb0; clear hb0
        have tg : sl a 159 = .bool true := hp 3 (by decide)
        have t10 : sl a 10 = .slice (some ⟨gb, go, none⟩) 3 c9 := hi 10 (by decide)
        exact ite_y (wanted_yes rfl rfl (by have hz : a.tmps.size = 204 := hs; rw [hz]; decide) tg) (wp_val (sl a 10) rfl ⟨_, rfl, Below.refl _ _, t10⟩)
      · intro a W hb0 hs hp hi; have hb := undrew hb0; clear hb0
        have tg : sl a 159 = .bool true := hp 3 (by decide)
        have t7 : sl a 7 = .pointer (some ⟨w.heap.size, 0, none⟩) := hi 7 (by decide)
        refine ite_y (wanted_yes rfl rfl (by have hz : a.tmps.size = 204 := hs; rw [hz]; decide) tg) (wp_val (.pointer (some ⟨w.heap.size, 1, none⟩)) ?_ ?_)
        · simp only [execOp, eval_tmp, eval_const, t7]; simp [go_sem]
        · exact ⟨_, rfl, Below.refl _ _, rfl⟩
      · intro a W hb0 hs hp hi; have hb := undrew hb0; clear hb0
        have tg : sl a 159 = .bool true := hp 3 (by decide)
        have tt : sl a 161 = .pointer (some ⟨w.heap.size, 1, none⟩) := hp 5 (by decide)
        have dd := (hb.cell (p := ⟨w.heap.size, 1, none⟩) (lt_of_cell s1)).trans s1
        refine ite_y (wanted_yes rfl rfl (by have hz : a.tmps.size = 204 := hs; rw [hz]; decide) tg) (wp_val (.int .i64 (i : Nat)) ?_ ?_)
        · simp only [execOp, eval_tmp, tt]; simp [go_sem, dd]
        · exact ⟨_, rfl, Below.refl _ _, rfl⟩
      · intro a W hb0 hs hp hi; have hb := undrew hb0; clear hb0
        have tg : sl a 159 = .bool true := hp 3 (by decide)
        have ti0 : sl a 160 = .slice (some ⟨gb, go, none⟩) 3 c9 := hp 4 (by decide)
        have ti1 : sl a 162 = .int .i64 (i : Nat) := hp 6 (by decide)
        refine ite_y (wanted_yes rfl rfl (by have hz : a.tmps.size = 204 := hs; rw [hz]; decide) tg) (wp_val (.pointer (some ⟨gb, go + i, none⟩)) ?_ ?_)
        · simp only [execOp, eval_tmp, eval_const, ti0, ti1]; simp [go_sem, i3, hi]
        · exact ⟨_, rfl, Below.refl _ _, rfl⟩
      · intro a W hb0 hs hp hi; have hb := undrew hb0; clear hb0
        have tg : sl a 159 = .bool true := hp 3 (by decide)
        have tt : sl a 163 = .pointer (some ⟨gb, go + i, none⟩) := hp 7 (by decide)
        have dd := (hb.cell (p := ⟨gb, go + i, none⟩) (lt_of_cell hcx)).trans hcx
        refine ite_y (wanted_yes rfl rfl (by have hz : a.tmps.size = 204 := hs; rw [hz]; decide) tg) (wp_val (.slice qx mx cx) ?_ ?_)
        · simp only [execOp, eval_tmp, tt]; simp [go_sem, dd]
        · exact ⟨_, rfl, Below.refl _ _, rfl⟩
      · intro a W hb0 hs hp hi; have hb := undrew hb0; clear hb0
        have tg : sl a 159 = .bool true := hp 3 (by decide)
        have t164 : sl a 164 = .slice qx mx cx := hp 8 (by decide)
        refine ite_y (wanted_yes rfl rfl (by have hz : a.tmps.size = 204 := hs; rw [hz]; decide) tg) (wp_val (.int .i64 (mx : Nat)) ?_ ?_)
        · simp only [execOp, resolve, List.map_toArray, List.map, eval_tmp, eval_func, eval_const, t164]; simp [go_sem]
        · exact ⟨_, rfl, Below.refl _ _, rfl⟩
      · intro a W hb0 hs hp hi; have hb := undrew hb0; clear hb0
        have tg : sl a 159 = .bool true := hp 3 (by decide)
        have t7 : sl a 7 = .pointer (some ⟨w.heap.size, 0, none⟩) := hi 7 (by decide)
        refine ite_y (wanted_yes rfl rfl (by have hz : a.tmps.size = 204 := hs; rw [hz]; decide) tg) (wp_val (.pointer (some ⟨w.heap.size, 2, none⟩)) ?_ ?_)
        · simp only [execOp, eval_tmp, eval_const, t7]; simp [go_sem]
        · exact ⟨_, rfl, Below.refl _ _, rfl⟩
      · intro a W hb0 hs hp hi; have hb := undrew hb0; clear hb0
        have tg : sl a 159 = .bool true := hp 3 (by decide)
        have tt : sl a 166 = .pointer (some ⟨w.heap.size, 2, none⟩) := hp 10 (by decide)
        have dd := (hb.cell (p := ⟨w.heap.size, 2, none⟩) (lt_of_cell s2)).trans s2
        refine ite_y (wanted_yes rfl rfl (by have hz : a.tmps.size = 204 := hs; rw [hz]; decide) tg) (wp_val (.int .i64 (j : Nat)) ?_ ?_)
        · simp only [execOp, eval_tmp, tt]; simp [go_sem, dd]
        · exact ⟨_, rfl, Below.refl _ _, rfl⟩
      · intro a W hb0 hs hp hi; have hb := undrew hb0; clear hb0
        have tg : sl a 159 = .bool true := hp 3 (by decide)
        have t9 : sl a 9 = .slice (some ⟨gl, 0, none⟩) 3 3 := hi 9 (by decide)
        exact ite_y (wanted_yes rfl rfl (by have hz : a.tmps.size = 204 := hs; rw [hz]; decide) tg) (wp_val (sl a 9) rfl ⟨_, rfl, Below.refl _ _, t9⟩)
      · intro a W hb0 hs hp hi; have hb := undrew hb0; clear hb0
        have tg : sl a 159 = .bool true := hp 3 (by decide)
        have t7 : sl a 7 = .pointer (some ⟨w.heap.size, 0, none⟩) := hi 7 (by decide)
        refine ite_y (wanted_yes rfl rfl (by have hz : a.tmps.size = 204 := hs; rw [hz]; decide) tg) (wp_val (.pointer (some ⟨w.heap.size, 1, none⟩)) ?_ ?_)
        · simp only [execOp, eval_tmp, eval_const, t7]; simp [go_sem]
        · exact ⟨_, rfl, Below.refl _ _, rfl⟩
      · intro a W hb0 hs hp hi; have hb := undrew hb0; clear hb0
        have tg : sl a 159 = .bool true := hp 3 (by decide)
        have tt : sl a 169 = .pointer (some ⟨w.heap.size, 1, none⟩) := hp 13 (by decide)
        have dd := (hb.cell (p := ⟨w.heap.size, 1, none⟩) (lt_of_cell s1)).trans s1
        refine ite_y (wanted_yes rfl rfl (by have hz : a.tmps.size = 204 := hs; rw [hz]; decide) tg) (wp_val (.int .i64 (i : Nat)) ?_ ?_)
        · simp only [execOp, eval_tmp, tt]; simp [go_sem, dd]
        · exact ⟨_, rfl, Below.refl _ _, rfl⟩
      · intro a W hb0 hs hp hi; have hb := undrew hb0; clear hb0
        have tg : sl a 159 = .bool true := hp 3 (by decide)
        have ti0 : sl a 168 = .slice (some ⟨gl, 0, none⟩) 3 3 := hp 12 (by decide)
        have ti1 : sl a 170 = .int .i64 (i : Nat) := hp 14 (by decide)
        refine ite_y (wanted_yes rfl rfl (by have hz : a.tmps.size = 204 := hs; rw [hz]; decide) tg) (wp_val (.pointer (some ⟨gl, i, none⟩)) ?_ ?_)
        · simp only [execOp, eval_tmp, eval_const, ti0, ti1]; simp [go_sem, i3, hi]
        · exact ⟨_, rfl, Below.refl _ _, rfl⟩
      · intro a W hb0 hs hp hi; have hb := undrew hb0; clear hb0
        have tg : sl a 159 = .bool true := hp 3 (by decide)
        have tt : sl a 171 = .pointer (some ⟨gl, i, none⟩) := hp 15 (by decide)
        have dd := (hb.cell (p := ⟨gl, i, none⟩) (lt_of_cell hci)).trans hci
        refine ite_y (wanted_yes rfl rfl (by have hz : a.tmps.size = 204 := hs; rw [hz]; decide) tg) (wp_val (.slice qi mi ci) ?_ ?_)
        · simp only [execOp, eval_tmp, tt]; simp [go_sem, dd]
        · exact ⟨_, rfl, Below.refl _ _, rfl⟩
      · intro a W hb0 hs hp hi; have hb := undrew hb0; clear hb0
        have tg : sl a 159 = .bool true := hp 3 (by decide)
        have t172 : sl a 172 = .slice qi mi ci := hp 16 (by decide)
        refine ite_y (wanted_yes rfl rfl (by have hz : a.tmps.size = 204 := hs; rw [hz]; decide) tg) (wp_val (.int .i64 (mi : Nat)) ?_ ?_)
        · simp only [execOp, resolve, List.map_toArray, List.map, eval_tmp, eval_func, eval_const, t172]; simp [go_sem]
        · exact ⟨_, rfl, Below.refl _ _, rfl⟩
      · intro a W hb0 hs hp hi; have hb := undrew hb0; clear hb0
        have tg : sl a 159 = .bool true := hp 3 (by decide)
        have ti0 : sl a 167 = .int .i64 (j : Nat) := hp 11 (by decide)
        have ti1 : sl a 173 = .int .i64 (mi : Nat) := hp 17 (by decide)
        have vi0 : a.tmps[167]?.getD undef = .int .i64 (j : Nat) := by simpa [sl] using ti0
        have vi1 : a.tmps[173]?.getD undef = .int .i64 (mi : Nat) := by simpa [sl] using ti1
        refine ite_y (wanted_yes rfl rfl (by have hz : a.tmps.size = 204 := hs; rw [hz]; decide) tg) (wp_val (.int .i64 (mx : Nat)) ?_ ?_)
        · simp only [execOp, resolve, List.map_toArray, List.map, eval_tmp, eval_func, eval_const, ti0, ti1]; simp [go_sem, hmin]
        · exact ⟨_, rfl, Below.refl _ _, rfl⟩
      · intro a W hb0 hs hp hi; have hb := undrew hb0; clear hb0
        have tg : sl a 159 = .bool true := hp 3 (by decide)
        have t165 : sl a 165 = .int .i64 (mx : Nat) := hp 9 (by decide)
        have t174 : sl a 174 = .int .i64 (mx : Nat) := hp 18 (by decide)
        refine ite_y (wanted_yes rfl rfl (by have hz : a.tmps.size = 204 := hs; rw [hz]; decide) tg) (wp_val (.bool true) ?_ ?_)
        · simp only [execOp, eval_tmp, eval_const, t165, t174]; simp [go_sem]
        · exact ⟨_, rfl, Below.refl _ _, rfl⟩
      · intro a W hb0 hs hp hi; have hb := undrew hb0; clear hb0
        have t159 : sl a 159 = .bool true := hp 3 (by decide)
        have t175 : sl a 175 = .bool true := hp 19 (by decide)
        refine ite_y rfl (wp_val (.bool true) ?_ ?_)
        · simp only [execOp, eval_tmp, eval_const, t159, t175]; simp [go_sem]
        · exact ⟨_, rfl, Below.refl _ _, rfl⟩
      · intro a W hb0 hs hp hi; have hb := undrew hb0; clear hb0
        have t176 : sl a 176 = .bool true := hp 20 (by decide)
        exact ite_y rfl (wp_val (sl a 176) rfl ⟨_, rfl, Below.refl _ _, t176⟩)
    · intro a w11 hb hs hd hI ht
      have ha := act_is [156, 157, 158, 159, 160, 161, 162, 163, 164, 165, 166, 167, 168, 169, 170, 171, 172, 173, 174, 175, 176, 8] hs hd ht (by decide)
      have t8 : sl a 8 = .bool true := hI 21 (by decide)
      simp only [List.foldl, t8] at ha
      generalize sl a 156 = u156 at ha
      generalize sl a 157 = u157 at ha
      generalize sl a 158 = u158 at ha
      generalize sl a 159 = u159 at ha
      generalize sl a 160 = u160 at ha
      generalize sl a 161 = u161 at ha
      generalize sl a 162 = u162 at ha
      generalize sl a 163 = u163 at ha
      generalize sl a 164 = u164 at ha
      generalize sl a 165 = u165 at ha
      generalize sl a 166 = u166 at ha
      generalize sl a 167 = u167 at ha
      generalize sl a 168 = u168 at ha
      generalize sl a 169 = u169 at ha
      generalize sl a 170 = u170 at ha
      generalize sl a 171 = u171 at ha
      generalize sl a 172 = u172 at ha
      generalize sl a 173 = u173 at ha
      generalize sl a 174 = u174 at ha
      generalize sl a 175 = u175 at ha
      generalize sl a 176 = u176 at ha
      simp only [Act.put, List.setIfInBounds_toArray, List.set_cons_zero, List.set_cons_succ] at ha
      rw [ha]; clear ha
      have K11 := Lib.hid (bl K10.out hb K10.out.size)
      clear hI hb
      go_wp2
      go_ret
      exact ⟨rfl, K11.out⟩
end Go.Proofs.Ytlfcijpkdhdmeaa
