/- GridRanks: the walk, whole. GridRanks: the walk, whole. Arguments that came in, as bytes and slices of bytes. Arguments that came in: slices of byte slices. -/
import Derived.Test.YtofhdakggapahaaZk7
import Derived.OpenShut
import Derived.Deep.Matrix
namespace Go.Proofs.Ytofhdakggapahaa
open Go.RowKit Go.By
def shpG (h wd : Nat) (C : List UInt8) : Shp := ⟨fun v W => ∃ q n c, v = .agg #[.int .i64 h, .int .i64 wd, .slice q n c] ∧ n = h * wd ∧ Sl B8 W q n c C, fun _ _ _ ⟨q, n, c, e, h, s⟩ hb => ⟨q, n, c, e, h, s.keep hb⟩⟩
set_option maxRecDepth 100000 in
set_option maxHeartbeats 8000000 in
theorem GK_size (x y : UInt8) (wd vd : Nat) (p1 p2 : Option Addr) (m1 c1 m2 c2 : Nat) (xss yss L K : List (List UInt8)) (w : World) (h1 : Sl2 w p1 m1 c1 xss) (h2 : Sl2 w p2 m2 c2 yss)
    (hf1 : xss.all (fun y => decide (y.length ≤ 30)) = true) (hm1 : m1 ≤ 30) (hf2 : yss.all (fun y => decide (y.length ≤ 30)) = true) (hm2 : m2 ≤ 30)
    (hM1 : ∀ W, Sl2 W p1 m1 c1 xss → Calls Try.prog 19 #[B8 x, .slice p1 m1 c1] W (RetM W m1 wd L)) (hM2 : ∀ W, Sl2 W p2 m2 c2 yss → Calls Try.prog 19 #[B8 y, .slice p2 m2 c2] W (RetM W m2 vd K))
    (hwd : wd ≤ 30) (hvd : vd ≤ 30) (hL : ∀ x, x ∈ L → x.length = wd) (hLm : L.length = m1) (hK : ∀ x, x ∈ K → x.length = vd) (hKm : K.length = m2) (hmul : wd ≠ m2) :
    Calls Try.prog 4 #[B8 x, .slice p1 m1 c1, B8 y, .slice p2 m2 c2] w fun e w' => e = .returned (.bool true) ∧ Below w.heap.size w w' := by
  have HF1 : Hid (∀ W, Sl2 W p1 m1 c1 xss → Calls Try.prog 10 #[.slice p1 m1 c1] W fun e w' => e = .returned (.bool true) ∧ W = w') := fun W h => by
    have := Few7_any p1 m1 c1 xss W h
    rw [hf1, decide_eq_true hm1] at this; exact this
  have HF2 : Hid (∀ W, Sl2 W p2 m2 c2 yss → Calls Try.prog 10 #[.slice p2 m2 c2] W fun e w' => e = .returned (.bool true) ∧ W = w') := fun W h => by
    have := Few7_any p2 m2 c2 yss W h
    rw [hf2, decide_eq_true hm2] at this; exact this
  have HM1 := Lib.hid hM1; have HM2 := Lib.hid hM2; have H1_0 := Lib.hid h1; have H2_0 := Lib.hid h2; have HLL := Lib.hid hL; have HKK := Lib.hid hK
  have hG : Hid (∀ W q n c, n = m1 * wd → Sl B8 W q n c L.flatten → Calls Try.prog 20 #[.agg #[.int .i64 m1, .int .i64 wd, .slice q n c]] W fun e w' => e = .returned (.int .i64 (iK L).length) ∧ Below W.heap.size W w') := fun W q n c hn h => GRank_rows hL hLm (by omega) (by omega) q n c W hn h
  have hT : Hid (∀ W q n c, n = m1 * wd → Sl B8 W q n c L.flatten → Calls Try.prog 21 #[.agg #[.int .i64 m1, .int .i64 wd, .slice q n c]] W (RetG 5 W wd m1 (turnX wd L).flatten)) := fun W q n c hn h => GTurned_rows hL hLm (by omega) (by omega) q n c W hn h
  have hTK : Hid (∀ W q n c, n = wd * m1 → Sl B8 W q n c (turnX wd L).flatten → Calls Try.prog 20 #[.agg #[.int .i64 wd, .int .i64 m1, .slice q n c]] W fun e w' => e = .returned (.int .i64 (iK L).length) ∧ Below W.heap.size W w') := fun W q n c hn h => by
    have := GRank_rows (turnX_len hLm) (turnX_length wd L) (by omega) (by omega) q n c W hn h
    rwa [rank_turn hL hLm] at this
  have hTT : Hid (∀ W q n c, n = wd * m1 → Sl B8 W q n c (turnX wd L).flatten → Calls Try.prog 21 #[.agg #[.int .i64 wd, .int .i64 m1, .slice q n c]] W (RetG 5 W m1 wd L.flatten)) := fun W q n c hn h => by
    have := GTurned_rows (turnX_len hLm) (turnX_length wd L) (by omega) (by omega) q n c W hn h
    rwa [turn_turn hL hLm] at this
  have hrw : (iK L).length ≤ wd := rank_wide hL
  have hrm : (iK L).length ≤ m1 := rank_high hLm
  have HMU : Hid (wd = m2 → ∀ W q1 n1 d1 q2 n2 d2, n1 = m1 * wd → n2 = m2 * vd → Sl B8 W q1 n1 d1 L.flatten → Sl B8 W q2 n2 d2 K.flatten → Calls Try.prog 22 #[.agg #[.int .i64 m1, .int .i64 wd, .slice q1 n1 d1], .agg #[.int .i64 m2, .int .i64 vd, .slice q2 n2 d2]] W (RetG2 5 W m1 vd (L.map (mulR vd K)).flatten 0)) := fun e W q1 n1 d1 q2 n2 d2 e1 e2 s1 s2 => by
    subst e; exact GMul_rows hL hLm hK hKm (by omega) (by omega) (by omega) q1 q2 n1 d1 n2 d2 W e1 e2 s1 s2
  have HPK : Hid (∀ W q n c, n = m1 * vd → Sl B8 W q n c (L.map (mulR vd K)).flatten → Calls Try.prog 20 #[.agg #[.int .i64 m1, .int .i64 vd, .slice q n c]] W fun e w' => e = .returned (.int .i64 (iK (L.map (mulR vd K))).length) ∧ Below W.heap.size W w') := fun W q n c hn h => GRank_rows (mul_wide hK) (by rw [List.length_map]; exact hLm) (by omega) (by omega) q n c W hn h
  have HOK : Hid (∀ W q n c, n = m2 * vd → Sl B8 W q n c K.flatten → Calls Try.prog 20 #[.agg #[.int .i64 m2, .int .i64 vd, .slice q n c]] W fun e w' => e = .returned (.int .i64 (iK K).length) ∧ Below W.heap.size W w') := fun W q n c hn h => GRank_rows hK hKm (by omega) (by omega) q n c W hn h
  have hpr0 : Hid (wd = m2 → (iK (L.map (mulR vd K))).length ≤ (iK L).length ∧ (iK (L.map (mulR vd K))).length ≤ (iK K).length) := fun e => by subst e; exact rank_mul hL hK hKm
  have HIL : Hid (m1 = wd → (iK L).length < wd → ∀ W q n c, n = m1 * wd → Sl B8 W q n c L.flatten → Calls Try.prog 24 #[.agg #[.int .i64 m1, .int .i64 wd, .slice q n c]] W (RetG2 5 W 0 0 [] 19)) := fun e hlt W q n c hn h => by
    subst e
    refine (GInv_rows hL hLm (by omega) q n c W hn h).mono ?_
    intro e w' h
    rcases h with ⟨F, _, h, _⟩ | ⟨_, h⟩
    · omega
    · exact h
  have HIF : Hid (m1 = wd → (iK L).length = wd → ∀ W q n c, n = m1 * wd → Sl B8 W q n c L.flatten → Calls Try.prog 24 #[.agg #[.int .i64 m1, .int .i64 wd, .slice q n c]] W (fun e w' => ∃ F : Nat → Rw, GJ m1 (sqR m1 L.flatten) F m1 ∧ RetG2 5 W m1 wd (rowsD m1 F).flatten 0 e w')) := fun e hlt W q n c hn h => by
    subst e
    refine (GInv_rows hL hLm (by omega) q n c W hn h).mono ?_
    intro e w' h
    rcases h with ⟨F, g, _, h⟩ | ⟨h, _⟩
    · exact ⟨F, g, h⟩
    · omega
  have HI2 : Hid (m1 = wd → ∀ W (F : Nat → Rw) q n c, GJ m1 (sqR m1 L.flatten) F m1 → n = m1 * wd → Sl B8 W q n c (rowsD m1 F).flatten → Calls Try.prog 24 #[.agg #[.int .i64 m1, .int .i64 wd, .slice q n c]] W (RetG2 5 W m1 wd L.flatten 0)) := fun e W F q n c g hn h => by
    subst e
    refine (GInv_rows (rowsD_wide g) (rowsD_len m1 F) (by omega) q n c W hn h).mono ?_
    intro e w' h
    rcases h with ⟨E, g2, _, h⟩ | ⟨h, _⟩
    · rwa [inv_back hL hLm g g2] at h
    · rw [inv_full hL hLm g] at h; omega
  have HML : Hid (m1 = wd → ∀ (W : World) (F : Nat → Rw) q1 n1 d1 q2 n2 d2, GJ m1 (sqR m1 L.flatten) F m1 → n1 = m1 * wd → n2 = m1 * wd → Sl B8 W q1 n1 d1 (rowsD m1 F).flatten → Sl B8 W q2 n2 d2 L.flatten → Calls Try.prog 22 #[.agg #[.int .i64 m1, .int .i64 wd, .slice q1 n1 d1], .agg #[.int .i64 m1, .int .i64 wd, .slice q2 n2 d2]] W (RetG2 5 W m1 wd (unitC m1 m1) 0)) := fun e W F q1 n1 d1 q2 n2 d2 g e1 e2 s1 s2 => by
    subst e
    have := GMul_rows (rowsD_wide g) (rowsD_len m1 F) hL hLm (by omega) (by omega) (by omega) q1 q2 n1 d1 n2 d2 W e1 e2 s1 s2
    rwa [inv_left hL hLm g] at this
  have HUN : Hid (m1 = wd → ∀ W, Calls Try.prog 12 #[.int .i64 wd] W (RetG2 5 W m1 wd (unitC m1 m1) 0)) := fun e W => by subst e; exact Unit_good m1 W (by omega)
  have HDT : Hid (m1 = wd → wd ≤ 6 → ∀ W q c, Sl2 W q m1 c L → Calls Try.prog 23 #[.slice q m1 c] W fun e w' => e = .returned (B8 (Gf.det m1 (detM L))) ∧ Below W.heap.size W w') := fun e h6 W q c h => by subst e; exact Det_any m1 q c L W h hL h6
  have hdr : Hid (m1 = wd → ((iK L).length = wd ↔ Gf.det m1 (detM L) ≠ 0)) := fun e => by subst e; exact det_rank hL hLm
  clear h1 h2 hM1 hM2 hf1 hf2 hL hK hLm hKm
  generalize hr : (iK L).length = r at *
  generalize (turnX wd L).flatten = X at *
  generalize (L.map (mulR vd K)).flatten = Z at *
  generalize (iK (L.map (mulR vd K))).length = rp at *
  generalize (iK K).length = ro at *
  generalize Gf.det m1 (detM L) = D at *
  have HMUL := Lib.hid hmul
  clear hmul hpr0
  have hrwz : (r : Int) ≤ (wd : Int) := by omega
  have hrmz : (r : Int) ≤ (m1 : Int) := by omega
  go_enter Try.func4, Try.ntmps4
  go_wp2_with fail
  refine (awake07 _).mono ?_; rintro e w1 ⟨rfl, hb⟩
  have B_1 := Lib.hid hb
  have H1_1 := Lib.hid (H1_0.out.keep hb); have H2_1 := Lib.hid (H2_0.out.keep hb)
  clear hb H1_0 H2_0
  go_wp2_with fail
  refine Calls.mono (HF1.out _ H1_1.out) ?_
  rintro e w' ⟨rfl, rfl⟩
  go_wp2_with fail
  refine Calls.mono (HF2.out _ H2_1.out) ?_
  rintro e w' ⟨rfl, rfl⟩
  go_wp2_with fail
  refine Calls.mono (HM1.out _ H1_1.out) ?_
  rintro e w2 ⟨qg, ng, cg, ql, cl, hng, rfl, og, ol, hb⟩
  have B_2 := Lib.hid (bl B_1.out hb B_1.out.size)
  have H1_2 := Lib.hid (H1_1.out.keep hb)
  have H2_2 := Lib.hid (H2_1.out.keep hb)
  clear hb B_1 H1_1 H2_1
  have SG_2 := Lib.hid (Sl.of_owns og); have RL_2 := Lib.hid ol.sl2; have HNG := Lib.hid hng
  clear og ol hng H1_2
  go_wp2_with fail
  refine use_w (fun W => Below w2.heap.size w2 W ∧ W.heap[w2.heap.size]? = some (.cells #[.int .i64 m1, .int .i64 wd, .slice qg ng cg] 27 (0, 0))) ⟨al (Below.refl _ _) (Nat.le_refl _), hnew rfl⟩ ?_
  rintro w3 ⟨hb, hx⟩
  have XG_3 := Lib.hid hx
  clear hx
  have B_3 := Lib.hid (bl B_2.out hb B_2.out.size)
  have H2_3 := Lib.hid (H2_2.out.keep hb)
  have SG_3 := Lib.hid (SG_2.out.keep hb)
  have RL_3 := Lib.hid (RL_2.out.keep hb)
  clear hb B_2 H2_2 SG_2 RL_2
  refine Calls.mono (HM2.out _ H2_3.out) ?_
  rintro e w4 ⟨qo, no, co, qk, ck, hno, rfl, oo, ok, hb⟩
  have B_4 := Lib.hid (bl B_3.out hb B_3.out.size)
  have H2_4 := Lib.hid (H2_3.out.keep hb)
  have SG_4 := Lib.hid (SG_3.out.keep hb)
  have RL_4 := Lib.hid (RL_3.out.keep hb)
  have XG_4 := Lib.hid ((hb.block _ (blk_lt XG_3.out)).trans XG_3.out)
  clear hb B_3 H2_3 SG_3 RL_3 XG_3
  have SO_4 := Lib.hid (Sl.of_owns oo); have RK_4 := Lib.hid ok.sl2; have HNO := Lib.hid hno
  clear oo ok hno H2_4
  obtain ⟨h30, h31, h32⟩ := cells3 XG_4.out
  obtain ⟨j00, j01, j02⟩ := cells3 (hal (o := .cells #[.int .i64 m2, .int .i64 vd, .slice qo no co] 27) XG_4.out)
  go_wp2_with fail
  refine use_w (fun W => Below w4.heap.size w4 W ∧ W.heap[w4.heap.size]? = some (.cells #[.int .i64 m2, .int .i64 vd, .slice qo no co] 27 (0, 0))) ⟨al (Below.refl _ _) (Nat.le_refl _), hnew rfl⟩ ?_
  rintro w5 ⟨hb, hx⟩
  have XO_5 := Lib.hid hx
  clear hx
  have B_5 := Lib.hid (bl B_4.out hb B_4.out.size)
  have SG_5 := Lib.hid (SG_4.out.keep hb)
  have RL_5 := Lib.hid (RL_4.out.keep hb)
  have XG_5 := Lib.hid ((hb.block _ (blk_lt XG_4.out)).trans XG_4.out)
  have SO_5 := Lib.hid (SO_4.out.keep hb)
  have RK_5 := Lib.hid (RK_4.out.keep hb)
  clear hb B_4 SG_4 RL_4 XG_4 SO_4 RK_4 h30 h31 h32 j00 j01 j02
  have T_5 := Lib.hid (GSt.mk (w := w) B_5.out SG_5.out RL_5.out SO_5.out RK_5.out XG_5.out XO_5.out)
  clear B_5 SG_5 RL_5 SO_5 RK_5 XG_5 XO_5
  refine Calls.mono (hG.out _ _ _ _ HNG.out T_5.out.sg) ?_
  rintro e w6 ⟨rfl, hb⟩
  have T_6 := Lib.hid (T_5.out.keep hb)
  clear hb T_5
  obtain ⟨f0, f1, f2⟩ := cells3 T_6.out.xg
  go_wp2
  refine wp_region_shapes (fun ix => ([.val (.int .i64 (r : Nat)), .val (.agg #[.int .i64 m1, .int .i64 wd, .slice qg ng cg]), (shpG (wd) (m1) (X)), .val (.int .i64 (r : Nat)), .val (.bool false), .val (.bool false), .val (.int .i64 (r : Nat)), .val (.int .i64 wd), .val (.bool false), .val (.bool false), .val (.bool false), .val (.int .i64 (r : Nat)), .val (.slice ql m1 cl), .val (.int .i64 (m1 : Nat)), .val (.bool false), .val (.bool false), .val (.bool false), .val (.agg #[.int .i64 m1, .int .i64 wd, .slice qg ng cg]), (shpG (wd) (m1) (X)), (shpG (m1) (wd) (L.flatten)), .val (.agg #[.int .i64 m1, .int .i64 wd, .slice qg ng cg]), .val (.bool true), .val (.bool false), .val (.bool false), .val (undef), .val (undef), .val (.bool false), .val (.bool false), .val (undef), .val (undef), .val (undef), .val (.bool false), .val (.bool false)][ix]?).getD (.any)) 175 rfl (by kernel_rfl) (by decide) (by decide) (by decide) ?_ ?_
  · refine ⟨?_, ?_, ?_, ?_, ?_, ?_, ?_, ?_, ?_, ?_, ?_, ?_, ?_, ?_, ?_, ?_, ?_, ?_, ?_, ?_, ?_, ?_, ?_, ?_, ?_, ?_, ?_, ?_, ?_, ?_, ?_, ?_, ?_, trivial⟩
    · intro a W hb0 hs hp hi; have hb := undrew hb0; clear hb0
      have t15 : sl a 15 = .int .i64 (r : Nat) := hi 15 (by decide)
      exact ite_y rfl (wp_val (sl a 15) rfl ⟨_, rfl, Below.refl _ _, t15⟩)
    · intro a W hb0 hs hp hi; have hb := undrew hb0; clear hb0
      have tt : sl a 9 = .pointer (some ⟨w2.heap.size, 0, none⟩) := hi 9 (by decide)
      have dd0 := (hb.cell (p := ⟨w2.heap.size, 0, none⟩) (lt_of_cell f0)).trans f0
      have dd1 := (hb.cell (p := ⟨w2.heap.size, 1, none⟩) (lt_of_cell f1)).trans f1
      have dd2 := (hb.cell (p := ⟨w2.heap.size, 2, none⟩) (lt_of_cell f2)).trans f2
      refine ite_y rfl (wp_val (.agg #[.int .i64 m1, .int .i64 wd, .slice qg ng cg]) ?_ ?_)
      · simp only [execOp, eval_tmp, tt]; simp [go_sem, dd0, dd1, dd2]
      · exact ⟨_, rfl, Below.refl _ _, rfl⟩
    · intro a W hb0 hs hp hi; have hb := undrew hb0; clear hb0
      have t53 : sl a 53 = .agg #[.int .i64 m1, .int .i64 wd, .slice qg ng cg] := hp 1 (by decide)
      refine ite_y rfl (wp_enter 21 #[.agg #[.int .i64 m1, .int .i64 wd, .slice qg ng cg]] ?_ (hT.out W _ _ _ HNG.out (T_6.out.sg.keep hb)) ?_)
      · simp only [execOp, resolve, List.map_toArray, List.map, eval_tmp, eval_func, eval_const, t53]; simp [go_sem]
      · rintro e W' ⟨q', n', c', hn', rfl, ho, hw⟩; exact ⟨_, rfl, _, rfl, hw, q', n', c', rfl, hn', Sl.of_owns ho⟩
    · intro a W hb0 hs hp hi; have hb := undrew hb0; clear hb0
      obtain ⟨q1', n1', c1', tt1, e1', z1'⟩ : ∃ q n c, sl a 54 = .agg #[.int .i64 wd, .int .i64 m1, .slice q n c] ∧ n = wd * m1 ∧ Sl B8 W q n c (X) := hp 2 (by decide)
      refine ite_y rfl (wp_enter 20 #[.agg #[.int .i64 wd, .int .i64 m1, .slice q1' n1' c1']] ?_ (hTK.out W _ _ _ e1' z1') ?_)
      · simp only [execOp, resolve, List.map_toArray, List.map, eval_tmp, eval_func, eval_const, tt1]; simp [go_sem]
      · rintro e W' ⟨rfl, hw⟩; exact ⟨_, rfl, _, rfl, hw, rfl⟩
    · intro a W hb0 hs hp hi; have hb := undrew hb0; clear hb0
      have t52 : sl a 52 = .int .i64 (r : Nat) := hp 0 (by decide)
      have t55 : sl a 55 = .int .i64 (r : Nat) := hp 3 (by decide)
      refine ite_y rfl (wp_val (.bool false) ?_ ?_)
      · simp only [execOp, eval_tmp, eval_const, t52, t55]; simp [go_sem]
      · exact ⟨_, rfl, Below.refl _ _, rfl⟩
    · intro a W hb0 hs hp hi; have hb := undrew hb0; clear hb0
      have t56 : sl a 56 = .bool false := hp 4 (by decide)
      exact ite_y rfl (wp_val (sl a 56) rfl ⟨_, rfl, Below.refl _ _, t56⟩)
    · intro a W hb0 hs hp hi; have hb := undrew hb0; clear hb0
      have tg : sl a 57 = .bool false := hp 5 (by decide)
      have t15 : sl a 15 = .int .i64 (r : Nat) := hi 15 (by decide)
      exact ite_y (wanted_yes rfl rfl (by have hz : a.tmps.size = 175 := hs; rw [hz]; decide) tg) (wp_val (sl a 15) rfl ⟨_, rfl, Below.refl _ _, t15⟩)
    · intro a W hb0 hs hp hi; have hb := undrew hb0; clear hb0
      have tg : sl a 57 = .bool false := hp 5 (by decide)
      have t11 : sl a 11 = .int .i64 wd := hi 11 (by decide)
      exact ite_y (wanted_yes rfl rfl (by have hz : a.tmps.size = 175 := hs; rw [hz]; decide) tg) (wp_val (sl a 11) rfl ⟨_, rfl, Below.refl _ _, t11⟩)
    · intro a W hb0 hs hp hi; have hb := undrew hb0; clear hb0
      have tg : sl a 57 = .bool false := hp 5 (by decide)
      have t58 : sl a 58 = .int .i64 (r : Nat) := hp 6 (by decide)
      have t59 : sl a 59 = .int .i64 wd := hp 7 (by decide)
      refine ite_y (wanted_yes rfl rfl (by have hz : a.tmps.size = 175 := hs; rw [hz]; decide) tg) (wp_val (.bool false) ?_ ?_)
      · simp only [execOp, eval_tmp, eval_const, t58, t59]; simp [go_sem, hrw, hrwz]
      · exact ⟨_, rfl, Below.refl _ _, rfl⟩
    · intro a W hb0 hs hp hi; have hb := undrew hb0; clear hb0
      have t57 : sl a 57 = .bool false := hp 5 (by decide)
      have t60 : sl a 60 = .bool false := hp 8 (by decide)
      refine ite_y rfl (wp_val (.bool false) ?_ ?_)
      · simp only [execOp, eval_tmp, eval_const, t57, t60]; simp [go_sem]
      · exact ⟨_, rfl, Below.refl _ _, rfl⟩
    · intro a W hb0 hs hp hi; have hb := undrew hb0; clear hb0
      have t61 : sl a 61 = .bool false := hp 9 (by decide)
      exact ite_y rfl (wp_val (sl a 61) rfl ⟨_, rfl, Below.refl _ _, t61⟩)
    · intro a W hb0 hs hp hi; have hb := undrew hb0; clear hb0
      have tg : sl a 62 = .bool false := hp 10 (by decide)
      have t15 : sl a 15 = .int .i64 (r : Nat) := hi 15 (by decide)
      exact ite_y (wanted_yes rfl rfl (by have hz : a.tmps.size = 175 := hs; rw [hz]; decide) tg) (wp_val (sl a 15) rfl ⟨_, rfl, Below.refl _ _, t15⟩)
    · intro a W hb0 hs hp hi; have hb := undrew hb0; clear hb0
      have tg : sl a 62 = .bool false := hp 10 (by decide)
      have t10 : sl a 10 = .slice ql m1 cl := hi 10 (by decide)
      exact ite_y (wanted_yes rfl rfl (by have hz : a.tmps.size = 175 := hs; rw [hz]; decide) tg) (wp_val (sl a 10) rfl ⟨_, rfl, Below.refl _ _, t10⟩)
    · intro a W hb0 hs hp hi; have hb := undrew hb0; clear hb0
      have tg : sl a 62 = .bool false := hp 10 (by decide)
      have t64 : sl a 64 = .slice ql m1 cl := hp 12 (by decide)
      refine ite_y (wanted_yes rfl rfl (by have hz : a.tmps.size = 175 := hs; rw [hz]; decide) tg) (wp_val (.int .i64 (m1 : Nat)) ?_ ?_)
      · simp only [execOp, resolve, List.map_toArray, List.map, eval_tmp, eval_func, eval_const, t64]; simp [go_sem]
      · exact ⟨_, rfl, Below.refl _ _, rfl⟩
    · intro a W hb0 hs hp hi; have hb := undrew hb0; clear hb0
      have tg : sl a 62 = .bool false := hp 10 (by decide)
      have t63 : sl a 63 = .int .i64 (r : Nat) := hp 11 (by decide)
      have t65 : sl a 65 = .int .i64 (m1 : Nat) := hp 13 (by decide)
      refine ite_y (wanted_yes rfl rfl (by have hz : a.tmps.size = 175 := hs; rw [hz]; decide) tg) (wp_val (.bool false) ?_ ?_)
      · simp only [execOp, eval_tmp, eval_const, t63, t65]; simp [go_sem, hrm, hrmz]
      · exact ⟨_, rfl, Below.refl _ _, rfl⟩
    · intro a W hb0 hs hp hi; have hb := undrew hb0; clear hb0
      have t62 : sl a 62 = .bool false := hp 10 (by decide)
      have t66 : sl a 66 = .bool false := hp 14 (by decide)
      refine ite_y rfl (wp_val (.bool false) ?_ ?_)
      · simp only [execOp, eval_tmp, eval_const, t62, t66]; simp [go_sem]
      · exact ⟨_, rfl, Below.refl _ _, rfl⟩
    · intro a W hb0 hs hp hi; have hb := undrew hb0; clear hb0
      have t67 : sl a 67 = .bool false := hp 15 (by decide)
      exact ite_y rfl (wp_val (sl a 67) rfl ⟨_, rfl, Below.refl _ _, t67⟩)
    · intro a W hb0 hs hp hi; have hb := undrew hb0; clear hb0
      have tg : sl a 68 = .bool false := hp 16 (by decide)
      have tt : sl a 9 = .pointer (some ⟨w2.heap.size, 0, none⟩) := hi 9 (by decide)
      have dd0 := (hb.cell (p := ⟨w2.heap.size, 0, none⟩) (lt_of_cell f0)).trans f0
      have dd1 := (hb.cell (p := ⟨w2.heap.size, 1, none⟩) (lt_of_cell f1)).trans f1
      have dd2 := (hb.cell (p := ⟨w2.heap.size, 2, none⟩) (lt_of_cell f2)).trans f2
      refine ite_y (wanted_yes rfl rfl (by have hz : a.tmps.size = 175 := hs; rw [hz]; decide) tg) (wp_val (.agg #[.int .i64 m1, .int .i64 wd, .slice qg ng cg]) ?_ ?_)
      · simp only [execOp, eval_tmp, tt]; simp [go_sem, dd0, dd1, dd2]
      · exact ⟨_, rfl, Below.refl _ _, rfl⟩
    · intro a W hb0 hs hp hi; have hb := undrew hb0; clear hb0
      have tg : sl a 68 = .bool false := hp 16 (by decide)
      have t69 : sl a 69 = .agg #[.int .i64 m1, .int .i64 wd, .slice qg ng cg] := hp 17 (by decide)
      refine ite_y (wanted_yes rfl rfl (by have hz : a.tmps.size = 175 := hs; rw [hz]; decide) tg) (wp_enter 21 #[.agg #[.int .i64 m1, .int .i64 wd, .slice qg ng cg]] ?_ (hT.out W _ _ _ HNG.out (T_6.out.sg.keep hb)) ?_)
      · simp only [execOp, resolve, List.map_toArray, List.map, eval_tmp, eval_func, eval_const, t69]; simp [go_sem]
      · rintro e W' ⟨q', n', c', hn', rfl, ho, hw⟩; exact ⟨_, rfl, _, rfl, hw, q', n', c', rfl, hn', Sl.of_owns ho⟩
    · intro a W hb0 hs hp hi; have hb := undrew hb0; clear hb0
      have tg : sl a 68 = .bool false := hp 16 (by decide)
      obtain ⟨q1', n1', c1', tt1, e1', z1'⟩ : ∃ q n c, sl a 70 = .agg #[.int .i64 wd, .int .i64 m1, .slice q n c] ∧ n = wd * m1 ∧ Sl B8 W q n c (X) := hp 18 (by decide)
      refine ite_y (wanted_yes rfl rfl (by have hz : a.tmps.size = 175 := hs; rw [hz]; decide) tg) (wp_enter 21 #[.agg #[.int .i64 wd, .int .i64 m1, .slice q1' n1' c1']] ?_ (hTT.out W _ _ _ e1' z1') ?_)
      · simp only [execOp, resolve, List.map_toArray, List.map, eval_tmp, eval_func, eval_const, tt1]; simp [go_sem]
      · rintro e W' ⟨q', n', c', hn', rfl, ho, hw⟩; exact ⟨_, rfl, _, rfl, hw, q', n', c', rfl, hn', Sl.of_owns ho⟩
    · intro a W hb0 hs hp hi; have hb := undrew hb0; clear hb0
      have tg : sl a 68 = .bool false := hp 16 (by decide)
      have tt : sl a 9 = .pointer (some ⟨w2.heap.size, 0, none⟩) := hi 9 (by decide)
      have dd0 := (hb.cell (p := ⟨w2.heap.size, 0, none⟩) (lt_of_cell f0)).trans f0
      have dd1 := (hb.cell (p := ⟨w2.heap.size, 1, none⟩) (lt_of_cell f1)).trans f1
      have dd2 := (hb.cell (p := ⟨w2.heap.size, 2, none⟩) (lt_of_cell f2)).trans f2
      refine ite_y (wanted_yes rfl rfl (by have hz : a.tmps.size = 175 := hs; rw [hz]; decide) tg) (wp_val (.agg #[.int .i64 m1, .int .i64 wd, .slice qg ng cg]) ?_ ?_)
      · simp only [execOp, eval_tmp, tt]; simp [go_sem, dd0, dd1, dd2]
      · exact ⟨_, rfl, Below.refl _ _, rfl⟩
    · intro a W hb0 hs hp hi; have hb := undrew hb0; clear hb0
      have tg : sl a 68 = .bool false := hp 16 (by decide)
      obtain ⟨q1', n1', c1', tt1, e1', z1'⟩ : ∃ q n c, sl a 71 = .agg #[.int .i64 m1, .int .i64 wd, .slice q n c] ∧ n = m1 * wd ∧ Sl B8 W q n c (L.flatten) := hp 19 (by decide)
      have t72 : sl a 72 = .agg #[.int .i64 m1, .int .i64 wd, .slice qg ng cg] := hp 20 (by decide)
      refine ite_y (wanted_yes rfl rfl (by have hz : a.tmps.size = 175 := hs; rw [hz]; decide) tg) (wp_enter 18 #[.agg #[.int .i64 m1, .int .i64 wd, .slice q1' n1' c1'], .agg #[.int .i64 m1, .int .i64 wd, .slice qg ng cg]] ?_ (GSame_any m1 wd m1 wd q1' qg n1' c1' ng cg _ _ W z1' (T_6.out.sg.keep hb)) ?_)
      · simp only [execOp, resolve, List.map_toArray, List.map, eval_tmp, eval_func, eval_const, tt1, t72]; simp [go_sem]
      · rintro e W' ⟨rfl, hw⟩; exact ⟨_, rfl, _, rfl, hw, congrArg Value.bool (decide_eq_true ⟨rfl, rfl, rfl⟩)⟩
    · intro a W hb0 hs hp hi; have hb := undrew hb0; clear hb0
      have tg : sl a 68 = .bool false := hp 16 (by decide)
      have t73 : sl a 73 = .bool true := hp 21 (by decide)
      refine ite_y (wanted_yes rfl rfl (by have hz : a.tmps.size = 175 := hs; rw [hz]; decide) tg) (wp_val (.bool false) ?_ ?_)
      · simp only [execOp, eval_tmp, eval_const, t73]; simp [go_sem]
      · exact ⟨_, rfl, Below.refl _ _, rfl⟩
    · intro a W hb0 hs hp hi; have hb := undrew hb0; clear hb0
      have tg : sl a 68 = .bool false := hp 16 (by decide)
      have t74 : sl a 74 = .bool false := hp 22 (by decide)
      exact ite_y (wanted_yes rfl rfl (by have hz : a.tmps.size = 175 := hs; rw [hz]; decide) tg) (wp_val (sl a 74) rfl ⟨_, rfl, Below.refl _ _, t74⟩)
    · intro a W hb0 hs hp hi; have hb := undrew hb0; clear hb0
      have tg : sl a 75 = .bool false := hp 23 (by decide)
      exact ite_n (wanted_no rfl rfl (by have hz : a.tmps.size = 175 := hs; rw [hz]; decide) tg (by decide)) rfl
    · intro a W hb0 hs hp hi; have hb := undrew hb0; clear hb0
      have tg : sl a 75 = .bool false := hp 23 (by decide)
      exact ite_n (wanted_no rfl rfl (by have hz : a.tmps.size = 175 := hs; rw [hz]; decide) tg (by decide)) rfl
    · intro a W hb0 hs hp hi; have hb := undrew hb0; clear hb0
      have tg : sl a 68 = .bool false := hp 16 (by decide)
      have t75 : sl a 75 = .bool false := hp 23 (by decide)
      have t77 : sl a 77 = undef := hp 25 (by decide)
      refine ite_y (wanted_yes rfl rfl (by have hz : a.tmps.size = 175 := hs; rw [hz]; decide) tg) (wp_val (.bool false) ?_ ?_)
      · simp only [execOp, eval_tmp, eval_const, t75, t77]; simp [go_sem]
      · exact ⟨_, rfl, Below.refl _ _, rfl⟩
    · intro a W hb0 hs hp hi; have hb := undrew hb0; clear hb0
      have tg : sl a 68 = .bool false := hp 16 (by decide)
      have t78 : sl a 78 = .bool false := hp 26 (by decide)
      exact ite_y (wanted_yes rfl rfl (by have hz : a.tmps.size = 175 := hs; rw [hz]; decide) tg) (wp_val (sl a 78) rfl ⟨_, rfl, Below.refl _ _, t78⟩)
    · intro a W hb0 hs hp hi; have hb := undrew hb0; clear hb0
      have tg : sl a 79 = .bool false := hp 27 (by decide)
      exact ite_n (wanted_no rfl rfl (by have hz : a.tmps.size = 175 := hs; rw [hz]; decide) tg (by decide)) rfl
    · intro a W hb0 hs hp hi; have hb := undrew hb0; clear hb0
      have tg : sl a 79 = .bool false := hp 27 (by decide)
      exact ite_n (wanted_no rfl rfl (by have hz : a.tmps.size = 175 := hs; rw [hz]; decide) tg (by decide)) rfl
    · intro a W hb0 hs hp hi; have hb := undrew hb0; clear hb0
      have tg : sl a 79 = .bool false := hp 27 (by decide)
      exact ite_n (wanted_no rfl rfl (by have hz : a.tmps.size = 175 := hs; rw [hz]; decide) tg (by decide)) rfl
    · intro a W hb0 hs hp hi; have hb := undrew hb0; clear hb0
      have tg : sl a 68 = .bool false := hp 16 (by decide)
      have t79 : sl a 79 = .bool false := hp 27 (by decide)
      have t82 : sl a 82 = undef := hp 30 (by decide)
      refine ite_y (wanted_yes rfl rfl (by have hz : a.tmps.size = 175 := hs; rw [hz]; decide) tg) (wp_val (.bool false) ?_ ?_)
      · simp only [execOp, eval_tmp, eval_const, t79, t82]; simp [go_sem]
      · exact ⟨_, rfl, Below.refl _ _, rfl⟩
    · intro a W hb0 hs hp hi; have hb := undrew hb0; clear hb0
      have t68 : sl a 68 = .bool false := hp 16 (by decide)
      have t83 : sl a 83 = .bool false := hp 31 (by decide)
      refine ite_y rfl (wp_val (.bool false) ?_ ?_)
      · simp only [execOp, eval_tmp, eval_const, t68, t83]; simp [go_sem]
      · exact ⟨_, rfl, Below.refl _ _, rfl⟩
  intro a w7 hb hs hd hI ht
  have ha := act_is [52, 53, 54, 55, 56, 57, 58, 59, 60, 61, 62, 63, 64, 65, 66, 67, 68, 69, 70, 71, 72, 73, 74, 75, 76, 77, 78, 79, 80, 81, 82, 83, 84] hs hd ht (by decide)
  have t84 : sl a 84 = .bool false := hI 32 (by decide)
  simp only [List.foldl, t84] at ha
  generalize sl a 52 = u52 at ha
  generalize sl a 53 = u53 at ha
  generalize sl a 54 = u54 at ha
  generalize sl a 55 = u55 at ha
  generalize sl a 56 = u56 at ha
  generalize sl a 57 = u57 at ha
  generalize sl a 58 = u58 at ha
  generalize sl a 59 = u59 at ha
  generalize sl a 60 = u60 at ha
  generalize sl a 61 = u61 at ha
  generalize sl a 62 = u62 at ha
  generalize sl a 63 = u63 at ha
  generalize sl a 64 = u64 at ha
  generalize sl a 65 = u65 at ha
  generalize sl a 66 = u66 at ha
  generalize sl a 67 = u67 at ha
  generalize sl a 68 = u68 at ha
  generalize sl a 69 = u69 at ha
  generalize sl a 70 = u70 at ha
  generalize sl a 71 = u71 at ha
  generalize sl a 72 = u72 at ha
  generalize sl a 73 = u73 at ha
  generalize sl a 74 = u74 at ha
  generalize sl a 75 = u75 at ha
  generalize sl a 76 = u76 at ha
  generalize sl a 77 = u77 at ha
  generalize sl a 78 = u78 at ha
  generalize sl a 79 = u79 at ha
  generalize sl a 80 = u80 at ha
  generalize sl a 81 = u81 at ha
  generalize sl a 82 = u82 at ha
  generalize sl a 83 = u83 at ha
  simp only [Act.put, List.setIfInBounds_toArray, List.set_cons_zero, List.set_cons_succ] at ha
  rw [ha]
  clear ha hI ht
  have T_7 := Lib.hid (T_6.out.keep hb)
  clear hb T_6
  obtain ⟨f0, f1, f2⟩ := cells3 T_7.out.xg
  obtain ⟨g0, g1, g2⟩ := cells3 T_7.out.xo
  go_wp2_with fail
  refine Calls.mono (GMul_size m1 wd m2 vd qg qo ng cg no co _ HMUL.out) ?_
  rintro e w8 ⟨q8, n8, c8, hn8, rfl, o8, hb⟩
  have T_8 := Lib.hid (T_7.out.keep hb)
  clear hb T_7 f0 f1 f2 g0 g1 g2
  clear o8 hn8
  obtain ⟨f0, f1, f2⟩ := cells3 T_8.out.xg
  obtain ⟨g0, g1, g2⟩ := cells3 T_8.out.xo
  go_wp2
  have hb : Below w8.heap.size w8 (w8.alloc (.cells #[.int .i64 ((0 : Nat) : Int), .int .i64 ((0 : Nat) : Int), .slice q8 n8 c8] 27)) := al (Below.refl _ _) (Nat.le_refl _)
  have hx : (w8.alloc (.cells #[.int .i64 ((0 : Nat) : Int), .int .i64 ((0 : Nat) : Int), .slice q8 n8 c8] 27)).heap[w8.heap.size]? = some (.cells #[.int .i64 ((0 : Nat) : Int), .int .i64 ((0 : Nat) : Int), .slice q8 n8 c8] 27 (0, 0)) := hnew rfl
  generalize hW : w8.alloc (.cells #[.int .i64 ((0 : Nat) : Int), .int .i64 ((0 : Nat) : Int), .slice q8 n8 c8] 27) = w9 at hb hx ⊢
  have XP_9 := Lib.hid hx
  clear hx hW
  have T_9 := Lib.hid (T_8.out.keep hb)
  clear hb T_8 f0 f1 f2 g0 g1 g2
  refine wp_region_shapes (fun ix => ([.val (.int .i64 4), .val (.bool false), .val (.bool false), .val (undef), .val (undef), .val (undef), .val (undef), .val (undef), .val (undef), .val (undef), .val (undef), .val (undef), .val (undef), .val (undef), .val (.bool false)][ix]?).getD (.any)) 175 rfl (by kernel_rfl) (by decide) (by decide) (by decide) ?_ ?_
  · refine ⟨?_, ?_, ?_, ?_, ?_, ?_, ?_, ?_, ?_, ?_, ?_, ?_, ?_, ?_, ?_, trivial⟩
    · intro a W hb0 hs hp hi; have hb := undrew hb0; clear hb0
      have t17 : sl a 17 = .int .i64 4 := hi 17 (by decide)
      exact ite_y rfl (wp_val (sl a 17) rfl ⟨_, rfl, Below.refl _ _, t17⟩)
    · intro a W hb0 hs hp hi; have hb := undrew hb0; clear hb0
      have t91 : sl a 91 = .int .i64 4 := hp 0 (by decide)
      refine ite_y rfl (wp_val (.bool false) ?_ ?_)
      · simp only [execOp, eval_tmp, eval_const, t91]; simp [go_sem]
      · exact ⟨_, rfl, Below.refl _ _, rfl⟩
    · intro a W hb0 hs hp hi; have hb := undrew hb0; clear hb0
      have t92 : sl a 92 = .bool false := hp 1 (by decide)
      exact ite_y rfl (wp_val (sl a 92) rfl ⟨_, rfl, Below.refl _ _, t92⟩)
    · intro a W hb0 hs hp hi; have hb := undrew hb0; clear hb0
      have tg : sl a 93 = .bool false := hp 2 (by decide)
      exact ite_n (wanted_no rfl rfl (by have hz : a.tmps.size = 175 := hs; rw [hz]; decide) tg (by decide)) rfl
    · intro a W hb0 hs hp hi; have hb := undrew hb0; clear hb0
      have tg : sl a 93 = .bool false := hp 2 (by decide)
      exact ite_n (wanted_no rfl rfl (by have hz : a.tmps.size = 175 := hs; rw [hz]; decide) tg (by decide)) rfl
    · intro a W hb0 hs hp hi; have hb := undrew hb0; clear hb0
      have tg : sl a 93 = .bool false := hp 2 (by decide)
      exact ite_n (wanted_no rfl rfl (by have hz : a.tmps.size = 175 := hs; rw [hz]; decide) tg (by decide)) rfl
    · intro a W hb0 hs hp hi; have hb := undrew hb0; clear hb0
      have tg : sl a 93 = .bool false := hp 2 (by decide)
      exact ite_n (wanted_no rfl rfl (by have hz : a.tmps.size = 175 := hs; rw [hz]; decide) tg (by decide)) rfl
    · intro a W hb0 hs hp hi; have hb := undrew hb0; clear hb0
      have tg : sl a 93 = .bool false := hp 2 (by decide)
      exact ite_n (wanted_no rfl rfl (by have hz : a.tmps.size = 175 := hs; rw [hz]; decide) tg (by decide)) rfl
    · intro a W hb0 hs hp hi; have hb := undrew hb0; clear hb0
      have tg : sl a 98 = undef := hp 7 (by decide)
      exact ite_n (wanted_undef rfl rfl (by have hz : a.tmps.size = 175 := hs; rw [hz]; decide) tg) rfl
    · intro a W hb0 hs hp hi; have hb := undrew hb0; clear hb0
      have tg : sl a 98 = undef := hp 7 (by decide)
      exact ite_n (wanted_undef rfl rfl (by have hz : a.tmps.size = 175 := hs; rw [hz]; decide) tg) rfl
    · intro a W hb0 hs hp hi; have hb := undrew hb0; clear hb0
      have tg : sl a 98 = undef := hp 7 (by decide)
      exact ite_n (wanted_undef rfl rfl (by have hz : a.tmps.size = 175 := hs; rw [hz]; decide) tg) rfl
    · intro a W hb0 hs hp hi; have hb := undrew hb0; clear hb0
      have tg : sl a 98 = undef := hp 7 (by decide)
      exact ite_n (wanted_undef rfl rfl (by have hz : a.tmps.size = 175 := hs; rw [hz]; decide) tg) rfl
    · intro a W hb0 hs hp hi; have hb := undrew hb0; clear hb0
      have tg : sl a 98 = undef := hp 7 (by decide)
      exact ite_n (wanted_undef rfl rfl (by have hz : a.tmps.size = 175 := hs; rw [hz]; decide) tg) rfl
    · intro a W hb0 hs hp hi; have hb := undrew hb0; clear hb0
      have tg : sl a 93 = .bool false := hp 2 (by decide)
      exact ite_n (wanted_no rfl rfl (by have hz : a.tmps.size = 175 := hs; rw [hz]; decide) tg (by decide)) rfl
    · intro a W hb0 hs hp hi; have hb := undrew hb0; clear hb0
      have t93 : sl a 93 = .bool false := hp 2 (by decide)
      have t104 : sl a 104 = undef := hp 13 (by decide)
      refine ite_y rfl (wp_val (.bool false) ?_ ?_)
      · simp only [execOp, eval_tmp, eval_const, t93, t104]; simp [go_sem]
      · exact ⟨_, rfl, Below.refl _ _, rfl⟩
  intro a w10 hb hs hd hI ht
  have ha := act_is [91, 92, 93, 94, 95, 96, 97, 98, 99, 100, 101, 102, 103, 104, 105] hs hd ht (by decide)
  have t105 : sl a 105 = .bool false := hI 14 (by decide)
  simp only [List.foldl, t105] at ha
  generalize sl a 91 = u91 at ha
  generalize sl a 92 = u92 at ha
  generalize sl a 93 = u93 at ha
  generalize sl a 94 = u94 at ha
  generalize sl a 95 = u95 at ha
  generalize sl a 96 = u96 at ha
  generalize sl a 97 = u97 at ha
  generalize sl a 98 = u98 at ha
  generalize sl a 99 = u99 at ha
  generalize sl a 100 = u100 at ha
  generalize sl a 101 = u101 at ha
  generalize sl a 102 = u102 at ha
  generalize sl a 103 = u103 at ha
  generalize sl a 104 = u104 at ha
  simp only [Act.put, List.setIfInBounds_toArray, List.set_cons_zero, List.set_cons_succ] at ha
  rw [ha]
  clear ha hI ht
  have T_10 := Lib.hid (T_9.out.keep hb)
  have XP_10 := Lib.hid ((hb.block _ (blk_lt XP_9.out)).trans XP_9.out)
  clear hb T_9 XP_9
  clear XP_10
  by_cases hinv : m1 = wd
  · by_cases hrk : r < wd
    · by_cases h6 : wd ≤ 6
      · have hid : ((wd : Int) == (m1 : Int)) = true := by simp; omega
        have hie : ((wd : Int) != (m1 : Int)) = false := by simp; omega
        have h6z : (wd : Int) ≤ 6 := by omega
        have hrl : (r : Int) < (wd : Int) := by omega
        have hre : ((r : Int) == (wd : Int)) = false := by simp; omega
        have hD : D = 0 := Classical.byContradiction fun h => by have := (hdr.out hinv).2 h; omega
        subst hD
        have HINV := Lib.hid hinv; have HRK := Lib.hid hrk; have H6 := Lib.hid h6
        clear hinv hrk h6 hdr
        obtain ⟨f0, f1, f2⟩ := cells3 T_10.out.xg
        obtain ⟨g0, g1, g2⟩ := cells3 T_10.out.xo
        go_wp2_with fail
        refine Calls.mono (HDT.out HINV.out H6.out _ _ _ T_10.out.rl) ?_
        rintro e w11 ⟨rfl, hb⟩
        have T_11 := Lib.hid (T_10.out.keep hb)
        clear hb T_10 f0 f1 f2 g0 g1 g2
        obtain ⟨f0, f1, f2⟩ := cells3 T_11.out.xg
        obtain ⟨g0, g1, g2⟩ := cells3 T_11.out.xo
        go_wp2_with fail
        refine Calls.mono (HIL.out HINV.out HRK.out _ _ _ _ HNG.out T_11.out.sg) ?_
        rintro e w12 ⟨q9, n9, c9, hn9, rfl, o9, hb⟩
        have T_12 := Lib.hid (T_11.out.keep hb)
        clear hb T_11 f0 f1 f2 g0 g1 g2
        clear o9 hn9
        go_wp2
        go_ret
        exact ⟨rfl, al T_12.out.bel T_12.out.bel.size⟩
      · have hid : ((wd : Int) == (m1 : Int)) = true := by simp; omega
        have hie : ((wd : Int) != (m1 : Int)) = false := by simp; omega
        have h6z : ¬ ((wd : Int) ≤ 6) := by omega
        have hrl : (r : Int) < (wd : Int) := by omega
        have hre : ((r : Int) == (wd : Int)) = false := by simp; omega
        have HINV := Lib.hid hinv; have HRK := Lib.hid hrk; have H6 := Lib.hid h6
        clear hinv hrk h6 hdr
        obtain ⟨f0, f1, f2⟩ := cells3 T_10.out.xg
        obtain ⟨g0, g1, g2⟩ := cells3 T_10.out.xo
        go_wp2_with fail
        refine Calls.mono (HIL.out HINV.out HRK.out _ _ _ _ HNG.out T_10.out.sg) ?_
        rintro e w11 ⟨q9, n9, c9, hn9, rfl, o9, hb⟩
        have T_11 := Lib.hid (T_10.out.keep hb)
        clear hb T_10 f0 f1 f2 g0 g1 g2
        clear o9 hn9
        go_wp2
        go_ret
        exact ⟨rfl, al T_11.out.bel T_11.out.bel.size⟩
    · have hrk : r = wd := by omega
      by_cases h6 : wd ≤ 6
      · have hid : ((wd : Int) == (m1 : Int)) = true := by simp; omega
        have hie : ((wd : Int) != (m1 : Int)) = false := by simp; omega
        have h6z : (wd : Int) ≤ 6 := by omega
        have hre : ((r : Int) == (wd : Int)) = true := by simp; omega
        have hD : D ≠ 0 := (hdr.out hinv).1 hrk
        have hDz : ((D.toNat : Int) != 0) = true := by simp; exact fun h => hD (UInt8.toNat_inj.1 (by simpa using h))
        have HINV := Lib.hid hinv; have HRK := Lib.hid hrk; have H6 := Lib.hid h6
        clear hinv hrk h6 hdr
        obtain ⟨f0, f1, f2⟩ := cells3 T_10.out.xg
        obtain ⟨g0, g1, g2⟩ := cells3 T_10.out.xo
        go_wp2_with fail
        refine Calls.mono (HDT.out HINV.out H6.out _ _ _ T_10.out.rl) ?_
        rintro e w11 ⟨rfl, hb⟩
        have T_11 := Lib.hid (T_10.out.keep hb)
        clear hb T_10 f0 f1 f2 g0 g1 g2
        obtain ⟨f0, f1, f2⟩ := cells3 T_11.out.xg
        obtain ⟨g0, g1, g2⟩ := cells3 T_11.out.xo
        go_wp2_with fail
        refine Calls.mono (HIF.out HINV.out HRK.out _ _ _ _ HNG.out T_11.out.sg) ?_
        rintro e w12 ⟨F, hGJ, q9, n9, c9, hn9, rfl, o9, hb⟩
        have T_12 := Lib.hid (T_11.out.keep hb)
        clear hb T_11 f0 f1 f2 g0 g1 g2
        have S9_12 := Lib.hid (Sl.of_owns o9); have HN9 := Lib.hid hn9; have HGJ := Lib.hid hGJ
        clear o9 hn9 hGJ
        obtain ⟨f0, f1, f2⟩ := cells3 T_12.out.xg
        obtain ⟨g0, g1, g2⟩ := cells3 T_12.out.xo
        go_wp2_with fail
        refine use_w (fun W => Below w12.heap.size w12 W ∧ W.heap[w12.heap.size]? = some (.cells #[.int .i64 m1, .int .i64 wd, .slice q9 n9 c9] 27 (0, 0))) ⟨al (Below.refl _ _) (Nat.le_refl _), hnew rfl⟩ ?_
        rintro w13 ⟨hb, hx⟩
        have XQ_13 := Lib.hid hx
        clear hx
        have T_13 := Lib.hid (T_12.out.keep hb)
        have S9_13 := Lib.hid (S9_12.out.keep hb)
        clear hb T_12 S9_12 f0 f1 f2 g0 g1 g2
        refine Calls.mono (HI2.out HINV.out _ F _ _ _ HGJ.out HN9.out S9_13.out) ?_
        rintro e w14 ⟨qa, na, ca, hna, rfl, oa, hb⟩
        have T_14 := Lib.hid (T_13.out.keep hb)
        have S9_14 := Lib.hid (S9_13.out.keep hb)
        have XQ_14 := Lib.hid ((hb.block _ (blk_lt XQ_13.out)).trans XQ_13.out)
        clear hb T_13 S9_13 XQ_13
        have SA_14 := Lib.hid (Sl.of_owns oa); have HNA := Lib.hid hna
        clear oa hna
        obtain ⟨f0, f1, f2⟩ := cells3 T_14.out.xg
        obtain ⟨g0, g1, g2⟩ := cells3 T_14.out.xo
        obtain ⟨h10, h11, h12⟩ := cells3 XQ_14.out
        obtain ⟨j00, j01, j02⟩ := cells3 (hal (o := .cells #[.int .i64 m1, .int .i64 wd, .slice qa na ca] 27) XQ_14.out)
        obtain ⟨j10, j11, j12⟩ := cells3 (hal (o := .cells #[.int .i64 m1, .int .i64 wd, .slice qa na ca] 27) T_14.out.xg)
        go_wp2_with fail
        refine use_w (fun W => Below w14.heap.size w14 W ∧ W.heap[w14.heap.size]? = some (.cells #[.int .i64 m1, .int .i64 wd, .slice qa na ca] 27 (0, 0))) ⟨al (Below.refl _ _) (Nat.le_refl _), hnew rfl⟩ ?_
        rintro w15 ⟨hb, hx⟩
        have XB_15 := Lib.hid hx
        clear hx
        have T_15 := Lib.hid (T_14.out.keep hb)
        have S9_15 := Lib.hid (S9_14.out.keep hb)
        have XQ_15 := Lib.hid ((hb.block _ (blk_lt XQ_14.out)).trans XQ_14.out)
        have SA_15 := Lib.hid (SA_14.out.keep hb)
        clear hb T_14 S9_14 XQ_14 SA_14 f0 f1 f2 g0 g1 g2 h10 h11 h12 j00 j01 j02 j10 j11 j12
        refine Calls.mono (HML.out HINV.out _ F _ _ _ _ _ _ HGJ.out HN9.out HNG.out S9_15.out T_15.out.sg) ?_
        rintro e w16 ⟨qb, nb, cb, hnb, rfl, ob, hb⟩
        have T_16 := Lib.hid (T_15.out.keep hb)
        have S9_16 := Lib.hid (S9_15.out.keep hb)
        have XQ_16 := Lib.hid ((hb.block _ (blk_lt XQ_15.out)).trans XQ_15.out)
        have SA_16 := Lib.hid (SA_15.out.keep hb)
        have XB_16 := Lib.hid ((hb.block _ (blk_lt XB_15.out)).trans XB_15.out)
        clear hb T_15 S9_15 XQ_15 SA_15 XB_15
        have SB_16 := Lib.hid (Sl.of_owns ob); have HNB := Lib.hid hnb
        clear ob hnb S9_16
        obtain ⟨f0, f1, f2⟩ := cells3 T_16.out.xg
        obtain ⟨g0, g1, g2⟩ := cells3 T_16.out.xo
        obtain ⟨h00, h01, h02⟩ := cells3 XQ_16.out
        obtain ⟨h20, h21, h22⟩ := cells3 XB_16.out
        go_wp2_with fail
        refine use_w (fun W => Below w16.heap.size w16 W ∧ W.heap[w16.heap.size]? = some (.cells #[.int .i64 m1, .int .i64 wd, .slice qb nb cb] 27 (0, 0))) ⟨al (Below.refl _ _) (Nat.le_refl _), hnew rfl⟩ ?_
        rintro w17 ⟨hb, hx⟩
        have XC_17 := Lib.hid hx
        clear hx
        have T_17 := Lib.hid (T_16.out.keep hb)
        have XQ_17 := Lib.hid ((hb.block _ (blk_lt XQ_16.out)).trans XQ_16.out)
        have SA_17 := Lib.hid (SA_16.out.keep hb)
        have XB_17 := Lib.hid ((hb.block _ (blk_lt XB_16.out)).trans XB_16.out)
        have SB_17 := Lib.hid (SB_16.out.keep hb)
        clear hb T_16 XQ_16 SA_16 XB_16 SB_16 f0 f1 f2 g0 g1 g2 h00 h01 h02 h20 h21 h22
        refine Calls.mono (HUN.out HINV.out _) ?_
        rintro e w18 ⟨qc, nc, cc, hnc, rfl, oc, hb⟩
        have T_18 := Lib.hid (T_17.out.keep hb)
        have XQ_18 := Lib.hid ((hb.block _ (blk_lt XQ_17.out)).trans XQ_17.out)
        have SA_18 := Lib.hid (SA_17.out.keep hb)
        have XB_18 := Lib.hid ((hb.block _ (blk_lt XB_17.out)).trans XB_17.out)
        have SB_18 := Lib.hid (SB_17.out.keep hb)
        have XC_18 := Lib.hid ((hb.block _ (blk_lt XC_17.out)).trans XC_17.out)
        clear hb T_17 XQ_17 SA_17 XB_17 SB_17 XC_17
        have SC_18 := Lib.hid (Sl.of_owns oc); have HNC := Lib.hid hnc
        clear oc hnc
        obtain ⟨f0, f1, f2⟩ := cells3 T_18.out.xg
        obtain ⟨g0, g1, g2⟩ := cells3 T_18.out.xo
        obtain ⟨h00, h01, h02⟩ := cells3 XQ_18.out
        obtain ⟨h20, h21, h22⟩ := cells3 XB_18.out
        obtain ⟨h40, h41, h42⟩ := cells3 XC_18.out
        obtain ⟨j00, j01, j02⟩ := cells3 (hal (o := .cells #[.int .i64 m1, .int .i64 wd, .slice qc nc cc] 27) XB_18.out)
        obtain ⟨j10, j11, j12⟩ := cells3 (hal (o := .cells #[.int .i64 m1, .int .i64 wd, .slice qc nc cc] 27) T_18.out.xg)
        go_wp2_with fail
        refine use_w (fun W => Below w18.heap.size w18 W ∧ W.heap[w18.heap.size]? = some (.cells #[.int .i64 m1, .int .i64 wd, .slice qc nc cc] 27 (0, 0))) ⟨al (Below.refl _ _) (Nat.le_refl _), hnew rfl⟩ ?_
        rintro w19 ⟨hb, hx⟩
        have XD_19 := Lib.hid hx
        clear hx
        have T_19 := Lib.hid (T_18.out.keep hb)
        have XQ_19 := Lib.hid ((hb.block _ (blk_lt XQ_18.out)).trans XQ_18.out)
        have SA_19 := Lib.hid (SA_18.out.keep hb)
        have XB_19 := Lib.hid ((hb.block _ (blk_lt XB_18.out)).trans XB_18.out)
        have SB_19 := Lib.hid (SB_18.out.keep hb)
        have XC_19 := Lib.hid ((hb.block _ (blk_lt XC_18.out)).trans XC_18.out)
        have SC_19 := Lib.hid (SC_18.out.keep hb)
        clear hb T_18 XQ_18 SA_18 XB_18 SB_18 XC_18 SC_18 f0 f1 f2 g0 g1 g2 h00 h01 h02 h20 h21 h22 h40 h41 h42 j00 j01 j02 j10 j11 j12
        refine Calls.mono (GSame_any m1 wd m1 wd qa qg na ca ng cg _ _ _ SA_19.out T_19.out.sg) ?_
        rintro e w20 ⟨rfl, hb⟩
        have T_20 := Lib.hid (T_19.out.keep hb)
        have XQ_20 := Lib.hid ((hb.block _ (blk_lt XQ_19.out)).trans XQ_19.out)
        have SA_20 := Lib.hid (SA_19.out.keep hb)
        have XB_20 := Lib.hid ((hb.block _ (blk_lt XB_19.out)).trans XB_19.out)
        have SB_20 := Lib.hid (SB_19.out.keep hb)
        have XC_20 := Lib.hid ((hb.block _ (blk_lt XC_19.out)).trans XC_19.out)
        have SC_20 := Lib.hid (SC_19.out.keep hb)
        have XD_20 := Lib.hid ((hb.block _ (blk_lt XD_19.out)).trans XD_19.out)
        clear hb T_19 XQ_19 SA_19 XB_19 SB_19 XC_19 SC_19 XD_19
        rw [decide_eq_true ⟨rfl, rfl, rfl⟩]
        obtain ⟨f0, f1, f2⟩ := cells3 T_20.out.xg
        obtain ⟨g0, g1, g2⟩ := cells3 T_20.out.xo
        obtain ⟨h00, h01, h02⟩ := cells3 XQ_20.out
        obtain ⟨h20, h21, h22⟩ := cells3 XB_20.out
        obtain ⟨h40, h41, h42⟩ := cells3 XC_20.out
        obtain ⟨h60, h61, h62⟩ := cells3 XD_20.out
        go_wp2_with fail
        refine Calls.mono (GSame_any m1 wd m1 wd qb qc nb cb nc cc _ _ _ SB_20.out SC_20.out) ?_
        rintro e w21 ⟨rfl, hb⟩
        have T_21 := Lib.hid (T_20.out.keep hb)
        have XQ_21 := Lib.hid ((hb.block _ (blk_lt XQ_20.out)).trans XQ_20.out)
        have SA_21 := Lib.hid (SA_20.out.keep hb)
        have XB_21 := Lib.hid ((hb.block _ (blk_lt XB_20.out)).trans XB_20.out)
        have SB_21 := Lib.hid (SB_20.out.keep hb)
        have XC_21 := Lib.hid ((hb.block _ (blk_lt XC_20.out)).trans XC_20.out)
        have SC_21 := Lib.hid (SC_20.out.keep hb)
        have XD_21 := Lib.hid ((hb.block _ (blk_lt XD_20.out)).trans XD_20.out)
        clear hb T_20 XQ_20 SA_20 XB_20 SB_20 XC_20 SC_20 XD_20 f0 f1 f2 g0 g1 g2 h00 h01 h02 h20 h21 h22 h40 h41 h42 h60 h61 h62
        rw [decide_eq_true ⟨rfl, rfl, rfl⟩]
        go_wp2
        go_ret
        exact ⟨rfl, T_21.out.bel⟩
      · have hid : ((wd : Int) == (m1 : Int)) = true := by simp; omega
        have hie : ((wd : Int) != (m1 : Int)) = false := by simp; omega
        have h6z : ¬ ((wd : Int) ≤ 6) := by omega
        have hre : ((r : Int) == (wd : Int)) = true := by simp; omega
        have HINV := Lib.hid hinv; have HRK := Lib.hid hrk; have H6 := Lib.hid h6
        clear hinv hrk h6 hdr
        obtain ⟨f0, f1, f2⟩ := cells3 T_10.out.xg
        obtain ⟨g0, g1, g2⟩ := cells3 T_10.out.xo
        go_wp2_with fail
        refine Calls.mono (HIF.out HINV.out HRK.out _ _ _ _ HNG.out T_10.out.sg) ?_
        rintro e w11 ⟨F, hGJ, q9, n9, c9, hn9, rfl, o9, hb⟩
        have T_11 := Lib.hid (T_10.out.keep hb)
        clear hb T_10 f0 f1 f2 g0 g1 g2
        have S9_11 := Lib.hid (Sl.of_owns o9); have HN9 := Lib.hid hn9; have HGJ := Lib.hid hGJ
        clear o9 hn9 hGJ
        obtain ⟨f0, f1, f2⟩ := cells3 T_11.out.xg
        obtain ⟨g0, g1, g2⟩ := cells3 T_11.out.xo
        go_wp2_with fail
        refine use_w (fun W => Below w11.heap.size w11 W ∧ W.heap[w11.heap.size]? = some (.cells #[.int .i64 m1, .int .i64 wd, .slice q9 n9 c9] 27 (0, 0))) ⟨al (Below.refl _ _) (Nat.le_refl _), hnew rfl⟩ ?_
        rintro w12 ⟨hb, hx⟩
        have XQ_12 := Lib.hid hx
        clear hx
        have T_12 := Lib.hid (T_11.out.keep hb)
        have S9_12 := Lib.hid (S9_11.out.keep hb)
        clear hb T_11 S9_11 f0 f1 f2 g0 g1 g2
        refine Calls.mono (HI2.out HINV.out _ F _ _ _ HGJ.out HN9.out S9_12.out) ?_
        rintro e w13 ⟨qa, na, ca, hna, rfl, oa, hb⟩
        have T_13 := Lib.hid (T_12.out.keep hb)
        have S9_13 := Lib.hid (S9_12.out.keep hb)
        have XQ_13 := Lib.hid ((hb.block _ (blk_lt XQ_12.out)).trans XQ_12.out)
        clear hb T_12 S9_12 XQ_12
        have SA_13 := Lib.hid (Sl.of_owns oa); have HNA := Lib.hid hna
        clear oa hna
        obtain ⟨f0, f1, f2⟩ := cells3 T_13.out.xg
        obtain ⟨g0, g1, g2⟩ := cells3 T_13.out.xo
        obtain ⟨h10, h11, h12⟩ := cells3 XQ_13.out
        obtain ⟨j00, j01, j02⟩ := cells3 (hal (o := .cells #[.int .i64 m1, .int .i64 wd, .slice qa na ca] 27) XQ_13.out)
        obtain ⟨j10, j11, j12⟩ := cells3 (hal (o := .cells #[.int .i64 m1, .int .i64 wd, .slice qa na ca] 27) T_13.out.xg)
        go_wp2_with fail
        refine use_w (fun W => Below w13.heap.size w13 W ∧ W.heap[w13.heap.size]? = some (.cells #[.int .i64 m1, .int .i64 wd, .slice qa na ca] 27 (0, 0))) ⟨al (Below.refl _ _) (Nat.le_refl _), hnew rfl⟩ ?_
        rintro w14 ⟨hb, hx⟩
        have XB_14 := Lib.hid hx
        clear hx
        have T_14 := Lib.hid (T_13.out.keep hb)
        have S9_14 := Lib.hid (S9_13.out.keep hb)
        have XQ_14 := Lib.hid ((hb.block _ (blk_lt XQ_13.out)).trans XQ_13.out)
        have SA_14 := Lib.hid (SA_13.out.keep hb)
        clear hb T_13 S9_13 XQ_13 SA_13 f0 f1 f2 g0 g1 g2 h10 h11 h12 j00 j01 j02 j10 j11 j12
        refine Calls.mono (HML.out HINV.out _ F _ _ _ _ _ _ HGJ.out HN9.out HNG.out S9_14.out T_14.out.sg) ?_
        rintro e w15 ⟨qb, nb, cb, hnb, rfl, ob, hb⟩
        have T_15 := Lib.hid (T_14.out.keep hb)
        have S9_15 := Lib.hid (S9_14.out.keep hb)
        have XQ_15 := Lib.hid ((hb.block _ (blk_lt XQ_14.out)).trans XQ_14.out)
        have SA_15 := Lib.hid (SA_14.out.keep hb)
        have XB_15 := Lib.hid ((hb.block _ (blk_lt XB_14.out)).trans XB_14.out)
        clear hb T_14 S9_14 XQ_14 SA_14 XB_14
        have SB_15 := Lib.hid (Sl.of_owns ob); have HNB := Lib.hid hnb
        clear ob hnb S9_15
        obtain ⟨f0, f1, f2⟩ := cells3 T_15.out.xg
        obtain ⟨g0, g1, g2⟩ := cells3 T_15.out.xo
        obtain ⟨h00, h01, h02⟩ := cells3 XQ_15.out
        obtain ⟨h20, h21, h22⟩ := cells3 XB_15.out
        go_wp2_with fail
        refine use_w (fun W => Below w15.heap.size w15 W ∧ W.heap[w15.heap.size]? = some (.cells #[.int .i64 m1, .int .i64 wd, .slice qb nb cb] 27 (0, 0))) ⟨al (Below.refl _ _) (Nat.le_refl _), hnew rfl⟩ ?_
        rintro w16 ⟨hb, hx⟩
        have XC_16 := Lib.hid hx
        clear hx
        have T_16 := Lib.hid (T_15.out.keep hb)
        have XQ_16 := Lib.hid ((hb.block _ (blk_lt XQ_15.out)).trans XQ_15.out)
        have SA_16 := Lib.hid (SA_15.out.keep hb)
        have XB_16 := Lib.hid ((hb.block _ (blk_lt XB_15.out)).trans XB_15.out)
        have SB_16 := Lib.hid (SB_15.out.keep hb)
        clear hb T_15 XQ_15 SA_15 XB_15 SB_15 f0 f1 f2 g0 g1 g2 h00 h01 h02 h20 h21 h22
        refine Calls.mono (HUN.out HINV.out _) ?_
        rintro e w17 ⟨qc, nc, cc, hnc, rfl, oc, hb⟩
        have T_17 := Lib.hid (T_16.out.keep hb)
        have XQ_17 := Lib.hid ((hb.block _ (blk_lt XQ_16.out)).trans XQ_16.out)
        have SA_17 := Lib.hid (SA_16.out.keep hb)
        have XB_17 := Lib.hid ((hb.block _ (blk_lt XB_16.out)).trans XB_16.out)
        have SB_17 := Lib.hid (SB_16.out.keep hb)
        have XC_17 := Lib.hid ((hb.block _ (blk_lt XC_16.out)).trans XC_16.out)
        clear hb T_16 XQ_16 SA_16 XB_16 SB_16 XC_16
        have SC_17 := Lib.hid (Sl.of_owns oc); have HNC := Lib.hid hnc
        clear oc hnc
        obtain ⟨f0, f1, f2⟩ := cells3 T_17.out.xg
        obtain ⟨g0, g1, g2⟩ := cells3 T_17.out.xo
        obtain ⟨h00, h01, h02⟩ := cells3 XQ_17.out
        obtain ⟨h20, h21, h22⟩ := cells3 XB_17.out
        obtain ⟨h40, h41, h42⟩ := cells3 XC_17.out
        obtain ⟨j00, j01, j02⟩ := cells3 (hal (o := .cells #[.int .i64 m1, .int .i64 wd, .slice qc nc cc] 27) XB_17.out)
        obtain ⟨j10, j11, j12⟩ := cells3 (hal (o := .cells #[.int .i64 m1, .int .i64 wd, .slice qc nc cc] 27) T_17.out.xg)
        go_wp2_with fail
        refine use_w (fun W => Below w17.heap.size w17 W ∧ W.heap[w17.heap.size]? = some (.cells #[.int .i64 m1, .int .i64 wd, .slice qc nc cc] 27 (0, 0))) ⟨al (Below.refl _ _) (Nat.le_refl _), hnew rfl⟩ ?_
        rintro w18 ⟨hb, hx⟩
        have XD_18 := Lib.hid hx
        clear hx
        have T_18 := Lib.hid (T_17.out.keep hb)
        have XQ_18 := Lib.hid ((hb.block _ (blk_lt XQ_17.out)).trans XQ_17.out)
        have SA_18 := Lib.hid (SA_17.out.keep hb)
        have XB_18 := Lib.hid ((hb.block _ (blk_lt XB_17.out)).trans XB_17.out)
        have SB_18 := Lib.hid (SB_17.out.keep hb)
        have XC_18 := Lib.hid ((hb.block _ (blk_lt XC_17.out)).trans XC_17.out)
        have SC_18 := Lib.hid (SC_17.out.keep hb)
        clear hb T_17 XQ_17 SA_17 XB_17 SB_17 XC_17 SC_17 f0 f1 f2 g0 g1 g2 h00 h01 h02 h20 h21 h22 h40 h41 h42 j00 j01 j02 j10 j11 j12
        refine Calls.mono (GSame_any m1 wd m1 wd qa qg na ca ng cg _ _ _ SA_18.out T_18.out.sg) ?_
        rintro e w19 ⟨rfl, hb⟩
        have T_19 := Lib.hid (T_18.out.keep hb)
        have XQ_19 := Lib.hid ((hb.block _ (blk_lt XQ_18.out)).trans XQ_18.out)
        have SA_19 := Lib.hid (SA_18.out.keep hb)
        have XB_19 := Lib.hid ((hb.block _ (blk_lt XB_18.out)).trans XB_18.out)
        have SB_19 := Lib.hid (SB_18.out.keep hb)
        have XC_19 := Lib.hid ((hb.block _ (blk_lt XC_18.out)).trans XC_18.out)
        have SC_19 := Lib.hid (SC_18.out.keep hb)
        have XD_19 := Lib.hid ((hb.block _ (blk_lt XD_18.out)).trans XD_18.out)
        clear hb T_18 XQ_18 SA_18 XB_18 SB_18 XC_18 SC_18 XD_18
        rw [decide_eq_true ⟨rfl, rfl, rfl⟩]
        obtain ⟨f0, f1, f2⟩ := cells3 T_19.out.xg
        obtain ⟨g0, g1, g2⟩ := cells3 T_19.out.xo
        obtain ⟨h00, h01, h02⟩ := cells3 XQ_19.out
        obtain ⟨h20, h21, h22⟩ := cells3 XB_19.out
        obtain ⟨h40, h41, h42⟩ := cells3 XC_19.out
        obtain ⟨h60, h61, h62⟩ := cells3 XD_19.out
        go_wp2_with fail
        refine Calls.mono (GSame_any m1 wd m1 wd qb qc nb cb nc cc _ _ _ SB_19.out SC_19.out) ?_
        rintro e w20 ⟨rfl, hb⟩
        have T_20 := Lib.hid (T_19.out.keep hb)
        have XQ_20 := Lib.hid ((hb.block _ (blk_lt XQ_19.out)).trans XQ_19.out)
        have SA_20 := Lib.hid (SA_19.out.keep hb)
        have XB_20 := Lib.hid ((hb.block _ (blk_lt XB_19.out)).trans XB_19.out)
        have SB_20 := Lib.hid (SB_19.out.keep hb)
        have XC_20 := Lib.hid ((hb.block _ (blk_lt XC_19.out)).trans XC_19.out)
        have SC_20 := Lib.hid (SC_19.out.keep hb)
        have XD_20 := Lib.hid ((hb.block _ (blk_lt XD_19.out)).trans XD_19.out)
        clear hb T_19 XQ_19 SA_19 XB_19 SB_19 XC_19 SC_19 XD_19 f0 f1 f2 g0 g1 g2 h00 h01 h02 h20 h21 h22 h40 h41 h42 h60 h61 h62
        rw [decide_eq_true ⟨rfl, rfl, rfl⟩]
        go_wp2
        go_ret
        exact ⟨rfl, T_20.out.bel⟩
  · have hid : ((wd : Int) == (m1 : Int)) = false := by simp; omega
    have hie : ((wd : Int) != (m1 : Int)) = true := by simp; omega
    have HINV := Lib.hid hinv
    clear hinv hdr
    obtain ⟨f0, f1, f2⟩ := cells3 T_10.out.xg
    obtain ⟨g0, g1, g2⟩ := cells3 T_10.out.xo
    go_wp2_with fail
    refine Calls.mono (Inverse_size m1 wd _ _ _ _ HINV.out) ?_
    rintro e w11 ⟨q9, n9, c9, hn9, rfl, o9, hb⟩
    have T_11 := Lib.hid (T_10.out.keep hb)
    clear hb T_10 f0 f1 f2 g0 g1 g2
    clear o9 hn9
    go_wp2
    go_ret
    exact ⟨rfl, al T_11.out.bel T_11.out.bel.size⟩
set_option maxRecDepth 100000 in
set_option maxHeartbeats 8000000 in
theorem GK_ok (x y : UInt8) (wd vd : Nat) (p1 p2 : Option Addr) (m1 c1 m2 c2 : Nat) (xss yss L K : List (List UInt8)) (w : World) (h1 : Sl2 w p1 m1 c1 xss) (h2 : Sl2 w p2 m2 c2 yss)
    (hf1 : xss.all (fun y => decide (y.length ≤ 30)) = true) (hm1 : m1 ≤ 30) (hf2 : yss.all (fun y => decide (y.length ≤ 30)) = true) (hm2 : m2 ≤ 30)
    (hM1 : ∀ W, Sl2 W p1 m1 c1 xss → Calls Try.prog 19 #[B8 x, .slice p1 m1 c1] W (RetM W m1 wd L)) (hM2 : ∀ W, Sl2 W p2 m2 c2 yss → Calls Try.prog 19 #[B8 y, .slice p2 m2 c2] W (RetM W m2 vd K))
    (hwd : wd ≤ 30) (hvd : vd ≤ 30) (hL : ∀ x, x ∈ L → x.length = wd) (hLm : L.length = m1) (hK : ∀ x, x ∈ K → x.length = vd) (hKm : K.length = m2) (hmul : wd = m2) :
    Calls Try.prog 4 #[B8 x, .slice p1 m1 c1, B8 y, .slice p2 m2 c2] w fun e w' => e = .returned (.bool true) ∧ Below w.heap.size w w' := by
  have HF1 : Hid (∀ W, Sl2 W p1 m1 c1 xss → Calls Try.prog 10 #[.slice p1 m1 c1] W fun e w' => e = .returned (.bool true) ∧ W = w') := fun W h => by
    have := Few7_any p1 m1 c1 xss W h
    rw [hf1, decide_eq_true hm1] at this; exact this
  have HF2 : Hid (∀ W, Sl2 W p2 m2 c2 yss → Calls Try.prog 10 #[.slice p2 m2 c2] W fun e w' => e = .returned (.bool true) ∧ W = w') := fun W h => by
    have := Few7_any p2 m2 c2 yss W h
    rw [hf2, decide_eq_true hm2] at this; exact this
  have HM1 := Lib.hid hM1; have HM2 := Lib.hid hM2; have H1_0 := Lib.hid h1; have H2_0 := Lib.hid h2; have HLL := Lib.hid hL; have HKK := Lib.hid hK
  have hG : Hid (∀ W q n c, n = m1 * wd → Sl B8 W q n c L.flatten → Calls Try.prog 20 #[.agg #[.int .i64 m1, .int .i64 wd, .slice q n c]] W fun e w' => e = .returned (.int .i64 (iK L).length) ∧ Below W.heap.size W w') := fun W q n c hn h => GRank_rows hL hLm (by omega) (by omega) q n c W hn h
  have hT : Hid (∀ W q n c, n = m1 * wd → Sl B8 W q n c L.flatten → Calls Try.prog 21 #[.agg #[.int .i64 m1, .int .i64 wd, .slice q n c]] W (RetG 5 W wd m1 (turnX wd L).flatten)) := fun W q n c hn h => GTurned_rows hL hLm (by omega) (by omega) q n c W hn h
  have hTK : Hid (∀ W q n c, n = wd * m1 → Sl B8 W q n c (turnX wd L).flatten → Calls Try.prog 20 #[.agg #[.int .i64 wd, .int .i64 m1, .slice q n c]] W fun e w' => e = .returned (.int .i64 (iK L).length) ∧ Below W.heap.size W w') := fun W q n c hn h => by
    have := GRank_rows (turnX_len hLm) (turnX_length wd L) (by omega) (by omega) q n c W hn h
    rwa [rank_turn hL hLm] at this
  have hTT : Hid (∀ W q n c, n = wd * m1 → Sl B8 W q n c (turnX wd L).flatten → Calls Try.prog 21 #[.agg #[.int .i64 wd, .int .i64 m1, .slice q n c]] W (RetG 5 W m1 wd L.flatten)) := fun W q n c hn h => by
    have := GTurned_rows (turnX_len hLm) (turnX_length wd L) (by omega) (by omega) q n c W hn h
    rwa [turn_turn hL hLm] at this
  have hrw : (iK L).length ≤ wd := rank_wide hL
  have hrm : (iK L).length ≤ m1 := rank_high hLm
  have HMU : Hid (wd = m2 → ∀ W q1 n1 d1 q2 n2 d2, n1 = m1 * wd → n2 = m2 * vd → Sl B8 W q1 n1 d1 L.flatten → Sl B8 W q2 n2 d2 K.flatten → Calls Try.prog 22 #[.agg #[.int .i64 m1, .int .i64 wd, .slice q1 n1 d1], .agg #[.int .i64 m2, .int .i64 vd, .slice q2 n2 d2]] W (RetG2 5 W m1 vd (L.map (mulR vd K)).flatten 0)) := fun e W q1 n1 d1 q2 n2 d2 e1 e2 s1 s2 => by
    subst e; exact GMul_rows hL hLm hK hKm (by omega) (by omega) (by omega) q1 q2 n1 d1 n2 d2 W e1 e2 s1 s2
  have HPK : Hid (∀ W q n c, n = m1 * vd → Sl B8 W q n c (L.map (mulR vd K)).flatten → Calls Try.prog 20 #[.agg #[.int .i64 m1, .int .i64 vd, .slice q n c]] W fun e w' => e = .returned (.int .i64 (iK (L.map (mulR vd K))).length) ∧ Below W.heap.size W w') := fun W q n c hn h => GRank_rows (mul_wide hK) (by rw [List.length_map]; exact hLm) (by omega) (by omega) q n c W hn h
  have HOK : Hid (∀ W q n c, n = m2 * vd → Sl B8 W q n c K.flatten → Calls Try.prog 20 #[.agg #[.int .i64 m2, .int .i64 vd, .slice q n c]] W fun e w' => e = .returned (.int .i64 (iK K).length) ∧ Below W.heap.size W w') := fun W q n c hn h => GRank_rows hK hKm (by omega) (by omega) q n c W hn h
  have hpr0 : Hid (wd = m2 → (iK (L.map (mulR vd K))).length ≤ (iK L).length ∧ (iK (L.map (mulR vd K))).length ≤ (iK K).length) := fun e => by subst e; exact rank_mul hL hK hKm
  have HIL : Hid (m1 = wd → (iK L).length < wd → ∀ W q n c, n = m1 * wd → Sl B8 W q n c L.flatten → Calls Try.prog 24 #[.agg #[.int .i64 m1, .int .i64 wd, .slice q n c]] W (RetG2 5 W 0 0 [] 19)) := fun e hlt W q n c hn h => by
    subst e
    refine (GInv_rows hL hLm (by omega) q n c W hn h).mono ?_
    intro e w' h
    rcases h with ⟨F, _, h, _⟩ | ⟨_, h⟩
    · omega
    · exact h
  have HIF : Hid (m1 = wd → (iK L).length = wd → ∀ W q n c, n = m1 * wd → Sl B8 W q n c L.flatten → Calls Try.prog 24 #[.agg #[.int .i64 m1, .int .i64 wd, .slice q n c]] W (fun e w' => ∃ F : Nat → Rw, GJ m1 (sqR m1 L.flatten) F m1 ∧ RetG2 5 W m1 wd (rowsD m1 F).flatten 0 e w')) := fun e hlt W q n c hn h => by
    subst e
    refine (GInv_rows hL hLm (by omega) q n c W hn h).mono ?_
    intro e w' h
    rcases h with ⟨F, g, _, h⟩ | ⟨h, _⟩
    · exact ⟨F, g, h⟩
    · omega
  have HI2 : Hid (m1 = wd → ∀ W (F : Nat → Rw) q n c, GJ m1 (sqR m1 L.flatten) F m1 → n = m1 * wd → Sl B8 W q n c (rowsD m1 F).flatten → Calls Try.prog 24 #[.agg #[.int .i64 m1, .int .i64 wd, .slice q n c]] W (RetG2 5 W m1 wd L.flatten 0)) := fun e W F q n c g hn h => by
    subst e
    refine (GInv_rows (rowsD_wide g) (rowsD_len m1 F) (by omega) q n c W hn h).mono ?_
    intro e w' h
    rcases h with ⟨E, g2, _, h⟩ | ⟨h, _⟩
    · rwa [inv_back hL hLm g g2] at h
    · rw [inv_full hL hLm g] at h; omega
  have HML : Hid (m1 = wd → ∀ (W : World) (F : Nat → Rw) q1 n1 d1 q2 n2 d2, GJ m1 (sqR m1 L.flatten) F m1 → n1 = m1 * wd → n2 = m1 * wd → Sl B8 W q1 n1 d1 (rowsD m1 F).flatten → Sl B8 W q2 n2 d2 L.flatten → Calls Try.prog 22 #[.agg #[.int .i64 m1, .int .i64 wd, .slice q1 n1 d1], .agg #[.int .i64 m1, .int .i64 wd, .slice q2 n2 d2]] W (RetG2 5 W m1 wd (unitC m1 m1) 0)) := fun e W F q1 n1 d1 q2 n2 d2 g e1 e2 s1 s2 => by
    subst e
    have := GMul_rows (rowsD_wide g) (rowsD_len m1 F) hL hLm (by omega) (by omega) (by omega) q1 q2 n1 d1 n2 d2 W e1 e2 s1 s2
    rwa [inv_left hL hLm g] at this
  have HUN : Hid (m1 = wd → ∀ W, Calls Try.prog 12 #[.int .i64 wd] W (RetG2 5 W m1 wd (unitC m1 m1) 0)) := fun e W => by subst e; exact Unit_good m1 W (by omega)
  have HDT : Hid (m1 = wd → wd ≤ 6 → ∀ W q c, Sl2 W q m1 c L → Calls Try.prog 23 #[.slice q m1 c] W fun e w' => e = .returned (B8 (Gf.det m1 (detM L))) ∧ Below W.heap.size W w') := fun e h6 W q c h => by subst e; exact Det_any m1 q c L W h hL h6
  have hdr : Hid (m1 = wd → ((iK L).length = wd ↔ Gf.det m1 (detM L) ≠ 0)) := fun e => by subst e; exact det_rank hL hLm
  clear h1 h2 hM1 hM2 hf1 hf2 hL hK hLm hKm
  generalize hr : (iK L).length = r at *
  generalize (turnX wd L).flatten = X at *
  generalize (L.map (mulR vd K)).flatten = Z at *
  generalize (iK (L.map (mulR vd K))).length = rp at *
  generalize (iK K).length = ro at *
  generalize Gf.det m1 (detM L) = D at *
  obtain ⟨hpr, hpo⟩ := hpr0.out hmul
  have hprz : (rp : Int) ≤ (r : Int) := by omega
  have hpoz : (rp : Int) ≤ (ro : Int) := by omega
  have HMUL := Lib.hid hmul
  clear hmul hpr0
  have hrwz : (r : Int) ≤ (wd : Int) := by omega
  have hrmz : (r : Int) ≤ (m1 : Int) := by omega
  go_enter Try.func4, Try.ntmps4
  go_wp2_with fail
  refine (awake07 _).mono ?_; rintro e w1 ⟨rfl, hb⟩
  have B_1 := Lib.hid hb
  have H1_1 := Lib.hid (H1_0.out.keep hb); have H2_1 := Lib.hid (H2_0.out.keep hb)
  clear hb H1_0 H2_0
  go_wp2_with fail
  refine Calls.mono (HF1.out _ H1_1.out) ?_
  rintro e w' ⟨rfl, rfl⟩
  go_wp2_with fail
  refine Calls.mono (HF2.out _ H2_1.out) ?_
  rintro e w' ⟨rfl, rfl⟩
  go_wp2_with fail
  refine Calls.mono (HM1.out _ H1_1.out) ?_
  rintro e w2 ⟨qg, ng, cg, ql, cl, hng, rfl, og, ol, hb⟩
  have B_2 := Lib.hid (bl B_1.out hb B_1.out.size)
  have H1_2 := Lib.hid (H1_1.out.keep hb)
  have H2_2 := Lib.hid (H2_1.out.keep hb)
  clear hb B_1 H1_1 H2_1
  have SG_2 := Lib.hid (Sl.of_owns og); have RL_2 := Lib.hid ol.sl2; have HNG := Lib.hid hng
  clear og ol hng H1_2
  go_wp2_with fail
  refine use_w (fun W => Below w2.heap.size w2 W ∧ W.heap[w2.heap.size]? = some (.cells #[.int .i64 m1, .int .i64 wd, .slice qg ng cg] 27 (0, 0))) ⟨al (Below.refl _ _) (Nat.le_refl _), hnew rfl⟩ ?_
  rintro w3 ⟨hb, hx⟩
  have XG_3 := Lib.hid hx
  clear hx
  have B_3 := Lib.hid (bl B_2.out hb B_2.out.size)
  have H2_3 := Lib.hid (H2_2.out.keep hb)
  have SG_3 := Lib.hid (SG_2.out.keep hb)
  have RL_3 := Lib.hid (RL_2.out.keep hb)
  clear hb B_2 H2_2 SG_2 RL_2
  refine Calls.mono (HM2.out _ H2_3.out) ?_
  rintro e w4 ⟨qo, no, co, qk, ck, hno, rfl, oo, ok, hb⟩
  have B_4 := Lib.hid (bl B_3.out hb B_3.out.size)
  have H2_4 := Lib.hid (H2_3.out.keep hb)
  have SG_4 := Lib.hid (SG_3.out.keep hb)
  have RL_4 := Lib.hid (RL_3.out.keep hb)
  have XG_4 := Lib.hid ((hb.block _ (blk_lt XG_3.out)).trans XG_3.out)
  clear hb B_3 H2_3 SG_3 RL_3 XG_3
  have SO_4 := Lib.hid (Sl.of_owns oo); have RK_4 := Lib.hid ok.sl2; have HNO := Lib.hid hno
  clear oo ok hno H2_4
  obtain ⟨h30, h31, h32⟩ := cells3 XG_4.out
  obtain ⟨j00, j01, j02⟩ := cells3 (hal (o := .cells #[.int .i64 m2, .int .i64 vd, .slice qo no co] 27) XG_4.out)
  go_wp2_with fail
  refine use_w (fun W => Below w4.heap.size w4 W ∧ W.heap[w4.heap.size]? = some (.cells #[.int .i64 m2, .int .i64 vd, .slice qo no co] 27 (0, 0))) ⟨al (Below.refl _ _) (Nat.le_refl _), hnew rfl⟩ ?_
  rintro w5 ⟨hb, hx⟩
  have XO_5 := Lib.hid hx
  clear hx
  have B_5 := Lib.hid (bl B_4.out hb B_4.out.size)
  have SG_5 := Lib.hid (SG_4.out.keep hb)
  have RL_5 := Lib.hid (RL_4.out.keep hb)
  have XG_5 := Lib.hid ((hb.block _ (blk_lt XG_4.out)).trans XG_4.out)
  have SO_5 := Lib.hid (SO_4.out.keep hb)
  have RK_5 := Lib.hid (RK_4.out.keep hb)
  clear hb B_4 SG_4 RL_4 XG_4 SO_4 RK_4 h30 h31 h32 j00 j01 j02
  have T_5 := Lib.hid (GSt.mk (w := w) B_5.out SG_5.out RL_5.out SO_5.out RK_5.out XG_5.out XO_5.out)
  clear B_5 SG_5 RL_5 SO_5 RK_5 XG_5 XO_5
  refine Calls.mono (hG.out _ _ _ _ HNG.out T_5.out.sg) ?_
  rintro e w6 ⟨rfl, hb⟩
  have T_6 := Lib.hid (T_5.out.keep hb)
  clear hb T_5
  obtain ⟨f0, f1, f2⟩ := cells3 T_6.out.xg
  go_wp2
  refine wp_region_shapes (fun ix => ([.val (.int .i64 (r : Nat)), .val (.agg #[.int .i64 m1, .int .i64 wd, .slice qg ng cg]), (shpG (wd) (m1) (X)), .val (.int .i64 (r : Nat)), .val (.bool false), .val (.bool false), .val (.int .i64 (r : Nat)), .val (.int .i64 wd), .val (.bool false), .val (.bool false), .val (.bool false), .val (.int .i64 (r : Nat)), .val (.slice ql m1 cl), .val (.int .i64 (m1 : Nat)), .val (.bool false), .val (.bool false), .val (.bool false), .val (.agg #[.int .i64 m1, .int .i64 wd, .slice qg ng cg]), (shpG (wd) (m1) (X)), (shpG (m1) (wd) (L.flatten)), .val (.agg #[.int .i64 m1, .int .i64 wd, .slice qg ng cg]), .val (.bool true), .val (.bool false), .val (.bool false), .val (undef), .val (undef), .val (.bool false), .val (.bool false), .val (undef), .val (undef), .val (undef), .val (.bool false), .val (.bool false)][ix]?).getD (.any)) 175 rfl (by kernel_rfl) (by decide) (by decide) (by decide) ?_ ?_
  · refine ⟨?_, ?_, ?_, ?_, ?_, ?_, ?_, ?_, ?_, ?_, ?_, ?_, ?_, ?_, ?_, ?_, ?_, ?_, ?_, ?_, ?_, ?_, ?_, ?_, ?_, ?_, ?_, ?_, ?_, ?_, ?_, ?_, ?_, trivial⟩
    · intro a W hb0 hs hp hi; have hb := undrew hb0; clear hb0
      have t15 : sl a 15 = .int .i64 (r : Nat) := hi 15 (by decide)
      exact ite_y rfl (wp_val (sl a 15) rfl ⟨_, rfl, Below.refl _ _, t15⟩)
    · intro a W hb0 hs hp hi; have hb := undrew hb0; clear hb0
      have tt : sl a 9 = .pointer (some ⟨w2.heap.size, 0, none⟩) := hi 9 (by decide)
      have dd0 := (hb.cell (p := ⟨w2.heap.size, 0, none⟩) (lt_of_cell f0)).trans f0
      have dd1 := (hb.cell (p := ⟨w2.heap.size, 1, none⟩) (lt_of_cell f1)).trans f1
      have dd2 := (hb.cell (p := ⟨w2.heap.size, 2, none⟩) (lt_of_cell f2)).trans f2
      refine ite_y rfl (wp_val (.agg #[.int .i64 m1, .int .i64 wd, .slice qg ng cg]) ?_ ?_)
      · simp only [execOp, eval_tmp, tt]; simp [go_sem, dd0, dd1, dd2]
      · exact ⟨_, rfl, Below.refl _ _, rfl⟩
    · intro a W hb0 hs hp hi; have hb := undrew hb0; clear hb0
      have t53 : sl a 53 = .agg #[.int .i64 m1, .int .i64 wd, .slice qg ng cg] := hp 1 (by decide)
      refine ite_y rfl (wp_enter 21 #[.agg #[.int .i64 m1, .int .i64 wd, .slice qg ng cg]] ?_ (hT.out W _ _ _ HNG.out (T_6.out.sg.keep hb)) ?_)
      · simp only [execOp, resolve, List.map_toArray, List.map, eval_tmp, eval_func, eval_const, t53]; simp [go_sem]
      · rintro e W' ⟨q', n', c', hn', rfl, ho, hw⟩; exact ⟨_, rfl, _, rfl, hw, q', n', c', rfl, hn', Sl.of_owns ho⟩
    · intro a W hb0 hs hp hi; have hb := undrew hb0; clear hb0
      obtain ⟨q1', n1', c1', tt1, e1', z1'⟩ : ∃ q n c, sl a 54 = .agg #[.int .i64 wd, .int .i64 m1, .slice q n c] ∧ n = wd * m1 ∧ Sl B8 W q n c (X) := hp 2 (by decide)
      refine ite_y rfl (wp_enter 20 #[.agg #[.int .i64 wd, .int .i64 m1, .slice q1' n1' c1']] ?_ (hTK.out W _ _ _ e1' z1') ?_)
      · simp only [execOp, resolve, List.map_toArray, List.map, eval_tmp, eval_func, eval_const, tt1]; simp [go_sem]
      · rintro e W' ⟨rfl, hw⟩; exact ⟨_, rfl, _, rfl, hw, rfl⟩
    · intro a W hb0 hs hp hi; have hb := undrew hb0; clear hb0
      have t52 : sl a 52 = .int .i64 (r : Nat) := hp 0 (by decide)
      have t55 : sl a 55 = .int .i64 (r : Nat) := hp 3 (by decide)
      refine ite_y rfl (wp_val (.bool false) ?_ ?_)
      · simp only [execOp, eval_tmp, eval_const, t52, t55]; simp [go_sem]
      · exact ⟨_, rfl, Below.refl _ _, rfl⟩
    · intro a W hb0 hs hp hi; have hb := undrew hb0; clear hb0
      have t56 : sl a 56 = .bool false := hp 4 (by decide)
      exact ite_y rfl (wp_val (sl a 56) rfl ⟨_, rfl, Below.refl _ _, t56⟩)
    · intro a W hb0 hs hp hi; have hb := undrew hb0; clear hb0
      have tg : sl a 57 = .bool false := hp 5 (by decide)
      have t15 : sl a 15 = .int .i64 (r : Nat) := hi 15 (by decide)
      exact ite_y (wanted_yes rfl rfl (by have hz : a.tmps.size = 175 := hs; rw [hz]; decide) tg) (wp_val (sl a 15) rfl ⟨_, rfl, Below.refl _ _, t15⟩)
    · intro a W hb0 hs hp hi; have hb := undrew hb0; clear hb0
      have tg : sl a 57 = .bool false := hp 5 (by decide)
      have t11 : sl a 11 = .int .i64 wd := hi 11 (by decide)
      exact ite_y (wanted_yes rfl rfl (by have hz : a.tmps.size = 175 := hs; rw [hz]; decide) tg) (wp_val (sl a 11) rfl ⟨_, rfl, Below.refl _ _, t11⟩)
    · intro a W hb0 hs hp hi; have hb := undrew hb0; clear hb0
      have tg : sl a 57 = .bool false := hp 5 (by decide)
      have t58 : sl a 58 = .int .i64 (r : Nat) := hp 6 (by decide)
      have t59 : sl a 59 = .int .i64 wd := hp 7 (by decide)
      refine ite_y (wanted_yes rfl rfl (by have hz : a.tmps.size = 175 := hs; rw [hz]; decide) tg) (wp_val (.bool false) ?_ ?_)
      · simp only [execOp, eval_tmp, eval_const, t58, t59]; simp [go_sem, hrw, hrwz]
      · exact ⟨_, rfl, Below.refl _ _, rfl⟩
    · intro a W hb0 hs hp hi; have hb := undrew hb0; clear hb0
      have t57 : sl a 57 = .bool false := hp 5 (by decide)
      have t60 : sl a 60 = .bool false := hp 8 (by decide)
      refine ite_y rfl (wp_val (.bool false) ?_ ?_)
      · simp only [execOp, eval_tmp, eval_const, t57, t60]; simp [go_sem]
      · exact ⟨_, rfl, Below.refl _ _, rfl⟩
    · intro a W hb0 hs hp hi; have hb := undrew hb0; clear hb0
      have t61 : sl a 61 = .bool false := hp 9 (by decide)
      exact ite_y rfl (wp_val (sl a 61) rfl ⟨_, rfl, Below.refl _ _, t61⟩)
    · intro a W hb0 hs hp hi; have hb := undrew hb0; clear hb0
      have tg : sl a 62 = .bool false := hp 10 (by decide)
      have t15 : sl a 15 = .int .i64 (r : Nat) := hi 15 (by decide)
      exact ite_y (wanted_yes rfl rfl (by have hz : a.tmps.size = 175 := hs; rw [hz]; decide) tg) (wp_val (sl a 15) rfl ⟨_, rfl, Below.refl _ _, t15⟩)
    · intro a W hb0 hs hp hi; have hb := undrew hb0; clear hb0
      have tg : sl a 62 = .bool false := hp 10 (by decide)
      have t10 : sl a 10 = .slice ql m1 cl := hi 10 (by decide)
      exact ite_y (wanted_yes rfl rfl (by have hz : a.tmps.size = 175 := hs; rw [hz]; decide) tg) (wp_val (sl a 10) rfl ⟨_, rfl, Below.refl _ _, t10⟩)
    · intro a W hb0 hs hp hi; have hb := undrew hb0; clear hb0
      have tg : sl a 62 = .bool false := hp 10 (by decide)
      have t64 : sl a 64 = .slice ql m1 cl := hp 12 (by decide)
      refine ite_y (wanted_yes rfl rfl (by have hz : a.tmps.size = 175 := hs; rw [hz]; decide) tg) (wp_val (.int .i64 (m1 : Nat)) ?_ ?_)
      · simp only [execOp, resolve, List.map_toArray, List.map, eval_tmp, eval_func, eval_const, t64]; simp [go_sem]
      · exact ⟨_, rfl, Below.refl _ _, rfl⟩
    · intro a W hb0 hs hp hi; have hb := undrew hb0; clear hb0
      have tg : sl a 62 = .bool false := hp 10 (by decide)
      have t63 : sl a 63 = .int .i64 (r : Nat) := hp 11 (by decide)
      have t65 : sl a 65 = .int .i64 (m1 : Nat) := hp 13 (by decide)
      refine ite_y (wanted_yes rfl rfl (by have hz : a.tmps.size = 175 := hs; rw [hz]; decide) tg) (wp_val (.bool false) ?_ ?_)
      · simp only [execOp, eval_tmp, eval_const, t63, t65]; simp [go_sem, hrm, hrmz]
      · exact ⟨_, rfl, Below.refl _ _, rfl⟩
    · intro a W hb0 hs hp hi; have hb := undrew hb0; clear hb0
      have t62 : sl a 62 = .bool false := hp 10 (by decide)
      have t66 : sl a 66 = .bool false := hp 14 (by decide)
      refine ite_y rfl (wp_val (.bool false) ?_ ?_)
      · simp only [execOp, eval_tmp, eval_const, t62, t66]; simp [go_sem]
      · exact ⟨_, rfl, Below.refl _ _, rfl⟩
    · intro a W hb0 hs hp hi; have hb := undrew hb0; clear hb0
      have t67 : sl a 67 = .bool false := hp 15 (by decide)
      exact ite_y rfl (wp_val (sl a 67) rfl ⟨_, rfl, Below.refl _ _, t67⟩)
    · intro a W hb0 hs hp hi; have hb := undrew hb0; clear hb0
      have tg : sl a 68 = .bool false := hp 16 (by decide)
      have tt : sl a 9 = .pointer (some ⟨w2.heap.size, 0, none⟩) := hi 9 (by decide)
      have dd0 := (hb.cell (p := ⟨w2.heap.size, 0, none⟩) (lt_of_cell f0)).trans f0
      have dd1 := (hb.cell (p := ⟨w2.heap.size, 1, none⟩) (lt_of_cell f1)).trans f1
      have dd2 := (hb.cell (p := ⟨w2.heap.size, 2, none⟩) (lt_of_cell f2)).trans f2
      refine ite_y (wanted_yes rfl rfl (by have hz : a.tmps.size = 175 := hs; rw [hz]; decide) tg) (wp_val (.agg #[.int .i64 m1, .int .i64 wd, .slice qg ng cg]) ?_ ?_)
      · simp only [execOp, eval_tmp, tt]; simp [go_sem, dd0, dd1, dd2]
      · exact ⟨_, rfl, Below.refl _ _, rfl⟩
    · intro a W hb0 hs hp hi; have hb := undrew hb0; clear hb0
      have tg : sl a 68 = .bool false := hp 16 (by decide)
      have t69 : sl a 69 = .agg #[.int .i64 m1, .int .i64 wd, .slice qg ng cg] := hp 17 (by decide)
      refine ite_y (wanted_yes rfl rfl (by have hz : a.tmps.size = 175 := hs; rw [hz]; decide) tg) (wp_enter 21 #[.agg #[.int .i64 m1, .int .i64 wd, .slice qg ng cg]] ?_ (hT.out W _ _ _ HNG.out (T_6.out.sg.keep hb)) ?_)
      · simp only [execOp, resolve, List.map_toArray, List.map, eval_tmp, eval_func, eval_const, t69]; simp [go_sem]
      · rintro e W' ⟨q', n', c', hn', rfl, ho, hw⟩; exact ⟨_, rfl, _, rfl, hw, q', n', c', rfl, hn', Sl.of_owns ho⟩
    · intro a W hb0 hs hp hi; have hb := undrew hb0; clear hb0
      have tg : sl a 68 = .bool false := hp 16 (by decide)
      obtain ⟨q1', n1', c1', tt1, e1', z1'⟩ : ∃ q n c, sl a 70 = .agg #[.int .i64 wd, .int .i64 m1, .slice q n c] ∧ n = wd * m1 ∧ Sl B8 W q n c (X) := hp 18 (by decide)
      refine ite_y (wanted_yes rfl rfl (by have hz : a.tmps.size = 175 := hs; rw [hz]; decide) tg) (wp_enter 21 #[.agg #[.int .i64 wd, .int .i64 m1, .slice q1' n1' c1']] ?_ (hTT.out W _ _ _ e1' z1') ?_)
      · simp only [execOp, resolve, List.map_toArray, List.map, eval_tmp, eval_func, eval_const, tt1]; simp [go_sem]
      · rintro e W' ⟨q', n', c', hn', rfl, ho, hw⟩; exact ⟨_, rfl, _, rfl, hw, q', n', c', rfl, hn', Sl.of_owns ho⟩
    · intro a W hb0 hs hp hi; have hb := undrew hb0; clear hb0
      have tg : sl a 68 = .bool false := hp 16 (by decide)
      have tt : sl a 9 = .pointer (some ⟨w2.heap.size, 0, none⟩) := hi 9 (by decide)
      have dd0 := (hb.cell (p := ⟨w2.heap.size, 0, none⟩) (lt_of_cell f0)).trans f0
      have dd1 := (hb.cell (p := ⟨w2.heap.size, 1, none⟩) (lt_of_cell f1)).trans f1
      have dd2 := (hb.cell (p := ⟨w2.heap.size, 2, none⟩) (lt_of_cell f2)).trans f2
      refine ite_y (wanted_yes rfl rfl (by have hz : a.tmps.size = 175 := hs; rw [hz]; decide) tg) (wp_val (.agg #[.int .i64 m1, .int .i64 wd, .slice qg ng cg]) ?_ ?_)
      · simp only [execOp, eval_tmp, tt]; simp [go_sem, dd0, dd1, dd2]
      · exact ⟨_, rfl, Below.refl _ _, rfl⟩
    · intro a W hb0 hs hp hi; have hb := undrew hb0; clear hb0
      have tg : sl a 68 = .bool false := hp 16 (by decide)
      obtain ⟨q1', n1', c1', tt1, e1', z1'⟩ : ∃ q n c, sl a 71 = .agg #[.int .i64 m1, .int .i64 wd, .slice q n c] ∧ n = m1 * wd ∧ Sl B8 W q n c (L.flatten) := hp 19 (by decide)
      have t72 : sl a 72 = .agg #[.int .i64 m1, .int .i64 wd, .slice qg ng cg] := hp 20 (by decide)
      refine ite_y (wanted_yes rfl rfl (by have hz : a.tmps.size = 175 := hs; rw [hz]; decide) tg) (wp_enter 18 #[.agg #[.int .i64 m1, .int .i64 wd, .slice q1' n1' c1'], .agg #[.int .i64 m1, .int .i64 wd, .slice qg ng cg]] ?_ (GSame_any m1 wd m1 wd q1' qg n1' c1' ng cg _ _ W z1' (T_6.out.sg.keep hb)) ?_)
      · simp only [execOp, resolve, List.map_toArray, List.map, eval_tmp, eval_func, eval_const, tt1, t72]; simp [go_sem]
      · rintro e W' ⟨rfl, hw⟩; exact ⟨_, rfl, _, rfl, hw, congrArg Value.bool (decide_eq_true ⟨rfl, rfl, rfl⟩)⟩
    · intro a W hb0 hs hp hi; have hb := undrew hb0; clear hb0
      have tg : sl a 68 = .bool false := hp 16 (by decide)
      have t73 : sl a 73 = .bool true := hp 21 (by decide)
      refine ite_y (wanted_yes rfl rfl (by have hz : a.tmps.size = 175 := hs; rw [hz]; decide) tg) (wp_val (.bool false) ?_ ?_)
      · simp only [execOp, eval_tmp, eval_const, t73]; simp [go_sem]
      · exact ⟨_, rfl, Below.refl _ _, rfl⟩
    · intro a W hb0 hs hp hi; have hb := undrew hb0; clear hb0
      have tg : sl a 68 = .bool false := hp 16 (by decide)
      have t74 : sl a 74 = .bool false := hp 22 (by decide)
      exact ite_y (wanted_yes rfl rfl (by have hz : a.tmps.size = 175 := hs; rw [hz]; decide) tg) (wp_val (sl a 74) rfl ⟨_, rfl, Below.refl _ _, t74⟩)
    · intro a W hb0 hs hp hi; have hb := undrew hb0; clear hb0
      have tg : sl a 75 = .bool false := hp 23 (by decide)
      exact ite_n (wanted_no rfl rfl (by have hz : a.tmps.size = 175 := hs; rw [hz]; decide) tg (by decide)) rfl
    · intro a W hb0 hs hp hi; have hb := undrew hb0; clear hb0
      have tg : sl a 75 = .bool false := hp 23 (by decide)
      exact ite_n (wanted_no rfl rfl (by have hz : a.tmps.size = 175 := hs; rw [hz]; decide) tg (by decide)) rfl
    · intro a W hb0 hs hp hi; have hb := undrew hb0; clear hb0
      have tg : sl a 68 = .bool false := hp 16 (by decide)
      have t75 : sl a 75 = .bool false := hp 23 (by decide)
      have t77 : sl a 77 = undef := hp 25 (by decide)
      refine ite_y (wanted_yes rfl rfl (by have hz : a.tmps.size = 175 := hs; rw [hz]; decide) tg) (wp_val (.bool false) ?_ ?_)
      · simp only [execOp, eval_tmp, eval_const, t75, t77]; simp [go_sem]
      · exact ⟨_, rfl, Below.refl _ _, rfl⟩
    · intro a W hb0 hs hp hi; have hb := undrew hb0; clear hb0
      have tg : sl a 68 = .bool false := hp 16 (by decide)
      have t78 : sl a 78 = .bool false := hp 26 (by decide)
      exact ite_y (wanted_yes rfl rfl (by have hz : a.tmps.size = 175 := hs; rw [hz]; decide) tg) (wp_val (sl a 78) rfl ⟨_, rfl, Below.refl _ _, t78⟩)
    · intro a W hb0 hs hp hi; have hb := undrew hb0; clear hb0
      have tg : sl a 79 = .bool false := hp 27 (by decide)
      exact ite_n (wanted_no rfl rfl (by have hz : a.tmps.size = 175 := hs; rw [hz]; decide) tg (by decide)) rfl
    · intro a W hb0 hs hp hi; have hb := undrew hb0; clear hb0
      have tg : sl a 79 = .bool false := hp 27 (by decide)
      exact ite_n (wanted_no rfl rfl (by have hz : a.tmps.size = 175 := hs; rw [hz]; decide) tg (by decide)) rfl
    · intro a W hb0 hs hp hi; have hb := undrew hb0; clear hb0
      have tg : sl a 79 = .bool false := hp 27 (by decide)
      exact ite_n (wanted_no rfl rfl (by have hz : a.tmps.size = 175 := hs; rw [hz]; decide) tg (by decide)) rfl
    · intro a W hb0 hs hp hi; have hb := undrew hb0; clear hb0
      have tg : sl a 68 = .bool false := hp 16 (by decide)
      have t79 : sl a 79 = .bool false := hp 27 (by decide)
      have t82 : sl a 82 = undef := hp 30 (by decide)
      refine ite_y (wanted_yes rfl rfl (by have hz : a.tmps.size = 175 := hs; rw [hz]; decide) tg) (wp_val (.bool false) ?_ ?_)
      · simp only [execOp, eval_tmp, eval_const, t79, t82]; simp [go_sem]
      · exact ⟨_, rfl, Below.refl _ _, rfl⟩
    · intro a W hb0 hs hp hi; have hb := undrew hb0; clear hb0
      have t68 : sl a 68 = .bool false := hp 16 (by decide)
      have t83 : sl a 83 = .bool false := hp 31 (by decide)
      refine ite_y rfl (wp_val (.bool false) ?_ ?_)
      · simp only [execOp, eval_tmp, eval_const, t68, t83]; simp [go_sem]
      · exact ⟨_, rfl, Below.refl _ _, rfl⟩
  intro a w7 hb hs hd hI ht
  have ha := act_is [52, 53, 54, 55, 56, 57, 58, 59, 60, 61, 62, 63, 64, 65, 66, 67, 68, 69, 70, 71, 72, 73, 74, 75, 76, 77, 78, 79, 80, 81, 82, 83, 84] hs hd ht (by decide)
  have t84 : sl a 84 = .bool false := hI 32 (by decide)
  simp only [List.foldl, t84] at ha
  generalize sl a 52 = u52 at ha
  generalize sl a 53 = u53 at ha
  generalize sl a 54 = u54 at ha
  generalize sl a 55 = u55 at ha
  generalize sl a 56 = u56 at ha
  generalize sl a 57 = u57 at ha
  generalize sl a 58 = u58 at ha
  generalize sl a 59 = u59 at ha
  generalize sl a 60 = u60 at ha
  generalize sl a 61 = u61 at ha
  generalize sl a 62 = u62 at ha
  generalize sl a 63 = u63 at ha
  generalize sl a 64 = u64 at ha
  generalize sl a 65 = u65 at ha
  generalize sl a 66 = u66 at ha
  generalize sl a 67 = u67 at ha
  generalize sl a 68 = u68 at ha
  generalize sl a 69 = u69 at ha
  generalize sl a 70 = u70 at ha
  generalize sl a 71 = u71 at ha
  generalize sl a 72 = u72 at ha
  generalize sl a 73 = u73 at ha
  generalize sl a 74 = u74 at ha
  generalize sl a 75 = u75 at ha
  generalize sl a 76 = u76 at ha
  generalize sl a 77 = u77 at ha
  generalize sl a 78 = u78 at ha
  generalize sl a 79 = u79 at ha
  generalize sl a 80 = u80 at ha
  generalize sl a 81 = u81 at ha
  generalize sl a 82 = u82 at ha
  generalize sl a 83 = u83 at ha
  simp only [Act.put, List.setIfInBounds_toArray, List.set_cons_zero, List.set_cons_succ] at ha
  rw [ha]
  clear ha hI ht
  have T_7 := Lib.hid (T_6.out.keep hb)
  clear hb T_6
  obtain ⟨f0, f1, f2⟩ := cells3 T_7.out.xg
  obtain ⟨g0, g1, g2⟩ := cells3 T_7.out.xo
  go_wp2_with fail
  refine Calls.mono (HMU.out HMUL.out _ _ _ _ _ _ _ HNG.out HNO.out T_7.out.sg T_7.out.so) ?_
  rintro e w8 ⟨q8, n8, c8, hn8, rfl, o8, hb⟩
  have T_8 := Lib.hid (T_7.out.keep hb)
  clear hb T_7 f0 f1 f2 g0 g1 g2
  have S8_8 := Lib.hid (Sl.of_owns o8); have HN8 := Lib.hid hn8
  clear o8 hn8
  obtain ⟨f0, f1, f2⟩ := cells3 T_8.out.xg
  obtain ⟨g0, g1, g2⟩ := cells3 T_8.out.xo
  go_wp2
  have hb : Below w8.heap.size w8 (w8.alloc (.cells #[.int .i64 m1, .int .i64 vd, .slice q8 n8 c8] 27)) := al (Below.refl _ _) (Nat.le_refl _)
  have hx : (w8.alloc (.cells #[.int .i64 m1, .int .i64 vd, .slice q8 n8 c8] 27)).heap[w8.heap.size]? = some (.cells #[.int .i64 m1, .int .i64 vd, .slice q8 n8 c8] 27 (0, 0)) := hnew rfl
  generalize hW : w8.alloc (.cells #[.int .i64 m1, .int .i64 vd, .slice q8 n8 c8] 27) = w9 at hb hx ⊢
  have XP_9 := Lib.hid hx
  clear hx hW
  have T_9 := Lib.hid (T_8.out.keep hb)
  have S8_9 := Lib.hid (S8_8.out.keep hb)
  clear hb T_8 S8_8 f0 f1 f2 g0 g1 g2
  obtain ⟨g0, g1, g2⟩ := cells3 T_9.out.xo
  obtain ⟨k0, k1, k2⟩ := cells3 XP_9.out
  refine wp_region_shapes (fun ix => ([.val (.int .i64 0), .val (.bool true), .val (.bool true), .val (.agg #[.int .i64 m1, .int .i64 vd, .slice q8 n8 c8]), .val (.int .i64 (rp : Nat)), .val (.int .i64 (r : Nat)), .val (.bool false), .val (.bool false), .val (.agg #[.int .i64 m1, .int .i64 vd, .slice q8 n8 c8]), .val (.int .i64 (rp : Nat)), .val (.agg #[.int .i64 m2, .int .i64 vd, .slice qo no co]), .val (.int .i64 (ro : Nat)), .val (.bool false), .val (.bool false), .val (.bool false)][ix]?).getD (.any)) 175 rfl (by kernel_rfl) (by decide) (by decide) (by decide) ?_ ?_
  · refine ⟨?_, ?_, ?_, ?_, ?_, ?_, ?_, ?_, ?_, ?_, ?_, ?_, ?_, ?_, ?_, trivial⟩
    · intro a W hb0 hs hp hi; have hb := undrew hb0; clear hb0
      have t17 : sl a 17 = .int .i64 0 := hi 17 (by decide)
      exact ite_y rfl (wp_val (sl a 17) rfl ⟨_, rfl, Below.refl _ _, t17⟩)
    · intro a W hb0 hs hp hi; have hb := undrew hb0; clear hb0
      have t91 : sl a 91 = .int .i64 0 := hp 0 (by decide)
      refine ite_y rfl (wp_val (.bool true) ?_ ?_)
      · simp only [execOp, eval_tmp, eval_const, t91]; simp [go_sem]
      · exact ⟨_, rfl, Below.refl _ _, rfl⟩
    · intro a W hb0 hs hp hi; have hb := undrew hb0; clear hb0
      have t92 : sl a 92 = .bool true := hp 1 (by decide)
      exact ite_y rfl (wp_val (sl a 92) rfl ⟨_, rfl, Below.refl _ _, t92⟩)
    · intro a W hb0 hs hp hi; have hb := undrew hb0; clear hb0
      have tg : sl a 93 = .bool true := hp 2 (by decide)
      have tt : sl a 16 = .pointer (some ⟨w8.heap.size, 0, none⟩) := hi 16 (by decide)
      have dd0 := (hb.cell (p := ⟨w8.heap.size, 0, none⟩) (lt_of_cell k0)).trans k0
      have dd1 := (hb.cell (p := ⟨w8.heap.size, 1, none⟩) (lt_of_cell k1)).trans k1
      have dd2 := (hb.cell (p := ⟨w8.heap.size, 2, none⟩) (lt_of_cell k2)).trans k2
      refine ite_y (wanted_yes rfl rfl (by have hz : a.tmps.size = 175 := hs; rw [hz]; decide) tg) (wp_val (.agg #[.int .i64 m1, .int .i64 vd, .slice q8 n8 c8]) ?_ ?_)
      · simp only [execOp, eval_tmp, tt]; simp [go_sem, dd0, dd1, dd2]
      · exact ⟨_, rfl, Below.refl _ _, rfl⟩
    · intro a W hb0 hs hp hi; have hb := undrew hb0; clear hb0
      have tg : sl a 93 = .bool true := hp 2 (by decide)
      have t94 : sl a 94 = .agg #[.int .i64 m1, .int .i64 vd, .slice q8 n8 c8] := hp 3 (by decide)
      refine ite_y (wanted_yes rfl rfl (by have hz : a.tmps.size = 175 := hs; rw [hz]; decide) tg) (wp_enter 20 #[.agg #[.int .i64 m1, .int .i64 vd, .slice q8 n8 c8]] ?_ (HPK.out W _ _ _ HN8.out (S8_9.out.keep hb)) ?_)
      · simp only [execOp, resolve, List.map_toArray, List.map, eval_tmp, eval_func, eval_const, t94]; simp [go_sem]
      · rintro e W' ⟨rfl, hw⟩; exact ⟨_, rfl, _, rfl, hw, rfl⟩
    · intro a W hb0 hs hp hi; have hb := undrew hb0; clear hb0
      have tg : sl a 93 = .bool true := hp 2 (by decide)
      have t15 : sl a 15 = .int .i64 (r : Nat) := hi 15 (by decide)
      exact ite_y (wanted_yes rfl rfl (by have hz : a.tmps.size = 175 := hs; rw [hz]; decide) tg) (wp_val (sl a 15) rfl ⟨_, rfl, Below.refl _ _, t15⟩)
    · intro a W hb0 hs hp hi; have hb := undrew hb0; clear hb0
      have tg : sl a 93 = .bool true := hp 2 (by decide)
      have t95 : sl a 95 = .int .i64 (rp : Nat) := hp 4 (by decide)
      have t96 : sl a 96 = .int .i64 (r : Nat) := hp 5 (by decide)
      refine ite_y (wanted_yes rfl rfl (by have hz : a.tmps.size = 175 := hs; rw [hz]; decide) tg) (wp_val (.bool false) ?_ ?_)
      · simp only [execOp, eval_tmp, eval_const, t95, t96]; simp [go_sem, hpr, hprz]
      · exact ⟨_, rfl, Below.refl _ _, rfl⟩
    · intro a W hb0 hs hp hi; have hb := undrew hb0; clear hb0
      have tg : sl a 93 = .bool true := hp 2 (by decide)
      have t97 : sl a 97 = .bool false := hp 6 (by decide)
      exact ite_y (wanted_yes rfl rfl (by have hz : a.tmps.size = 175 := hs; rw [hz]; decide) tg) (wp_val (sl a 97) rfl ⟨_, rfl, Below.refl _ _, t97⟩)
    · intro a W hb0 hs hp hi; have hb := undrew hb0; clear hb0
      have tg : sl a 98 = .bool false := hp 7 (by decide)
      have tt : sl a 16 = .pointer (some ⟨w8.heap.size, 0, none⟩) := hi 16 (by decide)
      have dd0 := (hb.cell (p := ⟨w8.heap.size, 0, none⟩) (lt_of_cell k0)).trans k0
      have dd1 := (hb.cell (p := ⟨w8.heap.size, 1, none⟩) (lt_of_cell k1)).trans k1
      have dd2 := (hb.cell (p := ⟨w8.heap.size, 2, none⟩) (lt_of_cell k2)).trans k2
      refine ite_y (wanted_yes rfl rfl (by have hz : a.tmps.size = 175 := hs; rw [hz]; decide) tg) (wp_val (.agg #[.int .i64 m1, .int .i64 vd, .slice q8 n8 c8]) ?_ ?_)
      · simp only [execOp, eval_tmp, tt]; simp [go_sem, dd0, dd1, dd2]
      · exact ⟨_, rfl, Below.refl _ _, rfl⟩
    · intro a W hb0 hs hp hi; have hb := undrew hb0; clear hb0
      have tg : sl a 98 = .bool false := hp 7 (by decide)
      have t99 : sl a 99 = .agg #[.int .i64 m1, .int .i64 vd, .slice q8 n8 c8] := hp 8 (by decide)
      refine ite_y (wanted_yes rfl rfl (by have hz : a.tmps.size = 175 := hs; rw [hz]; decide) tg) (wp_enter 20 #[.agg #[.int .i64 m1, .int .i64 vd, .slice q8 n8 c8]] ?_ (HPK.out W _ _ _ HN8.out (S8_9.out.keep hb)) ?_)
      · simp only [execOp, resolve, List.map_toArray, List.map, eval_tmp, eval_func, eval_const, t99]; simp [go_sem]
      · rintro e W' ⟨rfl, hw⟩; exact ⟨_, rfl, _, rfl, hw, rfl⟩
    · intro a W hb0 hs hp hi; have hb := undrew hb0; clear hb0
      have tg : sl a 98 = .bool false := hp 7 (by decide)
      have tt : sl a 12 = .pointer (some ⟨w4.heap.size, 0, none⟩) := hi 12 (by decide)
      have dd0 := (hb.cell (p := ⟨w4.heap.size, 0, none⟩) (lt_of_cell g0)).trans g0
      have dd1 := (hb.cell (p := ⟨w4.heap.size, 1, none⟩) (lt_of_cell g1)).trans g1
      have dd2 := (hb.cell (p := ⟨w4.heap.size, 2, none⟩) (lt_of_cell g2)).trans g2
      refine ite_y (wanted_yes rfl rfl (by have hz : a.tmps.size = 175 := hs; rw [hz]; decide) tg) (wp_val (.agg #[.int .i64 m2, .int .i64 vd, .slice qo no co]) ?_ ?_)
      · simp only [execOp, eval_tmp, tt]; simp [go_sem, dd0, dd1, dd2]
      · exact ⟨_, rfl, Below.refl _ _, rfl⟩
    · intro a W hb0 hs hp hi; have hb := undrew hb0; clear hb0
      have tg : sl a 98 = .bool false := hp 7 (by decide)
      have t101 : sl a 101 = .agg #[.int .i64 m2, .int .i64 vd, .slice qo no co] := hp 10 (by decide)
      refine ite_y (wanted_yes rfl rfl (by have hz : a.tmps.size = 175 := hs; rw [hz]; decide) tg) (wp_enter 20 #[.agg #[.int .i64 m2, .int .i64 vd, .slice qo no co]] ?_ (HOK.out W _ _ _ HNO.out (T_9.out.so.keep hb)) ?_)
      · simp only [execOp, resolve, List.map_toArray, List.map, eval_tmp, eval_func, eval_const, t101]; simp [go_sem]
      · rintro e W' ⟨rfl, hw⟩; exact ⟨_, rfl, _, rfl, hw, rfl⟩
    · intro a W hb0 hs hp hi; have hb := undrew hb0; clear hb0
      have tg : sl a 98 = .bool false := hp 7 (by decide)
      have t100 : sl a 100 = .int .i64 (rp : Nat) := hp 9 (by decide)
      have t102 : sl a 102 = .int .i64 (ro : Nat) := hp 11 (by decide)
      refine ite_y (wanted_yes rfl rfl (by have hz : a.tmps.size = 175 := hs; rw [hz]; decide) tg) (wp_val (.bool false) ?_ ?_)
      · simp only [execOp, eval_tmp, eval_const, t100, t102]; simp [go_sem, hpo, hpoz]
      · exact ⟨_, rfl, Below.refl _ _, rfl⟩
    · intro a W hb0 hs hp hi; have hb := undrew hb0; clear hb0
      have tg : sl a 93 = .bool true := hp 2 (by decide)
      have t98 : sl a 98 = .bool false := hp 7 (by decide)
      have t103 : sl a 103 = .bool false := hp 12 (by decide)
      refine ite_y (wanted_yes rfl rfl (by have hz : a.tmps.size = 175 := hs; rw [hz]; decide) tg) (wp_val (.bool false) ?_ ?_)
      · simp only [execOp, eval_tmp, eval_const, t98, t103]; simp [go_sem]
      · exact ⟨_, rfl, Below.refl _ _, rfl⟩
    · intro a W hb0 hs hp hi; have hb := undrew hb0; clear hb0
      have t93 : sl a 93 = .bool true := hp 2 (by decide)
      have t104 : sl a 104 = .bool false := hp 13 (by decide)
      refine ite_y rfl (wp_val (.bool false) ?_ ?_)
      · simp only [execOp, eval_tmp, eval_const, t93, t104]; simp [go_sem]
      · exact ⟨_, rfl, Below.refl _ _, rfl⟩
  intro a w10 hb hs hd hI ht
  have ha := act_is [91, 92, 93, 94, 95, 96, 97, 98, 99, 100, 101, 102, 103, 104, 105] hs hd ht (by decide)
  have t105 : sl a 105 = .bool false := hI 14 (by decide)
  simp only [List.foldl, t105] at ha
  generalize sl a 91 = u91 at ha
  generalize sl a 92 = u92 at ha
  generalize sl a 93 = u93 at ha
  generalize sl a 94 = u94 at ha
  generalize sl a 95 = u95 at ha
  generalize sl a 96 = u96 at ha
  generalize sl a 97 = u97 at ha
  generalize sl a 98 = u98 at ha
  generalize sl a 99 = u99 at ha
  generalize sl a 100 = u100 at ha
  generalize sl a 101 = u101 at ha
  generalize sl a 102 = u102 at ha
  generalize sl a 103 = u103 at ha
  generalize sl a 104 = u104 at ha
  simp only [Act.put, List.setIfInBounds_toArray, List.set_cons_zero, List.set_cons_succ] at ha
  rw [ha]
  clear ha hI ht
  have T_10 := Lib.hid (T_9.out.keep hb)
  have S8_10 := Lib.hid (S8_9.out.keep hb)
  have XP_10 := Lib.hid ((hb.block _ (blk_lt XP_9.out)).trans XP_9.out)
  clear hb T_9 S8_9 XP_9
  clear XP_10 S8_10 g0 g1 g2 k0 k1 k2
  by_cases hinv : m1 = wd
  · by_cases hrk : r < wd
    · by_cases h6 : wd ≤ 6
      · have hid : ((wd : Int) == (m1 : Int)) = true := by simp; omega
        have hie : ((wd : Int) != (m1 : Int)) = false := by simp; omega
        have h6z : (wd : Int) ≤ 6 := by omega
        have hrl : (r : Int) < (wd : Int) := by omega
        have hre : ((r : Int) == (wd : Int)) = false := by simp; omega
        have hD : D = 0 := Classical.byContradiction fun h => by have := (hdr.out hinv).2 h; omega
        subst hD
        have HINV := Lib.hid hinv; have HRK := Lib.hid hrk; have H6 := Lib.hid h6
        clear hinv hrk h6 hdr
        obtain ⟨f0, f1, f2⟩ := cells3 T_10.out.xg
        obtain ⟨g0, g1, g2⟩ := cells3 T_10.out.xo
        go_wp2_with fail
        refine Calls.mono (HDT.out HINV.out H6.out _ _ _ T_10.out.rl) ?_
        rintro e w11 ⟨rfl, hb⟩
        have T_11 := Lib.hid (T_10.out.keep hb)
        clear hb T_10 f0 f1 f2 g0 g1 g2
        obtain ⟨f0, f1, f2⟩ := cells3 T_11.out.xg
        obtain ⟨g0, g1, g2⟩ := cells3 T_11.out.xo
        go_wp2_with fail
        refine Calls.mono (HIL.out HINV.out HRK.out _ _ _ _ HNG.out T_11.out.sg) ?_
        rintro e w12 ⟨q9, n9, c9, hn9, rfl, o9, hb⟩
        have T_12 := Lib.hid (T_11.out.keep hb)
        clear hb T_11 f0 f1 f2 g0 g1 g2
        clear o9 hn9
        go_wp2
        go_ret
        exact ⟨rfl, al T_12.out.bel T_12.out.bel.size⟩
      · have hid : ((wd : Int) == (m1 : Int)) = true := by simp; omega
        have hie : ((wd : Int) != (m1 : Int)) = false := by simp; omega
        have h6z : ¬ ((wd : Int) ≤ 6) := by omega
        have hrl : (r : Int) < (wd : Int) := by omega
        have hre : ((r : Int) == (wd : Int)) = false := by simp; omega
        have HINV := Lib.hid hinv; have HRK := Lib.hid hrk; have H6 := Lib.hid h6
        clear hinv hrk h6 hdr
        obtain ⟨f0, f1, f2⟩ := cells3 T_10.out.xg
        obtain ⟨g0, g1, g2⟩ := cells3 T_10.out.xo
        go_wp2_with fail
        refine Calls.mono (HIL.out HINV.out HRK.out _ _ _ _ HNG.out T_10.out.sg) ?_
        rintro e w11 ⟨q9, n9, c9, hn9, rfl, o9, hb⟩
        have T_11 := Lib.hid (T_10.out.keep hb)
        clear hb T_10 f0 f1 f2 g0 g1 g2
        clear o9 hn9
        go_wp2
        go_ret
        exact ⟨rfl, al T_11.out.bel T_11.out.bel.size⟩
    · have hrk : r = wd := by omega
      by_cases h6 : wd ≤ 6
      · have hid : ((wd : Int) == (m1 : Int)) = true := by simp; omega
        have hie : ((wd : Int) != (m1 : Int)) = false := by simp; omega
        have h6z : (wd : Int) ≤ 6 := by omega
        have hre : ((r : Int) == (wd : Int)) = true := by simp; omega
        have hD : D ≠ 0 := (hdr.out hinv).1 hrk
        have hDz : ((D.toNat : Int) != 0) = true := by simp; exact fun h => hD (UInt8.toNat_inj.1 (by simpa using h))
        have HINV := Lib.hid hinv; have HRK := Lib.hid hrk; have H6 := Lib.hid h6
        clear hinv hrk h6 hdr
        obtain ⟨f0, f1, f2⟩ := cells3 T_10.out.xg
        obtain ⟨g0, g1, g2⟩ := cells3 T_10.out.xo
        go_wp2_with fail
        refine Calls.mono (HDT.out HINV.out H6.out _ _ _ T_10.out.rl) ?_
        rintro e w11 ⟨rfl, hb⟩
        have T_11 := Lib.hid (T_10.out.keep hb)
        clear hb T_10 f0 f1 f2 g0 g1 g2
        obtain ⟨f0, f1, f2⟩ := cells3 T_11.out.xg
        obtain ⟨g0, g1, g2⟩ := cells3 T_11.out.xo
        go_wp2_with fail
        refine Calls.mono (HIF.out HINV.out HRK.out _ _ _ _ HNG.out T_11.out.sg) ?_
        rintro e w12 ⟨F, hGJ, q9, n9, c9, hn9, rfl, o9, hb⟩
        have T_12 := Lib.hid (T_11.out.keep hb)
        clear hb T_11 f0 f1 f2 g0 g1 g2
        have S9_12 := Lib.hid (Sl.of_owns o9); have HN9 := Lib.hid hn9; have HGJ := Lib.hid hGJ
        clear o9 hn9 hGJ
        obtain ⟨f0, f1, f2⟩ := cells3 T_12.out.xg
        obtain ⟨g0, g1, g2⟩ := cells3 T_12.out.xo
        go_wp2_with fail
        refine use_w (fun W => Below w12.heap.size w12 W ∧ W.heap[w12.heap.size]? = some (.cells #[.int .i64 m1, .int .i64 wd, .slice q9 n9 c9] 27 (0, 0))) ⟨al (Below.refl _ _) (Nat.le_refl _), hnew rfl⟩ ?_
        rintro w13 ⟨hb, hx⟩
        have XQ_13 := Lib.hid hx
        clear hx
        have T_13 := Lib.hid (T_12.out.keep hb)
        have S9_13 := Lib.hid (S9_12.out.keep hb)
        clear hb T_12 S9_12 f0 f1 f2 g0 g1 g2
        refine Calls.mono (HI2.out HINV.out _ F _ _ _ HGJ.out HN9.out S9_13.out) ?_
        rintro e w14 ⟨qa, na, ca, hna, rfl, oa, hb⟩
        have T_14 := Lib.hid (T_13.out.keep hb)
        have S9_14 := Lib.hid (S9_13.out.keep hb)
        have XQ_14 := Lib.hid ((hb.block _ (blk_lt XQ_13.out)).trans XQ_13.out)
        clear hb T_13 S9_13 XQ_13
        have SA_14 := Lib.hid (Sl.of_owns oa); have HNA := Lib.hid hna
        clear oa hna
        obtain ⟨f0, f1, f2⟩ := cells3 T_14.out.xg
        obtain ⟨g0, g1, g2⟩ := cells3 T_14.out.xo
        obtain ⟨h10, h11, h12⟩ := cells3 XQ_14.out
        obtain ⟨j00, j01, j02⟩ := cells3 (hal (o := .cells #[.int .i64 m1, .int .i64 wd, .slice qa na ca] 27) XQ_14.out)
        obtain ⟨j10, j11, j12⟩ := cells3 (hal (o := .cells #[.int .i64 m1, .int .i64 wd, .slice qa na ca] 27) T_14.out.xg)
        go_wp2_with fail
        refine use_w (fun W => Below w14.heap.size w14 W ∧ W.heap[w14.heap.size]? = some (.cells #[.int .i64 m1, .int .i64 wd, .slice qa na ca] 27 (0, 0))) ⟨al (Below.refl _ _) (Nat.le_refl _), hnew rfl⟩ ?_
        rintro w15 ⟨hb, hx⟩
        have XB_15 := Lib.hid hx
        clear hx
        have T_15 := Lib.hid (T_14.out.keep hb)
        have S9_15 := Lib.hid (S9_14.out.keep hb)
        have XQ_15 := Lib.hid ((hb.block _ (blk_lt XQ_14.out)).trans XQ_14.out)
        have SA_15 := Lib.hid (SA_14.out.keep hb)
        clear hb T_14 S9_14 XQ_14 SA_14 f0 f1 f2 g0 g1 g2 h10 h11 h12 j00 j01 j02 j10 j11 j12
        refine Calls.mono (HML.out HINV.out _ F _ _ _ _ _ _ HGJ.out HN9.out HNG.out S9_15.out T_15.out.sg) ?_
        rintro e w16 ⟨qb, nb, cb, hnb, rfl, ob, hb⟩
        have T_16 := Lib.hid (T_15.out.keep hb)
        have S9_16 := Lib.hid (S9_15.out.keep hb)
        have XQ_16 := Lib.hid ((hb.block _ (blk_lt XQ_15.out)).trans XQ_15.out)
        have SA_16 := Lib.hid (SA_15.out.keep hb)
        have XB_16 := Lib.hid ((hb.block _ (blk_lt XB_15.out)).trans XB_15.out)
        clear hb T_15 S9_15 XQ_15 SA_15 XB_15
        have SB_16 := Lib.hid (Sl.of_owns ob); have HNB := Lib.hid hnb
        clear ob hnb S9_16
        obtain ⟨f0, f1, f2⟩ := cells3 T_16.out.xg
        obtain ⟨g0, g1, g2⟩ := cells3 T_16.out.xo
        obtain ⟨h00, h01, h02⟩ := cells3 XQ_16.out
        obtain ⟨h20, h21, h22⟩ := cells3 XB_16.out
        go_wp2_with fail
        refine use_w (fun W => Below w16.heap.size w16 W ∧ W.heap[w16.heap.size]? = some (.cells #[.int .i64 m1, .int .i64 wd, .slice qb nb cb] 27 (0, 0))) ⟨al (Below.refl _ _) (Nat.le_refl _), hnew rfl⟩ ?_
        rintro w17 ⟨hb, hx⟩
        have XC_17 := Lib.hid hx
        clear hx
        have T_17 := Lib.hid (T_16.out.keep hb)
        have XQ_17 := Lib.hid ((hb.block _ (blk_lt XQ_16.out)).trans XQ_16.out)
        have SA_17 := Lib.hid (SA_16.out.keep hb)
        have XB_17 := Lib.hid ((hb.block _ (blk_lt XB_16.out)).trans XB_16.out)
        have SB_17 := Lib.hid (SB_16.out.keep hb)
        clear hb T_16 XQ_16 SA_16 XB_16 SB_16 f0 f1 f2 g0 g1 g2 h00 h01 h02 h20 h21 h22
        refine Calls.mono (HUN.out HINV.out _) ?_
        rintro e w18 ⟨qc, nc, cc, hnc, rfl, oc, hb⟩
        have T_18 := Lib.hid (T_17.out.keep hb)
        have XQ_18 := Lib.hid ((hb.block _ (blk_lt XQ_17.out)).trans XQ_17.out)
        have SA_18 := Lib.hid (SA_17.out.keep hb)
        have XB_18 := Lib.hid ((hb.block _ (blk_lt XB_17.out)).trans XB_17.out)
        have SB_18 := Lib.hid (SB_17.out.keep hb)
        have XC_18 := Lib.hid ((hb.block _ (blk_lt XC_17.out)).trans XC_17.out)
        clear hb T_17 XQ_17 SA_17 XB_17 SB_17 XC_17
        have SC_18 := Lib.hid (Sl.of_owns oc); have HNC := Lib.hid hnc
        clear oc hnc
        obtain ⟨f0, f1, f2⟩ := cells3 T_18.out.xg
        obtain ⟨g0, g1, g2⟩ := cells3 T_18.out.xo
        obtain ⟨h00, h01, h02⟩ := cells3 XQ_18.out
        obtain ⟨h20, h21, h22⟩ := cells3 XB_18.out
        obtain ⟨h40, h41, h42⟩ := cells3 XC_18.out
        obtain ⟨j00, j01, j02⟩ := cells3 (hal (o := .cells #[.int .i64 m1, .int .i64 wd, .slice qc nc cc] 27) XB_18.out)
        obtain ⟨j10, j11, j12⟩ := cells3 (hal (o := .cells #[.int .i64 m1, .int .i64 wd, .slice qc nc cc] 27) T_18.out.xg)
        go_wp2_with fail
        refine use_w (fun W => Below w18.heap.size w18 W ∧ W.heap[w18.heap.size]? = some (.cells #[.int .i64 m1, .int .i64 wd, .slice qc nc cc] 27 (0, 0))) ⟨al (Below.refl _ _) (Nat.le_refl _), hnew rfl⟩ ?_
        rintro w19 ⟨hb, hx⟩
        have XD_19 := Lib.hid hx
        clear hx
        have T_19 := Lib.hid (T_18.out.keep hb)
        have XQ_19 := Lib.hid ((hb.block _ (blk_lt XQ_18.out)).trans XQ_18.out)
        have SA_19 := Lib.hid (SA_18.out.keep hb)
        have XB_19 := Lib.hid ((hb.block _ (blk_lt XB_18.out)).trans XB_18.out)
        have SB_19 := Lib.hid (SB_18.out.keep hb)
        have XC_19 := Lib.hid ((hb.block _ (blk_lt XC_18.out)).trans XC_18.out)
        have SC_19 := Lib.hid (SC_18.out.keep hb)
        clear hb T_18 XQ_18 SA_18 XB_18 SB_18 XC_18 SC_18 f0 f1 f2 g0 g1 g2 h00 h01 h02 h20 h21 h22 h40 h41 h42 j00 j01 j02 j10 j11 j12
        refine Calls.mono (GSame_any m1 wd m1 wd qa qg na ca ng cg _ _ _ SA_19.out T_19.out.sg) ?_
        rintro e w20 ⟨rfl, hb⟩
        have T_20 := Lib.hid (T_19.out.keep hb)
        have XQ_20 := Lib.hid ((hb.block _ (blk_lt XQ_19.out)).trans XQ_19.out)
        have SA_20 := Lib.hid (SA_19.out.keep hb)
        have XB_20 := Lib.hid ((hb.block _ (blk_lt XB_19.out)).trans XB_19.out)
        have SB_20 := Lib.hid (SB_19.out.keep hb)
        have XC_20 := Lib.hid ((hb.block _ (blk_lt XC_19.out)).trans XC_19.out)
        have SC_20 := Lib.hid (SC_19.out.keep hb)
        have XD_20 := Lib.hid ((hb.block _ (blk_lt XD_19.out)).trans XD_19.out)
        clear hb T_19 XQ_19 SA_19 XB_19 SB_19 XC_19 SC_19 XD_19
        rw [decide_eq_true ⟨rfl, rfl, rfl⟩]
        obtain ⟨f0, f1, f2⟩ := cells3 T_20.out.xg
        obtain ⟨g0, g1, g2⟩ := cells3 T_20.out.xo
        obtain ⟨h00, h01, h02⟩ := cells3 XQ_20.out
        obtain ⟨h20, h21, h22⟩ := cells3 XB_20.out
        obtain ⟨h40, h41, h42⟩ := cells3 XC_20.out
        obtain ⟨h60, h61, h62⟩ := cells3 XD_20.out
        go_wp2_with fail
        refine Calls.mono (GSame_any m1 wd m1 wd qb qc nb cb nc cc _ _ _ SB_20.out SC_20.out) ?_
        rintro e w21 ⟨rfl, hb⟩
        have T_21 := Lib.hid (T_20.out.keep hb)
        have XQ_21 := Lib.hid ((hb.block _ (blk_lt XQ_20.out)).trans XQ_20.out)
        have SA_21 := Lib.hid (SA_20.out.keep hb)
        have XB_21 := Lib.hid ((hb.block _ (blk_lt XB_20.out)).trans XB_20.out)
        have SB_21 := Lib.hid (SB_20.out.keep hb)
        have XC_21 := Lib.hid ((hb.block _ (blk_lt XC_20.out)).trans XC_20.out)
        have SC_21 := Lib.hid (SC_20.out.keep hb)
        have XD_21 := Lib.hid ((hb.block _ (blk_lt XD_20.out)).trans XD_20.out)
        clear hb T_20 XQ_20 SA_20 XB_20 SB_20 XC_20 SC_20 XD_20 f0 f1 f2 g0 g1 g2 h00 h01 h02 h20 h21 h22 h40 h41 h42 h60 h61 h62
        rw [decide_eq_true ⟨rfl, rfl, rfl⟩]
        go_wp2
        go_ret
        exact ⟨rfl, T_21.out.bel⟩
      · have hid : ((wd : Int) == (m1 : Int)) = true := by simp; omega
        have hie : ((wd : Int) != (m1 : Int)) = false := by simp; omega
        have h6z : ¬ ((wd : Int) ≤ 6) := by omega
        have hre : ((r : Int) == (wd : Int)) = true := by simp; omega
        have HINV := Lib.hid hinv; have HRK := Lib.hid hrk; have H6 := Lib.hid h6
        clear hinv hrk h6 hdr
        obtain ⟨f0, f1, f2⟩ := cells3 T_10.out.xg
        obtain ⟨g0, g1, g2⟩ := cells3 T_10.out.xo
        go_wp2_with fail
        refine Calls.mono (HIF.out HINV.out HRK.out _ _ _ _ HNG.out T_10.out.sg) ?_
        rintro e w11 ⟨F, hGJ, q9, n9, c9, hn9, rfl, o9, hb⟩
        have T_11 := Lib.hid (T_10.out.keep hb)
        clear hb T_10 f0 f1 f2 g0 g1 g2
        have S9_11 := Lib.hid (Sl.of_owns o9); have HN9 := Lib.hid hn9; have HGJ := Lib.hid hGJ
        clear o9 hn9 hGJ
        obtain ⟨f0, f1, f2⟩ := cells3 T_11.out.xg
        obtain ⟨g0, g1, g2⟩ := cells3 T_11.out.xo
        go_wp2_with fail
        refine use_w (fun W => Below w11.heap.size w11 W ∧ W.heap[w11.heap.size]? = some (.cells #[.int .i64 m1, .int .i64 wd, .slice q9 n9 c9] 27 (0, 0))) ⟨al (Below.refl _ _) (Nat.le_refl _), hnew rfl⟩ ?_
        rintro w12 ⟨hb, hx⟩
        have XQ_12 := Lib.hid hx
        clear hx
        have T_12 := Lib.hid (T_11.out.keep hb)
        have S9_12 := Lib.hid (S9_11.out.keep hb)
        clear hb T_11 S9_11 f0 f1 f2 g0 g1 g2
        refine Calls.mono (HI2.out HINV.out _ F _ _ _ HGJ.out HN9.out S9_12.out) ?_
        rintro e w13 ⟨qa, na, ca, hna, rfl, oa, hb⟩
        have T_13 := Lib.hid (T_12.out.keep hb)
        have S9_13 := Lib.hid (S9_12.out.keep hb)
        have XQ_13 := Lib.hid ((hb.block _ (blk_lt XQ_12.out)).trans XQ_12.out)
        clear hb T_12 S9_12 XQ_12
        have SA_13 := Lib.hid (Sl.of_owns oa); have HNA := Lib.hid hna
        clear oa hna
        obtain ⟨f0, f1, f2⟩ := cells3 T_13.out.xg
        obtain ⟨g0, g1, g2⟩ := cells3 T_13.out.xo
        obtain ⟨h10, h11, h12⟩ := cells3 XQ_13.out
        obtain ⟨j00, j01, j02⟩ := cells3 (hal (o := .cells #[.int .i64 m1, .int .i64 wd, .slice qa na ca] 27) XQ_13.out)
        obtain ⟨j10, j11, j12⟩ := cells3 (hal (o := .cells #[.int .i64 m1, .int .i64 wd, .slice qa na ca] 27) T_13.out.xg)
        go_wp2_with fail
        refine use_w (fun W => Below w13.heap.size w13 W ∧ W.heap[w13.heap.size]? = some (.cells #[.int .i64 m1, .int .i64 wd, .slice qa na ca] 27 (0, 0))) ⟨al (Below.refl _ _) (Nat.le_refl _), hnew rfl⟩ ?_
        rintro w14 ⟨hb, hx⟩
        have XB_14 := Lib.hid hx
        clear hx
        have T_14 := Lib.hid (T_13.out.keep hb)
        have S9_14 := Lib.hid (S9_13.out.keep hb)
        have XQ_14 := Lib.hid ((hb.block _ (blk_lt XQ_13.out)).trans XQ_13.out)
        have SA_14 := Lib.hid (SA_13.out.keep hb)
        clear hb T_13 S9_13 XQ_13 SA_13 f0 f1 f2 g0 g1 g2 h10 h11 h12 j00 j01 j02 j10 j11 j12
        refine Calls.mono (HML.out HINV.out _ F _ _ _ _ _ _ HGJ.out HN9.out HNG.out S9_14.out T_14.out.sg) ?_
        rintro e w15 ⟨qb, nb, cb, hnb, rfl, ob, hb⟩
        have T_15 := Lib.hid (T_14.out.keep hb)
        have S9_15 := Lib.hid (S9_14.out.keep hb)
        have XQ_15 := Lib.hid ((hb.block _ (blk_lt XQ_14.out)).trans XQ_14.out)
        have SA_15 := Lib.hid (SA_14.out.keep hb)
        have XB_15 := Lib.hid ((hb.block _ (blk_lt XB_14.out)).trans XB_14.out)
        clear hb T_14 S9_14 XQ_14 SA_14 XB_14
        have SB_15 := Lib.hid (Sl.of_owns ob); have HNB := Lib.hid hnb
        clear ob hnb S9_15
        obtain ⟨f0, f1, f2⟩ := cells3 T_15.out.xg
        obtain ⟨g0, g1, g2⟩ := cells3 T_15.out.xo
        obtain ⟨h00, h01, h02⟩ := cells3 XQ_15.out
        obtain ⟨h20, h21, h22⟩ := cells3 XB_15.out
        go_wp2_with fail
        refine use_w (fun W => Below w15.heap.size w15 W ∧ W.heap[w15.heap.size]? = some (.cells #[.int .i64 m1, .int .i64 wd, .slice qb nb cb] 27 (0, 0))) ⟨al (Below.refl _ _) (Nat.le_refl _), hnew rfl⟩ ?_
        rintro w16 ⟨hb, hx⟩
        have XC_16 := Lib.hid hx
        clear hx
        have T_16 := Lib.hid (T_15.out.keep hb)
        have XQ_16 := Lib.hid ((hb.block _ (blk_lt XQ_15.out)).trans XQ_15.out)
        have SA_16 := Lib.hid (SA_15.out.keep hb)
        have XB_16 := Lib.hid ((hb.block _ (blk_lt XB_15.out)).trans XB_15.out)
        have SB_16 := Lib.hid (SB_15.out.keep hb)
        clear hb T_15 XQ_15 SA_15 XB_15 SB_15 f0 f1 f2 g0 g1 g2 h00 h01 h02 h20 h21 h22
        refine Calls.mono (HUN.out HINV.out _) ?_
        rintro e w17 ⟨qc, nc, cc, hnc, rfl, oc, hb⟩
        have T_17 := Lib.hid (T_16.out.keep hb)
        have XQ_17 := Lib.hid ((hb.block _ (blk_lt XQ_16.out)).trans XQ_16.out)
        have SA_17 := Lib.hid (SA_16.out.keep hb)
        have XB_17 := Lib.hid ((hb.block _ (blk_lt XB_16.out)).trans XB_16.out)
        have SB_17 := Lib.hid (SB_16.out.keep hb)
        have XC_17 := Lib.hid ((hb.block _ (blk_lt XC_16.out)).trans XC_16.out)
        clear hb T_16 XQ_16 SA_16 XB_16 SB_16 XC_16
        have SC_17 := Lib.hid (Sl.of_owns oc); have HNC := Lib.hid hnc
        clear oc hnc
        obtain ⟨f0, f1, f2⟩ := cells3 T_17.out.xg
        obtain ⟨g0, g1, g2⟩ := cells3 T_17.out.xo
        obtain ⟨h00, h01, h02⟩ := cells3 XQ_17.out
        obtain ⟨h20, h21, h22⟩ := cells3 XB_17.out
        obtain ⟨h40, h41, h42⟩ := cells3 XC_17.out
        obtain ⟨j00, j01, j02⟩ := cells3 (hal (o := .cells #[.int .i64 m1, .int .i64 wd, .slice qc nc cc] 27) XB_17.out)
        obtain ⟨j10, j11, j12⟩ := cells3 (hal (o := .cells #[.int .i64 m1, .int .i64 wd, .slice qc nc cc] 27) T_17.out.xg)
        go_wp2_with fail
        refine use_w (fun W => Below w17.heap.size w17 W ∧ W.heap[w17.heap.size]? = some (.cells #[.int .i64 m1, .int .i64 wd, .slice qc nc cc] 27 (0, 0))) ⟨al (Below.refl _ _) (Nat.le_refl _), hnew rfl⟩ ?_
        rintro w18 ⟨hb, hx⟩
        have XD_18 := Lib.hid hx
        clear hx
        have T_18 := Lib.hid (T_17.out.keep hb)
        have XQ_18 := Lib.hid ((hb.block _ (blk_lt XQ_17.out)).trans XQ_17.out)
        have SA_18 := Lib.hid (SA_17.out.keep hb)
        have XB_18 := Lib.hid ((hb.block _ (blk_lt XB_17.out)).trans XB_17.out)
        have SB_18 := Lib.hid (SB_17.out.keep hb)
        have XC_18 := Lib.hid ((hb.block _ (blk_lt XC_17.out)).trans XC_17.out)
        have SC_18 := Lib.hid (SC_17.out.keep hb)
        clear hb T_17 XQ_17 SA_17 XB_17 SB_17 XC_17 SC_17 f0 f1 f2 g0 g1 g2 h00 h01 h02 h20 h21 h22 h40 h41 h42 j00 j01 j02 j10 j11 j12
        refine Calls.mono (GSame_any m1 wd m1 wd qa qg na ca ng cg _ _ _ SA_18.out T_18.out.sg) ?_
        rintro e w19 ⟨rfl, hb⟩
        have T_19 := Lib.hid (T_18.out.keep hb)
        have XQ_19 := Lib.hid ((hb.block _ (blk_lt XQ_18.out)).trans XQ_18.out)
        have SA_19 := Lib.hid (SA_18.out.keep hb)
        have XB_19 := Lib.hid ((hb.block _ (blk_lt XB_18.out)).trans XB_18.out)
        have SB_19 := Lib.hid (SB_18.out.keep hb)
        have XC_19 := Lib.hid ((hb.block _ (blk_lt XC_18.out)).trans XC_18.out)
        have SC_19 := Lib.hid (SC_18.out.keep hb)
        have XD_19 := Lib.hid ((hb.block _ (blk_lt XD_18.out)).trans XD_18.out)
        clear hb T_18 XQ_18 SA_18 XB_18 SB_18 XC_18 SC_18 XD_18
        rw [decide_eq_true ⟨rfl, rfl, rfl⟩]
        obtain ⟨f0, f1, f2⟩ := cells3 T_19.out.xg
        obtain ⟨g0, g1, g2⟩ := cells3 T_19.out.xo
        obtain ⟨h00, h01, h02⟩ := cells3 XQ_19.out
        obtain ⟨h20, h21, h22⟩ := cells3 XB_19.out
        obtain ⟨h40, h41, h42⟩ := cells3 XC_19.out
        obtain ⟨h60, h61, h62⟩ := cells3 XD_19.out
        go_wp2_with fail
        refine Calls.mono (GSame_any m1 wd m1 wd qb qc nb cb nc cc _ _ _ SB_19.out SC_19.out) ?_
        rintro e w20 ⟨rfl, hb⟩
        have T_20 := Lib.hid (T_19.out.keep hb)
        have XQ_20 := Lib.hid ((hb.block _ (blk_lt XQ_19.out)).trans XQ_19.out)
        have SA_20 := Lib.hid (SA_19.out.keep hb)
        have XB_20 := Lib.hid ((hb.block _ (blk_lt XB_19.out)).trans XB_19.out)
        have SB_20 := Lib.hid (SB_19.out.keep hb)
        have XC_20 := Lib.hid ((hb.block _ (blk_lt XC_19.out)).trans XC_19.out)
        have SC_20 := Lib.hid (SC_19.out.keep hb)
        have XD_20 := Lib.hid ((hb.block _ (blk_lt XD_19.out)).trans XD_19.out)
        clear hb T_19 XQ_19 SA_19 XB_19 SB_19 XC_19 SC_19 XD_19 f0 f1 f2 g0 g1 g2 h00 h01 h02 h20 h21 h22 h40 h41 h42 h60 h61 h62
        rw [decide_eq_true ⟨rfl, rfl, rfl⟩]
        go_wp2
        go_ret
        exact ⟨rfl, T_20.out.bel⟩
  · have hid : ((wd : Int) == (m1 : Int)) = false := by simp; omega
    have hie : ((wd : Int) != (m1 : Int)) = true := by simp; omega
    have HINV := Lib.hid hinv
    clear hinv hdr
    obtain ⟨f0, f1, f2⟩ := cells3 T_10.out.xg
    obtain ⟨g0, g1, g2⟩ := cells3 T_10.out.xo
    go_wp2_with fail
    refine Calls.mono (Inverse_size m1 wd _ _ _ _ HINV.out) ?_
    rintro e w11 ⟨q9, n9, c9, hn9, rfl, o9, hb⟩
    have T_11 := Lib.hid (T_10.out.keep hb)
    clear hb T_10 f0 f1 f2 g0 g1 g2
    clear o9 hn9
    go_wp2
    go_ret
    exact ⟨rfl, al T_11.out.bel T_11.out.bel.size⟩
end Go.Proofs.Ytofhdakggapahaa
namespace Go.Proofs.Ytofhdakggapahaa
open Go.RowKit Go.By
set_option maxRecDepth 100000 in
set_option maxHeartbeats 4000000 in
theorem GK_skip (x y : UInt8) (p1 p2 : Option Addr) (m1 c1 m2 c2 : Nat) (xss yss : List (List UInt8)) (w : World) (h1 : Sl2 w p1 m1 c1 xss) (h2 : Sl2 w p2 m2 c2 yss)
    (hf : (xss.all (fun y => decide (y.length ≤ 30)) && decide (m1 ≤ 30)) = false ∨ (xss.all (fun y => decide (y.length ≤ 30)) && decide (m1 ≤ 30)) = true ∧ (yss.all (fun y => decide (y.length ≤ 30)) && decide (m2 ≤ 30)) = false) :
    Calls Try.prog 4 #[B8 x, .slice p1 m1 c1, B8 y, .slice p2 m2 c2] w fun e w' => e = .returned (.bool true) ∧ Below w.heap.size w w' := by
  have HF1 : Hid (∀ W, Sl2 W p1 m1 c1 xss → Calls Try.prog 10 #[.slice p1 m1 c1] W fun e w' => e = .returned (.bool (xss.all (fun y => decide (y.length ≤ 30)) && decide (m1 ≤ 30))) ∧ W = w') := fun W h => Few7_any p1 m1 c1 xss W h
  have HF2 : Hid (∀ W, Sl2 W p2 m2 c2 yss → Calls Try.prog 10 #[.slice p2 m2 c2] W fun e w' => e = .returned (.bool (yss.all (fun y => decide (y.length ≤ 30)) && decide (m2 ≤ 30))) ∧ W = w') := fun W h => Few7_any p2 m2 c2 yss W h
  have H1 := Lib.hid h1; have H2 := Lib.hid h2
  clear h1 h2
  rcases hf with hf | ⟨hf, hg⟩
  · rw [hf] at HF1
    clear HF2 hf
    go_enter Try.func4, Try.ntmps4
    go_wp2_with fail
    refine (awake07 _).mono ?_; rintro e w1 ⟨rfl, k1⟩
    have H1' := Lib.hid (H1.out.keep k1); have B1 := Lib.hid k1
    clear k1 H1
    go_wp2_with fail
    refine Calls.mono (HF1.out _ H1'.out) ?_; rintro e w' ⟨rfl, rfl⟩
    go_wp2
    go_ret
    exact ⟨rfl, B1.out⟩
  · rw [hf] at HF1
    rw [hg] at HF2
    clear hf hg
    go_enter Try.func4, Try.ntmps4
    go_wp2_with fail
    refine (awake07 _).mono ?_; rintro e w1 ⟨rfl, k1⟩
    have H1' := Lib.hid (H1.out.keep k1); have H2' := Lib.hid (H2.out.keep k1); have B1 := Lib.hid k1
    clear k1 H1 H2
    go_wp2_with fail
    refine Calls.mono (HF1.out _ H1'.out) ?_; rintro e w' ⟨rfl, rfl⟩
    go_wp2_with fail
    refine Calls.mono (HF2.out _ H2'.out) ?_; rintro e w' ⟨rfl, rfl⟩
    go_wp2
    go_ret
    exact ⟨rfl, B1.out⟩
theorem GridRanks_any (x : UInt8) (p1 : Option Addr) (m1 c1 : Nat) (xss : List (List UInt8)) (y : UInt8) (p2 : Option Addr) (m2 c2 : Nat) (yss : List (List UInt8)) (w : World) (h1 : Sl2 w p1 m1 c1 xss) (h2 : Sl2 w p2 m2 c2 yss) :
    Calls Try.prog 4 #[B8 x, .slice p1 m1 c1, B8 y, .slice p2 m2 c2] w fun e w' => e = .returned (.bool true) ∧ Below w.heap.size w w' := by
  cases hf1 : (xss.all (fun y => decide (y.length ≤ 30)) && decide (m1 ≤ 30)) with
  | false => exact GK_skip x y p1 p2 m1 c1 m2 c2 xss yss w h1 h2 (.inl hf1)
  | true =>
    cases hf2 : (yss.all (fun y => decide (y.length ≤ 30)) && decide (m2 ≤ 30)) with
    | false => exact GK_skip x y p1 p2 m1 c1 m2 c2 xss yss w h1 h2 (.inr ⟨hf1, hf2⟩)
    | true =>
      rw [Bool.and_eq_true] at hf1 hf2
      have hm1 : m1 ≤ 30 := of_decide_eq_true hf1.2
      have hm2 : m2 ≤ 30 := of_decide_eq_true hf2.2
      have e1 : (xss.map (fitR (x.toNat % 31))).length = m1 := by rw [List.length_map]; exact h1.len
      have e2 : (yss.map (fitR (y.toNat % 31))).length = m2 := by rw [List.length_map]; exact h2.len
      have M1 : ∀ W, Sl2 W p1 m1 c1 xss → Calls Try.prog 19 #[B8 x, .slice p1 m1 c1] W (RetM W m1 (x.toNat % 31) (xss.map (fitR (x.toNat % 31)))) := fun W h => Made_any x p1 m1 c1 xss W h hm1
      have M2 : ∀ W, Sl2 W p2 m2 c2 yss → Calls Try.prog 19 #[B8 y, .slice p2 m2 c2] W (RetM W m2 (y.toNat % 31) (yss.map (fitR (y.toNat % 31)))) := fun W h => Made_any y p2 m2 c2 yss W h hm2
      have b1 : x.toNat % 31 ≤ 30 := by omega
      have b2 : y.toNat % 31 ≤ 30 := by omega
      have fl1 := fit_len (wd := x.toNat % 31) (xss := xss)
      have fl2 := fit_len (wd := y.toNat % 31) (xss := yss)
      by_cases hmul : x.toNat % 31 = m2
      · exact GK_ok x y _ _ p1 p2 m1 c1 m2 c2 xss yss _ _ w h1 h2 hf1.1 hm1 hf2.1 hm2 M1 M2 b1 b2 fl1 e1 fl2 e2 hmul
      · exact GK_size x y _ _ p1 p2 m1 c1 m2 c2 xss yss _ _ w h1 h2 hf1.1 hm1 hf2.1 hm2 M1 M2 b1 b2 fl1 e1 fl2 e2 hmul
end Go.Proofs.Ytofhdakggapahaa
namespace Go.By
open Go.RowKit
theorem byte_of_wf {a : Int} (h : (Lit.int .u8 a).wf = true) : ∃ x : UInt8, Value.int .u8 a = B8 x ∧ a = (x.toNat : Int) := by
  have hb := bounds_u8 h
  have e : a = ((UInt8.ofNat a.toNat).toNat : Int) := by simp; omega
  exact ⟨UInt8.ofNat a.toNat, B8_congr e, e⟩
theorem sl_of_row {w : World} {a : Option Addr} {len cap : Nat} {zs : List Int}
    (h : (a = none ∧ len = 0 ∧ cap = 0 ∧ zs = []) ∨ ∃ x, a = some x ∧ len ≤ cap ∧ cap ≤ maxLen ∧ zs.length = cap ∧ (∀ i, i < zs.length → w.cell? (x.add i) = some (.int .u8 (zs.getD i 0))) ∧ ∀ n ∈ zs, (Lit.int .u8 n).wf = true) :
    ∃ xs, Sl B8 w a len cap xs := by
  rcases h with ⟨rfl, rfl, rfl, _⟩ | ⟨x, rfl, hl, hm, hz, hc, hw⟩
  · exact ⟨[], Sl.nil0 _ _⟩
  · refine ⟨(zs.take len).map fun z => UInt8.ofNat z.toNat, ⟨by simp; omega, hl, hm, fun h => by simp at h, ?_⟩⟩
    intro i hi
    have hi' : i < zs.length := by simp at hi; omega
    obtain ⟨b, o, hx, hc'⟩ := ints_at hc (by omega)
    refine ⟨b, o, by rw [hx], ?_⟩
    have hh := hc i hi'
    rw [hx, Addr.add_lit] at hh
    rw [hh]
    have e : zs.getD i 0 = zs[i] := by simp [hi']
    rw [e]
    have hb := bounds_u8 (hw _ (List.getElem_mem hi'))
    simp
    omega
end Go.By
namespace Go.By
open Go.RowKit
theorem spot_none {w : World} {x : Addr} {v : Value} (h : w.cell? (x.add 0) = some v) : ∃ b o, x = ⟨b, o, none⟩ := by
  obtain ⟨b, off, spot⟩ := x
  have hspot : spot = none := by simpa [Addr.add] using World.cell?_spot h
  subst hspot
  exact ⟨b, off, rfl⟩
theorem sl2_of_rows {w : World} {a : Option Addr} {len cap : Nat} (hl : len ≤ cap) (hm : cap ≤ maxLen) (hn : a = none → len = 0 ∧ cap = 0) (A : Nat → Option Addr) (L C : Nat → Nat) (Z : Nat → List Int)
    (h : ∀ x, a = some x → ∀ r, r < cap → w.cell? (x.add r) = some (.slice (A r) (L r) (C r)) ∧ L r ≤ C r ∧ C r ≤ maxLen ∧ (Z r).length = C r ∧ (∀ n ∈ Z r, (Lit.int .u8 n).wf = true) ∧ (A r = none → C r = 0) ∧
        ∀ a', A r = some a' → ∀ c, c < C r → w.cell? (a'.add c) = some (.int .u8 ((Z r).getD c 0))) : ∃ xss, Sl2 w a len cap xss := by
  have each : ∀ r, ∃ xs, r < len → Sl B8 w (A r) (L r) (C r) xs := by
    intro r
    by_cases hr : r < len
    · cases ha : a with
      | none => have := hn ha; omega
      | some x =>
        obtain ⟨_, h1, h2, h3, h4, h5, h6⟩ := h x ha r (by omega)
        cases hA : A r with
        | none =>
          have := h5 hA
          have hL : L r = 0 := by omega
          exact ⟨[], fun _ => by rw [hL, this]; exact Sl.nil0 _ _⟩
        | some a' =>
          obtain ⟨xs, hx⟩ := sl_of_row (w := w) (a := some a') (len := L r) (cap := C r) (zs := Z r) (.inr ⟨a', rfl, h1, h2, h3, fun i hi => h6 a' hA i (by omega), h4⟩)
          exact ⟨xs, fun _ => hx⟩
    · exact ⟨[], fun h => absurd h hr⟩
  refine ⟨(List.range len).map fun r => Classical.choose (each r), ⟨by simp, hl, hm, hn, ?_⟩⟩
  intro i xs hi
  obtain ⟨hi', e⟩ := List.getElem?_eq_some_iff.1 hi
  simp at hi' e
  have hs := Classical.choose_spec (each i) hi'
  rw [e] at hs
  cases ha : a with
  | none => have := hn ha; omega
  | some x =>
    obtain ⟨hc, _⟩ := h x ha i (by omega)
    obtain ⟨b, o, rfl⟩ := spot_none (h x ha 0 (by omega)).1
    rw [Addr.add_lit] at hc
    exact ⟨b, o, A i, C i, rfl, by rw [hs.len]; exact hc, by rw [hs.len]; exact hs⟩
end Go.By
