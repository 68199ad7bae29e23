/- What the laws of grids carry along from call to call. GridReckons: the walk. GridReckons: the walk, whole. Arguments that came in, as bytes and slices of bytes. Arguments that came in: slices of byte slices. -/
import Derived.Test.YtofhdakggapahaaZr6
import Derived.OpenShut
import Derived.Deep.Matrix
namespace Go.Proofs.Ytofhdakggapahaa
open Go.RowKit Go.By
structure GSt (w : World) (b9 b12 m1 wd m2 vd : Nat) (qg ql qo qk : Option Addr) (ng cg cl no co ck : Nat) (L K : List (List UInt8)) (W : World) : Prop where
  bel : Below w.heap.size w W
  sg : Sl B8 W qg ng cg L.flatten
  rl : Sl2 W ql m1 cl L
  so : Sl B8 W qo no co K.flatten
  rk : Sl2 W qk m2 ck K
  xg : W.heap[b9]? = some (.cells #[.int .i64 m1, .int .i64 wd, .slice qg ng cg] 27 (0, 0))
  xo : W.heap[b12]? = some (.cells #[.int .i64 m2, .int .i64 vd, .slice qo no co] 27 (0, 0))
theorem GSt.keep {w W W' : World} {b9 b12 m1 wd m2 vd : Nat} {qg ql qo qk : Option Addr} {ng cg cl no co ck : Nat} {L K : List (List UInt8)} (h : GSt w b9 b12 m1 wd m2 vd qg ql qo qk ng cg cl no co ck L K W) (hb : Below W.heap.size W W') : GSt w b9 b12 m1 wd m2 vd qg ql qo qk ng cg cl no co ck L K W' :=
  ⟨bl h.bel hb h.bel.size, h.sg.keep hb, h.rl.keep hb, h.so.keep hb, h.rk.keep hb, (hb.block _ (blk_lt h.xg)).trans h.xg, (hb.block _ (blk_lt h.xo)).trans h.xo⟩
theorem fit_len {wd : Nat} {xss : List (List UInt8)} : ∀ x, x ∈ xss.map (fitR wd) → x.length = wd := fun x hx => by
  obtain ⟨r, _, rfl⟩ := List.mem_map.1 hx
  exact fitR_len wd r
/-- the contracts of a grid that holds these rows -/
theorem GRank_rows {m wd : Nat} {L : List (List UInt8)} (hL : ∀ x, x ∈ L → x.length = wd) (hm : L.length = m) (h1 : m ≤ 4096) (h2 : wd ≤ 4096) (q : Option Addr) (n c : Nat) (W : World) (hn : n = m * wd) (h : Sl B8 W q n c L.flatten) :
    Calls Try.prog 20 #[.agg #[.int .i64 m, .int .i64 wd, .slice q n c]] W fun e w' => e = .returned (.int .i64 (iK L).length) ∧ Below W.heap.size W w' := by
  have := Rank_any m wd q n c L.flatten W h hn (by unfold Room; omega) (by omega)
  rwa [kF_rank hL hm] at this
theorem GRows_rows {m wd : Nat} {L : List (List UInt8)} (hL : ∀ x, x ∈ L → x.length = wd) (hm : L.length = m) (h1 : m ≤ 4096) (h2 : wd ≤ 4096) (q : Option Addr) (n c : Nat) (W : World) (hn : n = m * wd) (h : Sl B8 W q n c L.flatten) :
    Calls Try.prog 17 #[.agg #[.int .i64 m, .int .i64 wd, .slice q n c]] W fun e w' => ∃ q c', e = .returned (.slice q m c') ∧ Own2 25 5 w' W.heap.size (.slice q m c') m L ∧ Below W.heap.size W w' := by
  have := GRows_any m wd q n c L.flatten W h hn (by unfold Room; omega) (by unfold Room; omega)
  rwa [rows_at hL hm] at this
theorem turnX_len {wd m : Nat} {L : List (List UInt8)} (hm : L.length = m) : ∀ x, x ∈ turnX wd L → x.length = m := fun x hx => by
  obtain ⟨b, _, rfl⟩ := List.mem_map.1 hx
  rw [List.length_map, hm]
theorem turnX_length (wd : Nat) (L : List (List UInt8)) : (turnX wd L).length = wd := by simp [turnX]
theorem GTurned_rows {m wd : Nat} {L : List (List UInt8)} (hL : ∀ x, x ∈ L → x.length = wd) (hm : L.length = m) (h1 : m ≤ 4096) (h2 : wd ≤ 4096) (q : Option Addr) (n c : Nat) (W : World) (hn : n = m * wd) (h : Sl B8 W q n c L.flatten) :
    Calls Try.prog 21 #[.agg #[.int .i64 m, .int .i64 wd, .slice q n c]] W (RetG 5 W wd m (turnX wd L).flatten) := by
  have hwm : wd * m ≤ 4096 * 4096 := Nat.mul_le_mul h2 h1
  refine (Turned_any m wd q n c L.flatten W h hn (by unfold Room; omega) (by omega) (by omega)).mono ?_
  rintro e w' ⟨C, hT, hR⟩
  have hr := hT.rows
  rw [turn_eq hL hm] at hr
  have hC : C = (turnX wd L).flatten := by rw [← hr]; exact (flat_rows wd hT.len).symm
  rw [← hC]; exact hR
theorem GMul_rows {m k v : Nat} {L K : List (List UInt8)} (hL : ∀ x, x ∈ L → x.length = k) (hm : L.length = m) (hK : ∀ x, x ∈ K → x.length = v) (hk : K.length = k) (b1 : m ≤ 256) (b2 : k ≤ 256) (b3 : v ≤ 256) (p1 p2 : Option Addr) (n1 c1 n2 c2 : Nat) (W : World) (e1 : n1 = m * k) (e2 : n2 = k * v) (s1 : Sl B8 W p1 n1 c1 L.flatten) (s2 : Sl B8 W p2 n2 c2 K.flatten) :
    Calls Try.prog 22 #[.agg #[.int .i64 m, .int .i64 k, .slice p1 n1 c1], .agg #[.int .i64 k, .int .i64 v, .slice p2 n2 c2]] W (RetG2 5 W m v (L.map (mulR v K)).flatten 0) := by
  have : m * v ≤ 256 * 256 := Nat.mul_le_mul b1 b3
  exact GMul_any m k v p1 p2 n1 c1 n2 c2 L.flatten K.flatten L K W s1 s2 e1 e2 (rows_at hL hm) (rows_at hK hk) (by omega) (by omega) (by omega) (by omega)
/-- what Inverse gives, as rows -/
def RetJ (w : World) (n : Nat) (L : List (List UInt8)) (e : Ending) (w' : World) : Prop :=
  (∃ F : Nat → Rw, GJ n (sqR n L.flatten) F n ∧ (iK L).length = n ∧ RetG2 5 w n n (rowsD n F).flatten 0 e w') ∨ ((iK L).length < n ∧ RetG2 5 w 0 0 [] 19 e w')
theorem GInv_rows {n : Nat} {L : List (List UInt8)} (hL : ∀ x, x ∈ L → x.length = n) (hm : L.length = n) (hb : n ≤ 256) (q : Option Addr) (N c : Nat) (W : World) (hn : N = n * n) (h : Sl B8 W q N c L.flatten) :
    Calls Try.prog 24 #[.agg #[.int .i64 n, .int .i64 n, .slice q N c]] W (RetJ W n L) := by
  refine (Inverse_any n q N c L.flatten W h hn hb).mono ?_
  rintro e w' ⟨F, ⟨g, hR⟩ | ⟨cc, hc, g, hz, hR⟩⟩
  · exact .inl ⟨F, g, inv_rank_full hL hm g, hR⟩
  · exact .inr ⟨inv_rank_less hL hm hc g hz, hR⟩
end Go.Proofs.Ytofhdakggapahaa
namespace Go.Proofs.Ytofhdakggapahaa
open Go.RowKit Go.By
set_option maxRecDepth 100000 in
set_option maxHeartbeats 8000000 in
theorem GR_sizeSize (x y : UInt8) (wd vd : Nat) (p1 p2 : Option Addr) (m1 c1 m2 c2 : Nat) (xss yss L K : List (List UInt8)) (w : World) (h1 : Sl2 w p1 m1 c1 xss) (h2 : Sl2 w p2 m2 c2 yss)
    (hf1 : xss.all (fun y => decide (y.length ≤ 30)) = true) (hm1 : m1 ≤ 30) (hf2 : yss.all (fun y => decide (y.length ≤ 30)) = true) (hm2 : m2 ≤ 30)
    (hM1 : ∀ W, Sl2 W p1 m1 c1 xss → Calls Try.prog 19 #[B8 x, .slice p1 m1 c1] W (RetM W m1 wd L)) (hM2 : ∀ W, Sl2 W p2 m2 c2 yss → Calls Try.prog 19 #[B8 y, .slice p2 m2 c2] W (RetM W m2 vd K))
    (hwd : wd ≤ 30) (hvd : vd ≤ 30) (hL : ∀ x, x ∈ L → x.length = wd) (hLm : L.length = m1) (hK : ∀ x, x ∈ K → x.length = vd) (hKm : K.length = m2) (hmul : wd ≠ m2) (hinv : m1 ≠ wd) :
    Calls Try.prog 5 #[B8 x, .slice p1 m1 c1, B8 y, .slice p2 m2 c2] w fun e w' => e = .returned (.bool true) ∧ Below w.heap.size w w' := by
  have HF1 : Hid (∀ W, Sl2 W p1 m1 c1 xss → Calls Try.prog 10 #[.slice p1 m1 c1] W fun e w' => e = .returned (.bool true) ∧ W = w') := fun W h => by
    have := Few7_any p1 m1 c1 xss W h
    rw [hf1, decide_eq_true hm1] at this; exact this
  have HF2 : Hid (∀ W, Sl2 W p2 m2 c2 yss → Calls Try.prog 10 #[.slice p2 m2 c2] W fun e w' => e = .returned (.bool true) ∧ W = w') := fun W h => by
    have := Few7_any p2 m2 c2 yss W h
    rw [hf2, decide_eq_true hm2] at this; exact this
  have HM1 := Lib.hid hM1; have HM2 := Lib.hid hM2; have H1_0 := Lib.hid h1; have H2_0 := Lib.hid h2; have HLL := Lib.hid hL; have HKK := Lib.hid hK
  have hR : Hid (∀ W q c, Sl2 W q m1 c L → Calls Try.prog 25 #[.slice q m1 c] W fun e w' => e = .returned (.int .i64 (iK L).length) ∧ Below W.heap.size W w') := fun W q c h => RRank_any wd q m1 c L W h hL (by unfold Room; omega) (by omega)
  have hG : Hid (∀ W q n c, n = m1 * wd → Sl B8 W q n c L.flatten → Calls Try.prog 20 #[.agg #[.int .i64 m1, .int .i64 wd, .slice q n c]] W fun e w' => e = .returned (.int .i64 (iK L).length) ∧ Below W.heap.size W w') := fun W q n c hn h => GRank_rows hL hLm (by omega) (by omega) q n c W hn h
  have hT : Hid (∀ W q n c, n = m1 * wd → Sl B8 W q n c L.flatten → Calls Try.prog 21 #[.agg #[.int .i64 m1, .int .i64 wd, .slice q n c]] W (RetG 5 W wd m1 (turnX wd L).flatten)) := fun W q n c hn h => GTurned_rows hL hLm (by omega) (by omega) q n c W hn h
  have hTR : Hid (∀ W q n c, n = wd * m1 → Sl B8 W q n c (turnX wd L).flatten → Calls Try.prog 17 #[.agg #[.int .i64 wd, .int .i64 m1, .slice q n c]] W fun e w' => ∃ q c', e = .returned (.slice q wd c') ∧ Own2 25 5 w' W.heap.size (.slice q wd c') wd (turnX wd L) ∧ Below W.heap.size W w') := fun W q n c hn h => GRows_rows (turnX_len hLm) (turnX_length wd L) (by omega) (by omega) q n c W hn h
  have hRT : Hid (∀ W q c, Sl2 W q m1 c L → Calls Try.prog 26 #[.slice q m1 c, .int .i64 wd] W fun e w' => ∃ q c', e = .returned (.slice q wd c') ∧ Own2 25 5 w' W.heap.size (.slice q wd c') wd (turnX wd L) ∧ Below W.heap.size W w') := fun W q c h => RTurned_any wd q m1 c L W h (fun x hx => Nat.le_of_eq (hL x hx).symm) (by omega) (by omega)
  have hmd : ((wd : Int) != (m2 : Int)) = true := by simp; omega
  have hid : ((wd : Int) != (m1 : Int)) = true := by simp; omega
  clear h1 h2 hM1 hM2 hf1 hf2 hL hK hLm hKm
  generalize hr : (iK L).length = r at *
  generalize turnX wd L = X at *
  go_enter Try.func5, Try.ntmps5
  go_wp2_with fail
  refine (awake07 _).mono ?_; rintro e w1 ⟨rfl, hb⟩
  have B_1 := Lib.hid hb
  have H1_1 := Lib.hid (H1_0.out.keep hb); have H2_1 := Lib.hid (H2_0.out.keep hb)
  clear hb H1_0 H2_0
  go_wp2_with fail
  refine Calls.mono (HF1.out _ H1_1.out) ?_
  rintro e w' ⟨rfl, rfl⟩
  go_wp2_with fail
  refine Calls.mono (HF2.out _ H2_1.out) ?_
  rintro e w' ⟨rfl, rfl⟩
  go_wp2_with fail
  refine Calls.mono (HM1.out _ H1_1.out) ?_
  rintro e w2 ⟨qg, ng, cg, ql, cl, hng, rfl, og, ol, hb⟩
  have B_2 := Lib.hid (bl B_1.out hb B_1.out.size)
  have H1_2 := Lib.hid (H1_1.out.keep hb)
  have H2_2 := Lib.hid (H2_1.out.keep hb)
  clear hb B_1 H1_1 H2_1
  have SG_2 := Lib.hid (Sl.of_owns og); have RL_2 := Lib.hid ol.sl2; have HNG := Lib.hid hng
  clear og ol hng H1_2
  go_wp2_with fail
  refine use_w (fun W => Below w2.heap.size w2 W ∧ W.heap[w2.heap.size]? = some (.cells #[.int .i64 m1, .int .i64 wd, .slice qg ng cg] 27 (0, 0))) ⟨al (Below.refl _ _) (Nat.le_refl _), hnew rfl⟩ ?_
  rintro w3 ⟨hb, hx⟩
  have XG_3 := Lib.hid hx
  clear hx
  have B_3 := Lib.hid (bl B_2.out hb B_2.out.size)
  have H2_3 := Lib.hid (H2_2.out.keep hb)
  have SG_3 := Lib.hid (SG_2.out.keep hb)
  have RL_3 := Lib.hid (RL_2.out.keep hb)
  clear hb B_2 H2_2 SG_2 RL_2
  refine Calls.mono (HM2.out _ H2_3.out) ?_
  rintro e w4 ⟨qo, no, co, qk, ck, hno, rfl, oo, ok, hb⟩
  have B_4 := Lib.hid (bl B_3.out hb B_3.out.size)
  have H2_4 := Lib.hid (H2_3.out.keep hb)
  have SG_4 := Lib.hid (SG_3.out.keep hb)
  have RL_4 := Lib.hid (RL_3.out.keep hb)
  have XG_4 := Lib.hid ((hb.block _ (blk_lt XG_3.out)).trans XG_3.out)
  clear hb B_3 H2_3 SG_3 RL_3 XG_3
  have SO_4 := Lib.hid (Sl.of_owns oo); have RK_4 := Lib.hid ok.sl2; have HNO := Lib.hid hno
  clear oo ok hno H2_4
  obtain ⟨h30, h31, h32⟩ := cells3 XG_4.out
  go_wp2_with fail
  refine use_w (fun W => Below w4.heap.size w4 W ∧ W.heap[w4.heap.size]? = some (.cells #[.int .i64 m2, .int .i64 vd, .slice qo no co] 27 (0, 0))) ⟨al (Below.refl _ _) (Nat.le_refl _), hnew rfl⟩ ?_
  rintro w5 ⟨hb, hx⟩
  have XO_5 := Lib.hid hx
  clear hx
  have B_5 := Lib.hid (bl B_4.out hb B_4.out.size)
  have SG_5 := Lib.hid (SG_4.out.keep hb)
  have RL_5 := Lib.hid (RL_4.out.keep hb)
  have XG_5 := Lib.hid ((hb.block _ (blk_lt XG_4.out)).trans XG_4.out)
  have SO_5 := Lib.hid (SO_4.out.keep hb)
  have RK_5 := Lib.hid (RK_4.out.keep hb)
  clear hb B_4 SG_4 RL_4 XG_4 SO_4 RK_4 h30 h31 h32
  have T_5 := Lib.hid (GSt.mk (w := w) B_5.out SG_5.out RL_5.out SO_5.out RK_5.out XG_5.out XO_5.out)
  clear B_5 SG_5 RL_5 SO_5 RK_5 XG_5 XO_5
  refine Calls.mono (hR.out _ _ _ T_5.out.rl) ?_
  rintro e w6 ⟨rfl, hb⟩
  have T_6 := Lib.hid (T_5.out.keep hb)
  clear hb T_5
  obtain ⟨f0, f1, f2⟩ := cells3 T_6.out.xg
  obtain ⟨g0, g1, g2⟩ := cells3 T_6.out.xo
  go_wp2_with fail
  refine Calls.mono (hG.out _ _ _ _ HNG.out T_6.out.sg) ?_
  rintro e w7 ⟨rfl, hb⟩
  have T_7 := Lib.hid (T_6.out.keep hb)
  clear hb T_6 f0 f1 f2 g0 g1 g2
  obtain ⟨f0, f1, f2⟩ := cells3 T_7.out.xg
  obtain ⟨g0, g1, g2⟩ := cells3 T_7.out.xo
  go_wp2_with fail
  refine Calls.mono (hT.out _ _ _ _ HNG.out T_7.out.sg) ?_
  rintro e w8 ⟨q5, n5, c5, hn5, rfl, o5, hb⟩
  have T_8 := Lib.hid (T_7.out.keep hb)
  clear hb T_7 f0 f1 f2 g0 g1 g2
  have S5_8 := Lib.hid (Sl.of_owns o5); have HN5 := Lib.hid hn5
  clear o5 hn5
  obtain ⟨f0, f1, f2⟩ := cells3 T_8.out.xg
  obtain ⟨g0, g1, g2⟩ := cells3 T_8.out.xo
  go_wp2_with fail
  refine Calls.mono (hTR.out _ _ _ _ HN5.out S5_8.out) ?_
  rintro e w9 ⟨q6, c6, rfl, o6, hb⟩
  have T_9 := Lib.hid (T_8.out.keep hb)
  have S5_9 := Lib.hid (S5_8.out.keep hb)
  clear hb T_8 S5_8 f0 f1 f2 g0 g1 g2
  have S6_9 := Lib.hid o6.sl2
  clear o6 S5_9
  obtain ⟨f0, f1, f2⟩ := cells3 T_9.out.xg
  obtain ⟨g0, g1, g2⟩ := cells3 T_9.out.xo
  go_wp2_with fail
  refine Calls.mono (hRT.out _ _ _ T_9.out.rl) ?_
  rintro e w10 ⟨q7, c7, rfl, o7, hb⟩
  have T_10 := Lib.hid (T_9.out.keep hb)
  have S6_10 := Lib.hid (S6_9.out.keep hb)
  clear hb T_9 S6_9 f0 f1 f2 g0 g1 g2
  have S7_10 := Lib.hid o7.sl2
  clear o7
  obtain ⟨f0, f1, f2⟩ := cells3 T_10.out.xg
  obtain ⟨g0, g1, g2⟩ := cells3 T_10.out.xo
  go_wp2_with fail
  refine Calls.mono (Same7_any _ _ _ _ _ _ X X _ S6_10.out S7_10.out) ?_
  rintro e w11 ⟨rfl, hb⟩
  have T_11 := Lib.hid (T_10.out.keep hb)
  have S6_11 := Lib.hid (S6_10.out.keep hb)
  have S7_11 := Lib.hid (S7_10.out.keep hb)
  clear hb T_10 S6_10 S7_10 f0 f1 f2 g0 g1 g2
  rw [decide_eq_true rfl]
  clear S6_11 S7_11 HN5
  obtain ⟨f0, f1, f2⟩ := cells3 T_11.out.xg
  obtain ⟨g0, g1, g2⟩ := cells3 T_11.out.xo
  go_wp2_with fail
  refine Calls.mono (hT.out _ _ _ _ HNG.out T_11.out.sg) ?_
  rintro e w12 ⟨q5, n5, c5, hn5, rfl, o5, hb⟩
  have T_12 := Lib.hid (T_11.out.keep hb)
  clear hb T_11 f0 f1 f2 g0 g1 g2
  clear o5 hn5
  obtain ⟨f0, f1, f2⟩ := cells3 T_12.out.xg
  obtain ⟨g0, g1, g2⟩ := cells3 T_12.out.xo
  go_wp2_with fail
  refine Calls.mono (Width_any wd m1 _ _) ?_
  rintro e w13 ⟨rfl, hb⟩
  have T_13 := Lib.hid (T_12.out.keep hb)
  clear hb T_12 f0 f1 f2 g0 g1 g2
  obtain ⟨f0, f1, f2⟩ := cells3 T_13.out.xg
  obtain ⟨g0, g1, g2⟩ := cells3 T_13.out.xo
  go_wp2_with fail
  refine Calls.mono (hT.out _ _ _ _ HNG.out T_13.out.sg) ?_
  rintro e w14 ⟨q5, n5, c5, hn5, rfl, o5, hb⟩
  have T_14 := Lib.hid (T_13.out.keep hb)
  clear hb T_13 f0 f1 f2 g0 g1 g2
  clear o5 hn5
  obtain ⟨f0, f1, f2⟩ := cells3 T_14.out.xg
  obtain ⟨g0, g1, g2⟩ := cells3 T_14.out.xo
  go_wp2_with fail
  refine Calls.mono (Height_any wd m1 _ _) ?_
  rintro e w15 ⟨rfl, hb⟩
  have T_15 := Lib.hid (T_14.out.keep hb)
  clear hb T_14 f0 f1 f2 g0 g1 g2
  obtain ⟨f0, f1, f2⟩ := cells3 T_15.out.xg
  obtain ⟨g0, g1, g2⟩ := cells3 T_15.out.xo
  go_wp2_with fail
  refine Calls.mono (GMul_size m1 wd m2 vd qg qo ng cg no co _ hmul) ?_
  rintro e w16 ⟨q8, n8, c8, hn8, rfl, o8, hb⟩
  have T_16 := Lib.hid (T_15.out.keep hb)
  clear hb T_15 f0 f1 f2 g0 g1 g2
  clear o8 hn8
  obtain ⟨f0, f1, f2⟩ := cells3 T_16.out.xg
  obtain ⟨g0, g1, g2⟩ := cells3 T_16.out.xo
  go_wp2_with fail
  refine use_w (fun W => Below w16.heap.size w16 W ∧ W.heap[w16.heap.size]? = some (.cells #[.int .i64 ((0 : Nat) : Int), .int .i64 ((0 : Nat) : Int), .slice q8 n8 c8] 27 (0, 0))) ⟨al (Below.refl _ _) (Nat.le_refl _), hnew rfl⟩ ?_
  rintro w17 ⟨hb, hx⟩
  have XP_17 := Lib.hid hx
  clear hx
  have T_17 := Lib.hid (T_16.out.keep hb)
  clear hb T_16 f0 f1 f2 g0 g1 g2
  refine Calls.mono (Height_any 0 0 _ _) ?_
  rintro e w18 ⟨rfl, hb⟩
  have T_18 := Lib.hid (T_17.out.keep hb)
  have XP_18 := Lib.hid ((hb.block _ (blk_lt XP_17.out)).trans XP_17.out)
  clear hb T_17 XP_17
  obtain ⟨f0, f1, f2⟩ := cells3 T_18.out.xg
  obtain ⟨g0, g1, g2⟩ := cells3 T_18.out.xo
  obtain ⟨h00, h01, h02⟩ := cells3 XP_18.out
  go_wp2_with fail
  refine Calls.mono (Inverse_size m1 wd _ _ _ _ hinv) ?_
  rintro e w19 ⟨q9, n9, c9, hn9, rfl, o9, hb⟩
  have T_19 := Lib.hid (T_18.out.keep hb)
  have XP_19 := Lib.hid ((hb.block _ (blk_lt XP_18.out)).trans XP_18.out)
  clear hb T_18 XP_18 f0 f1 f2 g0 g1 g2 h00 h01 h02
  clear o9 hn9
  obtain ⟨f0, f1, f2⟩ := cells3 T_19.out.xg
  obtain ⟨g0, g1, g2⟩ := cells3 T_19.out.xo
  obtain ⟨h00, h01, h02⟩ := cells3 XP_19.out
  go_wp2_with fail
  refine use_w (fun W => Below w19.heap.size w19 W ∧ W.heap[w19.heap.size]? = some (.cells #[.int .i64 ((0 : Nat) : Int), .int .i64 ((0 : Nat) : Int), .slice q9 n9 c9] 27 (0, 0))) ⟨al (Below.refl _ _) (Nat.le_refl _), hnew rfl⟩ ?_
  rintro w20 ⟨hb, hx⟩
  have XQ_20 := Lib.hid hx
  clear hx
  have T_20 := Lib.hid (T_19.out.keep hb)
  have XP_20 := Lib.hid ((hb.block _ (blk_lt XP_19.out)).trans XP_19.out)
  clear hb T_19 XP_19 f0 f1 f2 g0 g1 g2 h00 h01 h02
  refine Calls.mono (Height_any 0 0 _ _) ?_
  rintro e w21 ⟨rfl, hb⟩
  have T_21 := Lib.hid (T_20.out.keep hb)
  have XP_21 := Lib.hid ((hb.block _ (blk_lt XP_20.out)).trans XP_20.out)
  have XQ_21 := Lib.hid ((hb.block _ (blk_lt XQ_20.out)).trans XQ_20.out)
  clear hb T_20 XP_20 XQ_20
  go_wp2
  go_ret
  exact ⟨rfl, T_21.out.bel⟩
set_option maxRecDepth 100000 in
set_option maxHeartbeats 8000000 in
theorem GR_sizeLess (x y : UInt8) (wd vd : Nat) (p1 p2 : Option Addr) (m1 c1 m2 c2 : Nat) (xss yss L K : List (List UInt8)) (w : World) (h1 : Sl2 w p1 m1 c1 xss) (h2 : Sl2 w p2 m2 c2 yss)
    (hf1 : xss.all (fun y => decide (y.length ≤ 30)) = true) (hm1 : m1 ≤ 30) (hf2 : yss.all (fun y => decide (y.length ≤ 30)) = true) (hm2 : m2 ≤ 30)
    (hM1 : ∀ W, Sl2 W p1 m1 c1 xss → Calls Try.prog 19 #[B8 x, .slice p1 m1 c1] W (RetM W m1 wd L)) (hM2 : ∀ W, Sl2 W p2 m2 c2 yss → Calls Try.prog 19 #[B8 y, .slice p2 m2 c2] W (RetM W m2 vd K))
    (hwd : wd ≤ 30) (hvd : vd ≤ 30) (hL : ∀ x, x ∈ L → x.length = wd) (hLm : L.length = m1) (hK : ∀ x, x ∈ K → x.length = vd) (hKm : K.length = m2) (hmul : wd ≠ m2) (hinv : m1 = wd) (hrk : (iK L).length < wd) :
    Calls Try.prog 5 #[B8 x, .slice p1 m1 c1, B8 y, .slice p2 m2 c2] w fun e w' => e = .returned (.bool true) ∧ Below w.heap.size w w' := by
  have HF1 : Hid (∀ W, Sl2 W p1 m1 c1 xss → Calls Try.prog 10 #[.slice p1 m1 c1] W fun e w' => e = .returned (.bool true) ∧ W = w') := fun W h => by
    have := Few7_any p1 m1 c1 xss W h
    rw [hf1, decide_eq_true hm1] at this; exact this
  have HF2 : Hid (∀ W, Sl2 W p2 m2 c2 yss → Calls Try.prog 10 #[.slice p2 m2 c2] W fun e w' => e = .returned (.bool true) ∧ W = w') := fun W h => by
    have := Few7_any p2 m2 c2 yss W h
    rw [hf2, decide_eq_true hm2] at this; exact this
  have HM1 := Lib.hid hM1; have HM2 := Lib.hid hM2; have H1_0 := Lib.hid h1; have H2_0 := Lib.hid h2; have HLL := Lib.hid hL; have HKK := Lib.hid hK
  have hR : Hid (∀ W q c, Sl2 W q m1 c L → Calls Try.prog 25 #[.slice q m1 c] W fun e w' => e = .returned (.int .i64 (iK L).length) ∧ Below W.heap.size W w') := fun W q c h => RRank_any wd q m1 c L W h hL (by unfold Room; omega) (by omega)
  have hG : Hid (∀ W q n c, n = m1 * wd → Sl B8 W q n c L.flatten → Calls Try.prog 20 #[.agg #[.int .i64 m1, .int .i64 wd, .slice q n c]] W fun e w' => e = .returned (.int .i64 (iK L).length) ∧ Below W.heap.size W w') := fun W q n c hn h => GRank_rows hL hLm (by omega) (by omega) q n c W hn h
  have hT : Hid (∀ W q n c, n = m1 * wd → Sl B8 W q n c L.flatten → Calls Try.prog 21 #[.agg #[.int .i64 m1, .int .i64 wd, .slice q n c]] W (RetG 5 W wd m1 (turnX wd L).flatten)) := fun W q n c hn h => GTurned_rows hL hLm (by omega) (by omega) q n c W hn h
  have hTR : Hid (∀ W q n c, n = wd * m1 → Sl B8 W q n c (turnX wd L).flatten → Calls Try.prog 17 #[.agg #[.int .i64 wd, .int .i64 m1, .slice q n c]] W fun e w' => ∃ q c', e = .returned (.slice q wd c') ∧ Own2 25 5 w' W.heap.size (.slice q wd c') wd (turnX wd L) ∧ Below W.heap.size W w') := fun W q n c hn h => GRows_rows (turnX_len hLm) (turnX_length wd L) (by omega) (by omega) q n c W hn h
  have hRT : Hid (∀ W q c, Sl2 W q m1 c L → Calls Try.prog 26 #[.slice q m1 c, .int .i64 wd] W fun e w' => ∃ q c', e = .returned (.slice q wd c') ∧ Own2 25 5 w' W.heap.size (.slice q wd c') wd (turnX wd L) ∧ Below W.heap.size W w') := fun W q c h => RTurned_any wd q m1 c L W h (fun x hx => Nat.le_of_eq (hL x hx).symm) (by omega) (by omega)
  have hmd : ((wd : Int) != (m2 : Int)) = true := by simp; omega
  subst hinv
  have HIN : Hid (∀ W q n c, n = m1 * m1 → Sl B8 W q n c L.flatten → Calls Try.prog 24 #[.agg #[.int .i64 m1, .int .i64 m1, .slice q n c]] W (RetG2 5 W 0 0 [] 19)) := fun W q n c hn h => by
    refine (GInv_rows hL hLm (by omega) q n c W hn h).mono ?_
    intro e w' h
    rcases h with ⟨F, _, h, _⟩ | ⟨_, h⟩
    · omega
    · exact h
  have hrd : (((iK L).length : Nat) : Int) < (m1 : Int) := by omega
  clear h1 h2 hM1 hM2 hf1 hf2 hL hK hLm hKm
  clear hrk
  generalize hr : (iK L).length = r at *
  generalize turnX m1 L = X at *
  go_enter Try.func5, Try.ntmps5
  go_wp2_with fail
  refine (awake07 _).mono ?_; rintro e w1 ⟨rfl, hb⟩
  have B_1 := Lib.hid hb
  have H1_1 := Lib.hid (H1_0.out.keep hb); have H2_1 := Lib.hid (H2_0.out.keep hb)
  clear hb H1_0 H2_0
  go_wp2_with fail
  refine Calls.mono (HF1.out _ H1_1.out) ?_
  rintro e w' ⟨rfl, rfl⟩
  go_wp2_with fail
  refine Calls.mono (HF2.out _ H2_1.out) ?_
  rintro e w' ⟨rfl, rfl⟩
  go_wp2_with fail
  refine Calls.mono (HM1.out _ H1_1.out) ?_
  rintro e w2 ⟨qg, ng, cg, ql, cl, hng, rfl, og, ol, hb⟩
  have B_2 := Lib.hid (bl B_1.out hb B_1.out.size)
  have H1_2 := Lib.hid (H1_1.out.keep hb)
  have H2_2 := Lib.hid (H2_1.out.keep hb)
  clear hb B_1 H1_1 H2_1
  have SG_2 := Lib.hid (Sl.of_owns og); have RL_2 := Lib.hid ol.sl2; have HNG := Lib.hid hng
  clear og ol hng H1_2
  go_wp2_with fail
  refine use_w (fun W => Below w2.heap.size w2 W ∧ W.heap[w2.heap.size]? = some (.cells #[.int .i64 m1, .int .i64 m1, .slice qg ng cg] 27 (0, 0))) ⟨al (Below.refl _ _) (Nat.le_refl _), hnew rfl⟩ ?_
  rintro w3 ⟨hb, hx⟩
  have XG_3 := Lib.hid hx
  clear hx
  have B_3 := Lib.hid (bl B_2.out hb B_2.out.size)
  have H2_3 := Lib.hid (H2_2.out.keep hb)
  have SG_3 := Lib.hid (SG_2.out.keep hb)
  have RL_3 := Lib.hid (RL_2.out.keep hb)
  clear hb B_2 H2_2 SG_2 RL_2
  refine Calls.mono (HM2.out _ H2_3.out) ?_
  rintro e w4 ⟨qo, no, co, qk, ck, hno, rfl, oo, ok, hb⟩
  have B_4 := Lib.hid (bl B_3.out hb B_3.out.size)
  have H2_4 := Lib.hid (H2_3.out.keep hb)
  have SG_4 := Lib.hid (SG_3.out.keep hb)
  have RL_4 := Lib.hid (RL_3.out.keep hb)
  have XG_4 := Lib.hid ((hb.block _ (blk_lt XG_3.out)).trans XG_3.out)
  clear hb B_3 H2_3 SG_3 RL_3 XG_3
  have SO_4 := Lib.hid (Sl.of_owns oo); have RK_4 := Lib.hid ok.sl2; have HNO := Lib.hid hno
  clear oo ok hno H2_4
  obtain ⟨h30, h31, h32⟩ := cells3 XG_4.out
  go_wp2_with fail
  refine use_w (fun W => Below w4.heap.size w4 W ∧ W.heap[w4.heap.size]? = some (.cells #[.int .i64 m2, .int .i64 vd, .slice qo no co] 27 (0, 0))) ⟨al (Below.refl _ _) (Nat.le_refl _), hnew rfl⟩ ?_
  rintro w5 ⟨hb, hx⟩
  have XO_5 := Lib.hid hx
  clear hx
  have B_5 := Lib.hid (bl B_4.out hb B_4.out.size)
  have SG_5 := Lib.hid (SG_4.out.keep hb)
  have RL_5 := Lib.hid (RL_4.out.keep hb)
  have XG_5 := Lib.hid ((hb.block _ (blk_lt XG_4.out)).trans XG_4.out)
  have SO_5 := Lib.hid (SO_4.out.keep hb)
  have RK_5 := Lib.hid (RK_4.out.keep hb)
  clear hb B_4 SG_4 RL_4 XG_4 SO_4 RK_4 h30 h31 h32
  have T_5 := Lib.hid (GSt.mk (w := w) B_5.out SG_5.out RL_5.out SO_5.out RK_5.out XG_5.out XO_5.out)
  clear B_5 SG_5 RL_5 SO_5 RK_5 XG_5 XO_5
  refine Calls.mono (hR.out _ _ _ T_5.out.rl) ?_
  rintro e w6 ⟨rfl, hb⟩
  have T_6 := Lib.hid (T_5.out.keep hb)
  clear hb T_5
  obtain ⟨f0, f1, f2⟩ := cells3 T_6.out.xg
  obtain ⟨g0, g1, g2⟩ := cells3 T_6.out.xo
  go_wp2_with fail
  refine Calls.mono (hG.out _ _ _ _ HNG.out T_6.out.sg) ?_
  rintro e w7 ⟨rfl, hb⟩
  have T_7 := Lib.hid (T_6.out.keep hb)
  clear hb T_6 f0 f1 f2 g0 g1 g2
  obtain ⟨f0, f1, f2⟩ := cells3 T_7.out.xg
  obtain ⟨g0, g1, g2⟩ := cells3 T_7.out.xo
  go_wp2_with fail
  refine Calls.mono (hT.out _ _ _ _ HNG.out T_7.out.sg) ?_
  rintro e w8 ⟨q5, n5, c5, hn5, rfl, o5, hb⟩
  have T_8 := Lib.hid (T_7.out.keep hb)
  clear hb T_7 f0 f1 f2 g0 g1 g2
  have S5_8 := Lib.hid (Sl.of_owns o5); have HN5 := Lib.hid hn5
  clear o5 hn5
  obtain ⟨f0, f1, f2⟩ := cells3 T_8.out.xg
  obtain ⟨g0, g1, g2⟩ := cells3 T_8.out.xo
  go_wp2_with fail
  refine Calls.mono (hTR.out _ _ _ _ HN5.out S5_8.out) ?_
  rintro e w9 ⟨q6, c6, rfl, o6, hb⟩
  have T_9 := Lib.hid (T_8.out.keep hb)
  have S5_9 := Lib.hid (S5_8.out.keep hb)
  clear hb T_8 S5_8 f0 f1 f2 g0 g1 g2
  have S6_9 := Lib.hid o6.sl2
  clear o6 S5_9
  obtain ⟨f0, f1, f2⟩ := cells3 T_9.out.xg
  obtain ⟨g0, g1, g2⟩ := cells3 T_9.out.xo
  go_wp2_with fail
  refine Calls.mono (hRT.out _ _ _ T_9.out.rl) ?_
  rintro e w10 ⟨q7, c7, rfl, o7, hb⟩
  have T_10 := Lib.hid (T_9.out.keep hb)
  have S6_10 := Lib.hid (S6_9.out.keep hb)
  clear hb T_9 S6_9 f0 f1 f2 g0 g1 g2
  have S7_10 := Lib.hid o7.sl2
  clear o7
  obtain ⟨f0, f1, f2⟩ := cells3 T_10.out.xg
  obtain ⟨g0, g1, g2⟩ := cells3 T_10.out.xo
  go_wp2_with fail
  refine Calls.mono (Same7_any _ _ _ _ _ _ X X _ S6_10.out S7_10.out) ?_
  rintro e w11 ⟨rfl, hb⟩
  have T_11 := Lib.hid (T_10.out.keep hb)
  have S6_11 := Lib.hid (S6_10.out.keep hb)
  have S7_11 := Lib.hid (S7_10.out.keep hb)
  clear hb T_10 S6_10 S7_10 f0 f1 f2 g0 g1 g2
  rw [decide_eq_true rfl]
  clear S6_11 S7_11 HN5
  obtain ⟨f0, f1, f2⟩ := cells3 T_11.out.xg
  obtain ⟨g0, g1, g2⟩ := cells3 T_11.out.xo
  go_wp2_with fail
  refine Calls.mono (hT.out _ _ _ _ HNG.out T_11.out.sg) ?_
  rintro e w12 ⟨q5, n5, c5, hn5, rfl, o5, hb⟩
  have T_12 := Lib.hid (T_11.out.keep hb)
  clear hb T_11 f0 f1 f2 g0 g1 g2
  clear o5 hn5
  obtain ⟨f0, f1, f2⟩ := cells3 T_12.out.xg
  obtain ⟨g0, g1, g2⟩ := cells3 T_12.out.xo
  go_wp2_with fail
  refine Calls.mono (Width_any m1 m1 _ _) ?_
  rintro e w13 ⟨rfl, hb⟩
  have T_13 := Lib.hid (T_12.out.keep hb)
  clear hb T_12 f0 f1 f2 g0 g1 g2
  obtain ⟨f0, f1, f2⟩ := cells3 T_13.out.xg
  obtain ⟨g0, g1, g2⟩ := cells3 T_13.out.xo
  go_wp2_with fail
  refine Calls.mono (hT.out _ _ _ _ HNG.out T_13.out.sg) ?_
  rintro e w14 ⟨q5, n5, c5, hn5, rfl, o5, hb⟩
  have T_14 := Lib.hid (T_13.out.keep hb)
  clear hb T_13 f0 f1 f2 g0 g1 g2
  clear o5 hn5
  obtain ⟨f0, f1, f2⟩ := cells3 T_14.out.xg
  obtain ⟨g0, g1, g2⟩ := cells3 T_14.out.xo
  go_wp2_with fail
  refine Calls.mono (Height_any m1 m1 _ _) ?_
  rintro e w15 ⟨rfl, hb⟩
  have T_15 := Lib.hid (T_14.out.keep hb)
  clear hb T_14 f0 f1 f2 g0 g1 g2
  obtain ⟨f0, f1, f2⟩ := cells3 T_15.out.xg
  obtain ⟨g0, g1, g2⟩ := cells3 T_15.out.xo
  go_wp2_with fail
  refine Calls.mono (GMul_size m1 m1 m2 vd qg qo ng cg no co _ hmul) ?_
  rintro e w16 ⟨q8, n8, c8, hn8, rfl, o8, hb⟩
  have T_16 := Lib.hid (T_15.out.keep hb)
  clear hb T_15 f0 f1 f2 g0 g1 g2
  clear o8 hn8
  obtain ⟨f0, f1, f2⟩ := cells3 T_16.out.xg
  obtain ⟨g0, g1, g2⟩ := cells3 T_16.out.xo
  go_wp2_with fail
  refine use_w (fun W => Below w16.heap.size w16 W ∧ W.heap[w16.heap.size]? = some (.cells #[.int .i64 ((0 : Nat) : Int), .int .i64 ((0 : Nat) : Int), .slice q8 n8 c8] 27 (0, 0))) ⟨al (Below.refl _ _) (Nat.le_refl _), hnew rfl⟩ ?_
  rintro w17 ⟨hb, hx⟩
  have XP_17 := Lib.hid hx
  clear hx
  have T_17 := Lib.hid (T_16.out.keep hb)
  clear hb T_16 f0 f1 f2 g0 g1 g2
  refine Calls.mono (Height_any 0 0 _ _) ?_
  rintro e w18 ⟨rfl, hb⟩
  have T_18 := Lib.hid (T_17.out.keep hb)
  have XP_18 := Lib.hid ((hb.block _ (blk_lt XP_17.out)).trans XP_17.out)
  clear hb T_17 XP_17
  obtain ⟨f0, f1, f2⟩ := cells3 T_18.out.xg
  obtain ⟨g0, g1, g2⟩ := cells3 T_18.out.xo
  obtain ⟨h00, h01, h02⟩ := cells3 XP_18.out
  go_wp2_with fail
  refine Calls.mono (HIN.out _ _ _ _ HNG.out T_18.out.sg) ?_
  rintro e w19 ⟨q9, n9, c9, hn9, rfl, o9, hb⟩
  have T_19 := Lib.hid (T_18.out.keep hb)
  have XP_19 := Lib.hid ((hb.block _ (blk_lt XP_18.out)).trans XP_18.out)
  clear hb T_18 XP_18 f0 f1 f2 g0 g1 g2 h00 h01 h02
  clear o9 hn9
  obtain ⟨f0, f1, f2⟩ := cells3 T_19.out.xg
  obtain ⟨g0, g1, g2⟩ := cells3 T_19.out.xo
  obtain ⟨h00, h01, h02⟩ := cells3 XP_19.out
  go_wp2_with fail
  refine use_w (fun W => Below w19.heap.size w19 W ∧ W.heap[w19.heap.size]? = some (.cells #[.int .i64 ((0 : Nat) : Int), .int .i64 ((0 : Nat) : Int), .slice q9 n9 c9] 27 (0, 0))) ⟨al (Below.refl _ _) (Nat.le_refl _), hnew rfl⟩ ?_
  rintro w20 ⟨hb, hx⟩
  have XQ_20 := Lib.hid hx
  clear hx
  have T_20 := Lib.hid (T_19.out.keep hb)
  have XP_20 := Lib.hid ((hb.block _ (blk_lt XP_19.out)).trans XP_19.out)
  clear hb T_19 XP_19 f0 f1 f2 g0 g1 g2 h00 h01 h02
  refine Calls.mono (Height_any 0 0 _ _) ?_
  rintro e w21 ⟨rfl, hb⟩
  have T_21 := Lib.hid (T_20.out.keep hb)
  have XP_21 := Lib.hid ((hb.block _ (blk_lt XP_20.out)).trans XP_20.out)
  have XQ_21 := Lib.hid ((hb.block _ (blk_lt XQ_20.out)).trans XQ_20.out)
  clear hb T_20 XP_20 XQ_20
  go_wp2
  go_ret
  exact ⟨rfl, T_21.out.bel⟩
set_option maxRecDepth 100000 in
set_option maxHeartbeats 8000000 in
theorem GR_sizeFull (x y : UInt8) (wd vd : Nat) (p1 p2 : Option Addr) (m1 c1 m2 c2 : Nat) (xss yss L K : List (List UInt8)) (w : World) (h1 : Sl2 w p1 m1 c1 xss) (h2 : Sl2 w p2 m2 c2 yss)
    (hf1 : xss.all (fun y => decide (y.length ≤ 30)) = true) (hm1 : m1 ≤ 30) (hf2 : yss.all (fun y => decide (y.length ≤ 30)) = true) (hm2 : m2 ≤ 30)
    (hM1 : ∀ W, Sl2 W p1 m1 c1 xss → Calls Try.prog 19 #[B8 x, .slice p1 m1 c1] W (RetM W m1 wd L)) (hM2 : ∀ W, Sl2 W p2 m2 c2 yss → Calls Try.prog 19 #[B8 y, .slice p2 m2 c2] W (RetM W m2 vd K))
    (hwd : wd ≤ 30) (hvd : vd ≤ 30) (hL : ∀ x, x ∈ L → x.length = wd) (hLm : L.length = m1) (hK : ∀ x, x ∈ K → x.length = vd) (hKm : K.length = m2) (hmul : wd ≠ m2) (hinv : m1 = wd) (hrk : (iK L).length = wd) :
    Calls Try.prog 5 #[B8 x, .slice p1 m1 c1, B8 y, .slice p2 m2 c2] w fun e w' => e = .returned (.bool true) ∧ Below w.heap.size w w' := by
  have HF1 : Hid (∀ W, Sl2 W p1 m1 c1 xss → Calls Try.prog 10 #[.slice p1 m1 c1] W fun e w' => e = .returned (.bool true) ∧ W = w') := fun W h => by
    have := Few7_any p1 m1 c1 xss W h
    rw [hf1, decide_eq_true hm1] at this; exact this
  have HF2 : Hid (∀ W, Sl2 W p2 m2 c2 yss → Calls Try.prog 10 #[.slice p2 m2 c2] W fun e w' => e = .returned (.bool true) ∧ W = w') := fun W h => by
    have := Few7_any p2 m2 c2 yss W h
    rw [hf2, decide_eq_true hm2] at this; exact this
  have HM1 := Lib.hid hM1; have HM2 := Lib.hid hM2; have H1_0 := Lib.hid h1; have H2_0 := Lib.hid h2; have HLL := Lib.hid hL; have HKK := Lib.hid hK
  have hR : Hid (∀ W q c, Sl2 W q m1 c L → Calls Try.prog 25 #[.slice q m1 c] W fun e w' => e = .returned (.int .i64 (iK L).length) ∧ Below W.heap.size W w') := fun W q c h => RRank_any wd q m1 c L W h hL (by unfold Room; omega) (by omega)
  have hG : Hid (∀ W q n c, n = m1 * wd → Sl B8 W q n c L.flatten → Calls Try.prog 20 #[.agg #[.int .i64 m1, .int .i64 wd, .slice q n c]] W fun e w' => e = .returned (.int .i64 (iK L).length) ∧ Below W.heap.size W w') := fun W q n c hn h => GRank_rows hL hLm (by omega) (by omega) q n c W hn h
  have hT : Hid (∀ W q n c, n = m1 * wd → Sl B8 W q n c L.flatten → Calls Try.prog 21 #[.agg #[.int .i64 m1, .int .i64 wd, .slice q n c]] W (RetG 5 W wd m1 (turnX wd L).flatten)) := fun W q n c hn h => GTurned_rows hL hLm (by omega) (by omega) q n c W hn h
  have hTR : Hid (∀ W q n c, n = wd * m1 → Sl B8 W q n c (turnX wd L).flatten → Calls Try.prog 17 #[.agg #[.int .i64 wd, .int .i64 m1, .slice q n c]] W fun e w' => ∃ q c', e = .returned (.slice q wd c') ∧ Own2 25 5 w' W.heap.size (.slice q wd c') wd (turnX wd L) ∧ Below W.heap.size W w') := fun W q n c hn h => GRows_rows (turnX_len hLm) (turnX_length wd L) (by omega) (by omega) q n c W hn h
  have hRT : Hid (∀ W q c, Sl2 W q m1 c L → Calls Try.prog 26 #[.slice q m1 c, .int .i64 wd] W fun e w' => ∃ q c', e = .returned (.slice q wd c') ∧ Own2 25 5 w' W.heap.size (.slice q wd c') wd (turnX wd L) ∧ Below W.heap.size W w') := fun W q c h => RTurned_any wd q m1 c L W h (fun x hx => Nat.le_of_eq (hL x hx).symm) (by omega) (by omega)
  have hmd : ((wd : Int) != (m2 : Int)) = true := by simp; omega
  subst hinv
  have HIN : Hid (∀ W q n c, n = m1 * m1 → Sl B8 W q n c L.flatten → Calls Try.prog 24 #[.agg #[.int .i64 m1, .int .i64 m1, .slice q n c]] W (fun e w' => ∃ F : Nat → Rw, GJ m1 (sqR m1 L.flatten) F m1 ∧ RetG2 5 W m1 m1 (rowsD m1 F).flatten 0 e w')) := fun W q n c hn h => by
    refine (GInv_rows hL hLm (by omega) q n c W hn h).mono ?_
    intro e w' h
    rcases h with ⟨F, g, _, h⟩ | ⟨h, _⟩
    · exact ⟨F, g, h⟩
    · omega
  have hrd : (m1 : Int) ≤ (((iK L).length : Nat) : Int) := by omega
  have HMI : Hid (∀ (W : World) (F : Nat → Rw) q1 n1 d1 q2 n2 d2, n1 = m1 * m1 → n2 = m1 * m1 → GJ m1 (sqR m1 L.flatten) F m1 → Sl B8 W q1 n1 d1 L.flatten → Sl B8 W q2 n2 d2 (rowsD m1 F).flatten → Calls Try.prog 22 #[.agg #[.int .i64 m1, .int .i64 m1, .slice q1 n1 d1], .agg #[.int .i64 m1, .int .i64 m1, .slice q2 n2 d2]] W (RetG2 5 W m1 m1 (unitC m1 m1) 0)) := fun W F q1 n1 d1 q2 n2 d2 e1 e2 g s1 s2 => by
    have := GMul_rows hL hLm (rowsD_wide g) (rowsD_len m1 F) (by omega) (by omega) (by omega) q1 q2 n1 d1 n2 d2 W e1 e2 s1 s2
    rwa [inv_right hL hLm g] at this
  have HUN : Hid (∀ W, Calls Try.prog 12 #[.int .i64 m1] W (RetG2 5 W m1 m1 (unitC m1 m1) 0)) := fun W => Unit_good m1 W (by omega)
  clear h1 h2 hM1 hM2 hf1 hf2 hL hK hLm hKm
  clear hrk
  generalize hr : (iK L).length = r at *
  generalize turnX m1 L = X at *
  go_enter Try.func5, Try.ntmps5
  go_wp2_with fail
  refine (awake07 _).mono ?_; rintro e w1 ⟨rfl, hb⟩
  have B_1 := Lib.hid hb
  have H1_1 := Lib.hid (H1_0.out.keep hb); have H2_1 := Lib.hid (H2_0.out.keep hb)
  clear hb H1_0 H2_0
  go_wp2_with fail
  refine Calls.mono (HF1.out _ H1_1.out) ?_
  rintro e w' ⟨rfl, rfl⟩
  go_wp2_with fail
  refine Calls.mono (HF2.out _ H2_1.out) ?_
  rintro e w' ⟨rfl, rfl⟩
  go_wp2_with fail
  refine Calls.mono (HM1.out _ H1_1.out) ?_
  rintro e w2 ⟨qg, ng, cg, ql, cl, hng, rfl, og, ol, hb⟩
  have B_2 := Lib.hid (bl B_1.out hb B_1.out.size)
  have H1_2 := Lib.hid (H1_1.out.keep hb)
  have H2_2 := Lib.hid (H2_1.out.keep hb)
  clear hb B_1 H1_1 H2_1
  have SG_2 := Lib.hid (Sl.of_owns og); have RL_2 := Lib.hid ol.sl2; have HNG := Lib.hid hng
  clear og ol hng H1_2
  go_wp2_with fail
  refine use_w (fun W => Below w2.heap.size w2 W ∧ W.heap[w2.heap.size]? = some (.cells #[.int .i64 m1, .int .i64 m1, .slice qg ng cg] 27 (0, 0))) ⟨al (Below.refl _ _) (Nat.le_refl _), hnew rfl⟩ ?_
  rintro w3 ⟨hb, hx⟩
  have XG_3 := Lib.hid hx
  clear hx
  have B_3 := Lib.hid (bl B_2.out hb B_2.out.size)
  have H2_3 := Lib.hid (H2_2.out.keep hb)
  have SG_3 := Lib.hid (SG_2.out.keep hb)
  have RL_3 := Lib.hid (RL_2.out.keep hb)
  clear hb B_2 H2_2 SG_2 RL_2
  refine Calls.mono (HM2.out _ H2_3.out) ?_
  rintro e w4 ⟨qo, no, co, qk, ck, hno, rfl, oo, ok, hb⟩
  have B_4 := Lib.hid (bl B_3.out hb B_3.out.size)
  have H2_4 := Lib.hid (H2_3.out.keep hb)
  have SG_4 := Lib.hid (SG_3.out.keep hb)
  have RL_4 := Lib.hid (RL_3.out.keep hb)
  have XG_4 := Lib.hid ((hb.block _ (blk_lt XG_3.out)).trans XG_3.out)
  clear hb B_3 H2_3 SG_3 RL_3 XG_3
  have SO_4 := Lib.hid (Sl.of_owns oo); have RK_4 := Lib.hid ok.sl2; have HNO := Lib.hid hno
  clear oo ok hno H2_4
  obtain ⟨h30, h31, h32⟩ := cells3 XG_4.out
  go_wp2_with fail
  refine use_w (fun W => Below w4.heap.size w4 W ∧ W.heap[w4.heap.size]? = some (.cells #[.int .i64 m2, .int .i64 vd, .slice qo no co] 27 (0, 0))) ⟨al (Below.refl _ _) (Nat.le_refl _), hnew rfl⟩ ?_
  rintro w5 ⟨hb, hx⟩
  have XO_5 := Lib.hid hx
  clear hx
  have B_5 := Lib.hid (bl B_4.out hb B_4.out.size)
  have SG_5 := Lib.hid (SG_4.out.keep hb)
  have RL_5 := Lib.hid (RL_4.out.keep hb)
  have XG_5 := Lib.hid ((hb.block _ (blk_lt XG_4.out)).trans XG_4.out)
  have SO_5 := Lib.hid (SO_4.out.keep hb)
  have RK_5 := Lib.hid (RK_4.out.keep hb)
  clear hb B_4 SG_4 RL_4 XG_4 SO_4 RK_4 h30 h31 h32
  have T_5 := Lib.hid (GSt.mk (w := w) B_5.out SG_5.out RL_5.out SO_5.out RK_5.out XG_5.out XO_5.out)
  clear B_5 SG_5 RL_5 SO_5 RK_5 XG_5 XO_5
  refine Calls.mono (hR.out _ _ _ T_5.out.rl) ?_
  rintro e w6 ⟨rfl, hb⟩
  have T_6 := Lib.hid (T_5.out.keep hb)
  clear hb T_5
  obtain ⟨f0, f1, f2⟩ := cells3 T_6.out.xg
  obtain ⟨g0, g1, g2⟩ := cells3 T_6.out.xo
  go_wp2_with fail
  refine Calls.mono (hG.out _ _ _ _ HNG.out T_6.out.sg) ?_
  rintro e w7 ⟨rfl, hb⟩
  have T_7 := Lib.hid (T_6.out.keep hb)
  clear hb T_6 f0 f1 f2 g0 g1 g2
  obtain ⟨f0, f1, f2⟩ := cells3 T_7.out.xg
  obtain ⟨g0, g1, g2⟩ := cells3 T_7.out.xo
  go_wp2_with fail
  refine Calls.mono (hT.out _ _ _ _ HNG.out T_7.out.sg) ?_
  rintro e w8 ⟨q5, n5, c5, hn5, rfl, o5, hb⟩
  have T_8 := Lib.hid (T_7.out.keep hb)
  clear hb T_7 f0 f1 f2 g0 g1 g2
  have S5_8 := Lib.hid (Sl.of_owns o5); have HN5 := Lib.hid hn5
  clear o5 hn5
  obtain ⟨f0, f1, f2⟩ := cells3 T_8.out.xg
  obtain ⟨g0, g1, g2⟩ := cells3 T_8.out.xo
  go_wp2_with fail
  refine Calls.mono (hTR.out _ _ _ _ HN5.out S5_8.out) ?_
  rintro e w9 ⟨q6, c6, rfl, o6, hb⟩
  have T_9 := Lib.hid (T_8.out.keep hb)
  have S5_9 := Lib.hid (S5_8.out.keep hb)
  clear hb T_8 S5_8 f0 f1 f2 g0 g1 g2
  have S6_9 := Lib.hid o6.sl2
  clear o6 S5_9
  obtain ⟨f0, f1, f2⟩ := cells3 T_9.out.xg
  obtain ⟨g0, g1, g2⟩ := cells3 T_9.out.xo
  go_wp2_with fail
  refine Calls.mono (hRT.out _ _ _ T_9.out.rl) ?_
  rintro e w10 ⟨q7, c7, rfl, o7, hb⟩
  have T_10 := Lib.hid (T_9.out.keep hb)
  have S6_10 := Lib.hid (S6_9.out.keep hb)
  clear hb T_9 S6_9 f0 f1 f2 g0 g1 g2
  have S7_10 := Lib.hid o7.sl2
  clear o7
  obtain ⟨f0, f1, f2⟩ := cells3 T_10.out.xg
  obtain ⟨g0, g1, g2⟩ := cells3 T_10.out.xo
  go_wp2_with fail
  refine Calls.mono (Same7_any _ _ _ _ _ _ X X _ S6_10.out S7_10.out) ?_
  rintro e w11 ⟨rfl, hb⟩
  have T_11 := Lib.hid (T_10.out.keep hb)
  have S6_11 := Lib.hid (S6_10.out.keep hb)
  have S7_11 := Lib.hid (S7_10.out.keep hb)
  clear hb T_10 S6_10 S7_10 f0 f1 f2 g0 g1 g2
  rw [decide_eq_true rfl]
  clear S6_11 S7_11 HN5
  obtain ⟨f0, f1, f2⟩ := cells3 T_11.out.xg
  obtain ⟨g0, g1, g2⟩ := cells3 T_11.out.xo
  go_wp2_with fail
  refine Calls.mono (hT.out _ _ _ _ HNG.out T_11.out.sg) ?_
  rintro e w12 ⟨q5, n5, c5, hn5, rfl, o5, hb⟩
  have T_12 := Lib.hid (T_11.out.keep hb)
  clear hb T_11 f0 f1 f2 g0 g1 g2
  clear o5 hn5
  obtain ⟨f0, f1, f2⟩ := cells3 T_12.out.xg
  obtain ⟨g0, g1, g2⟩ := cells3 T_12.out.xo
  go_wp2_with fail
  refine Calls.mono (Width_any m1 m1 _ _) ?_
  rintro e w13 ⟨rfl, hb⟩
  have T_13 := Lib.hid (T_12.out.keep hb)
  clear hb T_12 f0 f1 f2 g0 g1 g2
  obtain ⟨f0, f1, f2⟩ := cells3 T_13.out.xg
  obtain ⟨g0, g1, g2⟩ := cells3 T_13.out.xo
  go_wp2_with fail
  refine Calls.mono (hT.out _ _ _ _ HNG.out T_13.out.sg) ?_
  rintro e w14 ⟨q5, n5, c5, hn5, rfl, o5, hb⟩
  have T_14 := Lib.hid (T_13.out.keep hb)
  clear hb T_13 f0 f1 f2 g0 g1 g2
  clear o5 hn5
  obtain ⟨f0, f1, f2⟩ := cells3 T_14.out.xg
  obtain ⟨g0, g1, g2⟩ := cells3 T_14.out.xo
  go_wp2_with fail
  refine Calls.mono (Height_any m1 m1 _ _) ?_
  rintro e w15 ⟨rfl, hb⟩
  have T_15 := Lib.hid (T_14.out.keep hb)
  clear hb T_14 f0 f1 f2 g0 g1 g2
  obtain ⟨f0, f1, f2⟩ := cells3 T_15.out.xg
  obtain ⟨g0, g1, g2⟩ := cells3 T_15.out.xo
  go_wp2_with fail
  refine Calls.mono (GMul_size m1 m1 m2 vd qg qo ng cg no co _ hmul) ?_
  rintro e w16 ⟨q8, n8, c8, hn8, rfl, o8, hb⟩
  have T_16 := Lib.hid (T_15.out.keep hb)
  clear hb T_15 f0 f1 f2 g0 g1 g2
  clear o8 hn8
  obtain ⟨f0, f1, f2⟩ := cells3 T_16.out.xg
  obtain ⟨g0, g1, g2⟩ := cells3 T_16.out.xo
  go_wp2_with fail
  refine use_w (fun W => Below w16.heap.size w16 W ∧ W.heap[w16.heap.size]? = some (.cells #[.int .i64 ((0 : Nat) : Int), .int .i64 ((0 : Nat) : Int), .slice q8 n8 c8] 27 (0, 0))) ⟨al (Below.refl _ _) (Nat.le_refl _), hnew rfl⟩ ?_
  rintro w17 ⟨hb, hx⟩
  have XP_17 := Lib.hid hx
  clear hx
  have T_17 := Lib.hid (T_16.out.keep hb)
  clear hb T_16 f0 f1 f2 g0 g1 g2
  refine Calls.mono (Height_any 0 0 _ _) ?_
  rintro e w18 ⟨rfl, hb⟩
  have T_18 := Lib.hid (T_17.out.keep hb)
  have XP_18 := Lib.hid ((hb.block _ (blk_lt XP_17.out)).trans XP_17.out)
  clear hb T_17 XP_17
  obtain ⟨f0, f1, f2⟩ := cells3 T_18.out.xg
  obtain ⟨g0, g1, g2⟩ := cells3 T_18.out.xo
  obtain ⟨h00, h01, h02⟩ := cells3 XP_18.out
  go_wp2_with fail
  refine Calls.mono (HIN.out _ _ _ _ HNG.out T_18.out.sg) ?_
  rintro e w19 ⟨F, hGJ, q9, n9, c9, hn9, rfl, o9, hb⟩
  have T_19 := Lib.hid (T_18.out.keep hb)
  have XP_19 := Lib.hid ((hb.block _ (blk_lt XP_18.out)).trans XP_18.out)
  clear hb T_18 XP_18 f0 f1 f2 g0 g1 g2 h00 h01 h02
  have S9_19 := Lib.hid (Sl.of_owns o9); have HN9 := Lib.hid hn9; have HGJ := Lib.hid hGJ
  clear o9 hn9 hGJ
  obtain ⟨f0, f1, f2⟩ := cells3 T_19.out.xg
  obtain ⟨g0, g1, g2⟩ := cells3 T_19.out.xo
  obtain ⟨h00, h01, h02⟩ := cells3 XP_19.out
  obtain ⟨j00, j01, j02⟩ := cells3 (hal (o := .cells #[.int .i64 m1, .int .i64 m1, .slice q9 n9 c9] 27) T_19.out.xg)
  go_wp2_with fail
  refine use_w (fun W => Below w19.heap.size w19 W ∧ W.heap[w19.heap.size]? = some (.cells #[.int .i64 m1, .int .i64 m1, .slice q9 n9 c9] 27 (0, 0))) ⟨al (Below.refl _ _) (Nat.le_refl _), hnew rfl⟩ ?_
  rintro w20 ⟨hb, hx⟩
  have XQ_20 := Lib.hid hx
  clear hx
  have T_20 := Lib.hid (T_19.out.keep hb)
  have XP_20 := Lib.hid ((hb.block _ (blk_lt XP_19.out)).trans XP_19.out)
  have S9_20 := Lib.hid (S9_19.out.keep hb)
  clear hb T_19 XP_19 S9_19 f0 f1 f2 g0 g1 g2 h00 h01 h02 j00 j01 j02
  refine Calls.mono (HMI.out _ F _ _ _ _ _ _ HNG.out HN9.out HGJ.out T_20.out.sg S9_20.out) ?_
  rintro e w21 ⟨qa, na, ca, hna, rfl, oa, hb⟩
  have T_21 := Lib.hid (T_20.out.keep hb)
  have XP_21 := Lib.hid ((hb.block _ (blk_lt XP_20.out)).trans XP_20.out)
  have S9_21 := Lib.hid (S9_20.out.keep hb)
  have XQ_21 := Lib.hid ((hb.block _ (blk_lt XQ_20.out)).trans XQ_20.out)
  clear hb T_20 XP_20 S9_20 XQ_20
  have SA_21 := Lib.hid (Sl.of_owns oa); have HNA := Lib.hid hna
  clear oa hna S9_21
  obtain ⟨f0, f1, f2⟩ := cells3 T_21.out.xg
  obtain ⟨g0, g1, g2⟩ := cells3 T_21.out.xo
  obtain ⟨h00, h01, h02⟩ := cells3 XP_21.out
  obtain ⟨h10, h11, h12⟩ := cells3 XQ_21.out
  go_wp2_with fail
  refine use_w (fun W => Below w21.heap.size w21 W ∧ W.heap[w21.heap.size]? = some (.cells #[.int .i64 m1, .int .i64 m1, .slice qa na ca] 27 (0, 0))) ⟨al (Below.refl _ _) (Nat.le_refl _), hnew rfl⟩ ?_
  rintro w22 ⟨hb, hx⟩
  have XU_22 := Lib.hid hx
  clear hx
  have T_22 := Lib.hid (T_21.out.keep hb)
  have XP_22 := Lib.hid ((hb.block _ (blk_lt XP_21.out)).trans XP_21.out)
  have XQ_22 := Lib.hid ((hb.block _ (blk_lt XQ_21.out)).trans XQ_21.out)
  have SA_22 := Lib.hid (SA_21.out.keep hb)
  clear hb T_21 XP_21 XQ_21 SA_21 f0 f1 f2 g0 g1 g2 h00 h01 h02 h10 h11 h12
  refine Calls.mono (HUN.out _) ?_
  rintro e w23 ⟨qb, nb, cb, hnb, rfl, ob, hb⟩
  have T_23 := Lib.hid (T_22.out.keep hb)
  have XP_23 := Lib.hid ((hb.block _ (blk_lt XP_22.out)).trans XP_22.out)
  have XQ_23 := Lib.hid ((hb.block _ (blk_lt XQ_22.out)).trans XQ_22.out)
  have SA_23 := Lib.hid (SA_22.out.keep hb)
  have XU_23 := Lib.hid ((hb.block _ (blk_lt XU_22.out)).trans XU_22.out)
  clear hb T_22 XP_22 XQ_22 SA_22 XU_22
  have SB_23 := Lib.hid (Sl.of_owns ob); have HNB := Lib.hid hnb
  clear ob hnb
  obtain ⟨f0, f1, f2⟩ := cells3 T_23.out.xg
  obtain ⟨g0, g1, g2⟩ := cells3 T_23.out.xo
  obtain ⟨h00, h01, h02⟩ := cells3 XP_23.out
  obtain ⟨h10, h11, h12⟩ := cells3 XQ_23.out
  obtain ⟨h30, h31, h32⟩ := cells3 XU_23.out
  obtain ⟨j00, j01, j02⟩ := cells3 (hal (o := .cells #[.int .i64 m1, .int .i64 m1, .slice qb nb cb] 27) XU_23.out)
  go_wp2_with fail
  refine use_w (fun W => Below w23.heap.size w23 W ∧ W.heap[w23.heap.size]? = some (.cells #[.int .i64 m1, .int .i64 m1, .slice qb nb cb] 27 (0, 0))) ⟨al (Below.refl _ _) (Nat.le_refl _), hnew rfl⟩ ?_
  rintro w24 ⟨hb, hx⟩
  have XV_24 := Lib.hid hx
  clear hx
  have T_24 := Lib.hid (T_23.out.keep hb)
  have XP_24 := Lib.hid ((hb.block _ (blk_lt XP_23.out)).trans XP_23.out)
  have XQ_24 := Lib.hid ((hb.block _ (blk_lt XQ_23.out)).trans XQ_23.out)
  have SA_24 := Lib.hid (SA_23.out.keep hb)
  have XU_24 := Lib.hid ((hb.block _ (blk_lt XU_23.out)).trans XU_23.out)
  have SB_24 := Lib.hid (SB_23.out.keep hb)
  clear hb T_23 XP_23 XQ_23 SA_23 XU_23 SB_23 f0 f1 f2 g0 g1 g2 h00 h01 h02 h10 h11 h12 h30 h31 h32 j00 j01 j02
  refine Calls.mono (GSame_any m1 m1 m1 m1 qa qb na ca nb cb _ _ _ SA_24.out SB_24.out) ?_
  rintro e w25 ⟨rfl, hb⟩
  have T_25 := Lib.hid (T_24.out.keep hb)
  have XP_25 := Lib.hid ((hb.block _ (blk_lt XP_24.out)).trans XP_24.out)
  have XQ_25 := Lib.hid ((hb.block _ (blk_lt XQ_24.out)).trans XQ_24.out)
  have SA_25 := Lib.hid (SA_24.out.keep hb)
  have XU_25 := Lib.hid ((hb.block _ (blk_lt XU_24.out)).trans XU_24.out)
  have SB_25 := Lib.hid (SB_24.out.keep hb)
  have XV_25 := Lib.hid ((hb.block _ (blk_lt XV_24.out)).trans XV_24.out)
  clear hb T_24 XP_24 XQ_24 SA_24 XU_24 SB_24 XV_24
  rw [decide_eq_true ⟨rfl, rfl, rfl⟩]
  go_wp2
  go_ret
  exact ⟨rfl, T_25.out.bel⟩
set_option maxRecDepth 100000 in
set_option maxHeartbeats 8000000 in
theorem GR_okSize (x y : UInt8) (wd vd : Nat) (p1 p2 : Option Addr) (m1 c1 m2 c2 : Nat) (xss yss L K : List (List UInt8)) (w : World) (h1 : Sl2 w p1 m1 c1 xss) (h2 : Sl2 w p2 m2 c2 yss)
    (hf1 : xss.all (fun y => decide (y.length ≤ 30)) = true) (hm1 : m1 ≤ 30) (hf2 : yss.all (fun y => decide (y.length ≤ 30)) = true) (hm2 : m2 ≤ 30)
    (hM1 : ∀ W, Sl2 W p1 m1 c1 xss → Calls Try.prog 19 #[B8 x, .slice p1 m1 c1] W (RetM W m1 wd L)) (hM2 : ∀ W, Sl2 W p2 m2 c2 yss → Calls Try.prog 19 #[B8 y, .slice p2 m2 c2] W (RetM W m2 vd K))
    (hwd : wd ≤ 30) (hvd : vd ≤ 30) (hL : ∀ x, x ∈ L → x.length = wd) (hLm : L.length = m1) (hK : ∀ x, x ∈ K → x.length = vd) (hKm : K.length = m2) (hmul : wd = m2) (hinv : m1 ≠ wd) :
    Calls Try.prog 5 #[B8 x, .slice p1 m1 c1, B8 y, .slice p2 m2 c2] w fun e w' => e = .returned (.bool true) ∧ Below w.heap.size w w' := by
  have HF1 : Hid (∀ W, Sl2 W p1 m1 c1 xss → Calls Try.prog 10 #[.slice p1 m1 c1] W fun e w' => e = .returned (.bool true) ∧ W = w') := fun W h => by
    have := Few7_any p1 m1 c1 xss W h
    rw [hf1, decide_eq_true hm1] at this; exact this
  have HF2 : Hid (∀ W, Sl2 W p2 m2 c2 yss → Calls Try.prog 10 #[.slice p2 m2 c2] W fun e w' => e = .returned (.bool true) ∧ W = w') := fun W h => by
    have := Few7_any p2 m2 c2 yss W h
    rw [hf2, decide_eq_true hm2] at this; exact this
  have HM1 := Lib.hid hM1; have HM2 := Lib.hid hM2; have H1_0 := Lib.hid h1; have H2_0 := Lib.hid h2; have HLL := Lib.hid hL; have HKK := Lib.hid hK
  have hR : Hid (∀ W q c, Sl2 W q m1 c L → Calls Try.prog 25 #[.slice q m1 c] W fun e w' => e = .returned (.int .i64 (iK L).length) ∧ Below W.heap.size W w') := fun W q c h => RRank_any wd q m1 c L W h hL (by unfold Room; omega) (by omega)
  have hG : Hid (∀ W q n c, n = m1 * wd → Sl B8 W q n c L.flatten → Calls Try.prog 20 #[.agg #[.int .i64 m1, .int .i64 wd, .slice q n c]] W fun e w' => e = .returned (.int .i64 (iK L).length) ∧ Below W.heap.size W w') := fun W q n c hn h => GRank_rows hL hLm (by omega) (by omega) q n c W hn h
  have hT : Hid (∀ W q n c, n = m1 * wd → Sl B8 W q n c L.flatten → Calls Try.prog 21 #[.agg #[.int .i64 m1, .int .i64 wd, .slice q n c]] W (RetG 5 W wd m1 (turnX wd L).flatten)) := fun W q n c hn h => GTurned_rows hL hLm (by omega) (by omega) q n c W hn h
  have hTR : Hid (∀ W q n c, n = wd * m1 → Sl B8 W q n c (turnX wd L).flatten → Calls Try.prog 17 #[.agg #[.int .i64 wd, .int .i64 m1, .slice q n c]] W fun e w' => ∃ q c', e = .returned (.slice q wd c') ∧ Own2 25 5 w' W.heap.size (.slice q wd c') wd (turnX wd L) ∧ Below W.heap.size W w') := fun W q n c hn h => GRows_rows (turnX_len hLm) (turnX_length wd L) (by omega) (by omega) q n c W hn h
  have hRT : Hid (∀ W q c, Sl2 W q m1 c L → Calls Try.prog 26 #[.slice q m1 c, .int .i64 wd] W fun e w' => ∃ q c', e = .returned (.slice q wd c') ∧ Own2 25 5 w' W.heap.size (.slice q wd c') wd (turnX wd L) ∧ Below W.heap.size W w') := fun W q c h => RTurned_any wd q m1 c L W h (fun x hx => Nat.le_of_eq (hL x hx).symm) (by omega) (by omega)
  subst hmul
  have HMU : Hid (∀ W q1 n1 d1 q2 n2 d2, n1 = m1 * wd → n2 = wd * vd → Sl B8 W q1 n1 d1 L.flatten → Sl B8 W q2 n2 d2 K.flatten → Calls Try.prog 22 #[.agg #[.int .i64 m1, .int .i64 wd, .slice q1 n1 d1], .agg #[.int .i64 wd, .int .i64 vd, .slice q2 n2 d2]] W (RetG2 5 W m1 vd (L.map (mulR vd K)).flatten 0)) := fun W q1 n1 d1 q2 n2 d2 e1 e2 s1 s2 => GMul_rows hL hLm hK hKm (by omega) (by omega) (by omega) q1 q2 n1 d1 n2 d2 W e1 e2 s1 s2
  have HPR : Hid (∀ W q n c, n = m1 * vd → Sl B8 W q n c (L.map (mulR vd K)).flatten → Calls Try.prog 17 #[.agg #[.int .i64 m1, .int .i64 vd, .slice q n c]] W fun e w' => ∃ q c', e = .returned (.slice q m1 c') ∧ Own2 25 5 w' W.heap.size (.slice q m1 c') m1 (L.map (mulR vd K)) ∧ Below W.heap.size W w') := fun W q n c hn h => GRows_rows (mul_wide hK) (by rw [List.length_map]; exact hLm) (by omega) (by omega) q n c W hn h
  have HRM : Hid (∀ W q1 d1 q2 d2, Sl2 W q1 m1 d1 L → Sl2 W q2 wd d2 K → Calls Try.prog 27 #[.slice q1 m1 d1, .slice q2 wd d2, .int .i64 vd] W fun e w' => ∃ q c', e = .returned (.slice q m1 c') ∧ Own2 25 5 w' W.heap.size (.slice q m1 c') m1 (L.map (mulR vd K)) ∧ Below W.heap.size W w') := fun W q1 d1 q2 d2 s1 s2 => RMul_any m1 wd vd q1 q2 d1 d2 L K W s1 s2 hL hK (by omega) (by omega) (by omega)
  have hid : ((wd : Int) != (m1 : Int)) = true := by simp; omega
  clear h1 h2 hM1 hM2 hf1 hf2 hL hK hLm hKm
  generalize hr : (iK L).length = r at *
  generalize turnX wd L = X at *
  generalize L.map (mulR vd K) = Z at *
  go_enter Try.func5, Try.ntmps5
  go_wp2_with fail
  refine (awake07 _).mono ?_; rintro e w1 ⟨rfl, hb⟩
  have B_1 := Lib.hid hb
  have H1_1 := Lib.hid (H1_0.out.keep hb); have H2_1 := Lib.hid (H2_0.out.keep hb)
  clear hb H1_0 H2_0
  go_wp2_with fail
  refine Calls.mono (HF1.out _ H1_1.out) ?_
  rintro e w' ⟨rfl, rfl⟩
  go_wp2_with fail
  refine Calls.mono (HF2.out _ H2_1.out) ?_
  rintro e w' ⟨rfl, rfl⟩
  go_wp2_with fail
  refine Calls.mono (HM1.out _ H1_1.out) ?_
  rintro e w2 ⟨qg, ng, cg, ql, cl, hng, rfl, og, ol, hb⟩
  have B_2 := Lib.hid (bl B_1.out hb B_1.out.size)
  have H1_2 := Lib.hid (H1_1.out.keep hb)
  have H2_2 := Lib.hid (H2_1.out.keep hb)
  clear hb B_1 H1_1 H2_1
  have SG_2 := Lib.hid (Sl.of_owns og); have RL_2 := Lib.hid ol.sl2; have HNG := Lib.hid hng
  clear og ol hng H1_2
  go_wp2_with fail
  refine use_w (fun W => Below w2.heap.size w2 W ∧ W.heap[w2.heap.size]? = some (.cells #[.int .i64 m1, .int .i64 wd, .slice qg ng cg] 27 (0, 0))) ⟨al (Below.refl _ _) (Nat.le_refl _), hnew rfl⟩ ?_
  rintro w3 ⟨hb, hx⟩
  have XG_3 := Lib.hid hx
  clear hx
  have B_3 := Lib.hid (bl B_2.out hb B_2.out.size)
  have H2_3 := Lib.hid (H2_2.out.keep hb)
  have SG_3 := Lib.hid (SG_2.out.keep hb)
  have RL_3 := Lib.hid (RL_2.out.keep hb)
  clear hb B_2 H2_2 SG_2 RL_2
  refine Calls.mono (HM2.out _ H2_3.out) ?_
  rintro e w4 ⟨qo, no, co, qk, ck, hno, rfl, oo, ok, hb⟩
  have B_4 := Lib.hid (bl B_3.out hb B_3.out.size)
  have H2_4 := Lib.hid (H2_3.out.keep hb)
  have SG_4 := Lib.hid (SG_3.out.keep hb)
  have RL_4 := Lib.hid (RL_3.out.keep hb)
  have XG_4 := Lib.hid ((hb.block _ (blk_lt XG_3.out)).trans XG_3.out)
  clear hb B_3 H2_3 SG_3 RL_3 XG_3
  have SO_4 := Lib.hid (Sl.of_owns oo); have RK_4 := Lib.hid ok.sl2; have HNO := Lib.hid hno
  clear oo ok hno H2_4
  obtain ⟨h30, h31, h32⟩ := cells3 XG_4.out
  go_wp2_with fail
  refine use_w (fun W => Below w4.heap.size w4 W ∧ W.heap[w4.heap.size]? = some (.cells #[.int .i64 wd, .int .i64 vd, .slice qo no co] 27 (0, 0))) ⟨al (Below.refl _ _) (Nat.le_refl _), hnew rfl⟩ ?_
  rintro w5 ⟨hb, hx⟩
  have XO_5 := Lib.hid hx
  clear hx
  have B_5 := Lib.hid (bl B_4.out hb B_4.out.size)
  have SG_5 := Lib.hid (SG_4.out.keep hb)
  have RL_5 := Lib.hid (RL_4.out.keep hb)
  have XG_5 := Lib.hid ((hb.block _ (blk_lt XG_4.out)).trans XG_4.out)
  have SO_5 := Lib.hid (SO_4.out.keep hb)
  have RK_5 := Lib.hid (RK_4.out.keep hb)
  clear hb B_4 SG_4 RL_4 XG_4 SO_4 RK_4 h30 h31 h32
  have T_5 := Lib.hid (GSt.mk (w := w) B_5.out SG_5.out RL_5.out SO_5.out RK_5.out XG_5.out XO_5.out)
  clear B_5 SG_5 RL_5 SO_5 RK_5 XG_5 XO_5
  refine Calls.mono (hR.out _ _ _ T_5.out.rl) ?_
  rintro e w6 ⟨rfl, hb⟩
  have T_6 := Lib.hid (T_5.out.keep hb)
  clear hb T_5
  obtain ⟨f0, f1, f2⟩ := cells3 T_6.out.xg
  obtain ⟨g0, g1, g2⟩ := cells3 T_6.out.xo
  go_wp2_with fail
  refine Calls.mono (hG.out _ _ _ _ HNG.out T_6.out.sg) ?_
  rintro e w7 ⟨rfl, hb⟩
  have T_7 := Lib.hid (T_6.out.keep hb)
  clear hb T_6 f0 f1 f2 g0 g1 g2
  obtain ⟨f0, f1, f2⟩ := cells3 T_7.out.xg
  obtain ⟨g0, g1, g2⟩ := cells3 T_7.out.xo
  go_wp2_with fail
  refine Calls.mono (hT.out _ _ _ _ HNG.out T_7.out.sg) ?_
  rintro e w8 ⟨q5, n5, c5, hn5, rfl, o5, hb⟩
  have T_8 := Lib.hid (T_7.out.keep hb)
  clear hb T_7 f0 f1 f2 g0 g1 g2
  have S5_8 := Lib.hid (Sl.of_owns o5); have HN5 := Lib.hid hn5
  clear o5 hn5
  obtain ⟨f0, f1, f2⟩ := cells3 T_8.out.xg
  obtain ⟨g0, g1, g2⟩ := cells3 T_8.out.xo
  go_wp2_with fail
  refine Calls.mono (hTR.out _ _ _ _ HN5.out S5_8.out) ?_
  rintro e w9 ⟨q6, c6, rfl, o6, hb⟩
  have T_9 := Lib.hid (T_8.out.keep hb)
  have S5_9 := Lib.hid (S5_8.out.keep hb)
  clear hb T_8 S5_8 f0 f1 f2 g0 g1 g2
  have S6_9 := Lib.hid o6.sl2
  clear o6 S5_9
  obtain ⟨f0, f1, f2⟩ := cells3 T_9.out.xg
  obtain ⟨g0, g1, g2⟩ := cells3 T_9.out.xo
  go_wp2_with fail
  refine Calls.mono (hRT.out _ _ _ T_9.out.rl) ?_
  rintro e w10 ⟨q7, c7, rfl, o7, hb⟩
  have T_10 := Lib.hid (T_9.out.keep hb)
  have S6_10 := Lib.hid (S6_9.out.keep hb)
  clear hb T_9 S6_9 f0 f1 f2 g0 g1 g2
  have S7_10 := Lib.hid o7.sl2
  clear o7
  obtain ⟨f0, f1, f2⟩ := cells3 T_10.out.xg
  obtain ⟨g0, g1, g2⟩ := cells3 T_10.out.xo
  go_wp2_with fail
  refine Calls.mono (Same7_any _ _ _ _ _ _ X X _ S6_10.out S7_10.out) ?_
  rintro e w11 ⟨rfl, hb⟩
  have T_11 := Lib.hid (T_10.out.keep hb)
  have S6_11 := Lib.hid (S6_10.out.keep hb)
  have S7_11 := Lib.hid (S7_10.out.keep hb)
  clear hb T_10 S6_10 S7_10 f0 f1 f2 g0 g1 g2
  rw [decide_eq_true rfl]
  clear S6_11 S7_11 HN5
  obtain ⟨f0, f1, f2⟩ := cells3 T_11.out.xg
  obtain ⟨g0, g1, g2⟩ := cells3 T_11.out.xo
  go_wp2_with fail
  refine Calls.mono (hT.out _ _ _ _ HNG.out T_11.out.sg) ?_
  rintro e w12 ⟨q5, n5, c5, hn5, rfl, o5, hb⟩
  have T_12 := Lib.hid (T_11.out.keep hb)
  clear hb T_11 f0 f1 f2 g0 g1 g2
  clear o5 hn5
  obtain ⟨f0, f1, f2⟩ := cells3 T_12.out.xg
  obtain ⟨g0, g1, g2⟩ := cells3 T_12.out.xo
  go_wp2_with fail
  refine Calls.mono (Width_any wd m1 _ _) ?_
  rintro e w13 ⟨rfl, hb⟩
  have T_13 := Lib.hid (T_12.out.keep hb)
  clear hb T_12 f0 f1 f2 g0 g1 g2
  obtain ⟨f0, f1, f2⟩ := cells3 T_13.out.xg
  obtain ⟨g0, g1, g2⟩ := cells3 T_13.out.xo
  go_wp2_with fail
  refine Calls.mono (hT.out _ _ _ _ HNG.out T_13.out.sg) ?_
  rintro e w14 ⟨q5, n5, c5, hn5, rfl, o5, hb⟩
  have T_14 := Lib.hid (T_13.out.keep hb)
  clear hb T_13 f0 f1 f2 g0 g1 g2
  clear o5 hn5
  obtain ⟨f0, f1, f2⟩ := cells3 T_14.out.xg
  obtain ⟨g0, g1, g2⟩ := cells3 T_14.out.xo
  go_wp2_with fail
  refine Calls.mono (Height_any wd m1 _ _) ?_
  rintro e w15 ⟨rfl, hb⟩
  have T_15 := Lib.hid (T_14.out.keep hb)
  clear hb T_14 f0 f1 f2 g0 g1 g2
  obtain ⟨f0, f1, f2⟩ := cells3 T_15.out.xg
  obtain ⟨g0, g1, g2⟩ := cells3 T_15.out.xo
  go_wp2_with fail
  refine Calls.mono (HMU.out _ _ _ _ _ _ _ HNG.out HNO.out T_15.out.sg T_15.out.so) ?_
  rintro e w16 ⟨q8, n8, c8, hn8, rfl, o8, hb⟩
  have T_16 := Lib.hid (T_15.out.keep hb)
  clear hb T_15 f0 f1 f2 g0 g1 g2
  have S8_16 := Lib.hid (Sl.of_owns o8); have HN8 := Lib.hid hn8
  clear o8 hn8
  obtain ⟨f0, f1, f2⟩ := cells3 T_16.out.xg
  obtain ⟨g0, g1, g2⟩ := cells3 T_16.out.xo
  go_wp2_with fail
  refine use_w (fun W => Below w16.heap.size w16 W ∧ W.heap[w16.heap.size]? = some (.cells #[.int .i64 m1, .int .i64 vd, .slice q8 n8 c8] 27 (0, 0))) ⟨al (Below.refl _ _) (Nat.le_refl _), hnew rfl⟩ ?_
  rintro w17 ⟨hb, hx⟩
  have XP_17 := Lib.hid hx
  clear hx
  have T_17 := Lib.hid (T_16.out.keep hb)
  have S8_17 := Lib.hid (S8_16.out.keep hb)
  clear hb T_16 S8_16 f0 f1 f2 g0 g1 g2
  refine Calls.mono (HPR.out _ _ _ _ HN8.out S8_17.out) ?_
  rintro e w18 ⟨q6, c6, rfl, o6, hb⟩
  have T_18 := Lib.hid (T_17.out.keep hb)
  have S8_18 := Lib.hid (S8_17.out.keep hb)
  have XP_18 := Lib.hid ((hb.block _ (blk_lt XP_17.out)).trans XP_17.out)
  clear hb T_17 S8_17 XP_17
  have S6_18 := Lib.hid o6.sl2
  clear o6 S8_18
  obtain ⟨f0, f1, f2⟩ := cells3 T_18.out.xg
  obtain ⟨g0, g1, g2⟩ := cells3 T_18.out.xo
  obtain ⟨h00, h01, h02⟩ := cells3 XP_18.out
  go_wp2_with fail
  refine Calls.mono (HRM.out _ _ _ _ _ T_18.out.rl T_18.out.rk) ?_
  rintro e w19 ⟨q7, c7, rfl, o7, hb⟩
  have T_19 := Lib.hid (T_18.out.keep hb)
  have XP_19 := Lib.hid ((hb.block _ (blk_lt XP_18.out)).trans XP_18.out)
  have S6_19 := Lib.hid (S6_18.out.keep hb)
  clear hb T_18 XP_18 S6_18 f0 f1 f2 g0 g1 g2 h00 h01 h02
  have S7_19 := Lib.hid o7.sl2
  clear o7
  obtain ⟨f0, f1, f2⟩ := cells3 T_19.out.xg
  obtain ⟨g0, g1, g2⟩ := cells3 T_19.out.xo
  obtain ⟨h00, h01, h02⟩ := cells3 XP_19.out
  go_wp2_with fail
  refine Calls.mono (Same7_any _ _ _ _ _ _ Z Z _ S6_19.out S7_19.out) ?_
  rintro e w20 ⟨rfl, hb⟩
  have T_20 := Lib.hid (T_19.out.keep hb)
  have XP_20 := Lib.hid ((hb.block _ (blk_lt XP_19.out)).trans XP_19.out)
  have S6_20 := Lib.hid (S6_19.out.keep hb)
  have S7_20 := Lib.hid (S7_19.out.keep hb)
  clear hb T_19 XP_19 S6_19 S7_19 f0 f1 f2 g0 g1 g2 h00 h01 h02
  rw [decide_eq_true rfl]
  clear S6_20 S7_20
  obtain ⟨f0, f1, f2⟩ := cells3 T_20.out.xg
  obtain ⟨g0, g1, g2⟩ := cells3 T_20.out.xo
  obtain ⟨h00, h01, h02⟩ := cells3 XP_20.out
  go_wp2_with fail
  refine Calls.mono (Width_any m1 vd _ _) ?_
  rintro e w21 ⟨rfl, hb⟩
  have T_21 := Lib.hid (T_20.out.keep hb)
  have XP_21 := Lib.hid ((hb.block _ (blk_lt XP_20.out)).trans XP_20.out)
  clear hb T_20 XP_20 f0 f1 f2 g0 g1 g2 h00 h01 h02
  obtain ⟨f0, f1, f2⟩ := cells3 T_21.out.xg
  obtain ⟨g0, g1, g2⟩ := cells3 T_21.out.xo
  obtain ⟨h00, h01, h02⟩ := cells3 XP_21.out
  go_wp2_with fail
  refine Calls.mono (Inverse_size m1 wd _ _ _ _ hinv) ?_
  rintro e w22 ⟨q9, n9, c9, hn9, rfl, o9, hb⟩
  have T_22 := Lib.hid (T_21.out.keep hb)
  have XP_22 := Lib.hid ((hb.block _ (blk_lt XP_21.out)).trans XP_21.out)
  clear hb T_21 XP_21 f0 f1 f2 g0 g1 g2 h00 h01 h02
  clear o9 hn9
  obtain ⟨f0, f1, f2⟩ := cells3 T_22.out.xg
  obtain ⟨g0, g1, g2⟩ := cells3 T_22.out.xo
  obtain ⟨h00, h01, h02⟩ := cells3 XP_22.out
  go_wp2_with fail
  refine use_w (fun W => Below w22.heap.size w22 W ∧ W.heap[w22.heap.size]? = some (.cells #[.int .i64 ((0 : Nat) : Int), .int .i64 ((0 : Nat) : Int), .slice q9 n9 c9] 27 (0, 0))) ⟨al (Below.refl _ _) (Nat.le_refl _), hnew rfl⟩ ?_
  rintro w23 ⟨hb, hx⟩
  have XQ_23 := Lib.hid hx
  clear hx
  have T_23 := Lib.hid (T_22.out.keep hb)
  have XP_23 := Lib.hid ((hb.block _ (blk_lt XP_22.out)).trans XP_22.out)
  clear hb T_22 XP_22 f0 f1 f2 g0 g1 g2 h00 h01 h02
  refine Calls.mono (Height_any 0 0 _ _) ?_
  rintro e w24 ⟨rfl, hb⟩
  have T_24 := Lib.hid (T_23.out.keep hb)
  have XP_24 := Lib.hid ((hb.block _ (blk_lt XP_23.out)).trans XP_23.out)
  have XQ_24 := Lib.hid ((hb.block _ (blk_lt XQ_23.out)).trans XQ_23.out)
  clear hb T_23 XP_23 XQ_23
  go_wp2
  go_ret
  exact ⟨rfl, T_24.out.bel⟩
set_option maxRecDepth 100000 in
set_option maxHeartbeats 8000000 in
theorem GR_okLess (x y : UInt8) (wd vd : Nat) (p1 p2 : Option Addr) (m1 c1 m2 c2 : Nat) (xss yss L K : List (List UInt8)) (w : World) (h1 : Sl2 w p1 m1 c1 xss) (h2 : Sl2 w p2 m2 c2 yss)
    (hf1 : xss.all (fun y => decide (y.length ≤ 30)) = true) (hm1 : m1 ≤ 30) (hf2 : yss.all (fun y => decide (y.length ≤ 30)) = true) (hm2 : m2 ≤ 30)
    (hM1 : ∀ W, Sl2 W p1 m1 c1 xss → Calls Try.prog 19 #[B8 x, .slice p1 m1 c1] W (RetM W m1 wd L)) (hM2 : ∀ W, Sl2 W p2 m2 c2 yss → Calls Try.prog 19 #[B8 y, .slice p2 m2 c2] W (RetM W m2 vd K))
    (hwd : wd ≤ 30) (hvd : vd ≤ 30) (hL : ∀ x, x ∈ L → x.length = wd) (hLm : L.length = m1) (hK : ∀ x, x ∈ K → x.length = vd) (hKm : K.length = m2) (hmul : wd = m2) (hinv : m1 = wd) (hrk : (iK L).length < wd) :
    Calls Try.prog 5 #[B8 x, .slice p1 m1 c1, B8 y, .slice p2 m2 c2] w fun e w' => e = .returned (.bool true) ∧ Below w.heap.size w w' := by
  have HF1 : Hid (∀ W, Sl2 W p1 m1 c1 xss → Calls Try.prog 10 #[.slice p1 m1 c1] W fun e w' => e = .returned (.bool true) ∧ W = w') := fun W h => by
    have := Few7_any p1 m1 c1 xss W h
    rw [hf1, decide_eq_true hm1] at this; exact this
  have HF2 : Hid (∀ W, Sl2 W p2 m2 c2 yss → Calls Try.prog 10 #[.slice p2 m2 c2] W fun e w' => e = .returned (.bool true) ∧ W = w') := fun W h => by
    have := Few7_any p2 m2 c2 yss W h
    rw [hf2, decide_eq_true hm2] at this; exact this
  have HM1 := Lib.hid hM1; have HM2 := Lib.hid hM2; have H1_0 := Lib.hid h1; have H2_0 := Lib.hid h2; have HLL := Lib.hid hL; have HKK := Lib.hid hK
  have hR : Hid (∀ W q c, Sl2 W q m1 c L → Calls Try.prog 25 #[.slice q m1 c] W fun e w' => e = .returned (.int .i64 (iK L).length) ∧ Below W.heap.size W w') := fun W q c h => RRank_any wd q m1 c L W h hL (by unfold Room; omega) (by omega)
  have hG : Hid (∀ W q n c, n = m1 * wd → Sl B8 W q n c L.flatten → Calls Try.prog 20 #[.agg #[.int .i64 m1, .int .i64 wd, .slice q n c]] W fun e w' => e = .returned (.int .i64 (iK L).length) ∧ Below W.heap.size W w') := fun W q n c hn h => GRank_rows hL hLm (by omega) (by omega) q n c W hn h
  have hT : Hid (∀ W q n c, n = m1 * wd → Sl B8 W q n c L.flatten → Calls Try.prog 21 #[.agg #[.int .i64 m1, .int .i64 wd, .slice q n c]] W (RetG 5 W wd m1 (turnX wd L).flatten)) := fun W q n c hn h => GTurned_rows hL hLm (by omega) (by omega) q n c W hn h
  have hTR : Hid (∀ W q n c, n = wd * m1 → Sl B8 W q n c (turnX wd L).flatten → Calls Try.prog 17 #[.agg #[.int .i64 wd, .int .i64 m1, .slice q n c]] W fun e w' => ∃ q c', e = .returned (.slice q wd c') ∧ Own2 25 5 w' W.heap.size (.slice q wd c') wd (turnX wd L) ∧ Below W.heap.size W w') := fun W q n c hn h => GRows_rows (turnX_len hLm) (turnX_length wd L) (by omega) (by omega) q n c W hn h
  have hRT : Hid (∀ W q c, Sl2 W q m1 c L → Calls Try.prog 26 #[.slice q m1 c, .int .i64 wd] W fun e w' => ∃ q c', e = .returned (.slice q wd c') ∧ Own2 25 5 w' W.heap.size (.slice q wd c') wd (turnX wd L) ∧ Below W.heap.size W w') := fun W q c h => RTurned_any wd q m1 c L W h (fun x hx => Nat.le_of_eq (hL x hx).symm) (by omega) (by omega)
  subst hmul
  have HMU : Hid (∀ W q1 n1 d1 q2 n2 d2, n1 = m1 * wd → n2 = wd * vd → Sl B8 W q1 n1 d1 L.flatten → Sl B8 W q2 n2 d2 K.flatten → Calls Try.prog 22 #[.agg #[.int .i64 m1, .int .i64 wd, .slice q1 n1 d1], .agg #[.int .i64 wd, .int .i64 vd, .slice q2 n2 d2]] W (RetG2 5 W m1 vd (L.map (mulR vd K)).flatten 0)) := fun W q1 n1 d1 q2 n2 d2 e1 e2 s1 s2 => GMul_rows hL hLm hK hKm (by omega) (by omega) (by omega) q1 q2 n1 d1 n2 d2 W e1 e2 s1 s2
  have HPR : Hid (∀ W q n c, n = m1 * vd → Sl B8 W q n c (L.map (mulR vd K)).flatten → Calls Try.prog 17 #[.agg #[.int .i64 m1, .int .i64 vd, .slice q n c]] W fun e w' => ∃ q c', e = .returned (.slice q m1 c') ∧ Own2 25 5 w' W.heap.size (.slice q m1 c') m1 (L.map (mulR vd K)) ∧ Below W.heap.size W w') := fun W q n c hn h => GRows_rows (mul_wide hK) (by rw [List.length_map]; exact hLm) (by omega) (by omega) q n c W hn h
  have HRM : Hid (∀ W q1 d1 q2 d2, Sl2 W q1 m1 d1 L → Sl2 W q2 wd d2 K → Calls Try.prog 27 #[.slice q1 m1 d1, .slice q2 wd d2, .int .i64 vd] W fun e w' => ∃ q c', e = .returned (.slice q m1 c') ∧ Own2 25 5 w' W.heap.size (.slice q m1 c') m1 (L.map (mulR vd K)) ∧ Below W.heap.size W w') := fun W q1 d1 q2 d2 s1 s2 => RMul_any m1 wd vd q1 q2 d1 d2 L K W s1 s2 hL hK (by omega) (by omega) (by omega)
  subst hinv
  have HIN : Hid (∀ W q n c, n = m1 * m1 → Sl B8 W q n c L.flatten → Calls Try.prog 24 #[.agg #[.int .i64 m1, .int .i64 m1, .slice q n c]] W (RetG2 5 W 0 0 [] 19)) := fun W q n c hn h => by
    refine (GInv_rows hL hLm (by omega) q n c W hn h).mono ?_
    intro e w' h
    rcases h with ⟨F, _, h, _⟩ | ⟨_, h⟩
    · omega
    · exact h
  have hrd : (((iK L).length : Nat) : Int) < (m1 : Int) := by omega
  clear h1 h2 hM1 hM2 hf1 hf2 hL hK hLm hKm
  clear hrk
  generalize hr : (iK L).length = r at *
  generalize turnX m1 L = X at *
  generalize L.map (mulR vd K) = Z at *
  go_enter Try.func5, Try.ntmps5
  go_wp2_with fail
  refine (awake07 _).mono ?_; rintro e w1 ⟨rfl, hb⟩
  have B_1 := Lib.hid hb
  have H1_1 := Lib.hid (H1_0.out.keep hb); have H2_1 := Lib.hid (H2_0.out.keep hb)
  clear hb H1_0 H2_0
  go_wp2_with fail
  refine Calls.mono (HF1.out _ H1_1.out) ?_
  rintro e w' ⟨rfl, rfl⟩
  go_wp2_with fail
  refine Calls.mono (HF2.out _ H2_1.out) ?_
  rintro e w' ⟨rfl, rfl⟩
  go_wp2_with fail
  refine Calls.mono (HM1.out _ H1_1.out) ?_
  rintro e w2 ⟨qg, ng, cg, ql, cl, hng, rfl, og, ol, hb⟩
  have B_2 := Lib.hid (bl B_1.out hb B_1.out.size)
  have H1_2 := Lib.hid (H1_1.out.keep hb)
  have H2_2 := Lib.hid (H2_1.out.keep hb)
  clear hb B_1 H1_1 H2_1
  have SG_2 := Lib.hid (Sl.of_owns og); have RL_2 := Lib.hid ol.sl2; have HNG := Lib.hid hng
  clear og ol hng H1_2
  go_wp2_with fail
  refine use_w (fun W => Below w2.heap.size w2 W ∧ W.heap[w2.heap.size]? = some (.cells #[.int .i64 m1, .int .i64 m1, .slice qg ng cg] 27 (0, 0))) ⟨al (Below.refl _ _) (Nat.le_refl _), hnew rfl⟩ ?_
  rintro w3 ⟨hb, hx⟩
  have XG_3 := Lib.hid hx
  clear hx
  have B_3 := Lib.hid (bl B_2.out hb B_2.out.size)
  have H2_3 := Lib.hid (H2_2.out.keep hb)
  have SG_3 := Lib.hid (SG_2.out.keep hb)
  have RL_3 := Lib.hid (RL_2.out.keep hb)
  clear hb B_2 H2_2 SG_2 RL_2
  refine Calls.mono (HM2.out _ H2_3.out) ?_
  rintro e w4 ⟨qo, no, co, qk, ck, hno, rfl, oo, ok, hb⟩
  have B_4 := Lib.hid (bl B_3.out hb B_3.out.size)
  have H2_4 := Lib.hid (H2_3.out.keep hb)
  have SG_4 := Lib.hid (SG_3.out.keep hb)
  have RL_4 := Lib.hid (RL_3.out.keep hb)
  have XG_4 := Lib.hid ((hb.block _ (blk_lt XG_3.out)).trans XG_3.out)
  clear hb B_3 H2_3 SG_3 RL_3 XG_3
  have SO_4 := Lib.hid (Sl.of_owns oo); have RK_4 := Lib.hid ok.sl2; have HNO := Lib.hid hno
  clear oo ok hno H2_4
  obtain ⟨h30, h31, h32⟩ := cells3 XG_4.out
  go_wp2_with fail
  refine use_w (fun W => Below w4.heap.size w4 W ∧ W.heap[w4.heap.size]? = some (.cells #[.int .i64 m1, .int .i64 vd, .slice qo no co] 27 (0, 0))) ⟨al (Below.refl _ _) (Nat.le_refl _), hnew rfl⟩ ?_
  rintro w5 ⟨hb, hx⟩
  have XO_5 := Lib.hid hx
  clear hx
  have B_5 := Lib.hid (bl B_4.out hb B_4.out.size)
  have SG_5 := Lib.hid (SG_4.out.keep hb)
  have RL_5 := Lib.hid (RL_4.out.keep hb)
  have XG_5 := Lib.hid ((hb.block _ (blk_lt XG_4.out)).trans XG_4.out)
  have SO_5 := Lib.hid (SO_4.out.keep hb)
  have RK_5 := Lib.hid (RK_4.out.keep hb)
  clear hb B_4 SG_4 RL_4 XG_4 SO_4 RK_4 h30 h31 h32
  have T_5 := Lib.hid (GSt.mk (w := w) B_5.out SG_5.out RL_5.out SO_5.out RK_5.out XG_5.out XO_5.out)
  clear B_5 SG_5 RL_5 SO_5 RK_5 XG_5 XO_5
  refine Calls.mono (hR.out _ _ _ T_5.out.rl) ?_
  rintro e w6 ⟨rfl, hb⟩
  have T_6 := Lib.hid (T_5.out.keep hb)
  clear hb T_5
  obtain ⟨f0, f1, f2⟩ := cells3 T_6.out.xg
  obtain ⟨g0, g1, g2⟩ := cells3 T_6.out.xo
  go_wp2_with fail
  refine Calls.mono (hG.out _ _ _ _ HNG.out T_6.out.sg) ?_
  rintro e w7 ⟨rfl, hb⟩
  have T_7 := Lib.hid (T_6.out.keep hb)
  clear hb T_6 f0 f1 f2 g0 g1 g2
  obtain ⟨f0, f1, f2⟩ := cells3 T_7.out.xg
  obtain ⟨g0, g1, g2⟩ := cells3 T_7.out.xo
  go_wp2_with fail
  refine Calls.mono (hT.out _ _ _ _ HNG.out T_7.out.sg) ?_
  rintro e w8 ⟨q5, n5, c5, hn5, rfl, o5, hb⟩
  have T_8 := Lib.hid (T_7.out.keep hb)
  clear hb T_7 f0 f1 f2 g0 g1 g2
  have S5_8 := Lib.hid (Sl.of_owns o5); have HN5 := Lib.hid hn5
  clear o5 hn5
  obtain ⟨f0, f1, f2⟩ := cells3 T_8.out.xg
  obtain ⟨g0, g1, g2⟩ := cells3 T_8.out.xo
  go_wp2_with fail
  refine Calls.mono (hTR.out _ _ _ _ HN5.out S5_8.out) ?_
  rintro e w9 ⟨q6, c6, rfl, o6, hb⟩
  have T_9 := Lib.hid (T_8.out.keep hb)
  have S5_9 := Lib.hid (S5_8.out.keep hb)
  clear hb T_8 S5_8 f0 f1 f2 g0 g1 g2
  have S6_9 := Lib.hid o6.sl2
  clear o6 S5_9
  obtain ⟨f0, f1, f2⟩ := cells3 T_9.out.xg
  obtain ⟨g0, g1, g2⟩ := cells3 T_9.out.xo
  go_wp2_with fail
  refine Calls.mono (hRT.out _ _ _ T_9.out.rl) ?_
  rintro e w10 ⟨q7, c7, rfl, o7, hb⟩
  have T_10 := Lib.hid (T_9.out.keep hb)
  have S6_10 := Lib.hid (S6_9.out.keep hb)
  clear hb T_9 S6_9 f0 f1 f2 g0 g1 g2
  have S7_10 := Lib.hid o7.sl2
  clear o7
  obtain ⟨f0, f1, f2⟩ := cells3 T_10.out.xg
  obtain ⟨g0, g1, g2⟩ := cells3 T_10.out.xo
  go_wp2_with fail
  refine Calls.mono (Same7_any _ _ _ _ _ _ X X _ S6_10.out S7_10.out) ?_
  rintro e w11 ⟨rfl, hb⟩
  have T_11 := Lib.hid (T_10.out.keep hb)
  have S6_11 := Lib.hid (S6_10.out.keep hb)
  have S7_11 := Lib.hid (S7_10.out.keep hb)
  clear hb T_10 S6_10 S7_10 f0 f1 f2 g0 g1 g2
  rw [decide_eq_true rfl]
  clear S6_11 S7_11 HN5
  obtain ⟨f0, f1, f2⟩ := cells3 T_11.out.xg
  obtain ⟨g0, g1, g2⟩ := cells3 T_11.out.xo
  go_wp2_with fail
  refine Calls.mono (hT.out _ _ _ _ HNG.out T_11.out.sg) ?_
  rintro e w12 ⟨q5, n5, c5, hn5, rfl, o5, hb⟩
  have T_12 := Lib.hid (T_11.out.keep hb)
  clear hb T_11 f0 f1 f2 g0 g1 g2
  clear o5 hn5
  obtain ⟨f0, f1, f2⟩ := cells3 T_12.out.xg
  obtain ⟨g0, g1, g2⟩ := cells3 T_12.out.xo
  go_wp2_with fail
  refine Calls.mono (Width_any m1 m1 _ _) ?_
  rintro e w13 ⟨rfl, hb⟩
  have T_13 := Lib.hid (T_12.out.keep hb)
  clear hb T_12 f0 f1 f2 g0 g1 g2
  obtain ⟨f0, f1, f2⟩ := cells3 T_13.out.xg
  obtain ⟨g0, g1, g2⟩ := cells3 T_13.out.xo
  go_wp2_with fail
  refine Calls.mono (hT.out _ _ _ _ HNG.out T_13.out.sg) ?_
  rintro e w14 ⟨q5, n5, c5, hn5, rfl, o5, hb⟩
  have T_14 := Lib.hid (T_13.out.keep hb)
  clear hb T_13 f0 f1 f2 g0 g1 g2
  clear o5 hn5
  obtain ⟨f0, f1, f2⟩ := cells3 T_14.out.xg
  obtain ⟨g0, g1, g2⟩ := cells3 T_14.out.xo
  go_wp2_with fail
  refine Calls.mono (Height_any m1 m1 _ _) ?_
  rintro e w15 ⟨rfl, hb⟩
  have T_15 := Lib.hid (T_14.out.keep hb)
  clear hb T_14 f0 f1 f2 g0 g1 g2
  obtain ⟨f0, f1, f2⟩ := cells3 T_15.out.xg
  obtain ⟨g0, g1, g2⟩ := cells3 T_15.out.xo
  go_wp2_with fail
  refine Calls.mono (HMU.out _ _ _ _ _ _ _ HNG.out HNO.out T_15.out.sg T_15.out.so) ?_
  rintro e w16 ⟨q8, n8, c8, hn8, rfl, o8, hb⟩
  have T_16 := Lib.hid (T_15.out.keep hb)
  clear hb T_15 f0 f1 f2 g0 g1 g2
  have S8_16 := Lib.hid (Sl.of_owns o8); have HN8 := Lib.hid hn8
  clear o8 hn8
  obtain ⟨f0, f1, f2⟩ := cells3 T_16.out.xg
  obtain ⟨g0, g1, g2⟩ := cells3 T_16.out.xo
  go_wp2_with fail
  refine use_w (fun W => Below w16.heap.size w16 W ∧ W.heap[w16.heap.size]? = some (.cells #[.int .i64 m1, .int .i64 vd, .slice q8 n8 c8] 27 (0, 0))) ⟨al (Below.refl _ _) (Nat.le_refl _), hnew rfl⟩ ?_
  rintro w17 ⟨hb, hx⟩
  have XP_17 := Lib.hid hx
  clear hx
  have T_17 := Lib.hid (T_16.out.keep hb)
  have S8_17 := Lib.hid (S8_16.out.keep hb)
  clear hb T_16 S8_16 f0 f1 f2 g0 g1 g2
  refine Calls.mono (HPR.out _ _ _ _ HN8.out S8_17.out) ?_
  rintro e w18 ⟨q6, c6, rfl, o6, hb⟩
  have T_18 := Lib.hid (T_17.out.keep hb)
  have S8_18 := Lib.hid (S8_17.out.keep hb)
  have XP_18 := Lib.hid ((hb.block _ (blk_lt XP_17.out)).trans XP_17.out)
  clear hb T_17 S8_17 XP_17
  have S6_18 := Lib.hid o6.sl2
  clear o6 S8_18
  obtain ⟨f0, f1, f2⟩ := cells3 T_18.out.xg
  obtain ⟨g0, g1, g2⟩ := cells3 T_18.out.xo
  obtain ⟨h00, h01, h02⟩ := cells3 XP_18.out
  go_wp2_with fail
  refine Calls.mono (HRM.out _ _ _ _ _ T_18.out.rl T_18.out.rk) ?_
  rintro e w19 ⟨q7, c7, rfl, o7, hb⟩
  have T_19 := Lib.hid (T_18.out.keep hb)
  have XP_19 := Lib.hid ((hb.block _ (blk_lt XP_18.out)).trans XP_18.out)
  have S6_19 := Lib.hid (S6_18.out.keep hb)
  clear hb T_18 XP_18 S6_18 f0 f1 f2 g0 g1 g2 h00 h01 h02
  have S7_19 := Lib.hid o7.sl2
  clear o7
  obtain ⟨f0, f1, f2⟩ := cells3 T_19.out.xg
  obtain ⟨g0, g1, g2⟩ := cells3 T_19.out.xo
  obtain ⟨h00, h01, h02⟩ := cells3 XP_19.out
  go_wp2_with fail
  refine Calls.mono (Same7_any _ _ _ _ _ _ Z Z _ S6_19.out S7_19.out) ?_
  rintro e w20 ⟨rfl, hb⟩
  have T_20 := Lib.hid (T_19.out.keep hb)
  have XP_20 := Lib.hid ((hb.block _ (blk_lt XP_19.out)).trans XP_19.out)
  have S6_20 := Lib.hid (S6_19.out.keep hb)
  have S7_20 := Lib.hid (S7_19.out.keep hb)
  clear hb T_19 XP_19 S6_19 S7_19 f0 f1 f2 g0 g1 g2 h00 h01 h02
  rw [decide_eq_true rfl]
  clear S6_20 S7_20
  obtain ⟨f0, f1, f2⟩ := cells3 T_20.out.xg
  obtain ⟨g0, g1, g2⟩ := cells3 T_20.out.xo
  obtain ⟨h00, h01, h02⟩ := cells3 XP_20.out
  go_wp2_with fail
  refine Calls.mono (Width_any m1 vd _ _) ?_
  rintro e w21 ⟨rfl, hb⟩
  have T_21 := Lib.hid (T_20.out.keep hb)
  have XP_21 := Lib.hid ((hb.block _ (blk_lt XP_20.out)).trans XP_20.out)
  clear hb T_20 XP_20 f0 f1 f2 g0 g1 g2 h00 h01 h02
  obtain ⟨f0, f1, f2⟩ := cells3 T_21.out.xg
  obtain ⟨g0, g1, g2⟩ := cells3 T_21.out.xo
  obtain ⟨h00, h01, h02⟩ := cells3 XP_21.out
  go_wp2_with fail
  refine Calls.mono (HIN.out _ _ _ _ HNG.out T_21.out.sg) ?_
  rintro e w22 ⟨q9, n9, c9, hn9, rfl, o9, hb⟩
  have T_22 := Lib.hid (T_21.out.keep hb)
  have XP_22 := Lib.hid ((hb.block _ (blk_lt XP_21.out)).trans XP_21.out)
  clear hb T_21 XP_21 f0 f1 f2 g0 g1 g2 h00 h01 h02
  clear o9 hn9
  obtain ⟨f0, f1, f2⟩ := cells3 T_22.out.xg
  obtain ⟨g0, g1, g2⟩ := cells3 T_22.out.xo
  obtain ⟨h00, h01, h02⟩ := cells3 XP_22.out
  go_wp2_with fail
  refine use_w (fun W => Below w22.heap.size w22 W ∧ W.heap[w22.heap.size]? = some (.cells #[.int .i64 ((0 : Nat) : Int), .int .i64 ((0 : Nat) : Int), .slice q9 n9 c9] 27 (0, 0))) ⟨al (Below.refl _ _) (Nat.le_refl _), hnew rfl⟩ ?_
  rintro w23 ⟨hb, hx⟩
  have XQ_23 := Lib.hid hx
  clear hx
  have T_23 := Lib.hid (T_22.out.keep hb)
  have XP_23 := Lib.hid ((hb.block _ (blk_lt XP_22.out)).trans XP_22.out)
  clear hb T_22 XP_22 f0 f1 f2 g0 g1 g2 h00 h01 h02
  refine Calls.mono (Height_any 0 0 _ _) ?_
  rintro e w24 ⟨rfl, hb⟩
  have T_24 := Lib.hid (T_23.out.keep hb)
  have XP_24 := Lib.hid ((hb.block _ (blk_lt XP_23.out)).trans XP_23.out)
  have XQ_24 := Lib.hid ((hb.block _ (blk_lt XQ_23.out)).trans XQ_23.out)
  clear hb T_23 XP_23 XQ_23
  go_wp2
  go_ret
  exact ⟨rfl, T_24.out.bel⟩
set_option maxRecDepth 100000 in
set_option maxHeartbeats 8000000 in
theorem GR_okFull (x y : UInt8) (wd vd : Nat) (p1 p2 : Option Addr) (m1 c1 m2 c2 : Nat) (xss yss L K : List (List UInt8)) (w : World) (h1 : Sl2 w p1 m1 c1 xss) (h2 : Sl2 w p2 m2 c2 yss)
    (hf1 : xss.all (fun y => decide (y.length ≤ 30)) = true) (hm1 : m1 ≤ 30) (hf2 : yss.all (fun y => decide (y.length ≤ 30)) = true) (hm2 : m2 ≤ 30)
    (hM1 : ∀ W, Sl2 W p1 m1 c1 xss → Calls Try.prog 19 #[B8 x, .slice p1 m1 c1] W (RetM W m1 wd L)) (hM2 : ∀ W, Sl2 W p2 m2 c2 yss → Calls Try.prog 19 #[B8 y, .slice p2 m2 c2] W (RetM W m2 vd K))
    (hwd : wd ≤ 30) (hvd : vd ≤ 30) (hL : ∀ x, x ∈ L → x.length = wd) (hLm : L.length = m1) (hK : ∀ x, x ∈ K → x.length = vd) (hKm : K.length = m2) (hmul : wd = m2) (hinv : m1 = wd) (hrk : (iK L).length = wd) :
    Calls Try.prog 5 #[B8 x, .slice p1 m1 c1, B8 y, .slice p2 m2 c2] w fun e w' => e = .returned (.bool true) ∧ Below w.heap.size w w' := by
  have HF1 : Hid (∀ W, Sl2 W p1 m1 c1 xss → Calls Try.prog 10 #[.slice p1 m1 c1] W fun e w' => e = .returned (.bool true) ∧ W = w') := fun W h => by
    have := Few7_any p1 m1 c1 xss W h
    rw [hf1, decide_eq_true hm1] at this; exact this
  have HF2 : Hid (∀ W, Sl2 W p2 m2 c2 yss → Calls Try.prog 10 #[.slice p2 m2 c2] W fun e w' => e = .returned (.bool true) ∧ W = w') := fun W h => by
    have := Few7_any p2 m2 c2 yss W h
    rw [hf2, decide_eq_true hm2] at this; exact this
  have HM1 := Lib.hid hM1; have HM2 := Lib.hid hM2; have H1_0 := Lib.hid h1; have H2_0 := Lib.hid h2; have HLL := Lib.hid hL; have HKK := Lib.hid hK
  have hR : Hid (∀ W q c, Sl2 W q m1 c L → Calls Try.prog 25 #[.slice q m1 c] W fun e w' => e = .returned (.int .i64 (iK L).length) ∧ Below W.heap.size W w') := fun W q c h => RRank_any wd q m1 c L W h hL (by unfold Room; omega) (by omega)
  have hG : Hid (∀ W q n c, n = m1 * wd → Sl B8 W q n c L.flatten → Calls Try.prog 20 #[.agg #[.int .i64 m1, .int .i64 wd, .slice q n c]] W fun e w' => e = .returned (.int .i64 (iK L).length) ∧ Below W.heap.size W w') := fun W q n c hn h => GRank_rows hL hLm (by omega) (by omega) q n c W hn h
  have hT : Hid (∀ W q n c, n = m1 * wd → Sl B8 W q n c L.flatten → Calls Try.prog 21 #[.agg #[.int .i64 m1, .int .i64 wd, .slice q n c]] W (RetG 5 W wd m1 (turnX wd L).flatten)) := fun W q n c hn h => GTurned_rows hL hLm (by omega) (by omega) q n c W hn h
  have hTR : Hid (∀ W q n c, n = wd * m1 → Sl B8 W q n c (turnX wd L).flatten → Calls Try.prog 17 #[.agg #[.int .i64 wd, .int .i64 m1, .slice q n c]] W fun e w' => ∃ q c', e = .returned (.slice q wd c') ∧ Own2 25 5 w' W.heap.size (.slice q wd c') wd (turnX wd L) ∧ Below W.heap.size W w') := fun W q n c hn h => GRows_rows (turnX_len hLm) (turnX_length wd L) (by omega) (by omega) q n c W hn h
  have hRT : Hid (∀ W q c, Sl2 W q m1 c L → Calls Try.prog 26 #[.slice q m1 c, .int .i64 wd] W fun e w' => ∃ q c', e = .returned (.slice q wd c') ∧ Own2 25 5 w' W.heap.size (.slice q wd c') wd (turnX wd L) ∧ Below W.heap.size W w') := fun W q c h => RTurned_any wd q m1 c L W h (fun x hx => Nat.le_of_eq (hL x hx).symm) (by omega) (by omega)
  subst hmul
  have HMU : Hid (∀ W q1 n1 d1 q2 n2 d2, n1 = m1 * wd → n2 = wd * vd → Sl B8 W q1 n1 d1 L.flatten → Sl B8 W q2 n2 d2 K.flatten → Calls Try.prog 22 #[.agg #[.int .i64 m1, .int .i64 wd, .slice q1 n1 d1], .agg #[.int .i64 wd, .int .i64 vd, .slice q2 n2 d2]] W (RetG2 5 W m1 vd (L.map (mulR vd K)).flatten 0)) := fun W q1 n1 d1 q2 n2 d2 e1 e2 s1 s2 => GMul_rows hL hLm hK hKm (by omega) (by omega) (by omega) q1 q2 n1 d1 n2 d2 W e1 e2 s1 s2
  have HPR : Hid (∀ W q n c, n = m1 * vd → Sl B8 W q n c (L.map (mulR vd K)).flatten → Calls Try.prog 17 #[.agg #[.int .i64 m1, .int .i64 vd, .slice q n c]] W fun e w' => ∃ q c', e = .returned (.slice q m1 c') ∧ Own2 25 5 w' W.heap.size (.slice q m1 c') m1 (L.map (mulR vd K)) ∧ Below W.heap.size W w') := fun W q n c hn h => GRows_rows (mul_wide hK) (by rw [List.length_map]; exact hLm) (by omega) (by omega) q n c W hn h
  have HRM : Hid (∀ W q1 d1 q2 d2, Sl2 W q1 m1 d1 L → Sl2 W q2 wd d2 K → Calls Try.prog 27 #[.slice q1 m1 d1, .slice q2 wd d2, .int .i64 vd] W fun e w' => ∃ q c', e = .returned (.slice q m1 c') ∧ Own2 25 5 w' W.heap.size (.slice q m1 c') m1 (L.map (mulR vd K)) ∧ Below W.heap.size W w') := fun W q1 d1 q2 d2 s1 s2 => RMul_any m1 wd vd q1 q2 d1 d2 L K W s1 s2 hL hK (by omega) (by omega) (by omega)
  subst hinv
  have HIN : Hid (∀ W q n c, n = m1 * m1 → Sl B8 W q n c L.flatten → Calls Try.prog 24 #[.agg #[.int .i64 m1, .int .i64 m1, .slice q n c]] W (fun e w' => ∃ F : Nat → Rw, GJ m1 (sqR m1 L.flatten) F m1 ∧ RetG2 5 W m1 m1 (rowsD m1 F).flatten 0 e w')) := fun W q n c hn h => by
    refine (GInv_rows hL hLm (by omega) q n c W hn h).mono ?_
    intro e w' h
    rcases h with ⟨F, g, _, h⟩ | ⟨h, _⟩
    · exact ⟨F, g, h⟩
    · omega
  have hrd : (m1 : Int) ≤ (((iK L).length : Nat) : Int) := by omega
  have HMI : Hid (∀ (W : World) (F : Nat → Rw) q1 n1 d1 q2 n2 d2, n1 = m1 * m1 → n2 = m1 * m1 → GJ m1 (sqR m1 L.flatten) F m1 → Sl B8 W q1 n1 d1 L.flatten → Sl B8 W q2 n2 d2 (rowsD m1 F).flatten → Calls Try.prog 22 #[.agg #[.int .i64 m1, .int .i64 m1, .slice q1 n1 d1], .agg #[.int .i64 m1, .int .i64 m1, .slice q2 n2 d2]] W (RetG2 5 W m1 m1 (unitC m1 m1) 0)) := fun W F q1 n1 d1 q2 n2 d2 e1 e2 g s1 s2 => by
    have := GMul_rows hL hLm (rowsD_wide g) (rowsD_len m1 F) (by omega) (by omega) (by omega) q1 q2 n1 d1 n2 d2 W e1 e2 s1 s2
    rwa [inv_right hL hLm g] at this
  have HUN : Hid (∀ W, Calls Try.prog 12 #[.int .i64 m1] W (RetG2 5 W m1 m1 (unitC m1 m1) 0)) := fun W => Unit_good m1 W (by omega)
  clear h1 h2 hM1 hM2 hf1 hf2 hL hK hLm hKm
  clear hrk
  generalize hr : (iK L).length = r at *
  generalize turnX m1 L = X at *
  generalize L.map (mulR vd K) = Z at *
  go_enter Try.func5, Try.ntmps5
  go_wp2_with fail
  refine (awake07 _).mono ?_; rintro e w1 ⟨rfl, hb⟩
  have B_1 := Lib.hid hb
  have H1_1 := Lib.hid (H1_0.out.keep hb); have H2_1 := Lib.hid (H2_0.out.keep hb)
  clear hb H1_0 H2_0
  go_wp2_with fail
  refine Calls.mono (HF1.out _ H1_1.out) ?_
  rintro e w' ⟨rfl, rfl⟩
  go_wp2_with fail
  refine Calls.mono (HF2.out _ H2_1.out) ?_
  rintro e w' ⟨rfl, rfl⟩
  go_wp2_with fail
  refine Calls.mono (HM1.out _ H1_1.out) ?_
  rintro e w2 ⟨qg, ng, cg, ql, cl, hng, rfl, og, ol, hb⟩
  have B_2 := Lib.hid (bl B_1.out hb B_1.out.size)
  have H1_2 := Lib.hid (H1_1.out.keep hb)
  have H2_2 := Lib.hid (H2_1.out.keep hb)
  clear hb B_1 H1_1 H2_1
  have SG_2 := Lib.hid (Sl.of_owns og); have RL_2 := Lib.hid ol.sl2; have HNG := Lib.hid hng
  clear og ol hng H1_2
  go_wp2_with fail
  refine use_w (fun W => Below w2.heap.size w2 W ∧ W.heap[w2.heap.size]? = some (.cells #[.int .i64 m1, .int .i64 m1, .slice qg ng cg] 27 (0, 0))) ⟨al (Below.refl _ _) (Nat.le_refl _), hnew rfl⟩ ?_
  rintro w3 ⟨hb, hx⟩
  have XG_3 := Lib.hid hx
  clear hx
  have B_3 := Lib.hid (bl B_2.out hb B_2.out.size)
  have H2_3 := Lib.hid (H2_2.out.keep hb)
  have SG_3 := Lib.hid (SG_2.out.keep hb)
  have RL_3 := Lib.hid (RL_2.out.keep hb)
  clear hb B_2 H2_2 SG_2 RL_2
  refine Calls.mono (HM2.out _ H2_3.out) ?_
  rintro e w4 ⟨qo, no, co, qk, ck, hno, rfl, oo, ok, hb⟩
  have B_4 := Lib.hid (bl B_3.out hb B_3.out.size)
  have H2_4 := Lib.hid (H2_3.out.keep hb)
  have SG_4 := Lib.hid (SG_3.out.keep hb)
  have RL_4 := Lib.hid (RL_3.out.keep hb)
  have XG_4 := Lib.hid ((hb.block _ (blk_lt XG_3.out)).trans XG_3.out)
  clear hb B_3 H2_3 SG_3 RL_3 XG_3
  have SO_4 := Lib.hid (Sl.of_owns oo); have RK_4 := Lib.hid ok.sl2; have HNO := Lib.hid hno
  clear oo ok hno H2_4
  obtain ⟨h30, h31, h32⟩ := cells3 XG_4.out
  go_wp2_with fail
  refine use_w (fun W => Below w4.heap.size w4 W ∧ W.heap[w4.heap.size]? = some (.cells #[.int .i64 m1, .int .i64 vd, .slice qo no co] 27 (0, 0))) ⟨al (Below.refl _ _) (Nat.le_refl _), hnew rfl⟩ ?_
  rintro w5 ⟨hb, hx⟩
  have XO_5 := Lib.hid hx
  clear hx
  have B_5 := Lib.hid (bl B_4.out hb B_4.out.size)
  have SG_5 := Lib.hid (SG_4.out.keep hb)
  have RL_5 := Lib.hid (RL_4.out.keep hb)
  have XG_5 := Lib.hid ((hb.block _ (blk_lt XG_4.out)).trans XG_4.out)
  have SO_5 := Lib.hid (SO_4.out.keep hb)
  have RK_5 := Lib.hid (RK_4.out.keep hb)
  clear hb B_4 SG_4 RL_4 XG_4 SO_4 RK_4 h30 h31 h32
  have T_5 := Lib.hid (GSt.mk (w := w) B_5.out SG_5.out RL_5.out SO_5.out RK_5.out XG_5.out XO_5.out)
  clear B_5 SG_5 RL_5 SO_5 RK_5 XG_5 XO_5
  refine Calls.mono (hR.out _ _ _ T_5.out.rl) ?_
  rintro e w6 ⟨rfl, hb⟩
  have T_6 := Lib.hid (T_5.out.keep hb)
  clear hb T_5
  obtain ⟨f0, f1, f2⟩ := cells3 T_6.out.xg
  obtain ⟨g0, g1, g2⟩ := cells3 T_6.out.xo
  go_wp2_with fail
  refine Calls.mono (hG.out _ _ _ _ HNG.out T_6.out.sg) ?_
  rintro e w7 ⟨rfl, hb⟩
  have T_7 := Lib.hid (T_6.out.keep hb)
  clear hb T_6 f0 f1 f2 g0 g1 g2
  obtain ⟨f0, f1, f2⟩ := cells3 T_7.out.xg
  obtain ⟨g0, g1, g2⟩ := cells3 T_7.out.xo
  go_wp2_with fail
  refine Calls.mono (hT.out _ _ _ _ HNG.out T_7.out.sg) ?_
  rintro e w8 ⟨q5, n5, c5, hn5, rfl, o5, hb⟩
  have T_8 := Lib.hid (T_7.out.keep hb)
  clear hb T_7 f0 f1 f2 g0 g1 g2
  have S5_8 := Lib.hid (Sl.of_owns o5); have HN5 := Lib.hid hn5
  clear o5 hn5
  obtain ⟨f0, f1, f2⟩ := cells3 T_8.out.xg
  obtain ⟨g0, g1, g2⟩ := cells3 T_8.out.xo
  go_wp2_with fail
  refine Calls.mono (hTR.out _ _ _ _ HN5.out S5_8.out) ?_
  rintro e w9 ⟨q6, c6, rfl, o6, hb⟩
  have T_9 := Lib.hid (T_8.out.keep hb)
  have S5_9 := Lib.hid (S5_8.out.keep hb)
  clear hb T_8 S5_8 f0 f1 f2 g0 g1 g2
  have S6_9 := Lib.hid o6.sl2
  clear o6 S5_9
  obtain ⟨f0, f1, f2⟩ := cells3 T_9.out.xg
  obtain ⟨g0, g1, g2⟩ := cells3 T_9.out.xo
  go_wp2_with fail
  refine Calls.mono (hRT.out _ _ _ T_9.out.rl) ?_
  rintro e w10 ⟨q7, c7, rfl, o7, hb⟩
  have T_10 := Lib.hid (T_9.out.keep hb)
  have S6_10 := Lib.hid (S6_9.out.keep hb)
  clear hb T_9 S6_9 f0 f1 f2 g0 g1 g2
  have S7_10 := Lib.hid o7.sl2
  clear o7
  obtain ⟨f0, f1, f2⟩ := cells3 T_10.out.xg
  obtain ⟨g0, g1, g2⟩ := cells3 T_10.out.xo
  go_wp2_with fail
  refine Calls.mono (Same7_any _ _ _ _ _ _ X X _ S6_10.out S7_10.out) ?_
  rintro e w11 ⟨rfl, hb⟩
  have T_11 := Lib.hid (T_10.out.keep hb)
  have S6_11 := Lib.hid (S6_10.out.keep hb)
  have S7_11 := Lib.hid (S7_10.out.keep hb)
  clear hb T_10 S6_10 S7_10 f0 f1 f2 g0 g1 g2
  rw [decide_eq_true rfl]
  clear S6_11 S7_11 HN5
  obtain ⟨f0, f1, f2⟩ := cells3 T_11.out.xg
  obtain ⟨g0, g1, g2⟩ := cells3 T_11.out.xo
  go_wp2_with fail
  refine Calls.mono (hT.out _ _ _ _ HNG.out T_11.out.sg) ?_
  rintro e w12 ⟨q5, n5, c5, hn5, rfl, o5, hb⟩
  have T_12 := Lib.hid (T_11.out.keep hb)
  clear hb T_11 f0 f1 f2 g0 g1 g2
  clear o5 hn5
  obtain ⟨f0, f1, f2⟩ := cells3 T_12.out.xg
  obtain ⟨g0, g1, g2⟩ := cells3 T_12.out.xo
  go_wp2_with fail
  refine Calls.mono (Width_any m1 m1 _ _) ?_
  rintro e w13 ⟨rfl, hb⟩
  have T_13 := Lib.hid (T_12.out.keep hb)
  clear hb T_12 f0 f1 f2 g0 g1 g2
  obtain ⟨f0, f1, f2⟩ := cells3 T_13.out.xg
  obtain ⟨g0, g1, g2⟩ := cells3 T_13.out.xo
  go_wp2_with fail
  refine Calls.mono (hT.out _ _ _ _ HNG.out T_13.out.sg) ?_
  rintro e w14 ⟨q5, n5, c5, hn5, rfl, o5, hb⟩
  have T_14 := Lib.hid (T_13.out.keep hb)
  clear hb T_13 f0 f1 f2 g0 g1 g2
  clear o5 hn5
  obtain ⟨f0, f1, f2⟩ := cells3 T_14.out.xg
  obtain ⟨g0, g1, g2⟩ := cells3 T_14.out.xo
  go_wp2_with fail
  refine Calls.mono (Height_any m1 m1 _ _) ?_
  rintro e w15 ⟨rfl, hb⟩
  have T_15 := Lib.hid (T_14.out.keep hb)
  clear hb T_14 f0 f1 f2 g0 g1 g2
  obtain ⟨f0, f1, f2⟩ := cells3 T_15.out.xg
  obtain ⟨g0, g1, g2⟩ := cells3 T_15.out.xo
  go_wp2_with fail
  refine Calls.mono (HMU.out _ _ _ _ _ _ _ HNG.out HNO.out T_15.out.sg T_15.out.so) ?_
  rintro e w16 ⟨q8, n8, c8, hn8, rfl, o8, hb⟩
  have T_16 := Lib.hid (T_15.out.keep hb)
  clear hb T_15 f0 f1 f2 g0 g1 g2
  have S8_16 := Lib.hid (Sl.of_owns o8); have HN8 := Lib.hid hn8
  clear o8 hn8
  obtain ⟨f0, f1, f2⟩ := cells3 T_16.out.xg
  obtain ⟨g0, g1, g2⟩ := cells3 T_16.out.xo
  go_wp2_with fail
  refine use_w (fun W => Below w16.heap.size w16 W ∧ W.heap[w16.heap.size]? = some (.cells #[.int .i64 m1, .int .i64 vd, .slice q8 n8 c8] 27 (0, 0))) ⟨al (Below.refl _ _) (Nat.le_refl _), hnew rfl⟩ ?_
  rintro w17 ⟨hb, hx⟩
  have XP_17 := Lib.hid hx
  clear hx
  have T_17 := Lib.hid (T_16.out.keep hb)
  have S8_17 := Lib.hid (S8_16.out.keep hb)
  clear hb T_16 S8_16 f0 f1 f2 g0 g1 g2
  refine Calls.mono (HPR.out _ _ _ _ HN8.out S8_17.out) ?_
  rintro e w18 ⟨q6, c6, rfl, o6, hb⟩
  have T_18 := Lib.hid (T_17.out.keep hb)
  have S8_18 := Lib.hid (S8_17.out.keep hb)
  have XP_18 := Lib.hid ((hb.block _ (blk_lt XP_17.out)).trans XP_17.out)
  clear hb T_17 S8_17 XP_17
  have S6_18 := Lib.hid o6.sl2
  clear o6 S8_18
  obtain ⟨f0, f1, f2⟩ := cells3 T_18.out.xg
  obtain ⟨g0, g1, g2⟩ := cells3 T_18.out.xo
  obtain ⟨h00, h01, h02⟩ := cells3 XP_18.out
  go_wp2_with fail
  refine Calls.mono (HRM.out _ _ _ _ _ T_18.out.rl T_18.out.rk) ?_
  rintro e w19 ⟨q7, c7, rfl, o7, hb⟩
  have T_19 := Lib.hid (T_18.out.keep hb)
  have XP_19 := Lib.hid ((hb.block _ (blk_lt XP_18.out)).trans XP_18.out)
  have S6_19 := Lib.hid (S6_18.out.keep hb)
  clear hb T_18 XP_18 S6_18 f0 f1 f2 g0 g1 g2 h00 h01 h02
  have S7_19 := Lib.hid o7.sl2
  clear o7
  obtain ⟨f0, f1, f2⟩ := cells3 T_19.out.xg
  obtain ⟨g0, g1, g2⟩ := cells3 T_19.out.xo
  obtain ⟨h00, h01, h02⟩ := cells3 XP_19.out
  go_wp2_with fail
  refine Calls.mono (Same7_any _ _ _ _ _ _ Z Z _ S6_19.out S7_19.out) ?_
  rintro e w20 ⟨rfl, hb⟩
  have T_20 := Lib.hid (T_19.out.keep hb)
  have XP_20 := Lib.hid ((hb.block _ (blk_lt XP_19.out)).trans XP_19.out)
  have S6_20 := Lib.hid (S6_19.out.keep hb)
  have S7_20 := Lib.hid (S7_19.out.keep hb)
  clear hb T_19 XP_19 S6_19 S7_19 f0 f1 f2 g0 g1 g2 h00 h01 h02
  rw [decide_eq_true rfl]
  clear S6_20 S7_20
  obtain ⟨f0, f1, f2⟩ := cells3 T_20.out.xg
  obtain ⟨g0, g1, g2⟩ := cells3 T_20.out.xo
  obtain ⟨h00, h01, h02⟩ := cells3 XP_20.out
  go_wp2_with fail
  refine Calls.mono (Width_any m1 vd _ _) ?_
  rintro e w21 ⟨rfl, hb⟩
  have T_21 := Lib.hid (T_20.out.keep hb)
  have XP_21 := Lib.hid ((hb.block _ (blk_lt XP_20.out)).trans XP_20.out)
  clear hb T_20 XP_20 f0 f1 f2 g0 g1 g2 h00 h01 h02
  obtain ⟨f0, f1, f2⟩ := cells3 T_21.out.xg
  obtain ⟨g0, g1, g2⟩ := cells3 T_21.out.xo
  obtain ⟨h00, h01, h02⟩ := cells3 XP_21.out
  go_wp2_with fail
  refine Calls.mono (HIN.out _ _ _ _ HNG.out T_21.out.sg) ?_
  rintro e w22 ⟨F, hGJ, q9, n9, c9, hn9, rfl, o9, hb⟩
  have T_22 := Lib.hid (T_21.out.keep hb)
  have XP_22 := Lib.hid ((hb.block _ (blk_lt XP_21.out)).trans XP_21.out)
  clear hb T_21 XP_21 f0 f1 f2 g0 g1 g2 h00 h01 h02
  have S9_22 := Lib.hid (Sl.of_owns o9); have HN9 := Lib.hid hn9; have HGJ := Lib.hid hGJ
  clear o9 hn9 hGJ
  obtain ⟨f0, f1, f2⟩ := cells3 T_22.out.xg
  obtain ⟨g0, g1, g2⟩ := cells3 T_22.out.xo
  obtain ⟨h00, h01, h02⟩ := cells3 XP_22.out
  obtain ⟨j00, j01, j02⟩ := cells3 (hal (o := .cells #[.int .i64 m1, .int .i64 m1, .slice q9 n9 c9] 27) T_22.out.xg)
  go_wp2_with fail
  refine use_w (fun W => Below w22.heap.size w22 W ∧ W.heap[w22.heap.size]? = some (.cells #[.int .i64 m1, .int .i64 m1, .slice q9 n9 c9] 27 (0, 0))) ⟨al (Below.refl _ _) (Nat.le_refl _), hnew rfl⟩ ?_
  rintro w23 ⟨hb, hx⟩
  have XQ_23 := Lib.hid hx
  clear hx
  have T_23 := Lib.hid (T_22.out.keep hb)
  have XP_23 := Lib.hid ((hb.block _ (blk_lt XP_22.out)).trans XP_22.out)
  have S9_23 := Lib.hid (S9_22.out.keep hb)
  clear hb T_22 XP_22 S9_22 f0 f1 f2 g0 g1 g2 h00 h01 h02 j00 j01 j02
  refine Calls.mono (HMI.out _ F _ _ _ _ _ _ HNG.out HN9.out HGJ.out T_23.out.sg S9_23.out) ?_
  rintro e w24 ⟨qa, na, ca, hna, rfl, oa, hb⟩
  have T_24 := Lib.hid (T_23.out.keep hb)
  have XP_24 := Lib.hid ((hb.block _ (blk_lt XP_23.out)).trans XP_23.out)
  have S9_24 := Lib.hid (S9_23.out.keep hb)
  have XQ_24 := Lib.hid ((hb.block _ (blk_lt XQ_23.out)).trans XQ_23.out)
  clear hb T_23 XP_23 S9_23 XQ_23
  have SA_24 := Lib.hid (Sl.of_owns oa); have HNA := Lib.hid hna
  clear oa hna S9_24
  obtain ⟨f0, f1, f2⟩ := cells3 T_24.out.xg
  obtain ⟨g0, g1, g2⟩ := cells3 T_24.out.xo
  obtain ⟨h00, h01, h02⟩ := cells3 XP_24.out
  obtain ⟨h10, h11, h12⟩ := cells3 XQ_24.out
  go_wp2_with fail
  refine use_w (fun W => Below w24.heap.size w24 W ∧ W.heap[w24.heap.size]? = some (.cells #[.int .i64 m1, .int .i64 m1, .slice qa na ca] 27 (0, 0))) ⟨al (Below.refl _ _) (Nat.le_refl _), hnew rfl⟩ ?_
  rintro w25 ⟨hb, hx⟩
  have XU_25 := Lib.hid hx
  clear hx
  have T_25 := Lib.hid (T_24.out.keep hb)
  have XP_25 := Lib.hid ((hb.block _ (blk_lt XP_24.out)).trans XP_24.out)
  have XQ_25 := Lib.hid ((hb.block _ (blk_lt XQ_24.out)).trans XQ_24.out)
  have SA_25 := Lib.hid (SA_24.out.keep hb)
  clear hb T_24 XP_24 XQ_24 SA_24 f0 f1 f2 g0 g1 g2 h00 h01 h02 h10 h11 h12
  refine Calls.mono (HUN.out _) ?_
  rintro e w26 ⟨qb, nb, cb, hnb, rfl, ob, hb⟩
  have T_26 := Lib.hid (T_25.out.keep hb)
  have XP_26 := Lib.hid ((hb.block _ (blk_lt XP_25.out)).trans XP_25.out)
  have XQ_26 := Lib.hid ((hb.block _ (blk_lt XQ_25.out)).trans XQ_25.out)
  have SA_26 := Lib.hid (SA_25.out.keep hb)
  have XU_26 := Lib.hid ((hb.block _ (blk_lt XU_25.out)).trans XU_25.out)
  clear hb T_25 XP_25 XQ_25 SA_25 XU_25
  have SB_26 := Lib.hid (Sl.of_owns ob); have HNB := Lib.hid hnb
  clear ob hnb
  obtain ⟨f0, f1, f2⟩ := cells3 T_26.out.xg
  obtain ⟨g0, g1, g2⟩ := cells3 T_26.out.xo
  obtain ⟨h00, h01, h02⟩ := cells3 XP_26.out
  obtain ⟨h10, h11, h12⟩ := cells3 XQ_26.out
  obtain ⟨h30, h31, h32⟩ := cells3 XU_26.out
  obtain ⟨j00, j01, j02⟩ := cells3 (hal (o := .cells #[.int .i64 m1, .int .i64 m1, .slice qb nb cb] 27) XU_26.out)
  go_wp2_with fail
  refine use_w (fun W => Below w26.heap.size w26 W ∧ W.heap[w26.heap.size]? = some (.cells #[.int .i64 m1, .int .i64 m1, .slice qb nb cb] 27 (0, 0))) ⟨al (Below.refl _ _) (Nat.le_refl _), hnew rfl⟩ ?_
  rintro w27 ⟨hb, hx⟩
  have XV_27 := Lib.hid hx
  clear hx
  have T_27 := Lib.hid (T_26.out.keep hb)
  have XP_27 := Lib.hid ((hb.block _ (blk_lt XP_26.out)).trans XP_26.out)
  have XQ_27 := Lib.hid ((hb.block _ (blk_lt XQ_26.out)).trans XQ_26.out)
  have SA_27 := Lib.hid (SA_26.out.keep hb)
  have XU_27 := Lib.hid ((hb.block _ (blk_lt XU_26.out)).trans XU_26.out)
  have SB_27 := Lib.hid (SB_26.out.keep hb)
  clear hb T_26 XP_26 XQ_26 SA_26 XU_26 SB_26 f0 f1 f2 g0 g1 g2 h00 h01 h02 h10 h11 h12 h30 h31 h32 j00 j01 j02
  refine Calls.mono (GSame_any m1 m1 m1 m1 qa qb na ca nb cb _ _ _ SA_27.out SB_27.out) ?_
  rintro e w28 ⟨rfl, hb⟩
  have T_28 := Lib.hid (T_27.out.keep hb)
  have XP_28 := Lib.hid ((hb.block _ (blk_lt XP_27.out)).trans XP_27.out)
  have XQ_28 := Lib.hid ((hb.block _ (blk_lt XQ_27.out)).trans XQ_27.out)
  have SA_28 := Lib.hid (SA_27.out.keep hb)
  have XU_28 := Lib.hid ((hb.block _ (blk_lt XU_27.out)).trans XU_27.out)
  have SB_28 := Lib.hid (SB_27.out.keep hb)
  have XV_28 := Lib.hid ((hb.block _ (blk_lt XV_27.out)).trans XV_27.out)
  clear hb T_27 XP_27 XQ_27 SA_27 XU_27 SB_27 XV_27
  rw [decide_eq_true ⟨rfl, rfl, rfl⟩]
  go_wp2
  go_ret
  exact ⟨rfl, T_28.out.bel⟩
end Go.Proofs.Ytofhdakggapahaa
namespace Go.Proofs.Ytofhdakggapahaa
open Go.RowKit Go.By
set_option maxRecDepth 100000 in
set_option maxHeartbeats 4000000 in
theorem GR_skip (x y : UInt8) (p1 p2 : Option Addr) (m1 c1 m2 c2 : Nat) (xss yss : List (List UInt8)) (w : World) (h1 : Sl2 w p1 m1 c1 xss) (h2 : Sl2 w p2 m2 c2 yss)
    (hf : (xss.all (fun y => decide (y.length ≤ 30)) && decide (m1 ≤ 30)) = false ∨ (xss.all (fun y => decide (y.length ≤ 30)) && decide (m1 ≤ 30)) = true ∧ (yss.all (fun y => decide (y.length ≤ 30)) && decide (m2 ≤ 30)) = false) :
    Calls Try.prog 5 #[B8 x, .slice p1 m1 c1, B8 y, .slice p2 m2 c2] w fun e w' => e = .returned (.bool true) ∧ Below w.heap.size w w' := by
  have HF1 : Hid (∀ W, Sl2 W p1 m1 c1 xss → Calls Try.prog 10 #[.slice p1 m1 c1] W fun e w' => e = .returned (.bool (xss.all (fun y => decide (y.length ≤ 30)) && decide (m1 ≤ 30))) ∧ W = w') := fun W h => Few7_any p1 m1 c1 xss W h
  have HF2 : Hid (∀ W, Sl2 W p2 m2 c2 yss → Calls Try.prog 10 #[.slice p2 m2 c2] W fun e w' => e = .returned (.bool (yss.all (fun y => decide (y.length ≤ 30)) && decide (m2 ≤ 30))) ∧ W = w') := fun W h => Few7_any p2 m2 c2 yss W h
  have H1 := Lib.hid h1; have H2 := Lib.hid h2
  clear h1 h2
  rcases hf with hf | ⟨hf, hg⟩
  · rw [hf] at HF1
    clear HF2 hf
    go_enter Try.func5, Try.ntmps5
    go_wp2_with fail
    refine (awake07 _).mono ?_; rintro e w1 ⟨rfl, k1⟩
    have H1' := Lib.hid (H1.out.keep k1); have B1 := Lib.hid k1
    clear k1 H1
    go_wp2_with fail
    refine Calls.mono (HF1.out _ H1'.out) ?_; rintro e w' ⟨rfl, rfl⟩
    go_wp2
    go_ret
    exact ⟨rfl, B1.out⟩
  · rw [hf] at HF1
    rw [hg] at HF2
    clear hf hg
    go_enter Try.func5, Try.ntmps5
    go_wp2_with fail
    refine (awake07 _).mono ?_; rintro e w1 ⟨rfl, k1⟩
    have H1' := Lib.hid (H1.out.keep k1); have H2' := Lib.hid (H2.out.keep k1); have B1 := Lib.hid k1
    clear k1 H1 H2
    go_wp2_with fail
    refine Calls.mono (HF1.out _ H1'.out) ?_; rintro e w' ⟨rfl, rfl⟩
    go_wp2_with fail
    refine Calls.mono (HF2.out _ H2'.out) ?_; rintro e w' ⟨rfl, rfl⟩
    go_wp2
    go_ret
    exact ⟨rfl, B1.out⟩
theorem GridReckons_any (x : UInt8) (p1 : Option Addr) (m1 c1 : Nat) (xss : List (List UInt8)) (y : UInt8) (p2 : Option Addr) (m2 c2 : Nat) (yss : List (List UInt8)) (w : World) (h1 : Sl2 w p1 m1 c1 xss) (h2 : Sl2 w p2 m2 c2 yss) :
    Calls Try.prog 5 #[B8 x, .slice p1 m1 c1, B8 y, .slice p2 m2 c2] w fun e w' => e = .returned (.bool true) ∧ Below w.heap.size w w' := by
  cases hf1 : (xss.all (fun y => decide (y.length ≤ 30)) && decide (m1 ≤ 30)) with
  | false => exact GR_skip x y p1 p2 m1 c1 m2 c2 xss yss w h1 h2 (.inl hf1)
  | true =>
    cases hf2 : (yss.all (fun y => decide (y.length ≤ 30)) && decide (m2 ≤ 30)) with
    | false => exact GR_skip x y p1 p2 m1 c1 m2 c2 xss yss w h1 h2 (.inr ⟨hf1, hf2⟩)
    | true =>
      rw [Bool.and_eq_true] at hf1 hf2
      have hm1 : m1 ≤ 30 := of_decide_eq_true hf1.2
      have hm2 : m2 ≤ 30 := of_decide_eq_true hf2.2
      have e1 : (xss.map (fitR (x.toNat % 31))).length = m1 := by rw [List.length_map]; exact h1.len
      have e2 : (yss.map (fitR (y.toNat % 31))).length = m2 := by rw [List.length_map]; exact h2.len
      have M1 : ∀ W, Sl2 W p1 m1 c1 xss → Calls Try.prog 19 #[B8 x, .slice p1 m1 c1] W (RetM W m1 (x.toNat % 31) (xss.map (fitR (x.toNat % 31)))) := fun W h => Made_any x p1 m1 c1 xss W h hm1
      have M2 : ∀ W, Sl2 W p2 m2 c2 yss → Calls Try.prog 19 #[B8 y, .slice p2 m2 c2] W (RetM W m2 (y.toNat % 31) (yss.map (fitR (y.toNat % 31)))) := fun W h => Made_any y p2 m2 c2 yss W h hm2
      have b1 : x.toNat % 31 ≤ 30 := by omega
      have b2 : y.toNat % 31 ≤ 30 := by omega
      have fl1 := fit_len (wd := x.toNat % 31) (xss := xss)
      have fl2 := fit_len (wd := y.toNat % 31) (xss := yss)
      have rk : m1 = x.toNat % 31 → (iK (xss.map (fitR (x.toNat % 31)))).length ≤ x.toNat % 31 := fun e => by
        have := iK_len (xss.map (fitR (x.toNat % 31))) m1
        rw [List.take_of_length_le (by rw [e1]; exact Nat.le_refl _)] at this
        omega
      by_cases hmul : x.toNat % 31 = m2
      · by_cases hinv : m1 = x.toNat % 31
        · by_cases hrk : (iK (xss.map (fitR (x.toNat % 31)))).length < x.toNat % 31
          · exact GR_okLess x y _ _ p1 p2 m1 c1 m2 c2 xss yss _ _ w h1 h2 hf1.1 hm1 hf2.1 hm2 M1 M2 b1 b2 fl1 e1 fl2 e2 hmul hinv hrk
          · exact GR_okFull x y _ _ p1 p2 m1 c1 m2 c2 xss yss _ _ w h1 h2 hf1.1 hm1 hf2.1 hm2 M1 M2 b1 b2 fl1 e1 fl2 e2 hmul hinv (by have := rk hinv; omega)
        · exact GR_okSize x y _ _ p1 p2 m1 c1 m2 c2 xss yss _ _ w h1 h2 hf1.1 hm1 hf2.1 hm2 M1 M2 b1 b2 fl1 e1 fl2 e2 hmul hinv
      · by_cases hinv : m1 = x.toNat % 31
        · by_cases hrk : (iK (xss.map (fitR (x.toNat % 31)))).length < x.toNat % 31
          · exact GR_sizeLess x y _ _ p1 p2 m1 c1 m2 c2 xss yss _ _ w h1 h2 hf1.1 hm1 hf2.1 hm2 M1 M2 b1 b2 fl1 e1 fl2 e2 hmul hinv hrk
          · exact GR_sizeFull x y _ _ p1 p2 m1 c1 m2 c2 xss yss _ _ w h1 h2 hf1.1 hm1 hf2.1 hm2 M1 M2 b1 b2 fl1 e1 fl2 e2 hmul hinv (by have := rk hinv; omega)
        · exact GR_sizeSize x y _ _ p1 p2 m1 c1 m2 c2 xss yss _ _ w h1 h2 hf1.1 hm1 hf2.1 hm2 M1 M2 b1 b2 fl1 e1 fl2 e2 hmul hinv
end Go.Proofs.Ytofhdakggapahaa
namespace Go.By
open Go.RowKit
theorem byte_of_wf {a : Int} (h : (Lit.int .u8 a).wf = true) : ∃ x : UInt8, Value.int .u8 a = B8 x ∧ a = (x.toNat : Int) := by
  have hb := bounds_u8 h
  have e : a = ((UInt8.ofNat a.toNat).toNat : Int) := by simp; omega
  exact ⟨UInt8.ofNat a.toNat, B8_congr e, e⟩
theorem sl_of_row {w : World} {a : Option Addr} {len cap : Nat} {zs : List Int}
    (h : (a = none ∧ len = 0 ∧ cap = 0 ∧ zs = []) ∨ ∃ x, a = some x ∧ len ≤ cap ∧ cap ≤ maxLen ∧ zs.length = cap ∧ (∀ i, i < zs.length → w.cell? (x.add i) = some (.int .u8 (zs.getD i 0))) ∧ ∀ n ∈ zs, (Lit.int .u8 n).wf = true) :
    ∃ xs, Sl B8 w a len cap xs := by
  rcases h with ⟨rfl, rfl, rfl, _⟩ | ⟨x, rfl, hl, hm, hz, hc, hw⟩
  · exact ⟨[], Sl.nil0 _ _⟩
  · refine ⟨(zs.take len).map fun z => UInt8.ofNat z.toNat, ⟨by simp; omega, hl, hm, fun h => by simp at h, ?_⟩⟩
    intro i hi
    have hi' : i < zs.length := by simp at hi; omega
    obtain ⟨b, o, hx, hc'⟩ := ints_at hc (by omega)
    refine ⟨b, o, by rw [hx], ?_⟩
    have hh := hc i hi'
    rw [hx, Addr.add_lit] at hh
    rw [hh]
    have e : zs.getD i 0 = zs[i] := by simp [hi']
    rw [e]
    have hb := bounds_u8 (hw _ (List.getElem_mem hi'))
    simp
    omega
end Go.By
namespace Go.By
open Go.RowKit
theorem spot_none {w : World} {x : Addr} {v : Value} (h : w.cell? (x.add 0) = some v) : ∃ b o, x = ⟨b, o, none⟩ := by
  obtain ⟨b, off, spot⟩ := x
  have hspot : spot = none := by simpa [Addr.add] using World.cell?_spot h
  subst hspot
  exact ⟨b, off, rfl⟩
theorem sl2_of_rows {w : World} {a : Option Addr} {len cap : Nat} (hl : len ≤ cap) (hm : cap ≤ maxLen) (hn : a = none → len = 0 ∧ cap = 0) (A : Nat → Option Addr) (L C : Nat → Nat) (Z : Nat → List Int)
    (h : ∀ x, a = some x → ∀ r, r < cap → w.cell? (x.add r) = some (.slice (A r) (L r) (C r)) ∧ L r ≤ C r ∧ C r ≤ maxLen ∧ (Z r).length = C r ∧ (∀ n ∈ Z r, (Lit.int .u8 n).wf = true) ∧ (A r = none → C r = 0) ∧
        ∀ a', A r = some a' → ∀ c, c < C r → w.cell? (a'.add c) = some (.int .u8 ((Z r).getD c 0))) : ∃ xss, Sl2 w a len cap xss := by
  have each : ∀ r, ∃ xs, r < len → Sl B8 w (A r) (L r) (C r) xs := by
    intro r
    by_cases hr : r < len
    · cases ha : a with
      | none => have := hn ha; omega
      | some x =>
        obtain ⟨_, h1, h2, h3, h4, h5, h6⟩ := h x ha r (by omega)
        cases hA : A r with
        | none =>
          have := h5 hA
          have hL : L r = 0 := by omega
          exact ⟨[], fun _ => by rw [hL, this]; exact Sl.nil0 _ _⟩
        | some a' =>
          obtain ⟨xs, hx⟩ := sl_of_row (w := w) (a := some a') (len := L r) (cap := C r) (zs := Z r) (.inr ⟨a', rfl, h1, h2, h3, fun i hi => h6 a' hA i (by omega), h4⟩)
          exact ⟨xs, fun _ => hx⟩
    · exact ⟨[], fun h => absurd h hr⟩
  refine ⟨(List.range len).map fun r => Classical.choose (each r), ⟨by simp, hl, hm, hn, ?_⟩⟩
  intro i xs hi
  obtain ⟨hi', e⟩ := List.getElem?_eq_some_iff.1 hi
  simp at hi' e
  have hs := Classical.choose_spec (each i) hi'
  rw [e] at hs
  cases ha : a with
  | none => have := hn ha; omega
  | some x =>
    obtain ⟨hc, _⟩ := h x ha i (by omega)
    obtain ⟨b, o, rfl⟩ := spot_none (h x ha 0 (by omega)).1
    rw [Addr.add_lit] at hc
    exact ⟨b, o, A i, C i, rfl, by rw [hs.len]; exact hc, by rw [hs.len]; exact hs⟩
end Go.By
