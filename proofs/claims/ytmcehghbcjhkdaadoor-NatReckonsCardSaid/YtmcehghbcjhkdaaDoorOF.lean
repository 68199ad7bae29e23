/- NatReckons: the walk. -/
import Derived.Test.YtmcehghbcjhkdaaDoorOB
import Derived.Test.YtmcehghbcjhkdaaDoorOE
namespace Go.By
open Go.RowKit
theorem bytesN_one : bytesN 1 = [1] := by rw [bytesN_step (by decide), show 1 / 256 = 0 from rfl, bytesN_zero]; rfl
end Go.By
namespace Go.Proofs.YtmcehghbcjhkdaaDoor
open Go.RowKit Go.By
theorem Sub_code {p q : Option Addr} {n c m d M N : Nat} {w : World} (h1 : Ws 28 w p n c M) (h2 : Ws 28 w q m d N) (D : Nat) (g : Int) (h : (N ≤ M ∧ D = M - N ∧ g = 0) ∨ (M < N ∧ D = 0 ∧ g = 2)) :
    Calls Tryd.prog 23 #[.agg #[.slice p n c], .agg #[.slice q m d]] w (RetC 28 w D g) :=
  (Sub_nat p q n c m d M N w h1 h2).mono fun e w' hr => by
    rcases h with ⟨h, rfl, rfl⟩ | ⟨h, rfl, rfl⟩
    · exact hr.ok h
    · obtain ⟨he, hb⟩ := hr.less h
      exact ⟨_, _, _, he, Ws.zero _ _, hb⟩
theorem ADD_r {p q : Option Addr} {n c m d M N : Nat} {w : World} (h1 : Sl B8 w p n c (bytesN M)) (h2 : Sl B8 w q m d (bytesN N)) (hn : n ≤ 10000) (hm : m ≤ 10000) : Calls Tryd.prog 24 #[.slice p n c, .slice q m d] w (RetV w (M + N)) := by
  have := Add_ref p q n c m d _ _ w h1 h2 hn hm
  rwa [valB_bytesN, valB_bytesN] at this
theorem MUL_r {p q : Option Addr} {n c m d M N : Nat} {w : World} (h1 : Sl B8 w p n c (bytesN M)) (h2 : Sl B8 w q m d (bytesN N)) (hn : n ≤ 10000) (hm : m ≤ 10000) : Calls Tryd.prog 25 #[.slice p n c, .slice q m d] w (RetV w (M * N)) := by
  have := Mul_ref p q n c m d _ _ w h1 h2 hn hm
  rwa [valB_bytesN, valB_bytesN] at this
theorem SUB_r {p q : Option Addr} {n c m d M N D : Nat} {w : World} (h1 : Sl B8 w p n c (bytesN M)) (h2 : Sl B8 w q m d (bytesN N)) (hn : n ≤ 10000) (hm : m ≤ n) (hle : N ≤ M) (hD : D = M - N) : Calls Tryd.prog 26 #[.slice p n c, .slice q m d] w (RetV w D) := by
  have := Sub_ref p q n c m d _ _ w h1 h2 hn hm (by rw [valB_bytesN, valB_bytesN]; exact hle)
  rw [valB_bytesN, valB_bytesN] at this
  rw [hD]; exact this
set_option maxRecDepth 100000 in
set_option maxHeartbeats 8000000 in
theorem NatReckons_main (p1 p2 : Option Addr) (n1 c1 n2 c2 : Nat) (xs ys : List UInt8) (nn : UInt8) (w : World) (h1 : Sl B8 w p1 n1 c1 xs) (h2 : Sl B8 w p2 n2 c2 ys) (b1 : n1 ≤ 60) (b2 : n2 ≤ 60) (hT : Tab w) :
    Calls Tryd.prog 6 #[.slice p1 n1 c1, .slice p2 n2 c2, B8 nn] w fun e w' => e = .returned (.bool true) ∧ Below w.heap.size w w' := by
  have hAx : valB xs < 256 ^ 60 := up256 (valB_lt xs) (by rw [h1.len]; exact b1)
  have hBx : valB ys < 256 ^ 60 := up256 (valB_lt ys) (by rw [h2.len]; exact b2)
  have P_0 := Lib.hid h1; have Q_0 := Lib.hid h2; have T_0 := Lib.hid hT
  have g1 : (n1 : Int) ≤ 60 := by omega
  have g2 : (n2 : Int) ≤ 60 := by omega
  obtain ⟨A, hA⟩ : ∃ A, A = valB xs := ⟨_, rfl⟩
  obtain ⟨B, hB⟩ : ∃ B, B = valB ys := ⟨_, rfl⟩
  rw [← hA] at hAx; rw [← hB] at hBx
  have HA := Lib.hid hA; have HB := Lib.hid hB; have HAX := Lib.hid hAx; have HBX := Lib.hid hBx
  have SB : Hid (A < capN ∧ A + B < capN ∧ A * B < capN) := ⟨lt_cap hAx (by decide), lt_cap (add_lt256 hAx hBx) (by decide), lt_cap (mul_lt256 hAx hBx) (by decide)⟩
  have SL : Hid ((bytesN A).length ≤ 60 ∧ (bytesN B).length ≤ 60 ∧ (bytesN (A + B)).length ≤ 61 ∧ (bytesN (A * B)).length ≤ 120 ∧ (B ≤ A → (bytesN B).length ≤ (bytesN A).length)) := by
    refine ⟨bytesN_short hAx, bytesN_short hBx, bytesN_short (add_lt256 hAx hBx), bytesN_short (mul_lt256 hAx hBx), fun h => bytesN_short (Nat.lt_of_le_of_lt h ?_)⟩
    have := valB_lt (bytesN A); rwa [valB_bytesN] at this
  have PW : Hid (∀ j, j ≤ 20 → A ^ j < capN ∧ (bytesN (A ^ j)).length ≤ 1201) := fun j hj => ⟨lt_cap (pow_lt256 hAx j) (by omega), Nat.le_trans (bytesN_short (pow_lt256 hAx j)) (by omega)⟩
  obtain ⟨D, g, hD⟩ : ∃ (D : Nat) (g : Int), (B ≤ A ∧ D = A - B ∧ g = 0) ∨ (A < B ∧ D = 0 ∧ g = 2) := by
    rcases Nat.lt_or_ge A B with h | h
    · exact ⟨0, 2, .inr ⟨h, rfl, rfl⟩⟩
    · exact ⟨A - B, 0, .inl ⟨h, rfl, rfl⟩⟩
  have HD := Lib.hid hD
  have DL : Hid (B ≤ A → D = A - B → (bytesN D).length ≤ 60) := fun _ he => bytesN_short (Nat.lt_of_le_of_lt (by omega) hAx)
  clear h1 h2 hT hA hB hAx hBx hD
  go_enter Tryd.func6, Tryd.ntmps6
  go_wp2_with fail
  refine Calls.mono (awake_nat _ T_0.out) ?_
  rintro e w1 ⟨rfl, hb⟩
  have P_1 := Lib.hid (P_0.out.keep hb); have Q_1 := Lib.hid (Q_0.out.keep hb); have T_1 := Lib.hid (T_0.out.keep hb)
  have S_1 : Hid (NS 24 28 w [] w1) := ⟨hb, fun b N hm => by cases hm⟩
  clear hb P_0 Q_0 T_0
  go_wp2_with fail
  refine Calls.mono (Trim_ref p1 n1 c1 xs _ P_1.out) ?_
  rintro e w' ⟨qa, na, ca, rfl, hs, rfl⟩
  rw [← HA.out] at hs
  have V_1 := Lib.hid hs
  have hna : na ≤ 60 := by rw [← hs.len]; exact SL.out.1
  clear hs
  go_wp2_with fail
  refine Calls.mono (Trim_ref p2 n2 c2 ys _ Q_1.out) ?_
  rintro e w' ⟨qb, nb, cb, rfl, hs, rfl⟩
  rw [← HB.out] at hs
  have U_1 := Lib.hid hs
  have hnb : nb ≤ 60 := by rw [← hs.len]; exact SL.out.2.1
  have HNAB : Hid (B ≤ A → nb ≤ na) := fun h => by rw [← hs.len, ← V_1.out.len]; exact SL.out.2.2.2.2 h
  clear hs
  go_wp2_with fail
  refine Calls.mono (To_any p1 n1 c1 xs _ P_1.out (by omega)) ?_
  rintro e w2 ⟨q2, m2, d2, rfl, hw, hb⟩
  have P_2 := Lib.hid (P_1.out.keep hb)
  have Q_2 := Lib.hid (Q_1.out.keep hb)
  have T_2 := Lib.hid (T_1.out.keep hb)
  have S_2 := Lib.hid (S_1.out.keep hb)
  have V_2 := Lib.hid (V_1.out.keep hb)
  have U_2 := Lib.hid (U_1.out.keep hb)
  have F_2 : Hid (Ws 28 w2 q2 m2 d2 A) := by rw [HA.out]; exact hw
  clear hw
  clear hb P_1 Q_1 T_1 S_1 V_1 U_1
  go_wp2_with fail
  refine Calls.mono (To_any p2 n2 c2 ys _ Q_2.out (by omega)) ?_
  rintro e w3 ⟨q3, m3, d3, rfl, hw, hb⟩
  have P_3 := Lib.hid (P_2.out.keep hb)
  have Q_3 := Lib.hid (Q_2.out.keep hb)
  have T_3 := Lib.hid (T_2.out.keep hb)
  have S_3 := Lib.hid (S_2.out.keep hb)
  have V_3 := Lib.hid (V_2.out.keep hb)
  have U_3 := Lib.hid (U_2.out.keep hb)
  have F_3 := Lib.hid (F_2.out.keep hb)
  have G_3 : Hid (Ws 28 w3 q3 m3 d3 B) := by rw [HB.out]; exact hw
  clear hw
  clear hb P_2 Q_2 T_2 S_2 V_2 U_2 F_2
  go_wp2_with fail
  refine Calls.mono (Add2_ok (Nsl.two (hnew rfl) F_3.out.on1 G_3.out.on1) SB.out.2.1) ?_
  rintro e w4 ⟨q4, m4, d4, rfl, hw, hb⟩
  have hbb : Below w3.heap.size w3 w4 := bl (ba1 w3 _ ) hb (ba1 w3 _ ).size
  have P_4 := Lib.hid (P_3.out.keep hbb)
  have Q_4 := Lib.hid (Q_3.out.keep hbb)
  have T_4 := Lib.hid (T_3.out.keep hbb)
  have S_4 := Lib.hid (S_3.out.keep hbb)
  have V_4 := Lib.hid (V_3.out.keep hbb)
  have U_4 := Lib.hid (U_3.out.keep hbb)
  have L_4 := Lib.hid hw
  clear hw
  clear hb hbb P_3 Q_3 T_3 S_3 V_3 U_3 F_3 G_3
  go_wp2_with fail
  refine Calls.mono (To_any p1 n1 c1 xs _ (P_4.out.keep (ba1 _ _)) (by omega)) ?_
  rintro e w5 ⟨q5, m5, d5, rfl, hw, hb⟩
  have hbb : Below w4.heap.size w4 w5 := bl (ba1 w4 _ ) hb (ba1 w4 _ ).size
  have P_5 := Lib.hid (P_4.out.keep hbb)
  have Q_5 := Lib.hid (Q_4.out.keep hbb)
  have T_5 := Lib.hid (T_4.out.keep hbb)
  have S_5 := Lib.hid (S_4.out.on1 L_4.out hb)
  have V_5 := Lib.hid (V_4.out.keep hbb)
  have U_5 := Lib.hid (U_4.out.keep hbb)
  have F_5 : Hid (Ws 28 w5 q5 m5 d5 A) := by rw [HA.out]; exact hw
  clear hw
  clear hb hbb P_4 Q_4 T_4 S_4 V_4 U_4 L_4
  generalize w4.heap.size = bs at *
  go_wp2_with fail
  refine Calls.mono (To_any p2 n2 c2 ys _ Q_5.out (by omega)) ?_
  rintro e w6 ⟨q6, m6, d6, rfl, hw, hb⟩
  have P_6 := Lib.hid (P_5.out.keep hb)
  have Q_6 := Lib.hid (Q_5.out.keep hb)
  have T_6 := Lib.hid (T_5.out.keep hb)
  have S_6 := Lib.hid (S_5.out.keep hb)
  have V_6 := Lib.hid (V_5.out.keep hb)
  have U_6 := Lib.hid (U_5.out.keep hb)
  have F_6 := Lib.hid (F_5.out.keep hb)
  have G_6 : Hid (Ws 28 w6 q6 m6 d6 B) := by rw [HB.out]; exact hw
  clear hw
  clear hb P_5 Q_5 T_5 S_5 V_5 U_5 F_5
  go_wp2_with fail
  refine Calls.mono (Mul2_ok (Nsl.two (hnew rfl) F_6.out.on1 G_6.out.on1) SB.out.1 SB.out.2.2) ?_
  rintro e w7 ⟨q7, m7, d7, rfl, hw, hb⟩
  have hbb : Below w6.heap.size w6 w7 := bl (ba1 w6 _ ) hb (ba1 w6 _ ).size
  have P_7 := Lib.hid (P_6.out.keep hbb)
  have Q_7 := Lib.hid (Q_6.out.keep hbb)
  have T_7 := Lib.hid (T_6.out.keep hbb)
  have S_7 := Lib.hid (S_6.out.keep hbb)
  have V_7 := Lib.hid (V_6.out.keep hbb)
  have U_7 := Lib.hid (U_6.out.keep hbb)
  have L_7 := Lib.hid hw
  clear hw
  clear hb hbb P_6 Q_6 T_6 S_6 V_6 U_6 F_6 G_6
  go_wp2_with fail
  refine Calls.mono (To_any p1 n1 c1 xs _ (P_7.out.keep (ba1 _ _)) (by omega)) ?_
  rintro e w8 ⟨q8, m8, d8, rfl, hw, hb⟩
  have hbb : Below w7.heap.size w7 w8 := bl (ba1 w7 _ ) hb (ba1 w7 _ ).size
  have P_8 := Lib.hid (P_7.out.keep hbb)
  have Q_8 := Lib.hid (Q_7.out.keep hbb)
  have T_8 := Lib.hid (T_7.out.keep hbb)
  have S_8 := Lib.hid (S_7.out.on1 L_7.out hb)
  have V_8 := Lib.hid (V_7.out.keep hbb)
  have U_8 := Lib.hid (U_7.out.keep hbb)
  have F_8 : Hid (Ws 28 w8 q8 m8 d8 A) := by rw [HA.out]; exact hw
  clear hw
  clear hb hbb P_7 Q_7 T_7 S_7 V_7 U_7 L_7
  generalize w7.heap.size = bp at *
  go_wp2_with fail
  refine Calls.mono (To_any p2 n2 c2 ys _ Q_8.out (by omega)) ?_
  rintro e w9 ⟨q9, m9, d9, rfl, hw, hb⟩
  have P_9 := Lib.hid (P_8.out.keep hb)
  have Q_9 := Lib.hid (Q_8.out.keep hb)
  have T_9 := Lib.hid (T_8.out.keep hb)
  have S_9 := Lib.hid (S_8.out.keep hb)
  have V_9 := Lib.hid (V_8.out.keep hb)
  have U_9 := Lib.hid (U_8.out.keep hb)
  have F_9 := Lib.hid (F_8.out.keep hb)
  have G_9 : Hid (Ws 28 w9 q9 m9 d9 B) := by rw [HB.out]; exact hw
  clear hw
  clear hb P_8 Q_8 T_8 S_8 V_8 U_8 F_8
  go_wp2_with fail
  refine Calls.mono (Sub_code F_9.out G_9.out D g HD.out) ?_
  rintro e w10 ⟨q10, m10, d10, rfl, hw, hb⟩
  have P_10 := Lib.hid (P_9.out.keep hb)
  have Q_10 := Lib.hid (Q_9.out.keep hb)
  have T_10 := Lib.hid (T_9.out.keep hb)
  have S_10 := Lib.hid (S_9.out.keep hb)
  have V_10 := Lib.hid (V_9.out.keep hb)
  have U_10 := Lib.hid (U_9.out.keep hb)
  have L_10 := Lib.hid hw
  clear hw
  clear hb P_9 Q_9 T_9 S_9 V_9 U_9 F_9 G_9
  have S_a := Lib.hid (S_10.out.new L_10.out)
  have V_a := Lib.hid (V_10.out.keep (ba1 _ (.cells #[.slice q10 m10 d10] 24))); have U_a := Lib.hid (U_10.out.keep (ba1 _ (.cells #[.slice q10 m10 d10] 24))); have T_a := Lib.hid (T_10.out.keep (ba1 _ (.cells #[.slice q10 m10 d10] 24))); have P_a := Lib.hid (P_10.out.keep (ba1 _ (.cells #[.slice q10 m10 d10] 24)))
  clear S_10 L_10 V_10 U_10 T_10 P_10 Q_10
  go_wp2
  generalize w10.alloc (.cells #[.slice q10 m10 d10] 24) = wa at *
  generalize w10.heap.size = bD at *
  obtain ⟨qs, ns, cs, ks, xs⟩ := S_a.out.box bs (A + B) (by simp)
  have es := cell_of_row _ _ 0 _ _ _ ks
  have Xs := Lib.hid xs
  clear ks xs
  obtain ⟨qp, np, cp, kp, xp⟩ := S_a.out.box bp (A * B) (by simp)
  have ep := cell_of_row _ _ 0 _ _ _ kp
  have Xp := Lib.hid xp
  clear kp xp
  refine wp_region_shapes (fun ix => ([.val (.int .i64 0), .val (.bool false), .val (.bool false), .val (.int .i64 0), .val (.bool false), .val (.bool false), .val (.bool false), .val (.agg #[.slice qs ns cs]), .val (.slice qa na ca), .val (.slice qb nb cb), .bytes (bytesN (A + B)), .val (.bool true), .val (.bool false), .val (.bool false), .val (.bool false), .val (.agg #[.slice qp np cp]), .val (.slice qa na ca), .val (.slice qb nb cb), .bytes (bytesN (A * B)), .val (.bool true), .val (.bool false), .val (.bool false)][ix]?).getD (.any)) 127 rfl (by kernel_rfl) (by decide) (by decide) (by decide) ?_ ?_
  · refine ⟨?_, ?_, ?_, ?_, ?_, ?_, ?_, ?_, ?_, ?_, ?_, ?_, ?_, ?_, ?_, ?_, ?_, ?_, ?_, ?_, ?_, ?_, trivial⟩
    · intro a W hb0 hs hp hi; have hb := undrew hb0; clear hb0
      have t10 : sl a 10 = .int .i64 0 := hi 10 (by decide)
      exact ite_y rfl (wp_val (sl a 10) rfl ⟨_, rfl, Below.refl _ _, t10⟩)
    · intro a W hb0 hs hp hi; have hb := undrew hb0; clear hb0
      have t59 : sl a 59 = .int .i64 0 := hp 0 (by decide)
      refine ite_y rfl (wp_val (.bool false) ?_ ?_)
      · simp only [execOp, eval_tmp, eval_const, t59]; simp [go_sem]
      · exact ⟨_, rfl, Below.refl _ _, rfl⟩
    · intro a W hb0 hs hp hi; have hb := undrew hb0; clear hb0
      have t60 : sl a 60 = .bool false := hp 1 (by decide)
      exact ite_y rfl (wp_val (sl a 60) rfl ⟨_, rfl, Below.refl _ _, t60⟩)
    · intro a W hb0 hs hp hi; have hb := undrew hb0; clear hb0
      have tg : sl a 61 = .bool false := hp 2 (by decide)
      have t12 : sl a 12 = .int .i64 0 := hi 12 (by decide)
      exact ite_y (wanted_yes rfl rfl (by have hz : a.tmps.size = 127 := hs; rw [hz]; decide) tg) (wp_val (sl a 12) rfl ⟨_, rfl, Below.refl _ _, t12⟩)
    · intro a W hb0 hs hp hi; have hb := undrew hb0; clear hb0
      have tg : sl a 61 = .bool false := hp 2 (by decide)
      have t62 : sl a 62 = .int .i64 0 := hp 3 (by decide)
      refine ite_y (wanted_yes rfl rfl (by have hz : a.tmps.size = 127 := hs; rw [hz]; decide) tg) (wp_val (.bool false) ?_ ?_)
      · simp only [execOp, eval_tmp, eval_const, t62]; simp [go_sem]
      · exact ⟨_, rfl, Below.refl _ _, rfl⟩
    · intro a W hb0 hs hp hi; have hb := undrew hb0; clear hb0
      have t61 : sl a 61 = .bool false := hp 2 (by decide)
      have t63 : sl a 63 = .bool false := hp 4 (by decide)
      refine ite_y rfl (wp_val (.bool false) ?_ ?_)
      · simp only [execOp, eval_tmp, eval_const, t61, t63]; simp [go_sem]
      · exact ⟨_, rfl, Below.refl _ _, rfl⟩
    · intro a W hb0 hs hp hi; have hb := undrew hb0; clear hb0
      have t64 : sl a 64 = .bool false := hp 5 (by decide)
      exact ite_y rfl (wp_val (sl a 64) rfl ⟨_, rfl, Below.refl _ _, t64⟩)
    · intro a W hb0 hs hp hi; have hb := undrew hb0; clear hb0
      have tg : sl a 65 = .bool false := hp 6 (by decide)
      have tt : sl a 9 = .pointer (some ⟨bs, 0, none⟩) := hi 9 (by decide)
      have dd0 := (hb.cell (p := ⟨bs, 0, none⟩) (lt_of_cell es)).trans es
      refine ite_y (wanted_yes rfl rfl (by have hz : a.tmps.size = 127 := hs; rw [hz]; decide) tg) (wp_val (.agg #[.slice qs ns cs]) ?_ ?_)
      · simp only [execOp, eval_tmp, tt]; simp [go_sem, dd0]
      · exact ⟨_, rfl, Below.refl _ _, rfl⟩
    · intro a W hb0 hs hp hi; have hb := undrew hb0; clear hb0
      have tg : sl a 65 = .bool false := hp 6 (by decide)
      have t7 : sl a 7 = .slice qa na ca := hi 7 (by decide)
      exact ite_y (wanted_yes rfl rfl (by have hz : a.tmps.size = 127 := hs; rw [hz]; decide) tg) (wp_val (sl a 7) rfl ⟨_, rfl, Below.refl _ _, t7⟩)
    · intro a W hb0 hs hp hi; have hb := undrew hb0; clear hb0
      have tg : sl a 65 = .bool false := hp 6 (by decide)
      have t8 : sl a 8 = .slice qb nb cb := hi 8 (by decide)
      exact ite_y (wanted_yes rfl rfl (by have hz : a.tmps.size = 127 := hs; rw [hz]; decide) tg) (wp_val (sl a 8) rfl ⟨_, rfl, Below.refl _ _, t8⟩)
    · intro a W hb0 hs hp hi; have hb := undrew hb0; clear hb0
      have tg : sl a 65 = .bool false := hp 6 (by decide)
      have t67 : sl a 67 = .slice qa na ca := hp 8 (by decide)
      have t68 : sl a 68 = .slice qb nb cb := hp 9 (by decide)
      refine ite_y (wanted_yes rfl rfl (by have hz : a.tmps.size = 127 := hs; rw [hz]; decide) tg) (wp_enter 24 #[.slice qa na ca, .slice qb nb cb] ?_ (ADD_r (V_a.out.keep hb) (U_a.out.keep hb) (by omega) (by omega)) ?_)
      · simp only [execOp, resolve, List.map_toArray, List.map, eval_tmp, eval_func, eval_const, t67, t68]; simp [go_sem]
      · rintro e W' ⟨q5, m5, g5, rfl, s5, hw⟩; exact ⟨_, rfl, _, rfl, hw, q5, m5, g5, rfl, s5⟩
    · intro a W hb0 hs hp hi; have hb := undrew hb0; clear hb0
      have tg : sl a 65 = .bool false := hp 6 (by decide)
      have t66 : sl a 66 = .agg #[.slice qs ns cs] := hp 7 (by decide)
      have t69 : BytesIs (bytesN (A + B)) (sl a 69) W := hp 10 (by decide)
      obtain ⟨y69a, y69b, y69c, t69, z69a⟩ := t69
      refine ite_y (wanted_yes rfl rfl (by have hz : a.tmps.size = 127 := hs; rw [hz]; decide) tg) (wp_enter 20 #[.agg #[.slice qs ns cs], .slice y69a y69b y69c] ?_ (Is_yes (Xs.out.keep hb) z69a (by rw [← z69a.len]; have := SL.out.2.2.1; omega) (T_a.out.keep hb) (valB_bytesN _)) ?_)
      · simp only [execOp, resolve, List.map_toArray, List.map, eval_tmp, eval_func, eval_const, t66, t69]; simp [go_sem]
      · rintro e W' ⟨rfl, hw⟩; exact ⟨_, rfl, _, rfl, hw, rfl⟩
    · intro a W hb0 hs hp hi; have hb := undrew hb0; clear hb0
      have tg : sl a 65 = .bool false := hp 6 (by decide)
      have t70 : sl a 70 = .bool true := hp 11 (by decide)
      refine ite_y (wanted_yes rfl rfl (by have hz : a.tmps.size = 127 := hs; rw [hz]; decide) tg) (wp_val (.bool false) ?_ ?_)
      · simp only [execOp, eval_tmp, eval_const, t70]; simp [go_sem]
      · exact ⟨_, rfl, Below.refl _ _, rfl⟩
    · intro a W hb0 hs hp hi; have hb := undrew hb0; clear hb0
      have t65 : sl a 65 = .bool false := hp 6 (by decide)
      have t71 : sl a 71 = .bool false := hp 12 (by decide)
      refine ite_y rfl (wp_val (.bool false) ?_ ?_)
      · simp only [execOp, eval_tmp, eval_const, t65, t71]; simp [go_sem]
      · exact ⟨_, rfl, Below.refl _ _, rfl⟩
    · intro a W hb0 hs hp hi; have hb := undrew hb0; clear hb0
      have t72 : sl a 72 = .bool false := hp 13 (by decide)
      exact ite_y rfl (wp_val (sl a 72) rfl ⟨_, rfl, Below.refl _ _, t72⟩)
    · intro a W hb0 hs hp hi; have hb := undrew hb0; clear hb0
      have tg : sl a 73 = .bool false := hp 14 (by decide)
      have tt : sl a 11 = .pointer (some ⟨bp, 0, none⟩) := hi 11 (by decide)
      have dd0 := (hb.cell (p := ⟨bp, 0, none⟩) (lt_of_cell ep)).trans ep
      refine ite_y (wanted_yes rfl rfl (by have hz : a.tmps.size = 127 := hs; rw [hz]; decide) tg) (wp_val (.agg #[.slice qp np cp]) ?_ ?_)
      · simp only [execOp, eval_tmp, tt]; simp [go_sem, dd0]
      · exact ⟨_, rfl, Below.refl _ _, rfl⟩
    · intro a W hb0 hs hp hi; have hb := undrew hb0; clear hb0
      have tg : sl a 73 = .bool false := hp 14 (by decide)
      have t7 : sl a 7 = .slice qa na ca := hi 7 (by decide)
      exact ite_y (wanted_yes rfl rfl (by have hz : a.tmps.size = 127 := hs; rw [hz]; decide) tg) (wp_val (sl a 7) rfl ⟨_, rfl, Below.refl _ _, t7⟩)
    · intro a W hb0 hs hp hi; have hb := undrew hb0; clear hb0
      have tg : sl a 73 = .bool false := hp 14 (by decide)
      have t8 : sl a 8 = .slice qb nb cb := hi 8 (by decide)
      exact ite_y (wanted_yes rfl rfl (by have hz : a.tmps.size = 127 := hs; rw [hz]; decide) tg) (wp_val (sl a 8) rfl ⟨_, rfl, Below.refl _ _, t8⟩)
    · intro a W hb0 hs hp hi; have hb := undrew hb0; clear hb0
      have tg : sl a 73 = .bool false := hp 14 (by decide)
      have t75 : sl a 75 = .slice qa na ca := hp 16 (by decide)
      have t76 : sl a 76 = .slice qb nb cb := hp 17 (by decide)
      refine ite_y (wanted_yes rfl rfl (by have hz : a.tmps.size = 127 := hs; rw [hz]; decide) tg) (wp_enter 25 #[.slice qa na ca, .slice qb nb cb] ?_ (MUL_r (V_a.out.keep hb) (U_a.out.keep hb) (by omega) (by omega)) ?_)
      · simp only [execOp, resolve, List.map_toArray, List.map, eval_tmp, eval_func, eval_const, t75, t76]; simp [go_sem]
      · rintro e W' ⟨q5, m5, g5, rfl, s5, hw⟩; exact ⟨_, rfl, _, rfl, hw, q5, m5, g5, rfl, s5⟩
    · intro a W hb0 hs hp hi; have hb := undrew hb0; clear hb0
      have tg : sl a 73 = .bool false := hp 14 (by decide)
      have t74 : sl a 74 = .agg #[.slice qp np cp] := hp 15 (by decide)
      have t77 : BytesIs (bytesN (A * B)) (sl a 77) W := hp 18 (by decide)
      obtain ⟨y77a, y77b, y77c, t77, z77a⟩ := t77
      refine ite_y (wanted_yes rfl rfl (by have hz : a.tmps.size = 127 := hs; rw [hz]; decide) tg) (wp_enter 20 #[.agg #[.slice qp np cp], .slice y77a y77b y77c] ?_ (Is_yes (Xp.out.keep hb) z77a (by rw [← z77a.len]; have := SL.out.2.2.2.1; omega) (T_a.out.keep hb) (valB_bytesN _)) ?_)
      · simp only [execOp, resolve, List.map_toArray, List.map, eval_tmp, eval_func, eval_const, t74, t77]; simp [go_sem]
      · rintro e W' ⟨rfl, hw⟩; exact ⟨_, rfl, _, rfl, hw, rfl⟩
    · intro a W hb0 hs hp hi; have hb := undrew hb0; clear hb0
      have tg : sl a 73 = .bool false := hp 14 (by decide)
      have t78 : sl a 78 = .bool true := hp 19 (by decide)
      refine ite_y (wanted_yes rfl rfl (by have hz : a.tmps.size = 127 := hs; rw [hz]; decide) tg) (wp_val (.bool false) ?_ ?_)
      · simp only [execOp, eval_tmp, eval_const, t78]; simp [go_sem]
      · exact ⟨_, rfl, Below.refl _ _, rfl⟩
    · intro a W hb0 hs hp hi; have hb := undrew hb0; clear hb0
      have t73 : sl a 73 = .bool false := hp 14 (by decide)
      have t79 : sl a 79 = .bool false := hp 20 (by decide)
      refine ite_y rfl (wp_val (.bool false) ?_ ?_)
      · simp only [execOp, eval_tmp, eval_const, t73, t79]; simp [go_sem]
      · exact ⟨_, rfl, Below.refl _ _, rfl⟩
  intro a wb hb hs hd hI ht
  have ha := act_is [59, 60, 61, 62, 63, 64, 65, 66, 67, 68, 69, 70, 71, 72, 73, 74, 75, 76, 77, 78, 79, 80] hs hd ht (by decide)
  have t80 : sl a 80 = .bool false := hI 21 (by decide)
  simp only [List.foldl, t80] at ha
  generalize sl a 59 = u59 at ha
  generalize sl a 60 = u60 at ha
  generalize sl a 61 = u61 at ha
  generalize sl a 62 = u62 at ha
  generalize sl a 63 = u63 at ha
  generalize sl a 64 = u64 at ha
  generalize sl a 65 = u65 at ha
  generalize sl a 66 = u66 at ha
  generalize sl a 67 = u67 at ha
  generalize sl a 68 = u68 at ha
  generalize sl a 69 = u69 at ha
  generalize sl a 70 = u70 at ha
  generalize sl a 71 = u71 at ha
  generalize sl a 72 = u72 at ha
  generalize sl a 73 = u73 at ha
  generalize sl a 74 = u74 at ha
  generalize sl a 75 = u75 at ha
  generalize sl a 76 = u76 at ha
  generalize sl a 77 = u77 at ha
  generalize sl a 78 = u78 at ha
  generalize sl a 79 = u79 at ha
  simp only [Act.put, List.setIfInBounds_toArray, List.set_cons_zero, List.set_cons_succ] at ha
  rw [ha]
  clear ha hI ht
  have S_b := Lib.hid (S_a.out.keep hb); have V_b := Lib.hid (V_a.out.keep hb); have U_b := Lib.hid (U_a.out.keep hb); have T_b := Lib.hid (T_a.out.keep hb); have P_b := Lib.hid (P_a.out.keep hb)
  clear hb S_a V_a U_a T_a P_a es Xs ep Xp
  go_wp2_with fail
  refine Calls.mono (Cmp_ref qa qb na ca nb cb _ _ _ V_b.out U_b.out (bytesN_last _) (bytesN_last _)) ?_
  rintro e wc ⟨rfl, uc, rfl⟩
  have hbd : Below wb.heap.size wb (wb.drewN uc) := bdn (Below.refl _ _)
  have S_c := Lib.hid (S_b.out.keep hbd); have V_c := Lib.hid (V_b.out.keep hbd); have U_c := Lib.hid (U_b.out.keep hbd); have T_c := Lib.hid (T_b.out.keep hbd); have P_c := Lib.hid (P_b.out.keep hbd)
  clear hbd S_b V_b U_b T_b P_b
  generalize wb.drewN uc = wc at *
  rw [valB_bytesN, valB_bytesN]
  obtain ⟨ql, nl, cl, kl, xl⟩ := S_c.out.box bD D (by simp)
  obtain ⟨_, el1, el2, el3, el4⟩ := One.of kl
  have Xl := Lib.hid xl
  clear kl xl
  rcases HD.out with ⟨hle, hDv, rfl⟩ | ⟨hlt, rfl, rfl⟩
  · have hcm : 0 ≤ cmpN A B := by
      rcases Nat.lt_or_ge B A with h | h
      · rw [cmpN_gt h]; decide
      · rw [cmpN_eq (by omega)]; decide
    generalize cmpN A B = cAB at *
    have HLE := Lib.hid hle; have HDV := Lib.hid hDv
    clear hle hDv HD
    go_wp2
    refine wp_region_shapes (fun ix => ([.val (.int .i64 0), .val (.bool false), .val (.bool false), .val (.agg #[.slice ql nl cl]), .val (.slice qa na ca), .val (.slice qb nb cb), .bytes (bytesN D), .val (.bool true), .val (.bool false), .val (.bool false)][ix]?).getD (.any)) 127 rfl (by kernel_rfl) (by decide) (by decide) (by decide) ?_ ?_
    · refine ⟨?_, ?_, ?_, ?_, ?_, ?_, ?_, ?_, ?_, ?_, trivial⟩
      · intro a W hb0 hs hp hi; have hb := undrew hb0; clear hb0
        have t14 : sl a 14 = .int .i64 0 := hi 14 (by decide)
        exact ite_y rfl (wp_val (sl a 14) rfl ⟨_, rfl, Below.refl _ _, t14⟩)
      · intro a W hb0 hs hp hi; have hb := undrew hb0; clear hb0
        have t92 : sl a 92 = .int .i64 0 := hp 0 (by decide)
        refine ite_y rfl (wp_val (.bool false) ?_ ?_)
        · simp only [execOp, eval_tmp, eval_const, t92]; simp [go_sem]
        · exact ⟨_, rfl, Below.refl _ _, rfl⟩
      · intro a W hb0 hs hp hi; have hb := undrew hb0; clear hb0
        have t93 : sl a 93 = .bool false := hp 1 (by decide)
        exact ite_y rfl (wp_val (sl a 93) rfl ⟨_, rfl, Below.refl _ _, t93⟩)
      · intro a W hb0 hs hp hi; have hb := undrew hb0; clear hb0
        have tg : sl a 94 = .bool false := hp 2 (by decide)
        have tt : sl a 13 = .pointer (some ⟨bD, 0, none⟩) := hi 13 (by decide)
        have dd0 := (hb.cell (p := ⟨bD, 0, none⟩) (lt_of_cell el1)).trans el1
        refine ite_y (wanted_yes rfl rfl (by have hz : a.tmps.size = 127 := hs; rw [hz]; decide) tg) (wp_val (.agg #[.slice ql nl cl]) ?_ ?_)
        · simp only [execOp, eval_tmp, tt]; simp [go_sem, dd0]
        · exact ⟨_, rfl, Below.refl _ _, rfl⟩
      · intro a W hb0 hs hp hi; have hb := undrew hb0; clear hb0
        have tg : sl a 94 = .bool false := hp 2 (by decide)
        have t7 : sl a 7 = .slice qa na ca := hi 7 (by decide)
        exact ite_y (wanted_yes rfl rfl (by have hz : a.tmps.size = 127 := hs; rw [hz]; decide) tg) (wp_val (sl a 7) rfl ⟨_, rfl, Below.refl _ _, t7⟩)
      · intro a W hb0 hs hp hi; have hb := undrew hb0; clear hb0
        have tg : sl a 94 = .bool false := hp 2 (by decide)
        have t8 : sl a 8 = .slice qb nb cb := hi 8 (by decide)
        exact ite_y (wanted_yes rfl rfl (by have hz : a.tmps.size = 127 := hs; rw [hz]; decide) tg) (wp_val (sl a 8) rfl ⟨_, rfl, Below.refl _ _, t8⟩)
      · intro a W hb0 hs hp hi; have hb := undrew hb0; clear hb0
        have tg : sl a 94 = .bool false := hp 2 (by decide)
        have t96 : sl a 96 = .slice qa na ca := hp 4 (by decide)
        have t97 : sl a 97 = .slice qb nb cb := hp 5 (by decide)
        refine ite_y (wanted_yes rfl rfl (by have hz : a.tmps.size = 127 := hs; rw [hz]; decide) tg) (wp_enter 26 #[.slice qa na ca, .slice qb nb cb] ?_ (SUB_r (V_c.out.keep hb) (U_c.out.keep hb) (by omega) (HNAB.out HLE.out) HLE.out HDV.out) ?_)
        · simp only [execOp, resolve, List.map_toArray, List.map, eval_tmp, eval_func, eval_const, t96, t97]; simp [go_sem]
        · rintro e W' ⟨q5, m5, g5, rfl, s5, hw⟩; exact ⟨_, rfl, _, rfl, hw, q5, m5, g5, rfl, s5⟩
      · intro a W hb0 hs hp hi; have hb := undrew hb0; clear hb0
        have tg : sl a 94 = .bool false := hp 2 (by decide)
        have t95 : sl a 95 = .agg #[.slice ql nl cl] := hp 3 (by decide)
        have t98 : BytesIs (bytesN D) (sl a 98) W := hp 6 (by decide)
        obtain ⟨y98a, y98b, y98c, t98, z98a⟩ := t98
        refine ite_y (wanted_yes rfl rfl (by have hz : a.tmps.size = 127 := hs; rw [hz]; decide) tg) (wp_enter 20 #[.agg #[.slice ql nl cl], .slice y98a y98b y98c] ?_ (Is_yes (Xl.out.keep hb) z98a (by rw [← z98a.len]; have := SL.out.1; have := DL.out HLE.out HDV.out; omega) (T_c.out.keep hb) (valB_bytesN _)) ?_)
        · simp only [execOp, resolve, List.map_toArray, List.map, eval_tmp, eval_func, eval_const, t95, t98]; simp [go_sem]
        · rintro e W' ⟨rfl, hw⟩; exact ⟨_, rfl, _, rfl, hw, rfl⟩
      · intro a W hb0 hs hp hi; have hb := undrew hb0; clear hb0
        have tg : sl a 94 = .bool false := hp 2 (by decide)
        have t99 : sl a 99 = .bool true := hp 7 (by decide)
        refine ite_y (wanted_yes rfl rfl (by have hz : a.tmps.size = 127 := hs; rw [hz]; decide) tg) (wp_val (.bool false) ?_ ?_)
        · simp only [execOp, eval_tmp, eval_const, t99]; simp [go_sem]
        · exact ⟨_, rfl, Below.refl _ _, rfl⟩
      · intro a W hb0 hs hp hi; have hb := undrew hb0; clear hb0
        have t94 : sl a 94 = .bool false := hp 2 (by decide)
        have t100 : sl a 100 = .bool false := hp 8 (by decide)
        refine ite_y rfl (wp_val (.bool false) ?_ ?_)
        · simp only [execOp, eval_tmp, eval_const, t94, t100]; simp [go_sem]
        · exact ⟨_, rfl, Below.refl _ _, rfl⟩
    intro a wd hb hs hd hI ht
    have ha := act_is [92, 93, 94, 95, 96, 97, 98, 99, 100, 101] hs hd ht (by decide)
    have t101 : sl a 101 = .bool false := hI 9 (by decide)
    simp only [List.foldl, t101] at ha
    generalize sl a 92 = u92 at ha
    generalize sl a 93 = u93 at ha
    generalize sl a 94 = u94 at ha
    generalize sl a 95 = u95 at ha
    generalize sl a 96 = u96 at ha
    generalize sl a 97 = u97 at ha
    generalize sl a 98 = u98 at ha
    generalize sl a 99 = u99 at ha
    generalize sl a 100 = u100 at ha
    simp only [Act.put, List.setIfInBounds_toArray, List.set_cons_zero, List.set_cons_succ] at ha
    rw [ha]
    clear ha hI ht
    have S_d := Lib.hid (S_c.out.keep hb); have V_d := Lib.hid (V_c.out.keep hb); have P_d := Lib.hid (P_c.out.keep hb); have T_d := Lib.hid (T_c.out.keep hb)
    clear hb S_c V_c U_c P_c T_c el1 el2 el3 el4 Xl
    obtain ⟨j20, hj20⟩ : ∃ j : Nat, j = nn.toNat % 21 := ⟨_, rfl⟩
    have hj1 : (nn.toNat : Int) % 21 = (j20 : Int) := by omega
    have hj2 : j20 ≤ 20 := by omega
    clear hj20
    go_wp2
    have HW1 : Hid (Sl B8 (wd.alloc (.cells #[.int .u8 1] 5)) (some ⟨wd.heap.size, 0, none⟩) 1 1 (bytesN (A ^ 0))) := by
      show Sl _ _ _ _ _ _
      rw [Nat.pow_zero, bytesN_one]
      exact sl_block [1] 1 (hnew (by simp)) rfl rfl (by simp [maxLen])
    have V_e := Lib.hid (V_d.out.keep (ba1 _ (.cells #[.int .u8 1] 5))); have S_e := Lib.hid (S_d.out.keep (ba1 _ (.cells #[.int .u8 1] 5))); have P_e := Lib.hid (P_d.out.keep (ba1 _ (.cells #[.int .u8 1] 5))); have T_e := Lib.hid (T_d.out.keep (ba1 _ (.cells #[.int .u8 1] 5)))
    clear V_d S_d P_d T_d
    generalize wd.alloc (.cells #[.int .u8 1] 5) = we at *
    generalize wd.heap.size = bw at *
    have HJ := Lib.hid hj1
    clear hj1
    go_loopw [16, 107] (fun wv iv wr => ∃ (i : Nat) (q : Option Addr) (m c : Nat), i ≤ j20 ∧ iv = .int .i64 i ∧ wv = .slice q m c ∧ m ≤ 1201 ∧ Hid (Sl B8 wr q m c (bytesN (A ^ i))) ∧ Hid (Below we.heap.size we wr)) (fun _ iv _ => j20 - (intOf iv).toNat)
    case atStart => exact ⟨0, _, _, _, Nat.zero_le _, rfl, rfl, by omega, HW1.out, Below.refl _ _⟩
    case round =>
      clear HW1
      obtain ⟨i, q, m, c, hij, rfl, rfl, hm, hW, hB⟩ := hrel
      by_cases hlt : i < j20
      · have hlt' : (i : Int) < (j20 : Int) := by omega
        clear hlt
        go_wp2_with fail
        refine Calls.mono (MUL_r (hW.out) (V_e.out.keep hB.out) (by omega) (by omega)) ?_
        rintro e wf ⟨q2, m2, c2, rfl, hs, hb⟩
        have HS : Hid (Sl B8 wf q2 m2 c2 (bytesN (A ^ (i + 1)))) := by show Sl _ _ _ _ _ _; rw [Nat.pow_succ]; exact hs
        have hm2 : m2 ≤ 1201 := by rw [← HS.out.len]; exact (PW.out (i + 1) (by omega)).2
        have HB2 := Lib.hid (bl hB.out hb hB.out.size)
        clear hs hb hW hB
        go_wp2
        go_roundw
        case rel => exact ⟨i + 1, q2, m2, c2, by omega, by go_num, rfl, hm2, HS.out, HB2.out⟩
        case measure => simp [intOf]; omega
      · obtain rfl : i = j20 := by omega
        have S_f := Lib.hid (S_e.out.keep hB.out); have P_f := Lib.hid (P_e.out.keep hB.out); have T_f := Lib.hid (T_e.out.keep hB.out)
        clear hB hlt V_e
        go_wp2_with fail
        refine Calls.mono (To_any p1 n1 c1 xs _ P_f.out (by omega)) ?_
        rintro e wg ⟨qg, mg, dg, rfl, hw, hb⟩
        have F_g : Hid (Ws 28 wg qg mg dg A) := by rw [HA.out]; exact hw
        have S_g := Lib.hid (S_f.out.keep hb); have T_g := Lib.hid (T_f.out.keep hb); have W_g := Lib.hid (hW.out.keep hb)
        clear hw hb S_f T_f hW
        go_wp2_with fail
        refine Calls.mono (Pow_ok F_g.out (by omega) (fun t ht => (PW.out t (by omega)).1)) ?_
        rintro e wh ⟨qh, mh, dh, rfl, hw, hb⟩
        have S_h := Lib.hid (S_g.out.keep hb); have T_h := Lib.hid (T_g.out.keep hb); have W_h := Lib.hid (W_g.out.keep hb); have L_h := Lib.hid hw
        clear hw hb S_g T_g W_g F_g
        go_wp2_with fail
        refine Calls.mono (Is_yes L_h.out.on1 (W_h.out.keep (ba1 _ _)) (by omega) (T_h.out.keep (ba1 _ _)) (valB_bytesN _)) ?_
        rintro e wi ⟨rfl, hb⟩
        have S_i := Lib.hid (S_h.out.on1 L_h.out hb)
        clear hb S_h T_h W_h L_h
        go_wp2
        go_ret
        exact ⟨rfl, S_i.out.bel⟩
  · have hcm : cmpN A B < 0 := by rw [cmpN_lt hlt]; decide
    generalize cmpN A B = cAB at *
    clear hlt HD
    go_wp2_with fail
    refine Calls.mono (Len_any _ _ _ _ _ Xl.out) ?_
    rintro e wd ⟨rfl, hb⟩
    rw [show (bytesN 0).length = 0 by rw [bytesN_zero]; rfl]
    have S_d := Lib.hid (S_c.out.keep hb); have V_d := Lib.hid (V_c.out.keep hb); have P_d := Lib.hid (P_c.out.keep hb); have T_d := Lib.hid (T_c.out.keep hb)
    clear hb S_c V_c U_c P_c T_c el1 el2 el3 el4 Xl
    obtain ⟨j20, hj20⟩ : ∃ j : Nat, j = nn.toNat % 21 := ⟨_, rfl⟩
    have hj1 : (nn.toNat : Int) % 21 = (j20 : Int) := by omega
    have hj2 : j20 ≤ 20 := by omega
    clear hj20
    go_wp2
    have HW1 : Hid (Sl B8 (wd.alloc (.cells #[.int .u8 1] 5)) (some ⟨wd.heap.size, 0, none⟩) 1 1 (bytesN (A ^ 0))) := by
      show Sl _ _ _ _ _ _
      rw [Nat.pow_zero, bytesN_one]
      exact sl_block [1] 1 (hnew (by simp)) rfl rfl (by simp [maxLen])
    have V_e := Lib.hid (V_d.out.keep (ba1 _ (.cells #[.int .u8 1] 5))); have S_e := Lib.hid (S_d.out.keep (ba1 _ (.cells #[.int .u8 1] 5))); have P_e := Lib.hid (P_d.out.keep (ba1 _ (.cells #[.int .u8 1] 5))); have T_e := Lib.hid (T_d.out.keep (ba1 _ (.cells #[.int .u8 1] 5)))
    clear V_d S_d P_d T_d
    generalize wd.alloc (.cells #[.int .u8 1] 5) = we at *
    generalize wd.heap.size = bw at *
    have HJ := Lib.hid hj1
    clear hj1
    go_loopw [16, 107] (fun wv iv wr => ∃ (i : Nat) (q : Option Addr) (m c : Nat), i ≤ j20 ∧ iv = .int .i64 i ∧ wv = .slice q m c ∧ m ≤ 1201 ∧ Hid (Sl B8 wr q m c (bytesN (A ^ i))) ∧ Hid (Below we.heap.size we wr)) (fun _ iv _ => j20 - (intOf iv).toNat)
    case atStart => exact ⟨0, _, _, _, Nat.zero_le _, rfl, rfl, by omega, HW1.out, Below.refl _ _⟩
    case round =>
      clear HW1
      obtain ⟨i, q, m, c, hij, rfl, rfl, hm, hW, hB⟩ := hrel
      by_cases hlt : i < j20
      · have hlt' : (i : Int) < (j20 : Int) := by omega
        clear hlt
        go_wp2_with fail
        refine Calls.mono (MUL_r (hW.out) (V_e.out.keep hB.out) (by omega) (by omega)) ?_
        rintro e wf ⟨q2, m2, c2, rfl, hs, hb⟩
        have HS : Hid (Sl B8 wf q2 m2 c2 (bytesN (A ^ (i + 1)))) := by show Sl _ _ _ _ _ _; rw [Nat.pow_succ]; exact hs
        have hm2 : m2 ≤ 1201 := by rw [← HS.out.len]; exact (PW.out (i + 1) (by omega)).2
        have HB2 := Lib.hid (bl hB.out hb hB.out.size)
        clear hs hb hW hB
        go_wp2
        go_roundw
        case rel => exact ⟨i + 1, q2, m2, c2, by omega, by go_num, rfl, hm2, HS.out, HB2.out⟩
        case measure => simp [intOf]; omega
      · obtain rfl : i = j20 := by omega
        have S_f := Lib.hid (S_e.out.keep hB.out); have P_f := Lib.hid (P_e.out.keep hB.out); have T_f := Lib.hid (T_e.out.keep hB.out)
        clear hB hlt V_e
        go_wp2_with fail
        refine Calls.mono (To_any p1 n1 c1 xs _ P_f.out (by omega)) ?_
        rintro e wg ⟨qg, mg, dg, rfl, hw, hb⟩
        have F_g : Hid (Ws 28 wg qg mg dg A) := by rw [HA.out]; exact hw
        have S_g := Lib.hid (S_f.out.keep hb); have T_g := Lib.hid (T_f.out.keep hb); have W_g := Lib.hid (hW.out.keep hb)
        clear hw hb S_f T_f hW
        go_wp2_with fail
        refine Calls.mono (Pow_ok F_g.out (by omega) (fun t ht => (PW.out t (by omega)).1)) ?_
        rintro e wh ⟨qh, mh, dh, rfl, hw, hb⟩
        have S_h := Lib.hid (S_g.out.keep hb); have T_h := Lib.hid (T_g.out.keep hb); have W_h := Lib.hid (W_g.out.keep hb); have L_h := Lib.hid hw
        clear hw hb S_g T_g W_g F_g
        go_wp2_with fail
        refine Calls.mono (Is_yes L_h.out.on1 (W_h.out.keep (ba1 _ _)) (by omega) (T_h.out.keep (ba1 _ _)) (valB_bytesN _)) ?_
        rintro e wi ⟨rfl, hb⟩
        have S_i := Lib.hid (S_h.out.on1 L_h.out hb)
        clear hb S_h T_h W_h L_h
        go_wp2
        go_ret
        exact ⟨rfl, S_i.out.bel⟩
end Go.Proofs.YtmcehghbcjhkdaaDoor
