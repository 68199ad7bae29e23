/- NatLong: the walk. -/
import Derived.Test.YtmcehghbcjhkdaaDoorOA
import Derived.Test.YtmcehghbcjhkdaaDoorRN
namespace Go.By
open Go.RowKit
theorem capN_pow {k : Nat} (hk : k = 4096) : capN = 256 ^ k := by
  obtain ⟨j, hj⟩ : ∃ j, j = 512 := ⟨_, rfl⟩
  exact capN_eq hj (by omega)
theorem RetW.long {T : TypeId} {w w' : World} {N k : Nat} {e : Ending} (h : RetW T w N k e w') (hN : capN ≤ N ^ k) : Ret0 w 16 e w' := by
  rcases h with h | h
  · have := h.1 k (Nat.le_refl _); omega
  · exact h.2
/-- so long a number needs so many bytes -/
theorem bytesN_just {N L : Nat} (h1 : 256 ^ L ≤ N) (h2 : N < 256 ^ (L + 1)) : (bytesN N).length = L + 1 := by
  rw [bytesN_len]; exact digs_len (by decide) h1 h2
end Go.By
namespace Go.Proofs.YtmcehghbcjhkdaaDoor
open Go.RowKit Go.By
theorem Add2_long {p : Option Addr} {c M N : Nat} {w : World} (h : Nsl 28 w p 2 c [M, N]) (hc : capN ≤ M + N) : Calls Tryd.prog 10 #[.slice p 2 c] w (Ret0 w 16) :=
  (Add_any p 2 c _ w h).mono fun e w' hr => by
    have e2 : [M, N].sum = M + N := by simp
    rw [e2] at hr; exact hr.long hc
theorem Mul2_long {p : Option Addr} {c M N : Nat} {w : World} (h : Nsl 28 w p 2 c [M, N]) (h1 : M < capN) (hc : capN ≤ M * N) : Calls Tryd.prog 9 #[.slice p 2 c] w (Ret0 w 16) :=
  (Mul_nat p 2 c _ w h).mono fun e w' hr => (hr.two h1).long hc
theorem Pow_long {p : Option Addr} {m c N k : Nat} {w : World} (h : Ws 28 w p m c N) (hk : k ≤ 65536) (hN : capN ≤ N ^ k) : Calls Tryd.prog 8 #[.agg #[.slice p m c], .int .i64 k] w (Ret0 w 16) :=
  (Pow_any p m c N k w h hk).mono fun e w' hr => hr.long hN
theorem Of_num (k : Nat) (hk : k < 18446744073709551616) (W : World) : Calls Tryd.prog 7 #[.int .u64 k] W (RetN1 28 W k) := by
  have := Of_any (UInt64.ofNat k) W
  have e : (UInt64.ofNat k).toNat = k := by simp; omega
  rwa [e, show W64 (UInt64.ofNat k) = .int .u64 k by unfold W64; rw [e]] at this
set_option maxRecDepth 100000 in
set_option maxHeartbeats 2000000 in
theorem NatLong_any (w : World) (hT : Tab w) : Calls Tryd.prog 3 #[] w fun e w' => e = .returned (.bool true) ∧ Below w.heap.size w w' := by
  obtain ⟨K, hK⟩ : ∃ K, K = 4095 := ⟨_, rfl⟩
  have HT := Lib.hid hT
  have HK := Lib.hid hK
  clear hT hK
  go_enter Tryd.func3, Tryd.ntmps3
  go_wp2_with fail
  refine Calls.mono (Of_num 256 (by decide) _) ?_
  rintro e w1 ⟨q1, m1, d1, rfl, hw, hb⟩
  have L1 := Lib.hid hw
  have S1 : Hid (NS 24 28 w [] w1) := ⟨hb, fun b N hm => by cases hm⟩
  clear hw hb
  go_wp2_with fail
  rw [show (4095 : Int) = (K : Int) by rw [HK.out]; rfl]
  refine Calls.mono (Pow_ok L1.out (by have := HK.out; omega) (fun j hj => ?c1)) ?_
  case c1 => exact lt_cap (k := j + 1) (Nat.pow_lt_pow_right (by decide) (by omega)) (by have := HK.out; omega)
  rintro e w2 ⟨q2, m2, d2, rfl, hw, hb⟩
  have L2 := Lib.hid hw
  have S2 := Lib.hid (S1.out.keep hb)
  clear hw hb L1 S1
  go_wp2_with fail
  obtain ⟨b1, hb1⟩ : ∃ b1, b1 = w2.heap.size := ⟨_, rfl⟩
  have S3 := Lib.hid (S2.out.new L2.out)
  have e1 : (w2.alloc (.cells #[.slice q2 m2 d2] 24)).cell? ⟨w2.heap.size, 0, none⟩ = some (.slice q2 m2 d2) := cell_of_row _ _ 0 _ _ _ (hnew rfl)
  have L3 := Lib.hid (L2.out.on1 (o := .cells #[.slice q2 m2 d2] 24))
  have BA : Hid (Below w.heap.size w (w2.alloc (.cells #[.slice q2 m2 d2] 24))) := S3.out.bel
  generalize w2.alloc (.cells #[.slice q2 m2 d2] 24) = wa at *
  rw [← hb1] at S3 e1 ⊢
  clear hb1 S2 L2
  have HH : Hid (128 * 256 ^ K < capN ∧ 128 < capN ∧ 256 * 256 ^ K = 256 ^ (K + 1) ∧ 128 * 256 ^ K + 128 * 256 ^ K = 256 ^ (K + 1)) := by
    have e1 : (256 : Nat) ^ (K + 1) = 256 ^ K * 256 := by rw [Nat.pow_succ]
    have e2 : 0 < (256 : Nat) ^ K := Nat.pow_pos (by decide)
    refine ⟨lt_cap (k := K + 1) (by omega) (by have := HK.out; omega), lt_cap (k := 1) (by decide) (by decide), by omega, by omega⟩
  refine wp_region_boxN 24 (fun ix => ([ShN.num 28 (128) (by decide), ShN.val _ _ (.agg #[.slice q2 m2 d2]), ShN.num2 28 (128) (256 ^ K) (by decide), ShN.numT 28 (128 * 256 ^ K) (0) (by decide), ShN.numT 28 (128 * 256 ^ K) (0) (by decide), ShN.num 28 (128 * 256 ^ K) (by decide), ShN.val _ _ (.int .i64 0), ShN.box _ _, ShN.any _ _, ShN.val _ _ (.int .i64 0)][ix]?).getD (ShN.any _ _)) 8 3 (ShN.num 28 (128 * 256 ^ K) (by decide)) 112 rfl (by kernel_rfl) (by decide) (by decide) (by decide) ?_ ?_
  · refine ⟨?_, ?_, ?_, ?_, ?_, ?_, ?_, ?_, ?_, ?_, trivial⟩
    · intro a W hb hs hp hi
      refine ite_y rfl (wp_enter 7 #[.int .u64 128] ?_ (Of_num 128 (by decide) W) ?_)
      · simp only [execOp, resolve, List.map_toArray, List.map, eval_tmp, eval_func, eval_const]; simp [go_sem]
      · rintro e W' ⟨q, n, c, rfl, hw, hb'⟩; exact ⟨_, rfl, _, rfl, hb', q, n, c, rfl, hw⟩
    · intro a W hb hs hp hi
      have tt : sl a 1 = .pointer (some ⟨b1, 0, none⟩) := hi 1 (by decide)
      have dd := (hb.cell (p := ⟨b1, 0, none⟩) (lt_of_cell e1)).trans e1
      refine ite_y rfl (wp_val (.agg #[.slice q2 m2 d2]) ?_ ?_)
      · simp only [execOp, eval_tmp, tt]; simp [go_sem, dd]
      · exact ⟨_, rfl, Below.refl _ _, rfl⟩
    · intro a W hb hs hp hi
      have tx : IsN 28 (128) (sl a 23) W := hp 0 (by decide)
      obtain ⟨q, n, c, tx, wx⟩ := tx
      have ty : sl a 24 = .agg #[.slice q2 m2 d2] := hp 1 (by decide)
      refine ite_y rfl (wp_val' (w' := W.alloc (.cells #[.slice q n c, .slice q2 m2 d2] 24)) (.slice (some ⟨W.heap.size, 0, none⟩) 2 2) ?_ ?_)
      · simp only [execOp, eval_tmp, List.map_toArray, List.map, tx, ty]; simp [go_sem, tx, ty]
      · exact ⟨_, rfl, al (Below.refl _ _) (Nat.le_refl _), _, _, _, _, _, _, _, rfl, hnew rfl, wx.on1, (L3.out.keep hb).on1⟩
    · intro a W hb hs hp hi
      have tx : IsN2 24 28 (128) (256 ^ K) (sl a 25) W := hp 2 (by decide)
      obtain ⟨p, tx, h25⟩ := tx.sl
      refine ite_y rfl (wp_enter 9 #[.slice p 2 2] ?_ (Mul2_ok h25 HH.out.2.1 HH.out.1) ?_)
      · simp only [execOp, resolve, List.map_toArray, List.map, eval_tmp, eval_func, eval_const, tx]; simp [go_sem]
      · rintro e W' ⟨q, n, c, rfl, hw, hb'⟩; exact ⟨_, rfl, _, rfl, hb', q, n, c, rfl, hw⟩
    · intro a W hb hs hp hi
      exact ite_y rfl (wp_val (sl a 26) rfl ⟨_, rfl, Below.refl _ _, hp 3 (by decide)⟩)
    · intro a W hb hs hp hi
      have tx : IsNT 28 (128 * 256 ^ K) (0) (sl a 22) W := hp 4 (by decide)
      obtain ⟨q, n, c, tx, wx⟩ := tx
      refine ite_y rfl (wp_val (.agg #[.slice q n c]) ?_ ?_)
      · simp only [execOp, eval_tmp, tx]; rfl
      · exact ⟨_, rfl, Below.refl _ _, q, n, c, rfl, wx⟩
    · intro a W hb hs hp hi
      have tx : IsNT 28 (128 * 256 ^ K) (0) (sl a 22) W := hp 4 (by decide)
      obtain ⟨q, n, c, tx, wx⟩ := tx
      refine ite_y rfl (wp_val (.int .i64 0) ?_ ?_)
      · simp only [execOp, eval_tmp, tx]; rfl
      · exact ⟨_, rfl, Below.refl _ _, rfl⟩
    · intro a W hb hs hp hi
      refine ite_y rfl (wp_val' (w' := W.alloc (.cells #[.slice none 0 0] 24)) (.pointer (some ⟨W.heap.size, 0, none⟩)) ?_ ?_)
      · simp only [execOp]; simp [go_sem]
      · exact ⟨_, rfl, al (Below.refl _ _) (Nat.le_refl _), W.heap.size, #[.slice none 0 0], rfl, hb.size, rfl, hnew rfl⟩
    · intro a W hb hs hp hi
      have tu : IsN 28 (128 * 256 ^ K) (sl a 27) W := hp 5 (by decide)
      obtain ⟨q, n, c, tu, wu⟩ := tu
      have tb : NBoxS _ _ 1 (sl a 3) W := hp 7 (by decide)
      obtain ⟨b, cs, tb, hB, hc, hh⟩ := tb
      obtain ⟨u0, rfl⟩ := size1 hc
      have d0 : W.cell? ⟨b, 0, none⟩ = some u0 := cell_of_row _ _ 0 _ _ _ hh
      have z0 : W.frozen? ⟨b, 0, none⟩ = false := frozen_of_row _ _ 0 _ _ hh
      refine ite_y rfl (wp_skipX (w' := W.setCell ⟨b, 0, none⟩ (.slice q n c)) ?_ ?_)
      · simp only [execOp, eval_tmp, tu, tb]; simp [go_sem, d0, z0]
      · have hst := stepN_set (v := .slice q n c) hB hh
        exact ⟨_, rfl, hst, b, #[.slice q n c], tb, hB, hss hh, q, n, c, rfl, wu.step hst (by decide)⟩
    · intro a W hb hs hp hi
      exact ite_y rfl (wp_val (sl a 28) rfl ⟨_, rfl, Below.refl _ _, hp 6 (by decide)⟩)
  intro a w10 hb hs hd hI ht
  have ha := act_is [23, 24, 25, 26, 22, 27, 28, 3, 4] hs hd ht (by decide)
  have tb : BoxedN _ _ _ _ (sl a) w10 := hI 8 (by decide)
  obtain ⟨b3, cs, t3, hB3, hh3, q3, m3, d3, ec, hw3⟩ := tb
  obtain rfl : cs = #[.slice q3 m3 d3] := by injection ec
  have t4 : sl a 4 = .int .i64 0 := hI 9 (by decide)
  simp only [List.foldl, t3, t4] at ha
  generalize sl a 23 = u23 at ha
  generalize sl a 24 = u24 at ha
  generalize sl a 25 = u25 at ha
  generalize sl a 26 = u26 at ha
  generalize sl a 22 = u22 at ha
  generalize sl a 27 = u27 at ha
  generalize sl a 28 = u28 at ha
  simp only [Act.put, List.setIfInBounds_toArray, List.set_cons_zero, List.set_cons_succ] at ha
  rw [ha]
  clear ha hI ht t3 t4 ec hs hd
  have HW3 := Lib.hid hw3
  clear hw3
  have S_10 := Lib.hid (S3.out.more hb ⟨q3, m3, d3, hh3, HW3.out⟩)
  clear hb hB3 hh3 HW3 S3 L3 e1 BA
  have HCN : Hid (capN = 256 ^ (K + 1)) := capN_pow (by have := HK.out; omega)
  have HLG : Hid (capN ≤ 128 * 256 ^ K + 128 * 256 ^ K ∧ 256 < capN ∧ capN ≤ 256 * 256 ^ K) := ⟨by rw [HCN.out, HH.out.2.2.2]; exact Nat.le_refl _, lt_cap (k := 2) (by decide) (by decide), by rw [HCN.out, HH.out.2.2.1]; exact Nat.le_refl _⟩
  have HLG2 : Hid (capN ≤ 256 ^ (K + 1)) := by show _ ≤ _; rw [HCN.out]; exact Nat.le_refl _
  obtain ⟨K2, hK2⟩ : ∃ K, K = 65536 := ⟨_, rfl⟩
  have HK2 := Lib.hid hK2
  clear hK2
  have e256 : Hid ((256 : Nat) ^ (K + 1) = 256 ^ K * 256 ∧ 0 < (256 : Nat) ^ K) := ⟨by rw [Nat.pow_succ], Nat.pow_pos (by decide)⟩
  obtain ⟨qh, nh, ch, kh, xh⟩ := S_10.out.box b3 (128 * 256 ^ K) (by simp)
  obtain ⟨_, eh1, eh2, eh3, eh4⟩ := One.of kh
  have Xh := Lib.hid xh
  clear kh xh
  go_wp2_with fail
  refine Calls.mono (Add2_long (Nsl.two (hnew (by simp)) Xh.out.on1 Xh.out.on1) HLG.out.1) ?_
  rintro e w11 ⟨rfl, hb⟩
  have hbb : Below w10.heap.size w10 w11 := bl (ba1 w10 _ ) hb (ba1 w10 _ ).size
  have S_11 := Lib.hid (S_10.out.keep hbb)
  have L_11 : Hid (Ws 28 w11 none 0 0 0) := Ws.zero _ _
  clear hb hbb S_10
  clear eh1 eh2 eh3 eh4 Xh
  have S_12 := Lib.hid (S_11.out.new L_11.out)
  clear S_11 L_11
  go_wp2
  generalize w11.alloc (.cells #[.slice none 0 0] 24) = w12 at *
  generalize w11.heap.size = b5 at *
  obtain ⟨qt, nt, ct, kt, xt⟩ := S_12.out.box b1 (256 ^ K) (by simp)
  have et := cell_of_row _ _ 0 _ _ _ kt
  have Xt := Lib.hid xt
  clear kt xt
  refine wp_region_boxN 24 (fun ix => ([ShN.num 28 (256) (by decide), ShN.val _ _ (.agg #[.slice qt nt ct]), ShN.num2 28 (256) (256 ^ K) (by decide), ShN.numT 28 (0) (16) (by decide), ShN.numT 28 (0) (16) (by decide), ShN.num 28 (0) (by decide), ShN.val _ _ (.int .i64 16), ShN.box _ _, ShN.any _ _, ShN.val _ _ (.int .i64 16)][ix]?).getD (ShN.any _ _)) 8 7 (ShN.num 28 (0) (by decide)) 112 rfl (by kernel_rfl) (by decide) (by decide) (by decide) ?_ ?_
  · refine ⟨?_, ?_, ?_, ?_, ?_, ?_, ?_, ?_, ?_, ?_, trivial⟩
    · intro a W hb hs hp hi
      refine ite_y rfl (wp_enter 7 #[.int .u64 256] ?_ (Of_num 256 (by decide) W) ?_)
      · simp only [execOp, resolve, List.map_toArray, List.map, eval_tmp, eval_func, eval_const]; simp [go_sem]
      · rintro e W' ⟨q, n, c, rfl, hw, hb'⟩; exact ⟨_, rfl, _, rfl, hb', q, n, c, rfl, hw⟩
    · intro a W hb hs hp hi
      have tt : sl a 1 = .pointer (some ⟨b1, 0, none⟩) := hi 1 (by decide)
      have dd := (hb.cell (p := ⟨b1, 0, none⟩) (lt_of_cell et)).trans et
      refine ite_y rfl (wp_val (.agg #[.slice qt nt ct]) ?_ ?_)
      · simp only [execOp, eval_tmp, tt]; simp [go_sem, dd]
      · exact ⟨_, rfl, Below.refl _ _, rfl⟩
    · intro a W hb hs hp hi
      have tx : IsN 28 (256) (sl a 37) W := hp 0 (by decide)
      obtain ⟨q, n, c, tx, wx⟩ := tx
      have ty : sl a 38 = .agg #[.slice qt nt ct] := hp 1 (by decide)
      refine ite_y rfl (wp_val' (w' := W.alloc (.cells #[.slice q n c, .slice qt nt ct] 24)) (.slice (some ⟨W.heap.size, 0, none⟩) 2 2) ?_ ?_)
      · simp only [execOp, eval_tmp, List.map_toArray, List.map, tx, ty]; simp [go_sem, tx, ty]
      · exact ⟨_, rfl, al (Below.refl _ _) (Nat.le_refl _), _, _, _, _, _, _, _, rfl, hnew rfl, wx.on1, (Xt.out.keep hb).on1⟩
    · intro a W hb hs hp hi
      have tx : IsN2 24 28 (256) (256 ^ K) (sl a 39) W := hp 2 (by decide)
      obtain ⟨p, tx, h25⟩ := tx.sl
      refine ite_y rfl (wp_enter 9 #[.slice p 2 2] ?_ (Mul2_long h25 HLG.out.2.1 HLG.out.2.2) ?_)
      · simp only [execOp, resolve, List.map_toArray, List.map, eval_tmp, eval_func, eval_const, tx]; simp [go_sem]
      · rintro e W' ⟨rfl, hb'⟩; exact ⟨_, rfl, _, rfl, hb', _, _, _, rfl, Ws.zero _ _⟩
    · intro a W hb hs hp hi
      exact ite_y rfl (wp_val (sl a 40) rfl ⟨_, rfl, Below.refl _ _, hp 3 (by decide)⟩)
    · intro a W hb hs hp hi
      have tx : IsNT 28 (0) (16) (sl a 36) W := hp 4 (by decide)
      obtain ⟨q, n, c, tx, wx⟩ := tx
      refine ite_y rfl (wp_val (.agg #[.slice q n c]) ?_ ?_)
      · simp only [execOp, eval_tmp, tx]; rfl
      · exact ⟨_, rfl, Below.refl _ _, q, n, c, rfl, wx⟩
    · intro a W hb hs hp hi
      have tx : IsNT 28 (0) (16) (sl a 36) W := hp 4 (by decide)
      obtain ⟨q, n, c, tx, wx⟩ := tx
      refine ite_y rfl (wp_val (.int .i64 16) ?_ ?_)
      · simp only [execOp, eval_tmp, tx]; rfl
      · exact ⟨_, rfl, Below.refl _ _, rfl⟩
    · intro a W hb hs hp hi
      refine ite_y rfl (wp_val' (w' := W.alloc (.cells #[.slice none 0 0] 24)) (.pointer (some ⟨W.heap.size, 0, none⟩)) ?_ ?_)
      · simp only [execOp]; simp [go_sem]
      · exact ⟨_, rfl, al (Below.refl _ _) (Nat.le_refl _), W.heap.size, #[.slice none 0 0], rfl, hb.size, rfl, hnew rfl⟩
    · intro a W hb hs hp hi
      have tu : IsN 28 (0) (sl a 41) W := hp 5 (by decide)
      obtain ⟨q, n, c, tu, wu⟩ := tu
      have tb : NBoxS _ _ 1 (sl a 7) W := hp 7 (by decide)
      obtain ⟨b, cs, tb, hB, hc, hh⟩ := tb
      obtain ⟨u0, rfl⟩ := size1 hc
      have d0 : W.cell? ⟨b, 0, none⟩ = some u0 := cell_of_row _ _ 0 _ _ _ hh
      have z0 : W.frozen? ⟨b, 0, none⟩ = false := frozen_of_row _ _ 0 _ _ hh
      refine ite_y rfl (wp_skipX (w' := W.setCell ⟨b, 0, none⟩ (.slice q n c)) ?_ ?_)
      · simp only [execOp, eval_tmp, tu, tb]; simp [go_sem, d0, z0]
      · have hst := stepN_set (v := .slice q n c) hB hh
        exact ⟨_, rfl, hst, b, #[.slice q n c], tb, hB, hss hh, q, n, c, rfl, wu.step hst (by decide)⟩
    · intro a W hb hs hp hi
      exact ite_y rfl (wp_val (sl a 42) rfl ⟨_, rfl, Below.refl _ _, hp 6 (by decide)⟩)
  intro a w13 hb hs hd hI ht
  have ha := act_is [37, 38, 39, 40, 36, 41, 42, 7, 8] hs hd ht (by decide)
  have tb : BoxedN _ _ _ _ (sl a) w13 := hI 8 (by decide)
  obtain ⟨b7, cs, t3, hB7, hh7, q7, m7, d7, ec, hw7⟩ := tb
  obtain rfl : cs = #[.slice q7 m7 d7] := by injection ec
  have t4 : sl a 8 = .int .i64 16 := hI 9 (by decide)
  simp only [List.foldl, t3, t4] at ha
  generalize sl a 37 = u37 at ha
  generalize sl a 38 = u38 at ha
  generalize sl a 39 = u39 at ha
  generalize sl a 40 = u40 at ha
  generalize sl a 36 = u36 at ha
  generalize sl a 41 = u41 at ha
  generalize sl a 42 = u42 at ha
  simp only [Act.put, List.setIfInBounds_toArray, List.set_cons_zero, List.set_cons_succ] at ha
  rw [ha]
  clear ha hI ht t3 t4 ec hs hd
  have HW7 := Lib.hid hw7
  clear hw7
  have S_13 := Lib.hid (S_12.out.more hb ⟨q7, m7, d7, hh7, HW7.out⟩)
  clear hb hB7 hh7 HW7 S_12 et Xt
  go_wp2_with fail
  refine Calls.mono (Of_num 256 (by decide) _) ?_
  rintro e w14 ⟨q14, m14, d14, rfl, hw, hb⟩
  have S_14 := Lib.hid (S_13.out.keep hb)
  have F_14 := Lib.hid hw
  clear hw
  clear hb S_13
  go_wp2_with fail
  rw [show (4096 : Int) = ((K + 1 : Nat) : Int) by rw [HK.out]; rfl]
  refine Calls.mono (Pow_long (k := K + 1) F_14.out (by have := HK.out; omega) HLG2.out) ?_
  rintro e w15 ⟨rfl, hb⟩
  have S_15 := Lib.hid (S_14.out.keep hb)
  have L_15 : Hid (Ws 28 w15 none 0 0 0) := Ws.zero _ _
  clear hb S_14 F_14
  go_wp2_with fail
  refine Calls.mono (Of_num 2 (by decide) _) ?_
  rintro e w16 ⟨q16, m16, d16, rfl, hw, hb⟩
  have hbb : Below w15.heap.size w15 w16 := bl (ba1 w15 _ ) hb (ba1 w15 _ ).size
  have S_16 := Lib.hid (S_15.out.on1 L_15.out hb)
  have F_16 := Lib.hid hw
  clear hw
  clear hb hbb S_15 L_15
  generalize w15.heap.size = b9 at *
  go_wp2_with fail
  refine Calls.mono (Pow_bad _ _ _ (-1) _ (Or.inl (by decide))) ?_
  rintro e w17 ⟨rfl, hb⟩
  have S_17 := Lib.hid (S_16.out.keep hb)
  have L_17 : Hid (Ws 28 w17 none 0 0 0) := Ws.zero _ _
  clear hb S_16 F_16
  go_wp2_with fail
  refine Calls.mono (Of_num 1 (by decide) _) ?_
  rintro e w18 ⟨q18, m18, d18, rfl, hw, hb⟩
  have hbb : Below w17.heap.size w17 w18 := bl (ba1 w17 _ ) hb (ba1 w17 _ ).size
  have S_18 := Lib.hid (S_17.out.on1 L_17.out hb)
  have F_18 := Lib.hid hw
  clear hw
  clear hb hbb S_17 L_17
  generalize w17.heap.size = b11 at *
  go_wp2_with fail
  rw [show (65536 : Int) = (K2 : Int) by rw [HK2.out]; rfl]
  refine Calls.mono (Pow_ok (k := K2) F_18.out (by have := HK2.out; omega) (fun j _ => by rw [Nat.one_pow]; exact one_cap)) ?_
  rintro e w19 ⟨q19, m19, d19, rfl, hw, hb⟩
  have S_19 := Lib.hid (S_18.out.keep hb)
  rw [Nat.one_pow] at hw
  have L_19 := Lib.hid hw
  clear hw
  clear hb S_18 F_18
  go_wp2_with fail
  refine Calls.mono (Of_num 1 (by decide) _) ?_
  rintro e w20 ⟨q20, m20, d20, rfl, hw, hb⟩
  have hbb : Below w19.heap.size w19 w20 := bl (ba1 w19 _ ) hb (ba1 w19 _ ).size
  have S_20 := Lib.hid (S_19.out.on1 L_19.out hb)
  have F_20 := Lib.hid hw
  clear hw
  clear hb hbb S_19 L_19
  generalize w19.heap.size = b13 at *
  go_wp2_with fail
  refine Calls.mono (Pow_bad _ _ _ 65537 _ (Or.inr (by decide))) ?_
  rintro e w21 ⟨rfl, hb⟩
  have S_21 := Lib.hid (S_20.out.keep hb)
  have L_21 : Hid (Ws 28 w21 none 0 0 0) := Ws.zero _ _
  clear hb S_20 F_20
  have S_z := Lib.hid (S_21.out.new L_21.out)
  clear S_21 L_21
  go_wp2
  generalize w21.alloc (.cells #[.slice none 0 0] 24) = wz at *
  generalize w21.heap.size = b15 at *
  obtain ⟨qt, nt, ct, kt, xt⟩ := S_z.out.box b1 (256 ^ K) (by simp)
  have et := cell_of_row _ _ 0 _ _ _ kt
  have Xt := Lib.hid xt
  clear kt xt
  obtain ⟨qh, nh, ch, kh, xh⟩ := S_z.out.box b3 (128 * 256 ^ K) (by simp)
  have eh := cell_of_row _ _ 0 _ _ _ kh
  have Xh := Lib.hid xh
  clear kh xh
  obtain ⟨qo, no, co, ko, xo⟩ := S_z.out.box b13 (1) (by simp)
  have eo := cell_of_row _ _ 0 _ _ _ ko
  have Xo := Lib.hid xo
  clear ko xo
  have T_z := Lib.hid (HT.out.keep S_z.out.bel)
  have LT : Hid (∀ W, Ws 28 W qt nt ct (256 ^ K) → Calls Tryd.prog 12 #[.agg #[.slice qt nt ct]] W fun e w' => e = .returned (.int .i64 4096) ∧ Below W.heap.size W w') := fun W h => by
    have := Len_any qt nt ct _ W h
    rwa [bytesN_just (L := K) (Nat.le_refl _) (by have := e256.out; omega), show ((K + 1 : Nat) : Int) = 4096 by rw [HK.out]; rfl] at this
  have LH : Hid (∀ W, Ws 28 W qh nh ch (128 * 256 ^ K) → Calls Tryd.prog 12 #[.agg #[.slice qh nh ch]] W fun e w' => e = .returned (.int .i64 4096) ∧ Below W.heap.size W w') := fun W h => by
    have := Len_any qh nh ch _ W h
    rwa [bytesN_just (L := K) (by have := e256.out; omega) (by have := e256.out; omega), show ((K + 1 : Nat) : Int) = 4096 by rw [HK.out]; rfl] at this
  refine wp_region_shapes (fun ix => ([.val (.bool true), .val (.bool true), .val (.int .i64 0), .val (.bool true), .val (.bool true), .val (.bool true), .val (.agg #[.slice qt nt ct]), .val (.int .i64 4096), .val (.bool true), .val (.bool true), .val (.bool true), .val (.int .i64 0), .val (.bool true), .val (.bool true), .val (.bool true), .val (.agg #[.slice qh nh ch]), .val (.int .i64 4096), .val (.bool true), .val (.bool true), .val (.bool true), .val (.int .i64 16), .val (.bool true), .val (.bool true), .val (.bool true), .val (.int .i64 16), .val (.bool true), .val (.bool true), .val (.bool true), .val (.int .i64 16), .val (.bool true), .val (.bool true), .val (.bool true), .val (.int .i64 2), .val (.bool true), .val (.bool true), .val (.bool true), .val (.int .i64 0), .val (.bool true), .val (.bool true), .val (.bool true), .val (.agg #[.slice qo no co]), ShpN 28 (1), .val (.int .i64 0), .val (.bool true), .val (.bool true), .val (.bool true), .val (.int .i64 2), .val (.bool true), .val (.bool true), .val (.bool true)][ix]?).getD (.any)) 112 rfl (by kernel_rfl) (by decide) (by decide) (by decide) ?_ ?_
  · refine ⟨?_, ?_, ?_, ?_, ?_, ?_, ?_, ?_, ?_, ?_, ?_, ?_, ?_, ?_, ?_, ?_, ?_, ?_, ?_, ?_, ?_, ?_, ?_, ?_, ?_, ?_, ?_, ?_, ?_, ?_, ?_, ?_, ?_, ?_, ?_, ?_, ?_, ?_, ?_, ?_, ?_, ?_, ?_, ?_, ?_, ?_, ?_, ?_, ?_, ?_, trivial⟩
    · intro a W hb0 hs hp hi; have hb := undrew hb0; clear hb0
      refine ite_y rfl (wp_enter 11 #[] ?_ (awake_nat W (T_z.out.keep hb)) ?_)
      · simp only [execOp, resolve, List.map_toArray, List.map, eval_tmp, eval_func, eval_const, ]; simp [go_sem]
      · rintro e W' ⟨rfl, hw⟩; exact ⟨_, rfl, _, rfl, hw, rfl⟩
    · intro a W hb0 hs hp hi; have hb := undrew hb0; clear hb0
      have t63 : sl a 63 = .bool true := hp 0 (by decide)
      exact ite_y rfl (wp_val (sl a 63) rfl ⟨_, rfl, Below.refl _ _, t63⟩)
    · intro a W hb0 hs hp hi; have hb := undrew hb0; clear hb0
      have tg : sl a 64 = .bool true := hp 1 (by decide)
      have t2 : sl a 2 = .int .i64 0 := hi 2 (by decide)
      exact ite_y (wanted_yes rfl rfl (by have hz : a.tmps.size = 112 := hs; rw [hz]; decide) tg) (wp_val (sl a 2) rfl ⟨_, rfl, Below.refl _ _, t2⟩)
    · intro a W hb0 hs hp hi; have hb := undrew hb0; clear hb0
      have tg : sl a 64 = .bool true := hp 1 (by decide)
      have t65 : sl a 65 = .int .i64 0 := hp 2 (by decide)
      refine ite_y (wanted_yes rfl rfl (by have hz : a.tmps.size = 112 := hs; rw [hz]; decide) tg) (wp_val (.bool true) ?_ ?_)
      · simp only [execOp, eval_tmp, eval_const, t65]; simp [go_sem]
      · exact ⟨_, rfl, Below.refl _ _, rfl⟩
    · intro a W hb0 hs hp hi; have hb := undrew hb0; clear hb0
      have t64 : sl a 64 = .bool true := hp 1 (by decide)
      have t66 : sl a 66 = .bool true := hp 3 (by decide)
      refine ite_y rfl (wp_val (.bool true) ?_ ?_)
      · simp only [execOp, eval_tmp, eval_const, t64, t66]; simp [go_sem]
      · exact ⟨_, rfl, Below.refl _ _, rfl⟩
    · intro a W hb0 hs hp hi; have hb := undrew hb0; clear hb0
      have t67 : sl a 67 = .bool true := hp 4 (by decide)
      exact ite_y rfl (wp_val (sl a 67) rfl ⟨_, rfl, Below.refl _ _, t67⟩)
    · intro a W hb0 hs hp hi; have hb := undrew hb0; clear hb0
      have tg : sl a 68 = .bool true := hp 5 (by decide)
      have tt : sl a 1 = .pointer (some ⟨b1, 0, none⟩) := hi 1 (by decide)
      have dd0 := (hb.cell (p := ⟨b1, 0, none⟩) (lt_of_cell et)).trans et
      refine ite_y (wanted_yes rfl rfl (by have hz : a.tmps.size = 112 := hs; rw [hz]; decide) tg) (wp_val (.agg #[.slice qt nt ct]) ?_ ?_)
      · simp only [execOp, eval_tmp, tt]; simp [go_sem, dd0]
      · exact ⟨_, rfl, Below.refl _ _, rfl⟩
    · intro a W hb0 hs hp hi; have hb := undrew hb0; clear hb0
      have tg : sl a 68 = .bool true := hp 5 (by decide)
      have t69 : sl a 69 = .agg #[.slice qt nt ct] := hp 6 (by decide)
      refine ite_y (wanted_yes rfl rfl (by have hz : a.tmps.size = 112 := hs; rw [hz]; decide) tg) (wp_enter 12 #[.agg #[.slice qt nt ct]] ?_ (LT.out W (Xt.out.keep hb)) ?_)
      · simp only [execOp, resolve, List.map_toArray, List.map, eval_tmp, eval_func, eval_const, t69]; simp [go_sem]
      · rintro e W' ⟨rfl, hw⟩; exact ⟨_, rfl, _, rfl, hw, rfl⟩
    · intro a W hb0 hs hp hi; have hb := undrew hb0; clear hb0
      have tg : sl a 68 = .bool true := hp 5 (by decide)
      have t70 : sl a 70 = .int .i64 4096 := hp 7 (by decide)
      refine ite_y (wanted_yes rfl rfl (by have hz : a.tmps.size = 112 := hs; rw [hz]; decide) tg) (wp_val (.bool true) ?_ ?_)
      · simp only [execOp, eval_tmp, eval_const, t70]; simp [go_sem]
      · exact ⟨_, rfl, Below.refl _ _, rfl⟩
    · intro a W hb0 hs hp hi; have hb := undrew hb0; clear hb0
      have t68 : sl a 68 = .bool true := hp 5 (by decide)
      have t71 : sl a 71 = .bool true := hp 8 (by decide)
      refine ite_y rfl (wp_val (.bool true) ?_ ?_)
      · simp only [execOp, eval_tmp, eval_const, t68, t71]; simp [go_sem]
      · exact ⟨_, rfl, Below.refl _ _, rfl⟩
    · intro a W hb0 hs hp hi; have hb := undrew hb0; clear hb0
      have t72 : sl a 72 = .bool true := hp 9 (by decide)
      exact ite_y rfl (wp_val (sl a 72) rfl ⟨_, rfl, Below.refl _ _, t72⟩)
    · intro a W hb0 hs hp hi; have hb := undrew hb0; clear hb0
      have tg : sl a 73 = .bool true := hp 10 (by decide)
      have t4 : sl a 4 = .int .i64 0 := hi 4 (by decide)
      exact ite_y (wanted_yes rfl rfl (by have hz : a.tmps.size = 112 := hs; rw [hz]; decide) tg) (wp_val (sl a 4) rfl ⟨_, rfl, Below.refl _ _, t4⟩)
    · intro a W hb0 hs hp hi; have hb := undrew hb0; clear hb0
      have tg : sl a 73 = .bool true := hp 10 (by decide)
      have t74 : sl a 74 = .int .i64 0 := hp 11 (by decide)
      refine ite_y (wanted_yes rfl rfl (by have hz : a.tmps.size = 112 := hs; rw [hz]; decide) tg) (wp_val (.bool true) ?_ ?_)
      · simp only [execOp, eval_tmp, eval_const, t74]; simp [go_sem]
      · exact ⟨_, rfl, Below.refl _ _, rfl⟩
    · intro a W hb0 hs hp hi; have hb := undrew hb0; clear hb0
      have t73 : sl a 73 = .bool true := hp 10 (by decide)
      have t75 : sl a 75 = .bool true := hp 12 (by decide)
      refine ite_y rfl (wp_val (.bool true) ?_ ?_)
      · simp only [execOp, eval_tmp, eval_const, t73, t75]; simp [go_sem]
      · exact ⟨_, rfl, Below.refl _ _, rfl⟩
    · intro a W hb0 hs hp hi; have hb := undrew hb0; clear hb0
      have t76 : sl a 76 = .bool true := hp 13 (by decide)
      exact ite_y rfl (wp_val (sl a 76) rfl ⟨_, rfl, Below.refl _ _, t76⟩)
    · intro a W hb0 hs hp hi; have hb := undrew hb0; clear hb0
      have tg : sl a 77 = .bool true := hp 14 (by decide)
      have tt : sl a 3 = .pointer (some ⟨b3, 0, none⟩) := hi 3 (by decide)
      have dd0 := (hb.cell (p := ⟨b3, 0, none⟩) (lt_of_cell eh)).trans eh
      refine ite_y (wanted_yes rfl rfl (by have hz : a.tmps.size = 112 := hs; rw [hz]; decide) tg) (wp_val (.agg #[.slice qh nh ch]) ?_ ?_)
      · simp only [execOp, eval_tmp, tt]; simp [go_sem, dd0]
      · exact ⟨_, rfl, Below.refl _ _, rfl⟩
    · intro a W hb0 hs hp hi; have hb := undrew hb0; clear hb0
      have tg : sl a 77 = .bool true := hp 14 (by decide)
      have t78 : sl a 78 = .agg #[.slice qh nh ch] := hp 15 (by decide)
      refine ite_y (wanted_yes rfl rfl (by have hz : a.tmps.size = 112 := hs; rw [hz]; decide) tg) (wp_enter 12 #[.agg #[.slice qh nh ch]] ?_ (LH.out W (Xh.out.keep hb)) ?_)
      · simp only [execOp, resolve, List.map_toArray, List.map, eval_tmp, eval_func, eval_const, t78]; simp [go_sem]
      · rintro e W' ⟨rfl, hw⟩; exact ⟨_, rfl, _, rfl, hw, rfl⟩
    · intro a W hb0 hs hp hi; have hb := undrew hb0; clear hb0
      have tg : sl a 77 = .bool true := hp 14 (by decide)
      have t79 : sl a 79 = .int .i64 4096 := hp 16 (by decide)
      refine ite_y (wanted_yes rfl rfl (by have hz : a.tmps.size = 112 := hs; rw [hz]; decide) tg) (wp_val (.bool true) ?_ ?_)
      · simp only [execOp, eval_tmp, eval_const, t79]; simp [go_sem]
      · exact ⟨_, rfl, Below.refl _ _, rfl⟩
    · intro a W hb0 hs hp hi; have hb := undrew hb0; clear hb0
      have t77 : sl a 77 = .bool true := hp 14 (by decide)
      have t80 : sl a 80 = .bool true := hp 17 (by decide)
      refine ite_y rfl (wp_val (.bool true) ?_ ?_)
      · simp only [execOp, eval_tmp, eval_const, t77, t80]; simp [go_sem]
      · exact ⟨_, rfl, Below.refl _ _, rfl⟩
    · intro a W hb0 hs hp hi; have hb := undrew hb0; clear hb0
      have t81 : sl a 81 = .bool true := hp 18 (by decide)
      exact ite_y rfl (wp_val (sl a 81) rfl ⟨_, rfl, Below.refl _ _, t81⟩)
    · intro a W hb0 hs hp hi; have hb := undrew hb0; clear hb0
      have tg : sl a 82 = .bool true := hp 19 (by decide)
      have t6 : sl a 6 = .int .i64 16 := hi 6 (by decide)
      exact ite_y (wanted_yes rfl rfl (by have hz : a.tmps.size = 112 := hs; rw [hz]; decide) tg) (wp_val (sl a 6) rfl ⟨_, rfl, Below.refl _ _, t6⟩)
    · intro a W hb0 hs hp hi; have hb := undrew hb0; clear hb0
      have tg : sl a 82 = .bool true := hp 19 (by decide)
      have t83 : sl a 83 = .int .i64 16 := hp 20 (by decide)
      refine ite_y (wanted_yes rfl rfl (by have hz : a.tmps.size = 112 := hs; rw [hz]; decide) tg) (wp_val (.bool true) ?_ ?_)
      · simp only [execOp, eval_tmp, eval_const, t83]; simp [go_sem]
      · exact ⟨_, rfl, Below.refl _ _, rfl⟩
    · intro a W hb0 hs hp hi; have hb := undrew hb0; clear hb0
      have t82 : sl a 82 = .bool true := hp 19 (by decide)
      have t84 : sl a 84 = .bool true := hp 21 (by decide)
      refine ite_y rfl (wp_val (.bool true) ?_ ?_)
      · simp only [execOp, eval_tmp, eval_const, t82, t84]; simp [go_sem]
      · exact ⟨_, rfl, Below.refl _ _, rfl⟩
    · intro a W hb0 hs hp hi; have hb := undrew hb0; clear hb0
      have t85 : sl a 85 = .bool true := hp 22 (by decide)
      exact ite_y rfl (wp_val (sl a 85) rfl ⟨_, rfl, Below.refl _ _, t85⟩)
    · intro a W hb0 hs hp hi; have hb := undrew hb0; clear hb0
      have tg : sl a 86 = .bool true := hp 23 (by decide)
      have t8 : sl a 8 = .int .i64 16 := hi 8 (by decide)
      exact ite_y (wanted_yes rfl rfl (by have hz : a.tmps.size = 112 := hs; rw [hz]; decide) tg) (wp_val (sl a 8) rfl ⟨_, rfl, Below.refl _ _, t8⟩)
    · intro a W hb0 hs hp hi; have hb := undrew hb0; clear hb0
      have tg : sl a 86 = .bool true := hp 23 (by decide)
      have t87 : sl a 87 = .int .i64 16 := hp 24 (by decide)
      refine ite_y (wanted_yes rfl rfl (by have hz : a.tmps.size = 112 := hs; rw [hz]; decide) tg) (wp_val (.bool true) ?_ ?_)
      · simp only [execOp, eval_tmp, eval_const, t87]; simp [go_sem]
      · exact ⟨_, rfl, Below.refl _ _, rfl⟩
    · intro a W hb0 hs hp hi; have hb := undrew hb0; clear hb0
      have t86 : sl a 86 = .bool true := hp 23 (by decide)
      have t88 : sl a 88 = .bool true := hp 25 (by decide)
      refine ite_y rfl (wp_val (.bool true) ?_ ?_)
      · simp only [execOp, eval_tmp, eval_const, t86, t88]; simp [go_sem]
      · exact ⟨_, rfl, Below.refl _ _, rfl⟩
    · intro a W hb0 hs hp hi; have hb := undrew hb0; clear hb0
      have t89 : sl a 89 = .bool true := hp 26 (by decide)
      exact ite_y rfl (wp_val (sl a 89) rfl ⟨_, rfl, Below.refl _ _, t89⟩)
    · intro a W hb0 hs hp hi; have hb := undrew hb0; clear hb0
      have tg : sl a 90 = .bool true := hp 27 (by decide)
      have t10 : sl a 10 = .int .i64 16 := hi 10 (by decide)
      exact ite_y (wanted_yes rfl rfl (by have hz : a.tmps.size = 112 := hs; rw [hz]; decide) tg) (wp_val (sl a 10) rfl ⟨_, rfl, Below.refl _ _, t10⟩)
    · intro a W hb0 hs hp hi; have hb := undrew hb0; clear hb0
      have tg : sl a 90 = .bool true := hp 27 (by decide)
      have t91 : sl a 91 = .int .i64 16 := hp 28 (by decide)
      refine ite_y (wanted_yes rfl rfl (by have hz : a.tmps.size = 112 := hs; rw [hz]; decide) tg) (wp_val (.bool true) ?_ ?_)
      · simp only [execOp, eval_tmp, eval_const, t91]; simp [go_sem]
      · exact ⟨_, rfl, Below.refl _ _, rfl⟩
    · intro a W hb0 hs hp hi; have hb := undrew hb0; clear hb0
      have t90 : sl a 90 = .bool true := hp 27 (by decide)
      have t92 : sl a 92 = .bool true := hp 29 (by decide)
      refine ite_y rfl (wp_val (.bool true) ?_ ?_)
      · simp only [execOp, eval_tmp, eval_const, t90, t92]; simp [go_sem]
      · exact ⟨_, rfl, Below.refl _ _, rfl⟩
    · intro a W hb0 hs hp hi; have hb := undrew hb0; clear hb0
      have t93 : sl a 93 = .bool true := hp 30 (by decide)
      exact ite_y rfl (wp_val (sl a 93) rfl ⟨_, rfl, Below.refl _ _, t93⟩)
    · intro a W hb0 hs hp hi; have hb := undrew hb0; clear hb0
      have tg : sl a 94 = .bool true := hp 31 (by decide)
      have t12 : sl a 12 = .int .i64 2 := hi 12 (by decide)
      exact ite_y (wanted_yes rfl rfl (by have hz : a.tmps.size = 112 := hs; rw [hz]; decide) tg) (wp_val (sl a 12) rfl ⟨_, rfl, Below.refl _ _, t12⟩)
    · intro a W hb0 hs hp hi; have hb := undrew hb0; clear hb0
      have tg : sl a 94 = .bool true := hp 31 (by decide)
      have t95 : sl a 95 = .int .i64 2 := hp 32 (by decide)
      refine ite_y (wanted_yes rfl rfl (by have hz : a.tmps.size = 112 := hs; rw [hz]; decide) tg) (wp_val (.bool true) ?_ ?_)
      · simp only [execOp, eval_tmp, eval_const, t95]; simp [go_sem]
      · exact ⟨_, rfl, Below.refl _ _, rfl⟩
    · intro a W hb0 hs hp hi; have hb := undrew hb0; clear hb0
      have t94 : sl a 94 = .bool true := hp 31 (by decide)
      have t96 : sl a 96 = .bool true := hp 33 (by decide)
      refine ite_y rfl (wp_val (.bool true) ?_ ?_)
      · simp only [execOp, eval_tmp, eval_const, t94, t96]; simp [go_sem]
      · exact ⟨_, rfl, Below.refl _ _, rfl⟩
    · intro a W hb0 hs hp hi; have hb := undrew hb0; clear hb0
      have t97 : sl a 97 = .bool true := hp 34 (by decide)
      exact ite_y rfl (wp_val (sl a 97) rfl ⟨_, rfl, Below.refl _ _, t97⟩)
    · intro a W hb0 hs hp hi; have hb := undrew hb0; clear hb0
      have tg : sl a 98 = .bool true := hp 35 (by decide)
      have t14 : sl a 14 = .int .i64 0 := hi 14 (by decide)
      exact ite_y (wanted_yes rfl rfl (by have hz : a.tmps.size = 112 := hs; rw [hz]; decide) tg) (wp_val (sl a 14) rfl ⟨_, rfl, Below.refl _ _, t14⟩)
    · intro a W hb0 hs hp hi; have hb := undrew hb0; clear hb0
      have tg : sl a 98 = .bool true := hp 35 (by decide)
      have t99 : sl a 99 = .int .i64 0 := hp 36 (by decide)
      refine ite_y (wanted_yes rfl rfl (by have hz : a.tmps.size = 112 := hs; rw [hz]; decide) tg) (wp_val (.bool true) ?_ ?_)
      · simp only [execOp, eval_tmp, eval_const, t99]; simp [go_sem]
      · exact ⟨_, rfl, Below.refl _ _, rfl⟩
    · intro a W hb0 hs hp hi; have hb := undrew hb0; clear hb0
      have t98 : sl a 98 = .bool true := hp 35 (by decide)
      have t100 : sl a 100 = .bool true := hp 37 (by decide)
      refine ite_y rfl (wp_val (.bool true) ?_ ?_)
      · simp only [execOp, eval_tmp, eval_const, t98, t100]; simp [go_sem]
      · exact ⟨_, rfl, Below.refl _ _, rfl⟩
    · intro a W hb0 hs hp hi; have hb := undrew hb0; clear hb0
      have t101 : sl a 101 = .bool true := hp 38 (by decide)
      exact ite_y rfl (wp_val (sl a 101) rfl ⟨_, rfl, Below.refl _ _, t101⟩)
    · intro a W hb0 hs hp hi; have hb := undrew hb0; clear hb0
      have tg : sl a 102 = .bool true := hp 39 (by decide)
      have tt : sl a 13 = .pointer (some ⟨b13, 0, none⟩) := hi 13 (by decide)
      have dd0 := (hb.cell (p := ⟨b13, 0, none⟩) (lt_of_cell eo)).trans eo
      refine ite_y (wanted_yes rfl rfl (by have hz : a.tmps.size = 112 := hs; rw [hz]; decide) tg) (wp_val (.agg #[.slice qo no co]) ?_ ?_)
      · simp only [execOp, eval_tmp, tt]; simp [go_sem, dd0]
      · exact ⟨_, rfl, Below.refl _ _, rfl⟩
    · intro a W hb0 hs hp hi; have hb := undrew hb0; clear hb0
      have tg : sl a 102 = .bool true := hp 39 (by decide)
      refine ite_y (wanted_yes rfl rfl (by have hz : a.tmps.size = 112 := hs; rw [hz]; decide) tg) (wp_enter 7 #[.int .u64 1] ?_ (Of_num 1 (by decide) W) ?_)
      · simp only [execOp, resolve, List.map_toArray, List.map, eval_tmp, eval_func, eval_const, ]; simp [go_sem]
      · rintro e W' ⟨q, n, c, rfl, hw, hb'⟩; exact ⟨_, rfl, _, rfl, hb', q, n, c, rfl, hw⟩
    · intro a W hb0 hs hp hi; have hb := undrew hb0; clear hb0
      have tg : sl a 102 = .bool true := hp 39 (by decide)
      have t103 : sl a 103 = .agg #[.slice qo no co] := hp 40 (by decide)
      have t104 : IsN 28 (1) (sl a 104) W := hp 41 (by decide)
      obtain ⟨y104a, y104b, y104c, t104, z104a⟩ := t104
      refine ite_y (wanted_yes rfl rfl (by have hz : a.tmps.size = 112 := hs; rw [hz]; decide) tg) (wp_enter 13 #[.agg #[.slice qo no co], .agg #[.slice y104a y104b y104c]] ?_ (Cmp_same (Xo.out.keep hb) z104a rfl) ?_)
      · simp only [execOp, resolve, List.map_toArray, List.map, eval_tmp, eval_func, eval_const, t103, t104]; simp [go_sem]
      · rintro e W' ⟨rfl, hw⟩; exact ⟨_, rfl, _, rfl, hw, rfl⟩
    · intro a W hb0 hs hp hi; have hb := undrew hb0; clear hb0
      have tg : sl a 102 = .bool true := hp 39 (by decide)
      have t105 : sl a 105 = .int .i64 0 := hp 42 (by decide)
      refine ite_y (wanted_yes rfl rfl (by have hz : a.tmps.size = 112 := hs; rw [hz]; decide) tg) (wp_val (.bool true) ?_ ?_)
      · simp only [execOp, eval_tmp, eval_const, t105]; simp [go_sem]
      · exact ⟨_, rfl, Below.refl _ _, rfl⟩
    · intro a W hb0 hs hp hi; have hb := undrew hb0; clear hb0
      have t102 : sl a 102 = .bool true := hp 39 (by decide)
      have t106 : sl a 106 = .bool true := hp 43 (by decide)
      refine ite_y rfl (wp_val (.bool true) ?_ ?_)
      · simp only [execOp, eval_tmp, eval_const, t102, t106]; simp [go_sem]
      · exact ⟨_, rfl, Below.refl _ _, rfl⟩
    · intro a W hb0 hs hp hi; have hb := undrew hb0; clear hb0
      have t107 : sl a 107 = .bool true := hp 44 (by decide)
      exact ite_y rfl (wp_val (sl a 107) rfl ⟨_, rfl, Below.refl _ _, t107⟩)
    · intro a W hb0 hs hp hi; have hb := undrew hb0; clear hb0
      have tg : sl a 108 = .bool true := hp 45 (by decide)
      have t16 : sl a 16 = .int .i64 2 := hi 16 (by decide)
      exact ite_y (wanted_yes rfl rfl (by have hz : a.tmps.size = 112 := hs; rw [hz]; decide) tg) (wp_val (sl a 16) rfl ⟨_, rfl, Below.refl _ _, t16⟩)
    · intro a W hb0 hs hp hi; have hb := undrew hb0; clear hb0
      have tg : sl a 108 = .bool true := hp 45 (by decide)
      have t109 : sl a 109 = .int .i64 2 := hp 46 (by decide)
      refine ite_y (wanted_yes rfl rfl (by have hz : a.tmps.size = 112 := hs; rw [hz]; decide) tg) (wp_val (.bool true) ?_ ?_)
      · simp only [execOp, eval_tmp, eval_const, t109]; simp [go_sem]
      · exact ⟨_, rfl, Below.refl _ _, rfl⟩
    · intro a W hb0 hs hp hi; have hb := undrew hb0; clear hb0
      have t108 : sl a 108 = .bool true := hp 45 (by decide)
      have t110 : sl a 110 = .bool true := hp 47 (by decide)
      refine ite_y rfl (wp_val (.bool true) ?_ ?_)
      · simp only [execOp, eval_tmp, eval_const, t108, t110]; simp [go_sem]
      · exact ⟨_, rfl, Below.refl _ _, rfl⟩
    · intro a W hb0 hs hp hi; have hb := undrew hb0; clear hb0
      have t111 : sl a 111 = .bool true := hp 48 (by decide)
      exact ite_y rfl (wp_val (sl a 111) rfl ⟨_, rfl, Below.refl _ _, t111⟩)
  intro a wy hb hs hd hI ht
  have ha := act_is [63, 64, 65, 66, 67, 68, 69, 70, 71, 72, 73, 74, 75, 76, 77, 78, 79, 80, 81, 82, 83, 84, 85, 86, 87, 88, 89, 90, 91, 92, 93, 94, 95, 96, 97, 98, 99, 100, 101, 102, 103, 104, 105, 106, 107, 108, 109, 110, 111, 0] hs hd ht (by decide)
  have t111 : sl a 111 = .bool true := hI 48 (by decide)
  have t0 : sl a 0 = .bool true := hI 49 (by decide)
  simp only [List.foldl, t111, t0] at ha
  generalize sl a 63 = u63 at ha
  generalize sl a 64 = u64 at ha
  generalize sl a 65 = u65 at ha
  generalize sl a 66 = u66 at ha
  generalize sl a 67 = u67 at ha
  generalize sl a 68 = u68 at ha
  generalize sl a 69 = u69 at ha
  generalize sl a 70 = u70 at ha
  generalize sl a 71 = u71 at ha
  generalize sl a 72 = u72 at ha
  generalize sl a 73 = u73 at ha
  generalize sl a 74 = u74 at ha
  generalize sl a 75 = u75 at ha
  generalize sl a 76 = u76 at ha
  generalize sl a 77 = u77 at ha
  generalize sl a 78 = u78 at ha
  generalize sl a 79 = u79 at ha
  generalize sl a 80 = u80 at ha
  generalize sl a 81 = u81 at ha
  generalize sl a 82 = u82 at ha
  generalize sl a 83 = u83 at ha
  generalize sl a 84 = u84 at ha
  generalize sl a 85 = u85 at ha
  generalize sl a 86 = u86 at ha
  generalize sl a 87 = u87 at ha
  generalize sl a 88 = u88 at ha
  generalize sl a 89 = u89 at ha
  generalize sl a 90 = u90 at ha
  generalize sl a 91 = u91 at ha
  generalize sl a 92 = u92 at ha
  generalize sl a 93 = u93 at ha
  generalize sl a 94 = u94 at ha
  generalize sl a 95 = u95 at ha
  generalize sl a 96 = u96 at ha
  generalize sl a 97 = u97 at ha
  generalize sl a 98 = u98 at ha
  generalize sl a 99 = u99 at ha
  generalize sl a 100 = u100 at ha
  generalize sl a 101 = u101 at ha
  generalize sl a 102 = u102 at ha
  generalize sl a 103 = u103 at ha
  generalize sl a 104 = u104 at ha
  generalize sl a 105 = u105 at ha
  generalize sl a 106 = u106 at ha
  generalize sl a 107 = u107 at ha
  generalize sl a 108 = u108 at ha
  generalize sl a 109 = u109 at ha
  generalize sl a 110 = u110 at ha
  simp only [Act.put, List.setIfInBounds_toArray, List.set_cons_zero, List.set_cons_succ] at ha
  rw [ha]
  clear ha hI ht
  have FIN := Lib.hid (bl S_z.out.bel hb S_z.out.bel.size)
  clear hb
  go_wp2
  go_ret
  exact ⟨rfl, FIN.out⟩
end Go.Proofs.YtmcehghbcjhkdaaDoor
