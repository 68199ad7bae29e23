/- NatLaws: the walk. -/
import Derived.Test.YtmcehghbcjhkdaaDoorNW
namespace Go.Proofs.YtmcehghbcjhkdaaDoor
open Go.RowKit Go.By
set_option maxRecDepth 100000 in
set_option maxHeartbeats 4000000 in
theorem NatLaws_main (p1 p2 p3 : Option Addr) (n1 c1 n2 c2 n3 c3 : Nat) (xs ys zs : List UInt8) (m n : UInt8) (w : World) (h1 : Sl B8 w p1 n1 c1 xs) (h2 : Sl B8 w p2 n2 c2 ys) (h3 : Sl B8 w p3 n3 c3 zs) (b1 : n1 ≤ 60) (b2 : n2 ≤ 60) (b3 : n3 ≤ 60) (hT : Tab w) :
    Calls Tryd.prog 5 #[.slice p1 n1 c1, .slice p2 n2 c2, .slice p3 n3 c3, B8 m, B8 n] w fun e w' => e = .returned (.bool true) ∧ Below w.heap.size w w' := by
  have HA : Hid (valB xs < 256 ^ 60 ∧ valB ys < 256 ^ 60 ∧ valB zs < 256 ^ 60) := ⟨up256 (valB_lt xs) (by rw [h1.len]; exact b1), up256 (valB_lt ys) (by rw [h2.len]; exact b2), up256 (valB_lt zs) (by rw [h3.len]; exact b3)⟩
  have H1 := Lib.hid h1; have H2 := Lib.hid h2; have H3 := Lib.hid h3; have HT := Lib.hid hT
  have g1 : (n1 : Int) ≤ 60 := by omega
  have g2 : (n2 : Int) ≤ 60 := by omega
  have g3 : (n3 : Int) ≤ 60 := by omega
  clear h1 h2 h3 hT
  go_enter Tryd.func5, Tryd.ntmps5
  go_wp2_with fail
  refine Calls.mono (awake_nat _ HT.out) ?_
  rintro e w1 ⟨rfl, hb⟩
  have B1 := Lib.hid hb
  have H1a := Lib.hid (H1.out.keep hb); have H2a := Lib.hid (H2.out.keep hb); have H3a := Lib.hid (H3.out.keep hb)
  clear hb H1 H2 H3
  go_wp2_with fail
  refine Calls.mono (To_any p1 n1 c1 xs _ H1a.out (by omega)) ?_
  rintro e w2 ⟨q1, m1, d1, rfl, hw, hb⟩
  have B2 := Lib.hid (bl B1.out hb B1.out.size); have A2 := Lib.hid hw
  have H2b := Lib.hid (H2a.out.keep hb); have H3b := Lib.hid (H3a.out.keep hb)
  clear hb hw H1a H2a H3a B1
  go_wp2_with fail
  refine Calls.mono (To_any p2 n2 c2 ys _ H2b.out (by omega)) ?_
  rintro e w3 ⟨q2, m2, d2, rfl, hw, hb⟩
  have B3 := Lib.hid (bl B2.out hb B2.out.size); have A3 := Lib.hid (A2.out.keep hb); have Y3 := Lib.hid hw
  have H3c := Lib.hid (H3b.out.keep hb)
  clear hb hw H2b H3b B2 A2
  go_wp2_with fail
  refine Calls.mono (To_any p3 n3 c3 zs _ H3c.out (by omega)) ?_
  rintro e w4 ⟨q3, m3, d3, rfl, hw, hb⟩
  have B4 := Lib.hid (bl B3.out hb B3.out.size); have A4 := Lib.hid (A3.out.keep hb); have Y4 := Lib.hid (Y3.out.keep hb); have Z4 := Lib.hid hw
  clear hb hw H3c B3 A3 Y3
  obtain ⟨A, hA⟩ : ∃ A, A = valB xs := ⟨_, rfl⟩
  obtain ⟨B, hB⟩ : ∃ B, B = valB ys := ⟨_, rfl⟩
  obtain ⟨C, hC⟩ : ∃ C, C = valB zs := ⟨_, rfl⟩
  rw [← hA] at A4 HA; rw [← hB] at Y4 HA; rw [← hC] at Z4 HA
  clear hA hB hC
  have HC : Hid (A + B + C < capN ∧ A < capN ∧ A * B < capN ∧ A * B * C < capN) := ⟨lt_cap (add_lt256 (add_lt256 HA.out.1 HA.out.2.1) (up256 HA.out.2.2 (by decide))) (by decide), lt_cap HA.out.1 (by decide), lt_cap (mul_lt256 HA.out.1 HA.out.2.1) (by decide), lt_cap (mul_lt256 (mul_lt256 HA.out.1 HA.out.2.1) HA.out.2.2) (by decide)⟩
  have HC' : Hid (C + B + A < capN) := lt_cap (add_lt256 (add_lt256 HA.out.2.2 HA.out.2.1) (up256 HA.out.1 (by decide))) (by decide)
  have HD : Hid (C < capN ∧ C * A < capN ∧ C * A * B < capN ∧ B + C < capN) := ⟨lt_cap HA.out.2.2 (by decide), lt_cap (mul_lt256 HA.out.2.2 HA.out.1) (by decide), lt_cap (mul_lt256 (mul_lt256 HA.out.2.2 HA.out.1) HA.out.2.1) (by decide), lt_cap (add_lt256 HA.out.2.1 HA.out.2.2) (by decide)⟩
  have HE : Hid (A * (B + C) < capN ∧ A * C < capN ∧ A * B + A * C < capN ∧ True) := ⟨lt_cap (mul_lt256 HA.out.1 (add_lt256 HA.out.2.1 HA.out.2.2)) (by decide), lt_cap (mul_lt256 HA.out.1 HA.out.2.2) (by decide), lt_cap (add_lt256 (mul_lt256 HA.out.1 HA.out.2.1) (mul_lt256 HA.out.1 HA.out.2.2)) (by decide), trivial⟩
  go_wp2_with fail
  refine Calls.mono (Add3_ok (Nsl.three (hnew (by simp)) A4.out.on.on Y4.out.on.on Z4.out.on.on) HC.out.1) ?_
  rintro e w5 ⟨q5, m5, d5, rfl, hw, hb⟩
  have S5 : Hid (NS 24 28 w [(w4.heap.size + 1 + 1, C), (w4.heap.size + 1, B), (w4.heap.size, A)] w5) := NS.three B4.out A4.out Y4.out Z4.out hb
  have HW5 := Lib.hid hw
  clear hw hb A4 Y4 Z4 B4
  generalize w4.heap.size + 1 + 1 = bz at *
  generalize w4.heap.size + 1 = bY at *
  generalize w4.heap.size = bx at *
  obtain ⟨qz, nz, cz, kz, xz⟩ := S5.out.box bz (C) (by simp)
  obtain ⟨_, ez1, ez2, ez3, ez4⟩ := One.of kz
  have Xz := Lib.hid xz
  clear kz xz
  obtain ⟨qy, ny, cy, ky, xy⟩ := S5.out.box bY (B) (by simp)
  obtain ⟨_, ey1, ey2, ey3, ey4⟩ := One.of ky
  have Xy := Lib.hid xy
  clear ky xy
  obtain ⟨qx, nx, cx, kx, xx⟩ := S5.out.box bx (A) (by simp)
  obtain ⟨_, ex1, ex2, ex3, ex4⟩ := One.of kx
  have Xx := Lib.hid xx
  clear kx xx
  go_wp2_with fail
  refine Calls.mono (Add3_ok (Nsl.three (hnew (by simp)) Xz.out.on Xy.out.on Xx.out.on) HC'.out) ?_
  rintro e w6 ⟨q6, m6, d6, rfl, hw, hb⟩
  have S6 := Lib.hid (S5.out.on HW5.out hb)
  have HW6 := Lib.hid hw
  clear hw hb S5 HW5 ez1 ez2 ez3 ez4 Xz ey1 ey2 ey3 ey4 Xy ex1 ex2 ex3 ex4 Xx
  generalize w5.heap.size = bs at *
  obtain ⟨qx, nx, cx, kx, xx⟩ := S6.out.box bx (A) (by simp)
  obtain ⟨_, ex1, ex2, ex3, ex4⟩ := One.of kx
  have Xx := Lib.hid xx
  clear kx xx
  obtain ⟨qy, ny, cy, ky, xy⟩ := S6.out.box bY (B) (by simp)
  obtain ⟨_, ey1, ey2, ey3, ey4⟩ := One.of ky
  have Xy := Lib.hid xy
  clear ky xy
  obtain ⟨qz, nz, cz, kz, xz⟩ := S6.out.box bz (C) (by simp)
  obtain ⟨_, ez1, ez2, ez3, ez4⟩ := One.of kz
  have Xz := Lib.hid xz
  clear kz xz
  go_wp2_with fail
  refine Calls.mono (Mul3_ok (Nsl.three (hnew (by simp)) Xx.out.on Xy.out.on Xz.out.on) HC.out.2.1 HC.out.2.2.1 HC.out.2.2.2) ?_
  rintro e w7 ⟨q7, m7, d7, rfl, hw, hb⟩
  have S7 := Lib.hid (S6.out.on HW6.out hb)
  have HW7 := Lib.hid hw
  clear hw hb S6 HW6 ex1 ex2 ex3 ex4 Xx ey1 ey2 ey3 ey4 Xy ez1 ez2 ez3 ez4 Xz
  generalize w6.heap.size = bt at *
  obtain ⟨qz, nz, cz, kz, xz⟩ := S7.out.box bz (C) (by simp)
  obtain ⟨_, ez1, ez2, ez3, ez4⟩ := One.of kz
  have Xz := Lib.hid xz
  clear kz xz
  obtain ⟨qx, nx, cx, kx, xx⟩ := S7.out.box bx (A) (by simp)
  obtain ⟨_, ex1, ex2, ex3, ex4⟩ := One.of kx
  have Xx := Lib.hid xx
  clear kx xx
  obtain ⟨qy, ny, cy, ky, xy⟩ := S7.out.box bY (B) (by simp)
  obtain ⟨_, ey1, ey2, ey3, ey4⟩ := One.of ky
  have Xy := Lib.hid xy
  clear ky xy
  go_wp2_with fail
  refine Calls.mono (Mul3_ok (Nsl.three (hnew (by simp)) Xz.out.on Xx.out.on Xy.out.on) HD.out.1 HD.out.2.1 HD.out.2.2.1) ?_
  rintro e w8 ⟨q8, m8, d8, rfl, hw, hb⟩
  have S8 := Lib.hid (S7.out.on HW7.out hb)
  have HW8 := Lib.hid hw
  clear hw hb S7 HW7 ez1 ez2 ez3 ez4 Xz ex1 ex2 ex3 ex4 Xx ey1 ey2 ey3 ey4 Xy
  generalize w7.heap.size = bp at *
  obtain ⟨qy, ny, cy, ky, xy⟩ := S8.out.box bY (B) (by simp)
  obtain ⟨_, ey1, ey2, ey3, ey4⟩ := One.of ky
  have Xy := Lib.hid xy
  clear ky xy
  obtain ⟨qz, nz, cz, kz, xz⟩ := S8.out.box bz (C) (by simp)
  obtain ⟨_, ez1, ez2, ez3, ez4⟩ := One.of kz
  have Xz := Lib.hid xz
  clear kz xz
  go_wp2_with fail
  refine Calls.mono (Add2_ok (Nsl.two (hnew (by simp)) Xy.out.on Xz.out.on) HD.out.2.2.2) ?_
  rintro e w9 ⟨q9, m9, d9, rfl, hw, hb⟩
  have S9 := Lib.hid (S8.out.on HW8.out hb)
  have HW9 := Lib.hid hw
  clear hw hb S8 HW8 ey1 ey2 ey3 ey4 Xy ez1 ez2 ez3 ez4 Xz
  generalize w8.heap.size = bq at *
  obtain ⟨qx, nx, cx, kx, xx⟩ := S9.out.box bx (A) (by simp)
  obtain ⟨_, ex1, ex2, ex3, ex4⟩ := One.of kx
  have Xx := Lib.hid xx
  clear kx xx
  go_wp2_with fail
  refine Calls.mono (Mul2_ok (Nsl.two (hnew (by simp)) Xx.out.on HW9.out.on) HC.out.2.1 HE.out.1) ?_
  rintro e w10 ⟨q10, m10, d10, rfl, hw, hb⟩
  have S10 := Lib.hid (S9.out.on HW9.out hb)
  have HW10 := Lib.hid hw
  clear hw hb S9 HW9 ex1 ex2 ex3 ex4 Xx
  generalize w9.heap.size = bv at *
  obtain ⟨qx, nx, cx, kx, xx⟩ := S10.out.box bx (A) (by simp)
  obtain ⟨_, ex1, ex2, ex3, ex4⟩ := One.of kx
  have Xx := Lib.hid xx
  clear kx xx
  obtain ⟨qy, ny, cy, ky, xy⟩ := S10.out.box bY (B) (by simp)
  obtain ⟨_, ey1, ey2, ey3, ey4⟩ := One.of ky
  have Xy := Lib.hid xy
  clear ky xy
  go_wp2_with fail
  refine Calls.mono (Mul2_ok (Nsl.two (hnew (by simp)) Xx.out.on Xy.out.on) HC.out.2.1 HC.out.2.2.1) ?_
  rintro e w11 ⟨q11, m11, d11, rfl, hw, hb⟩
  have S11 := Lib.hid (S10.out.on HW10.out hb)
  have HW11 := Lib.hid hw
  clear hw hb S10 HW10 ex1 ex2 ex3 ex4 Xx ey1 ey2 ey3 ey4 Xy
  generalize w10.heap.size = bl at *
  obtain ⟨qx, nx, cx, kx, xx⟩ := S11.out.box bx (A) (by simp)
  obtain ⟨_, ex1, ex2, ex3, ex4⟩ := One.of kx
  have Xx := Lib.hid xx
  clear kx xx
  obtain ⟨qz, nz, cz, kz, xz⟩ := S11.out.box bz (C) (by simp)
  obtain ⟨_, ez1, ez2, ez3, ez4⟩ := One.of kz
  have Xz := Lib.hid xz
  clear kz xz
  go_wp2_with fail
  refine Calls.mono (Mul2_ok (Nsl.two (hnew (by simp)) Xx.out.on Xz.out.on) HC.out.2.1 HE.out.2.1) ?_
  rintro e w12 ⟨q12, m12, d12, rfl, hw, hb⟩
  have S12 := Lib.hid (S11.out.on HW11.out hb)
  have HW12 := Lib.hid hw
  clear hw hb S11 HW11 ex1 ex2 ex3 ex4 Xx ez1 ez2 ez3 ez4 Xz
  generalize w11.heap.size = bxy at *
  obtain ⟨qxy, nxy, cxy, kxy, xxy⟩ := S12.out.box bxy (A * B) (by simp)
  obtain ⟨_, exy1, exy2, exy3, exy4⟩ := One.of kxy
  have Xxy := Lib.hid xxy
  clear kxy xxy
  go_wp2_with fail
  refine Calls.mono (Add2_ok (Nsl.two (hnew (by simp)) Xxy.out.on HW12.out.on) HE.out.2.2.1) ?_
  rintro e w13 ⟨q13, m13, d13, rfl, hw, hb⟩
  have S13 := Lib.hid (S12.out.on HW12.out hb)
  have HW13 := Lib.hid hw
  clear hw hb S12 HW12 exy1 exy2 exy3 exy4 Xxy
  generalize w12.heap.size = bxz at *
  obtain ⟨qv, nv, cv, kv, xv⟩ := S13.out.box bv (B + C) (by simp)
  obtain ⟨_, ev1, ev2, ev3, ev4⟩ := One.of kv
  have Xv := Lib.hid xv
  clear kv xv
  obtain ⟨qz, nz, cz, kz, xz⟩ := S13.out.box bz (C) (by simp)
  obtain ⟨_, ez1, ez2, ez3, ez4⟩ := One.of kz
  have Xz := Lib.hid xz
  clear kz xz
  go_wp2_with fail
  refine Calls.mono (Sub_ok Xv.out.on1 Xz.out.on1 (Nat.le_add_left _ _)) ?_
  rintro e w14 ⟨q14, m14, d14, rfl, hw, hb⟩
  have S14 := Lib.hid (S13.out.on1 HW13.out hb)
  have HW14 := Lib.hid hw
  clear hw hb S13 HW13 ev1 ev2 ev3 ev4 Xv ez1 ez2 ez3 ez4 Xz
  generalize w13.heap.size = br at *
  have ba : Below w14.heap.size w14 (w14.alloc (.cells #[.slice q14 m14 d14] 24)) := al (Below.refl _ _) (Nat.le_refl _)
  have S15 := Lib.hid (S14.out.new HW14.out)
  clear S14 HW14
  go_wp2
  generalize w14.alloc (.cells #[.slice q14 m14 d14] 24) = wa at *
  generalize w14.heap.size = bk at *
  obtain ⟨qs, ns, cs, ks, xs⟩ := S15.out.box bs (A + B + C) (by simp)
  have es := cell_of_row _ _ 0 _ _ _ ks
  have Xs := Lib.hid xs
  clear ks xs
  obtain ⟨qt, nt, ct, kt, xt⟩ := S15.out.box bt (C + B + A) (by simp)
  have et := cell_of_row _ _ 0 _ _ _ kt
  have Xt := Lib.hid xt
  clear kt xt
  obtain ⟨qp, np, cp, kp, xp⟩ := S15.out.box bp (A * B * C) (by simp)
  have ep := cell_of_row _ _ 0 _ _ _ kp
  have Xp := Lib.hid xp
  clear kp xp
  obtain ⟨qq, nq, cq, kq, xq⟩ := S15.out.box bq (C * A * B) (by simp)
  have eq := cell_of_row _ _ 0 _ _ _ kq
  have Xq := Lib.hid xq
  clear kq xq
  obtain ⟨ql, nl, cl, kl, xl⟩ := S15.out.box bl (A * (B + C)) (by simp)
  have el := cell_of_row _ _ 0 _ _ _ kl
  have Xl := Lib.hid xl
  clear kl xl
  obtain ⟨qr, nr, cr, kr, xr⟩ := S15.out.box br (A * B + A * C) (by simp)
  have er := cell_of_row _ _ 0 _ _ _ kr
  have Xr := Lib.hid xr
  clear kr xr
  obtain ⟨qk, nk, ck, kk, xk⟩ := S15.out.box bk (B + C - C) (by simp)
  have ek := cell_of_row _ _ 0 _ _ _ kk
  have Xk := Lib.hid xk
  clear kk xk
  obtain ⟨qY, nY, cY, kY, xY⟩ := S15.out.box bY (B) (by simp)
  have eY := cell_of_row _ _ 0 _ _ _ kY
  have XY := Lib.hid xY
  clear kY xY
  obtain ⟨qx, nx, cxx, kx, xx⟩ := S15.out.box bx (A) (by simp)
  have ex := cell_of_row _ _ 0 _ _ _ kx
  have Xx := Lib.hid xx
  clear kx xx
  have EQ : Hid (A + B + C = C + B + A ∧ A * B * C = C * A * B ∧ A * (B + C) = A * B + A * C ∧ B + C - C = B) := ⟨by omega, by rw [Nat.mul_comm C A, Nat.mul_assoc, Nat.mul_assoc, Nat.mul_comm B C], Nat.mul_add _ _ _, by omega⟩
  obtain ⟨cx, hcx⟩ : ∃ cx, cx = cmpN A B := ⟨_, rfl⟩
  obtain ⟨cy, hcy⟩ : ∃ cy, cy = cmpN B A := ⟨_, rfl⟩
  have hneg : IntKind.i64.wrap (-cy) = cx := by
    rw [hcx, hcy]
    rcases Nat.lt_trichotomy A B with h | h | h
    · rw [cmpN_lt h, cmpN_gt h]; rfl
    · rw [cmpN_eq h, cmpN_eq h.symm]; rfl
    · rw [cmpN_gt h, cmpN_lt h]; rfl
  have HX : Hid (∀ W, Below wa.heap.size wa W → Calls Tryd.prog 13 #[.agg #[.slice qx nx cxx], .agg #[.slice qY nY cY]] W fun e w' => e = .returned (.int .i64 cx) ∧ Below W.heap.size W w') := fun W hb => by
    rw [hcx]; exact Cmp_any _ _ _ _ _ _ A B W (Xx.out.keep hb) (XY.out.keep hb)
  have HY : Hid (∀ W, Below wa.heap.size wa W → Calls Tryd.prog 13 #[.agg #[.slice qY nY cY], .agg #[.slice qx nx cxx]] W fun e w' => e = .returned (.int .i64 cy) ∧ Below W.heap.size W w') := fun W hb => by
    rw [hcy]; exact Cmp_any _ _ _ _ _ _ B A W (XY.out.keep hb) (Xx.out.keep hb)
  clear hcx hcy
  refine wp_region_shapes (fun ix => ([.val (.agg #[.slice qs ns cs]), .val (.agg #[.slice qt nt ct]), .val (.int .i64 0), .val (.bool false), .val (.bool false), .val (.agg #[.slice qp np cp]), .val (.agg #[.slice qq nq cq]), .val (.int .i64 0), .val (.bool false), .val (.bool false), .val (.bool false), .val (.agg #[.slice ql nl cl]), .val (.agg #[.slice qr nr cr]), .val (.int .i64 0), .val (.bool false), .val (.bool false), .val (.bool false), .val (.int .i64 0), .val (.bool false), .val (.bool false), .val (.bool false), .val (.agg #[.slice qk nk ck]), .val (.agg #[.slice qY nY cY]), .val (.int .i64 0), .val (.bool false), .val (.bool false), .val (.bool false), .val (.agg #[.slice qx nx cxx]), .val (.agg #[.slice qY nY cY]), .val (.int .i64 cx), .val (.agg #[.slice qY nY cY]), .val (.agg #[.slice qx nx cxx]), .val (.int .i64 cy), .val (.int .i64 cx), .val (.bool false), .val (.bool false)][ix]?).getD (.any)) 227 rfl (by kernel_rfl) (by decide) (by decide) (by decide) ?_ ?_
  · refine ⟨?_, ?_, ?_, ?_, ?_, ?_, ?_, ?_, ?_, ?_, ?_, ?_, ?_, ?_, ?_, ?_, ?_, ?_, ?_, ?_, ?_, ?_, ?_, ?_, ?_, ?_, ?_, ?_, ?_, ?_, ?_, ?_, ?_, ?_, ?_, ?_, trivial⟩
    · intro a W hb0 hs hp hi; have hb := undrew hb0; clear hb0
      have tt : sl a 14 = .pointer (some ⟨bs, 0, none⟩) := hi 14 (by decide)
      have dd0 := (hb.cell (p := ⟨bs, 0, none⟩) (lt_of_cell es)).trans es
      refine ite_y rfl (wp_val (.agg #[.slice qs ns cs]) ?_ ?_)
      · simp only [execOp, eval_tmp, tt]; simp [go_sem, dd0]
      · exact ⟨_, rfl, Below.refl _ _, rfl⟩
    · intro a W hb0 hs hp hi; have hb := undrew hb0; clear hb0
      have tt : sl a 16 = .pointer (some ⟨bt, 0, none⟩) := hi 16 (by decide)
      have dd0 := (hb.cell (p := ⟨bt, 0, none⟩) (lt_of_cell et)).trans et
      refine ite_y rfl (wp_val (.agg #[.slice qt nt ct]) ?_ ?_)
      · simp only [execOp, eval_tmp, tt]; simp [go_sem, dd0]
      · exact ⟨_, rfl, Below.refl _ _, rfl⟩
    · intro a W hb0 hs hp hi; have hb := undrew hb0; clear hb0
      have t138 : sl a 138 = .agg #[.slice qs ns cs] := hp 0 (by decide)
      have t139 : sl a 139 = .agg #[.slice qt nt ct] := hp 1 (by decide)
      refine ite_y rfl (wp_enter 13 #[.agg #[.slice qs ns cs], .agg #[.slice qt nt ct]] ?_ (Cmp_same (Xs.out.keep hb) (Xt.out.keep hb) EQ.out.1) ?_)
      · simp only [execOp, resolve, List.map_toArray, List.map, eval_tmp, eval_func, eval_const, t138, t139]; simp [go_sem]
      · rintro e W' ⟨rfl, hw⟩; exact ⟨_, rfl, _, rfl, hw, rfl⟩
    · intro a W hb0 hs hp hi; have hb := undrew hb0; clear hb0
      have t140 : sl a 140 = .int .i64 0 := hp 2 (by decide)
      refine ite_y rfl (wp_val (.bool false) ?_ ?_)
      · simp only [execOp, eval_tmp, eval_const, t140]; simp [go_sem]
      · exact ⟨_, rfl, Below.refl _ _, rfl⟩
    · intro a W hb0 hs hp hi; have hb := undrew hb0; clear hb0
      have t141 : sl a 141 = .bool false := hp 3 (by decide)
      exact ite_y rfl (wp_val (sl a 141) rfl ⟨_, rfl, Below.refl _ _, t141⟩)
    · intro a W hb0 hs hp hi; have hb := undrew hb0; clear hb0
      have tg : sl a 142 = .bool false := hp 4 (by decide)
      have tt : sl a 18 = .pointer (some ⟨bp, 0, none⟩) := hi 18 (by decide)
      have dd0 := (hb.cell (p := ⟨bp, 0, none⟩) (lt_of_cell ep)).trans ep
      refine ite_y (wanted_yes rfl rfl (by have hz : a.tmps.size = 227 := hs; rw [hz]; decide) tg) (wp_val (.agg #[.slice qp np cp]) ?_ ?_)
      · simp only [execOp, eval_tmp, tt]; simp [go_sem, dd0]
      · exact ⟨_, rfl, Below.refl _ _, rfl⟩
    · intro a W hb0 hs hp hi; have hb := undrew hb0; clear hb0
      have tg : sl a 142 = .bool false := hp 4 (by decide)
      have tt : sl a 20 = .pointer (some ⟨bq, 0, none⟩) := hi 20 (by decide)
      have dd0 := (hb.cell (p := ⟨bq, 0, none⟩) (lt_of_cell eq)).trans eq
      refine ite_y (wanted_yes rfl rfl (by have hz : a.tmps.size = 227 := hs; rw [hz]; decide) tg) (wp_val (.agg #[.slice qq nq cq]) ?_ ?_)
      · simp only [execOp, eval_tmp, tt]; simp [go_sem, dd0]
      · exact ⟨_, rfl, Below.refl _ _, rfl⟩
    · intro a W hb0 hs hp hi; have hb := undrew hb0; clear hb0
      have tg : sl a 142 = .bool false := hp 4 (by decide)
      have t143 : sl a 143 = .agg #[.slice qp np cp] := hp 5 (by decide)
      have t144 : sl a 144 = .agg #[.slice qq nq cq] := hp 6 (by decide)
      refine ite_y (wanted_yes rfl rfl (by have hz : a.tmps.size = 227 := hs; rw [hz]; decide) tg) (wp_enter 13 #[.agg #[.slice qp np cp], .agg #[.slice qq nq cq]] ?_ (Cmp_same (Xp.out.keep hb) (Xq.out.keep hb) EQ.out.2.1) ?_)
      · simp only [execOp, resolve, List.map_toArray, List.map, eval_tmp, eval_func, eval_const, t143, t144]; simp [go_sem]
      · rintro e W' ⟨rfl, hw⟩; exact ⟨_, rfl, _, rfl, hw, rfl⟩
    · intro a W hb0 hs hp hi; have hb := undrew hb0; clear hb0
      have tg : sl a 142 = .bool false := hp 4 (by decide)
      have t145 : sl a 145 = .int .i64 0 := hp 7 (by decide)
      refine ite_y (wanted_yes rfl rfl (by have hz : a.tmps.size = 227 := hs; rw [hz]; decide) tg) (wp_val (.bool false) ?_ ?_)
      · simp only [execOp, eval_tmp, eval_const, t145]; simp [go_sem]
      · exact ⟨_, rfl, Below.refl _ _, rfl⟩
    · intro a W hb0 hs hp hi; have hb := undrew hb0; clear hb0
      have t142 : sl a 142 = .bool false := hp 4 (by decide)
      have t146 : sl a 146 = .bool false := hp 8 (by decide)
      refine ite_y rfl (wp_val (.bool false) ?_ ?_)
      · simp only [execOp, eval_tmp, eval_const, t142, t146]; simp [go_sem]
      · exact ⟨_, rfl, Below.refl _ _, rfl⟩
    · intro a W hb0 hs hp hi; have hb := undrew hb0; clear hb0
      have t147 : sl a 147 = .bool false := hp 9 (by decide)
      exact ite_y rfl (wp_val (sl a 147) rfl ⟨_, rfl, Below.refl _ _, t147⟩)
    · intro a W hb0 hs hp hi; have hb := undrew hb0; clear hb0
      have tg : sl a 148 = .bool false := hp 10 (by decide)
      have tt : sl a 24 = .pointer (some ⟨bl, 0, none⟩) := hi 24 (by decide)
      have dd0 := (hb.cell (p := ⟨bl, 0, none⟩) (lt_of_cell el)).trans el
      refine ite_y (wanted_yes rfl rfl (by have hz : a.tmps.size = 227 := hs; rw [hz]; decide) tg) (wp_val (.agg #[.slice ql nl cl]) ?_ ?_)
      · simp only [execOp, eval_tmp, tt]; simp [go_sem, dd0]
      · exact ⟨_, rfl, Below.refl _ _, rfl⟩
    · intro a W hb0 hs hp hi; have hb := undrew hb0; clear hb0
      have tg : sl a 148 = .bool false := hp 10 (by decide)
      have tt : sl a 30 = .pointer (some ⟨br, 0, none⟩) := hi 30 (by decide)
      have dd0 := (hb.cell (p := ⟨br, 0, none⟩) (lt_of_cell er)).trans er
      refine ite_y (wanted_yes rfl rfl (by have hz : a.tmps.size = 227 := hs; rw [hz]; decide) tg) (wp_val (.agg #[.slice qr nr cr]) ?_ ?_)
      · simp only [execOp, eval_tmp, tt]; simp [go_sem, dd0]
      · exact ⟨_, rfl, Below.refl _ _, rfl⟩
    · intro a W hb0 hs hp hi; have hb := undrew hb0; clear hb0
      have tg : sl a 148 = .bool false := hp 10 (by decide)
      have t149 : sl a 149 = .agg #[.slice ql nl cl] := hp 11 (by decide)
      have t150 : sl a 150 = .agg #[.slice qr nr cr] := hp 12 (by decide)
      refine ite_y (wanted_yes rfl rfl (by have hz : a.tmps.size = 227 := hs; rw [hz]; decide) tg) (wp_enter 13 #[.agg #[.slice ql nl cl], .agg #[.slice qr nr cr]] ?_ (Cmp_same (Xl.out.keep hb) (Xr.out.keep hb) EQ.out.2.2.1) ?_)
      · simp only [execOp, resolve, List.map_toArray, List.map, eval_tmp, eval_func, eval_const, t149, t150]; simp [go_sem]
      · rintro e W' ⟨rfl, hw⟩; exact ⟨_, rfl, _, rfl, hw, rfl⟩
    · intro a W hb0 hs hp hi; have hb := undrew hb0; clear hb0
      have tg : sl a 148 = .bool false := hp 10 (by decide)
      have t151 : sl a 151 = .int .i64 0 := hp 13 (by decide)
      refine ite_y (wanted_yes rfl rfl (by have hz : a.tmps.size = 227 := hs; rw [hz]; decide) tg) (wp_val (.bool false) ?_ ?_)
      · simp only [execOp, eval_tmp, eval_const, t151]; simp [go_sem]
      · exact ⟨_, rfl, Below.refl _ _, rfl⟩
    · intro a W hb0 hs hp hi; have hb := undrew hb0; clear hb0
      have t148 : sl a 148 = .bool false := hp 10 (by decide)
      have t152 : sl a 152 = .bool false := hp 14 (by decide)
      refine ite_y rfl (wp_val (.bool false) ?_ ?_)
      · simp only [execOp, eval_tmp, eval_const, t148, t152]; simp [go_sem]
      · exact ⟨_, rfl, Below.refl _ _, rfl⟩
    · intro a W hb0 hs hp hi; have hb := undrew hb0; clear hb0
      have t153 : sl a 153 = .bool false := hp 15 (by decide)
      exact ite_y rfl (wp_val (sl a 153) rfl ⟨_, rfl, Below.refl _ _, t153⟩)
    · intro a W hb0 hs hp hi; have hb := undrew hb0; clear hb0
      have tg : sl a 154 = .bool false := hp 16 (by decide)
      have t33 : sl a 33 = .int .i64 0 := hi 33 (by decide)
      exact ite_y (wanted_yes rfl rfl (by have hz : a.tmps.size = 227 := hs; rw [hz]; decide) tg) (wp_val (sl a 33) rfl ⟨_, rfl, Below.refl _ _, t33⟩)
    · intro a W hb0 hs hp hi; have hb := undrew hb0; clear hb0
      have tg : sl a 154 = .bool false := hp 16 (by decide)
      have t155 : sl a 155 = .int .i64 0 := hp 17 (by decide)
      refine ite_y (wanted_yes rfl rfl (by have hz : a.tmps.size = 227 := hs; rw [hz]; decide) tg) (wp_val (.bool false) ?_ ?_)
      · simp only [execOp, eval_tmp, eval_const, t155]; simp [go_sem]
      · exact ⟨_, rfl, Below.refl _ _, rfl⟩
    · intro a W hb0 hs hp hi; have hb := undrew hb0; clear hb0
      have t154 : sl a 154 = .bool false := hp 16 (by decide)
      have t156 : sl a 156 = .bool false := hp 18 (by decide)
      refine ite_y rfl (wp_val (.bool false) ?_ ?_)
      · simp only [execOp, eval_tmp, eval_const, t154, t156]; simp [go_sem]
      · exact ⟨_, rfl, Below.refl _ _, rfl⟩
    · intro a W hb0 hs hp hi; have hb := undrew hb0; clear hb0
      have t157 : sl a 157 = .bool false := hp 19 (by decide)
      exact ite_y rfl (wp_val (sl a 157) rfl ⟨_, rfl, Below.refl _ _, t157⟩)
    · intro a W hb0 hs hp hi; have hb := undrew hb0; clear hb0
      have tg : sl a 158 = .bool false := hp 20 (by decide)
      have tt : sl a 32 = .pointer (some ⟨bk, 0, none⟩) := hi 32 (by decide)
      have dd0 := (hb.cell (p := ⟨bk, 0, none⟩) (lt_of_cell ek)).trans ek
      refine ite_y (wanted_yes rfl rfl (by have hz : a.tmps.size = 227 := hs; rw [hz]; decide) tg) (wp_val (.agg #[.slice qk nk ck]) ?_ ?_)
      · simp only [execOp, eval_tmp, tt]; simp [go_sem, dd0]
      · exact ⟨_, rfl, Below.refl _ _, rfl⟩
    · intro a W hb0 hs hp hi; have hb := undrew hb0; clear hb0
      have tg : sl a 158 = .bool false := hp 20 (by decide)
      have tt : sl a 12 = .pointer (some ⟨bY, 0, none⟩) := hi 12 (by decide)
      have dd0 := (hb.cell (p := ⟨bY, 0, none⟩) (lt_of_cell eY)).trans eY
      refine ite_y (wanted_yes rfl rfl (by have hz : a.tmps.size = 227 := hs; rw [hz]; decide) tg) (wp_val (.agg #[.slice qY nY cY]) ?_ ?_)
      · simp only [execOp, eval_tmp, tt]; simp [go_sem, dd0]
      · exact ⟨_, rfl, Below.refl _ _, rfl⟩
    · intro a W hb0 hs hp hi; have hb := undrew hb0; clear hb0
      have tg : sl a 158 = .bool false := hp 20 (by decide)
      have t159 : sl a 159 = .agg #[.slice qk nk ck] := hp 21 (by decide)
      have t160 : sl a 160 = .agg #[.slice qY nY cY] := hp 22 (by decide)
      refine ite_y (wanted_yes rfl rfl (by have hz : a.tmps.size = 227 := hs; rw [hz]; decide) tg) (wp_enter 13 #[.agg #[.slice qk nk ck], .agg #[.slice qY nY cY]] ?_ (Cmp_same (Xk.out.keep hb) (XY.out.keep hb) EQ.out.2.2.2) ?_)
      · simp only [execOp, resolve, List.map_toArray, List.map, eval_tmp, eval_func, eval_const, t159, t160]; simp [go_sem]
      · rintro e W' ⟨rfl, hw⟩; exact ⟨_, rfl, _, rfl, hw, rfl⟩
    · intro a W hb0 hs hp hi; have hb := undrew hb0; clear hb0
      have tg : sl a 158 = .bool false := hp 20 (by decide)
      have t161 : sl a 161 = .int .i64 0 := hp 23 (by decide)
      refine ite_y (wanted_yes rfl rfl (by have hz : a.tmps.size = 227 := hs; rw [hz]; decide) tg) (wp_val (.bool false) ?_ ?_)
      · simp only [execOp, eval_tmp, eval_const, t161]; simp [go_sem]
      · exact ⟨_, rfl, Below.refl _ _, rfl⟩
    · intro a W hb0 hs hp hi; have hb := undrew hb0; clear hb0
      have t158 : sl a 158 = .bool false := hp 20 (by decide)
      have t162 : sl a 162 = .bool false := hp 24 (by decide)
      refine ite_y rfl (wp_val (.bool false) ?_ ?_)
      · simp only [execOp, eval_tmp, eval_const, t158, t162]; simp [go_sem]
      · exact ⟨_, rfl, Below.refl _ _, rfl⟩
    · intro a W hb0 hs hp hi; have hb := undrew hb0; clear hb0
      have t163 : sl a 163 = .bool false := hp 25 (by decide)
      exact ite_y rfl (wp_val (sl a 163) rfl ⟨_, rfl, Below.refl _ _, t163⟩)
    · intro a W hb0 hs hp hi; have hb := undrew hb0; clear hb0
      have tg : sl a 164 = .bool false := hp 26 (by decide)
      have tt : sl a 11 = .pointer (some ⟨bx, 0, none⟩) := hi 11 (by decide)
      have dd0 := (hb.cell (p := ⟨bx, 0, none⟩) (lt_of_cell ex)).trans ex
      refine ite_y (wanted_yes rfl rfl (by have hz : a.tmps.size = 227 := hs; rw [hz]; decide) tg) (wp_val (.agg #[.slice qx nx cxx]) ?_ ?_)
      · simp only [execOp, eval_tmp, tt]; simp [go_sem, dd0]
      · exact ⟨_, rfl, Below.refl _ _, rfl⟩
    · intro a W hb0 hs hp hi; have hb := undrew hb0; clear hb0
      have tg : sl a 164 = .bool false := hp 26 (by decide)
      have tt : sl a 12 = .pointer (some ⟨bY, 0, none⟩) := hi 12 (by decide)
      have dd0 := (hb.cell (p := ⟨bY, 0, none⟩) (lt_of_cell eY)).trans eY
      refine ite_y (wanted_yes rfl rfl (by have hz : a.tmps.size = 227 := hs; rw [hz]; decide) tg) (wp_val (.agg #[.slice qY nY cY]) ?_ ?_)
      · simp only [execOp, eval_tmp, tt]; simp [go_sem, dd0]
      · exact ⟨_, rfl, Below.refl _ _, rfl⟩
    · intro a W hb0 hs hp hi; have hb := undrew hb0; clear hb0
      have tg : sl a 164 = .bool false := hp 26 (by decide)
      have t165 : sl a 165 = .agg #[.slice qx nx cxx] := hp 27 (by decide)
      have t166 : sl a 166 = .agg #[.slice qY nY cY] := hp 28 (by decide)
      refine ite_y (wanted_yes rfl rfl (by have hz : a.tmps.size = 227 := hs; rw [hz]; decide) tg) (wp_enter 13 #[.agg #[.slice qx nx cxx], .agg #[.slice qY nY cY]] ?_ (HX.out W hb) ?_)
      · simp only [execOp, resolve, List.map_toArray, List.map, eval_tmp, eval_func, eval_const, t165, t166]; simp [go_sem]
      · rintro e W' ⟨rfl, hw⟩; exact ⟨_, rfl, _, rfl, hw, rfl⟩
    · intro a W hb0 hs hp hi; have hb := undrew hb0; clear hb0
      have tg : sl a 164 = .bool false := hp 26 (by decide)
      have tt : sl a 12 = .pointer (some ⟨bY, 0, none⟩) := hi 12 (by decide)
      have dd0 := (hb.cell (p := ⟨bY, 0, none⟩) (lt_of_cell eY)).trans eY
      refine ite_y (wanted_yes rfl rfl (by have hz : a.tmps.size = 227 := hs; rw [hz]; decide) tg) (wp_val (.agg #[.slice qY nY cY]) ?_ ?_)
      · simp only [execOp, eval_tmp, tt]; simp [go_sem, dd0]
      · exact ⟨_, rfl, Below.refl _ _, rfl⟩
    · intro a W hb0 hs hp hi; have hb := undrew hb0; clear hb0
      have tg : sl a 164 = .bool false := hp 26 (by decide)
      have tt : sl a 11 = .pointer (some ⟨bx, 0, none⟩) := hi 11 (by decide)
      have dd0 := (hb.cell (p := ⟨bx, 0, none⟩) (lt_of_cell ex)).trans ex
      refine ite_y (wanted_yes rfl rfl (by have hz : a.tmps.size = 227 := hs; rw [hz]; decide) tg) (wp_val (.agg #[.slice qx nx cxx]) ?_ ?_)
      · simp only [execOp, eval_tmp, tt]; simp [go_sem, dd0]
      · exact ⟨_, rfl, Below.refl _ _, rfl⟩
    · intro a W hb0 hs hp hi; have hb := undrew hb0; clear hb0
      have tg : sl a 164 = .bool false := hp 26 (by decide)
      have t168 : sl a 168 = .agg #[.slice qY nY cY] := hp 30 (by decide)
      have t169 : sl a 169 = .agg #[.slice qx nx cxx] := hp 31 (by decide)
      refine ite_y (wanted_yes rfl rfl (by have hz : a.tmps.size = 227 := hs; rw [hz]; decide) tg) (wp_enter 13 #[.agg #[.slice qY nY cY], .agg #[.slice qx nx cxx]] ?_ (HY.out W hb) ?_)
      · simp only [execOp, resolve, List.map_toArray, List.map, eval_tmp, eval_func, eval_const, t168, t169]; simp [go_sem]
      · rintro e W' ⟨rfl, hw⟩; exact ⟨_, rfl, _, rfl, hw, rfl⟩
    · intro a W hb0 hs hp hi; have hb := undrew hb0; clear hb0
      have tg : sl a 164 = .bool false := hp 26 (by decide)
      have tt : sl a 170 = .int .i64 cy := hp 32 (by decide)
      refine ite_y (wanted_yes rfl rfl (by have hz : a.tmps.size = 227 := hs; rw [hz]; decide) tg) (wp_val (.int .i64 cx) ?_ ?_)
      · simp only [execOp, eval_tmp, tt]; simp [go_sem, hneg]
      · exact ⟨_, rfl, Below.refl _ _, rfl⟩
    · intro a W hb0 hs hp hi; have hb := undrew hb0; clear hb0
      have tg : sl a 164 = .bool false := hp 26 (by decide)
      have t167 : sl a 167 = .int .i64 cx := hp 29 (by decide)
      have t171 : sl a 171 = .int .i64 cx := hp 33 (by decide)
      refine ite_y (wanted_yes rfl rfl (by have hz : a.tmps.size = 227 := hs; rw [hz]; decide) tg) (wp_val (.bool false) ?_ ?_)
      · simp only [execOp, eval_tmp, eval_const, t167, t171]; simp [go_sem]
      · exact ⟨_, rfl, Below.refl _ _, rfl⟩
    · intro a W hb0 hs hp hi; have hb := undrew hb0; clear hb0
      have t164 : sl a 164 = .bool false := hp 26 (by decide)
      have t172 : sl a 172 = .bool false := hp 34 (by decide)
      refine ite_y rfl (wp_val (.bool false) ?_ ?_)
      · simp only [execOp, eval_tmp, eval_const, t164, t172]; simp [go_sem]
      · exact ⟨_, rfl, Below.refl _ _, rfl⟩
  intro a wk hb hs hd hI ht
  have ha := act_is [138, 139, 140, 141, 142, 143, 144, 145, 146, 147, 148, 149, 150, 151, 152, 153, 154, 155, 156, 157, 158, 159, 160, 161, 162, 163, 164, 165, 166, 167, 168, 169, 170, 171, 172, 173] hs hd ht (by decide)
  have t173 : sl a 173 = .bool false := hI 35 (by decide)
  simp only [List.foldl, t173] at ha
  generalize sl a 138 = u138 at ha
  generalize sl a 139 = u139 at ha
  generalize sl a 140 = u140 at ha
  generalize sl a 141 = u141 at ha
  generalize sl a 142 = u142 at ha
  generalize sl a 143 = u143 at ha
  generalize sl a 144 = u144 at ha
  generalize sl a 145 = u145 at ha
  generalize sl a 146 = u146 at ha
  generalize sl a 147 = u147 at ha
  generalize sl a 148 = u148 at ha
  generalize sl a 149 = u149 at ha
  generalize sl a 150 = u150 at ha
  generalize sl a 151 = u151 at ha
  generalize sl a 152 = u152 at ha
  generalize sl a 153 = u153 at ha
  generalize sl a 154 = u154 at ha
  generalize sl a 155 = u155 at ha
  generalize sl a 156 = u156 at ha
  generalize sl a 157 = u157 at ha
  generalize sl a 158 = u158 at ha
  generalize sl a 159 = u159 at ha
  generalize sl a 160 = u160 at ha
  generalize sl a 161 = u161 at ha
  generalize sl a 162 = u162 at ha
  generalize sl a 163 = u163 at ha
  generalize sl a 164 = u164 at ha
  generalize sl a 165 = u165 at ha
  generalize sl a 166 = u166 at ha
  generalize sl a 167 = u167 at ha
  generalize sl a 168 = u168 at ha
  generalize sl a 169 = u169 at ha
  generalize sl a 170 = u170 at ha
  generalize sl a 171 = u171 at ha
  generalize sl a 172 = u172 at ha
  simp only [Act.put, List.setIfInBounds_toArray, List.set_cons_zero, List.set_cons_succ] at ha
  rw [ha]
  clear ha hI ht
  have S16 := Lib.hid (S15.out.keep hb)
  clear hb S15 HX HY hneg EQ es Xs et Xt ep Xp eq Xq el Xl er Xr ek Xk eY XY ex Xx
  obtain ⟨qx, nx, cxx, kx, xx⟩ := S16.out.box bx A (by simp)
  obtain ⟨_, ex1, ex2, ex3, ex4⟩ := One.of kx
  have Xx := Lib.hid xx
  clear kx xx
  obtain ⟨i, hi⟩ : ∃ i : Nat, i = m.toNat % 10 := ⟨_, rfl⟩
  obtain ⟨k, hk⟩ : ∃ k : Nat, k = n.toNat % 10 := ⟨_, rfl⟩
  have hi' : ((m.toNat : Int) % 10) = (i : Int) := by omega
  have hk' : ((n.toNat : Int) % 10) = (k : Int) := by omega
  have hi9 : i ≤ 9 := by omega
  have hk9 : k ≤ 9 := by omega
  have HP : Hid (∀ j, j ≤ 18 → A ^ j < capN) := fun j hj => lt_cap (pow_lt256 HA.out.1 j) (by omega)
  have HI := Lib.hid hi'; have HK := Lib.hid hk'
  clear hi hk hi' hk'
  go_wp2_with fail
  rw [HI.out, HK.out]
  refine Calls.mono (Pow_ok Xx.out (by omega) (fun j hj => HP.out j (by omega))) ?_
  rintro e w17 ⟨q17, m17, d17, rfl, hw, hb⟩
  have S17 := Lib.hid (S16.out.keep hb)
  have HW17 := Lib.hid hw
  clear hw hb S16 ex1 ex2 ex3 ex4 Xx
  obtain ⟨qx, nx, cx, kx, xx⟩ := S17.out.box bx (A) (by simp)
  obtain ⟨_, ex1, ex2, ex3, ex4⟩ := One.of kx
  have Xx := Lib.hid xx
  clear kx xx
  go_wp2_with fail
  refine Calls.mono (Pow_ok Xx.out.on1 (by omega) (fun j hj => HP.out j (by omega))) ?_
  rintro e w18 ⟨q18, m18, d18, rfl, hw, hb⟩
  have S18 := Lib.hid (S17.out.on1 HW17.out hb)
  have HW18 := Lib.hid hw
  clear hw hb S17 HW17 ex1 ex2 ex3 ex4 Xx
  generalize w17.heap.size = bu at *
  obtain ⟨qx, nx, cx, kx, xx⟩ := S18.out.box bx (A) (by simp)
  obtain ⟨_, ex1, ex2, ex3, ex4⟩ := One.of kx
  have Xx := Lib.hid xx
  clear kx xx
  go_wp2_with fail
  refine Calls.mono (Pow_ok (k := i + k) Xx.out.on1 (by omega) (fun j hj => HP.out j (by omega))) ?_
  rintro e w19 ⟨q19, m19, d19, rfl, hw, hb⟩
  have S19 := Lib.hid (S18.out.on1 HW18.out hb)
  have HW19 := Lib.hid hw
  clear hw hb S18 HW18 ex1 ex2 ex3 ex4 Xx
  generalize w18.heap.size = bg at *
  obtain ⟨qu, nu, cu, ku, xu⟩ := S19.out.box bu (A ^ i) (by simp)
  obtain ⟨_, eu1, eu2, eu3, eu4⟩ := One.of ku
  have Xu := Lib.hid xu
  clear ku xu
  obtain ⟨qg, ng, cg, kg, xg⟩ := S19.out.box bg (A ^ k) (by simp)
  obtain ⟨_, eg1, eg2, eg3, eg4⟩ := One.of kg
  have Xg := Lib.hid xg
  clear kg xg
  go_wp2_with fail
  refine Calls.mono (Mul2_ok (Nsl.two (hnew (by simp)) Xu.out.on Xg.out.on) (HP.out _ (by omega)) (by rw [← Nat.pow_add]; exact HP.out _ (by omega))) ?_
  rintro e w20 ⟨q20, m20, d20, rfl, hw, hb⟩
  have S20 := Lib.hid (S19.out.on HW19.out hb)
  have HW20 := Lib.hid hw
  clear hw hb S19 HW19 eu1 eu2 eu3 eu4 Xu eg1 eg2 eg3 eg4 Xg
  generalize w19.heap.size = bw at *
  obtain ⟨qw, nw, cw, kw, xw⟩ := S20.out.box bw (A ^ (i + k)) (by simp)
  obtain ⟨_, ew1, ew2, ew3, ew4⟩ := One.of kw
  have Xw := Lib.hid xw
  clear kw xw
  go_wp2_with fail
  refine Calls.mono (Cmp_same HW20.out.on1 Xw.out.on1 (Nat.pow_add A i k).symm) ?_
  rintro e w21 ⟨rfl, hb⟩
  have FIN := Lib.hid (S20.out.on1 HW20.out hb)
  clear hb S20 HW20 Xw ew1 ew2 ew3 ew4
  go_wp2
  go_ret
  exact ⟨rfl, FIN.out.bel⟩
end Go.Proofs.YtmcehghbcjhkdaaDoor
