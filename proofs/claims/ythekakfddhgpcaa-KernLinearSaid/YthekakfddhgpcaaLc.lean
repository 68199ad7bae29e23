/- The walk of the law KernLinear. -/
import Derived.Test.YthekakfddhgpcaaLb
import Derived.Test.YthekakfddhgpcaaM1
import Derived.Test.YthekakfddhgpcaaB7
namespace Go.Proofs.Ythekakfddhgpcaa
open Go.RowKit Go.By
theorem info_sl : (Try.prog.info? 22).map (fun i => (i.zero, i.size, i.bytes)) = some (some (.slice none 0 0), 1, 24) := by kernel_rfl
theorem Same_q (p1 p2 : Option Addr) (n1 n2 c1 c2 : Nat) (xs : List UInt8) (w : World) (n : Nat) (h1 : Sl B8 w p1 n1 c1 xs) (h2 : Sl B8 w p2 n2 c2 xs) :
    Calls Try.prog 20 #[.slice p1 n1 c1, .slice p2 n2 c2] (w.drewN n) fun e w'' => e = .returned (.bool true) ∧ ∃ m, w'' = w.drewN m :=
  Calls.quiet_of ((Same_d p1 p2 n1 n2 c1 c2 xs xs (w.drewN n) (h1.keep (below_drewN _ _)) (h2.keep (below_drewN _ _))).mono fun e w' ⟨he, hq⟩ => ⟨by rw [he, decide_eq_true rfl], hq⟩)
theorem fewS_lens {xss : List (List UInt8)} (h : fewS xss = true) : ∀ xs, xs ∈ xss → xs.length ≤ 100 := by
  simp only [fewS, Bool.and_eq_true, List.all_eq_true, decide_eq_true_eq] at h
  exact h.1
set_option maxRecDepth 100000 in
set_option maxHeartbeats 400000 in
theorem KL_not (c : UInt8) (p1 : Option Addr) (n1 c1 : Nat) (p2 : Option Addr) (n2 c2 : Nat) (p3 : Option Addr) (n3 c3 : Nat) (xss : List (List UInt8)) (w : World) (b1 : n1 ≤ 9223372036854775807) (b2 : n2 ≤ 9223372036854775807) (h3 : Sl2 w p3 n3 c3 xss)
    (hc : fewS xss = false ∨ n1 ≠ n3 ∨ n2 ≠ n3 ∨ n3 = 0) :
    Calls Try.prog 5 #[B8 c, .slice p1 n1 c1, .slice p2 n2 c2, .slice p3 n3 c3] w fun e w' => e = .returned (.bool true) ∧ Below w.heap.size w w' := by
  have b3 := h3.bound
  have H3 := Lib.hid h3; clear h3
  cases hf : fewS xss with
  | false =>
    have HF := Lib.hid hf
    clear hf hc
    go_enter Try.func5, Try.ntmps5
    go_wp2_with fail
    refine (awake02 _).mono ?_; rintro e w1 ⟨rfl, hw1⟩
    go_wp2_with fail
    refine (Few_any _ _ _ xss w1 (H3.out.keep hw1)).mono ?_; rintro e w2 ⟨rfl, rfl⟩
    rw [HF.out]
    go_wp2
    go_ret
    exact ⟨rfl, hw1⟩
  | true =>
    have HF := Lib.hid hf
    have HC : Hid (n1 ≠ n3 ∨ n2 ≠ n3 ∨ n3 = 0) := hc.resolve_left (by rw [hf]; decide)
    clear hf hc
    by_cases e1 : n1 = n3
    · by_cases e2 : n2 = n3
      · have e3 : n3 = 0 := by have := HC.out; omega
        subst e1; subst e2; subst e3
        go_enter Try.func5, Try.ntmps5
        go_wp2_with fail
        refine (awake02 _).mono ?_; rintro e w1 ⟨rfl, hw1⟩
        go_wp2_with fail
        refine (Few_any _ _ _ xss w1 (H3.out.keep hw1)).mono ?_; rintro e w2 ⟨rfl, rfl⟩
        rw [HF.out]
        go_wp2
        go_ret
        exact ⟨rfl, hw1⟩
      · subst e1
        have t2 : ((n2 : Int) != (n1 : Int)) = true := by simp; omega
        have t1 : ((n1 : Int) != (n1 : Int)) = false := by simp
        go_enter Try.func5, Try.ntmps5
        go_wp2_with fail
        refine (awake02 _).mono ?_; rintro e w1 ⟨rfl, hw1⟩
        go_wp2_with fail
        refine (Few_any _ _ _ xss w1 (H3.out.keep hw1)).mono ?_; rintro e w2 ⟨rfl, rfl⟩
        rw [HF.out]
        go_wp2
        go_ret
        exact ⟨rfl, hw1⟩
    · have t1 : ((n1 : Int) != (n3 : Int)) = true := by simp; omega
      go_enter Try.func5, Try.ntmps5
      go_wp2_with fail
      refine (awake02 _).mono ?_; rintro e w1 ⟨rfl, hw1⟩
      go_wp2_with fail
      refine (Few_any _ _ _ xss w1 (H3.out.keep hw1)).mono ?_; rintro e w2 ⟨rfl, rfl⟩
      rw [HF.out]
      go_wp2
      go_ret
      exact ⟨rfl, hw1⟩
set_option maxRecDepth 100000 in
set_option maxHeartbeats 4000000 in
theorem KL_main (c : UInt8) (p1 : Option Addr) (n c1 : Nat) (aas : List UInt8) (p2 : Option Addr) (c2 : Nat) (bbs : List UInt8) (p3 : Option Addr) (c3 : Nat) (xss : List (List UInt8)) (w : World) (h1 : Sl B8 w p1 n c1 aas) (h2 : Sl B8 w p2 n c2 bbs) (h3 : Sl2 w p3 n c3 xss)
    (hf : fewS xss = true) (hn0 : 0 < n) :
    Calls Try.prog 5 #[B8 c, .slice p1 n c1, .slice p2 n c2, .slice p3 n c3] w fun e w' => e = .returned (.bool true) ∧ Below w.heap.size w w' := by
  obtain ⟨i0, hi, hz0, hz1, hz2⟩ := info_parts info_u8
  obtain ⟨j0, ji, jz0, jz1, jz2⟩ := info_parts info_sl
  obtain ⟨hr, h40⟩ := fewS_room hf
  have HLE := Lib.hid (fewS_lens hf)
  have HR := Lib.hid hr
  have hn40 : n ≤ 40 := by rw [h3.len] at h40; exact h40
  have HF := Lib.hid hf
  obtain ⟨b, o, q0, m0, c0, x0, rfl, hc0, hs0, hx0⟩ := h3.at 0 hn0
  have HL0 := Lib.hid hs0.len
  have hm100 : m0 ≤ 100 := by rw [← hs0.len]; exact HLE.out x0 (List.mem_of_getElem? hx0.out)
  have H1 := Lib.hid h1; have H2 := Lib.hid h2; have H3 := Lib.hid h3
  have t1 : ((n : Int) != (n : Int)) = false := by simp
  have t0 : ((n : Int) == 0) = false := by simp; omega
  have hnp : (0 : Int) < (n : Int) := by omega
  rw [Nat.add_zero] at hc0
  clear h1 h2 h3 hf hr h40 hs0
  go_enter Try.func5, Try.ntmps5
  go_wp2_with fail
  refine (awake02 _).mono ?_; rintro e w1 ⟨rfl, hw1⟩
  go_wp2_with fail
  refine (Few_any _ _ _ xss w1 (H3.out.keep hw1)).mono ?_; rintro e w2 ⟨rfl, rfl⟩
  rw [HF.out]
  go_wp2
  go_loopw [9, 53] (fun v i wr => ∃ k : Nat, k ≤ n ∧ i = .int .i64 k ∧ Below w.heap.size w wr ∧ Hid (Own2 22 5 wr w.heap.size v k (xss.take k)) ∧ Hid (∀ (j : Nat) x, j < k → xss[j]? = some x → x.length = m0)) (fun _ i _ => n - (intOf i).toNat)
  case atStart => exact ⟨0, Nat.zero_le _, rfl, hw1, by simpa [Hid] using Own2.nil _ _ _ _, fun j x hj => by omega⟩
  case round =>
    clear hw1
    obtain ⟨k, hk, rfl, hw, ho2, hj⟩ := hrel
    have hcz : wr.cell? ⟨b, o, none⟩ = some (.slice q0 m0 c0) := (hw.cell (p := ⟨b, o, none⟩) (lt_of_cell hc0)).trans hc0
    by_cases hlt : k < n
    · obtain ⟨b', o', q, m, c', row, hp, hc, hs, hy⟩ := H3.out.at k hlt
      cases hp
      have hc' := (hw.cell (p := ⟨b, o + k, none⟩) (lt_of_cell hc)).trans hc
      have hml := Lib.hid hs.len
      have hmb := hs.bound
      by_cases hm : m = m0
      · subst hm
        have tm : ((m : Int) != (m : Int)) = false := by simp
        have HS := Lib.hid (hs.keep hw)
        clear hc hs
        obtain ⟨vs, ho, hxl, hvs⟩ := ho2.out
        have HO := Lib.hid ho; have HV := Lib.hid hvs; have HXL := Lib.hid hxl
        clear ho hvs hxl
        have hsz := hw.size
        go_wp2_with (at_builtin; refine wpList_append_rs _ rfl (.tmp 65) (.tmp 66) 22 rfl w.heap.size 5 i0 (.int .u8 0) 1 Try.underlying22 hi hz0 hz1 hz2 rfl _ 0 [] rfl (World.ownsRow_lit wr #[] 0 hsz (by simp [maxLen]) rfl) B8 _ _ _ row (fun _ _ => rfl) rfl (HS.out.keep ((Below.refl _ _).alloc (Nat.le_refl _) _)) ?c1 ?c2 ?c3 ?_)
        case c1 => unfold maxLen; omega
        case c2 => omega
        case c3 => simp; omega
        intro v' w3 ho3 hg3
        obtain ⟨qn, cn, rfl⟩ := owns_shape ho3
        have HO3 := Lib.hid ho3; clear ho3
        have hB3 : Below wr.heap.size wr w3 := ((Below.refl _ _).alloc (Nat.le_refl _) _).grown hg3 (by simp) (by simp [Value.ownBlock])
        have hw3 := bl hw hB3 hsz
        have HOw := Lib.hid (owns_keepv HO.out hB3)
        have HV3 : Hid (∀ (j : Nat) (val : Value), vs[j]? = some val → ∃ xs q c', (xss.take k)[j]? = some xs ∧ val = Value.slice q xs.length c' ∧ w3.ownsRow w.heap.size 5 1 (.slice q xs.length c') xs.length (xs.map B8)) := fun j val hj => by
          obtain ⟨xs, q, c', a, b, d⟩ := HV.out j val hj
          exact ⟨xs, q, c', a, b, owns_keep d hB3⟩
        clear hg3 hB3
        have hsz3 := hw3.size
        go_wp2_with (at_builtin; refine wpList_append_rs _ rfl (.tmp 64) (.tmp 68) 29 rfl w.heap.size 22 j0 (.slice none 0 0) 24 Try.underlying29 ji jz0 jz1 jz2 rfl _ k vs rfl (HOw.out.alloc _) id _ _ _ [Value.slice qn m cn] ?c0 rfl (sl_one rfl rfl) ?d1 ?d2 ?d3 ?_)
        case c0 => intro x hx; simp at hx; subst hx; rfl
        case d1 => unfold maxLen; omega
        case d2 => omega
        case d3 => simp; omega
        intro v' w4 ho4 hg4
        have hBa : ∀ O, Below w3.heap.size w3 (w3.alloc O) := fun O => (Below.refl _ _).alloc (Nat.le_refl _) O
        have HP := Lib.hid (Own2.push (by decide) HXL.out (fun j val hj => by
          obtain ⟨xs, q, c', a, b, d⟩ := HV3.out j val hj
          exact ⟨xs, q, c', a, b, owns_keep d (hBa _)⟩) (owns_keepv HOw.out (hBa _)) (owns_keep (owns_mono HO3.out (Nat.le_refl _)) (hBa _)) ho4 hg4)
        rw [← take_snoc_of hy.out] at HP
        have HB4 := Lib.hid ((hw3.alloc hsz3 _).grown hg4 (by simp; omega) (fun j hj => (HOw.out.lt j hj).1))
        clear ho4 hg4 hBa
        go_wp2
        go_roundw
        case rel => exact ⟨k + 1, by omega, by go_num, HB4.out, HP, fun j x hj' hx => by
          by_cases e : j = k
          · subst e; have := hy.out.symm.trans hx; cases this; exact hml.out
          · exact hj.out j x (by omega) hx⟩
        case measure => simp [intOf]; omega
      · have tm : ((m : Int) != (m0 : Int)) = true := by simp; omega
        clear hc hs
        go_wp2
        go_ret
        exact ⟨rfl, hw⟩
    · have HALL : Hid (∀ xs, xs ∈ xss → xs.length = m0) := fun xs hx => by
        obtain ⟨j, hj', e⟩ := List.getElem_of_mem hx
        exact hj.out j xs (by have := H3.out.len; omega) (by rw [List.getElem?_eq_getElem hj', e])
      have hkn : k = n := by omega
      have ho3 : Own2 22 5 wr w.heap.size u9 n xss := by
        have := ho2.out
        rwa [hkn, List.take_of_length_le (by have := H3.out.len; omega)] at this
      have HO9 := Lib.hid ho3
      have hcomb : ∀ cs : List UInt8, cs.length = n → combS cs xss = (combF (List.replicate m0 0) cs xss, 0) := fun cs hcs => by
        unfold combS
        rw [if_pos (hcs.trans H3.out.len.symm), noughtS_of hx0.out HL0.out HALL.out]
        rfl
      have e1 := hcomb aas H1.out.len
      have e2 := hcomb bbs H2.out.len
      have e3 := hcomb (xadd aas bbs) (by rw [xadd_length _ _ (H1.out.len.trans H2.out.len.symm)]; exact H1.out.len)
      rw [combF_xadd HALL.out (H1.out.len.trans H3.out.len.symm) (H2.out.len.trans H3.out.len.symm)] at e3
      have e4 := hcomb (aas.map (Gf.gmul c)) (by rw [List.length_map]; exact H1.out.len)
      rw [combF_scale HALL.out] at e4
      have hlX : (combF (List.replicate m0 0) aas xss).length = m0 := combF_len _ _ m0 HALL.out _ (by simp)
      have hlY : (combF (List.replicate m0 0) bbs xss).length = m0 := combF_len _ _ m0 HALL.out _ (by simp)
      generalize combF (List.replicate m0 0) aas xss = X at *
      generalize combF (List.replicate m0 0) bbs xss = Y at *
      have C1 := fun w h1 h2 => Comb_any p1 (some ⟨b, o, none⟩) n n c1 c3 aas xss w h1 h2 HR.out
      have C2 := fun w h1 h2 => Comb_any p2 (some ⟨b, o, none⟩) n n c2 c3 bbs xss w h1 h2 HR.out
      have C3 := fun p c' w h1 h2 => Comb_any p (some ⟨b, o, none⟩) n n c' c3 (xadd aas bbs) xss w h1 h2 HR.out
      have C4 := fun p c' w h1 h2 => Comb_any p (some ⟨b, o, none⟩) n n c' c3 (aas.map (Gf.gmul c)) xss w h1 h2 HR.out
      have C5 := fun p c' w h1 hr => Sum_any p 2 c' [aas, bbs] w h1 hr
      have C6 := fun p c' w h1 hr => Sum_any p 2 c' [X, Y] w h1 hr
      rw [e1] at C1; rw [e2] at C2; rw [e3] at C3; rw [e4] at C4
      rw [sumS_pair (H1.out.len.trans H2.out.len.symm)] at C5
      rw [sumS_pair (hlX.trans hlY.symm)] at C6
      have D1 := Lib.hid C1; have D2 := Lib.hid C2; have D3 := Lib.hid C3; have D4 := Lib.hid C4; have D5 := Lib.hid C5; have D6 := Lib.hid C6
      have HX := Lib.hid hlX; have HY := Lib.hid hlY
      have Hab : Hid ((xadd aas bbs).length = n) := by show _ = _; rw [xadd_length _ _ (H1.out.len.trans H2.out.len.symm)]; exact H1.out.len
      clear C1 C2 C3 C4 C5 C6 e1 e2 e3 e4 hcomb hlX hlY ho3 ho2 hj hcz hk hlt
      have rn := Lib.hid (show Room n by unfold Room; omega); have rm := Lib.hid (show Room m0 by unfold Room; omega)
      go_wp2_with fail
      refine (D1.out wr (H1.out.keep hw) (H3.out.keep hw)).mono ?_; rintro e w2 ⟨q1, m1', c1', hm1, rfl, ho1, hw2⟩
      have HO1 := Lib.hid ho1; clear ho1
      have k2 := bl hw hw2 hw.size
      have O2 := Lib.hid (HO9.out.keep hw2)
      go_wp2_with fail
      refine (D2.out w2 (H2.out.keep k2) (H3.out.keep k2)).mono ?_; rintro e w3 ⟨q2, m2', c2', hm2, rfl, ho2, hw3⟩
      have HO2 := Lib.hid ho2; clear ho2
      have k3 := bl k2 hw3 k2.size
      have O3 := Lib.hid (O2.out.keep hw3)
      have X3 := Lib.hid ((Sl.of_owns HO1.out).keep hw3)
      go_wp2_with fail
      refine Calls.mono (D5.out _ _ _ (sl2_pair (hnew rfl) ((H1.out.keep k3).keep (al (Below.refl _ _) (Nat.le_refl _))) ((H2.out.keep k3).keep (al (Below.refl _ _) (Nat.le_refl _)))) (fun zs hz => by
        simp at hz
        rcases hz with rfl | rfl
        · rw [H1.out.len]; exact rn.out
        · rw [H2.out.len]; exact rn.out)) ?_
      rintro e w4 ⟨q3, m3', c3', hm3, rfl, ho3, hw4⟩
      have hm3' : m3' = n := by rw [← hm3.out]; exact Hab.out
      subst hm3'
      have HO3 := Lib.hid ho3; clear ho3
      have f4 := bl (al (Below.refl w3.heap.size w3) (Nat.le_refl _)) hw4 (by simp)
      have k4 := bl k3 f4 k3.size
      have O4 := Lib.hid (O3.out.keep f4); have X4 := Lib.hid (X3.out.keep f4); have Y4 := Lib.hid ((Sl.of_owns HO2.out).keep f4)
      clear f4 hw4
      go_wp2_with fail
      refine (D3.out q3 c3' w4 (Sl.of_owns HO3.out) (H3.out.keep k4)).mono ?_; rintro e w5 ⟨q4, m4', c4', hm4, rfl, ho4, hw5⟩
      have HO4 := Lib.hid ho4; clear ho4
      have k5 := bl k4 hw5 k4.size
      have O5 := Lib.hid (O4.out.keep hw5); have X5 := Lib.hid (X4.out.keep hw5); have Y5 := Lib.hid (Y4.out.keep hw5)
      go_wp2_with fail
      refine Calls.mono (D6.out _ _ _ (sl2_pair (hnew rfl) (X5.out.keep (al (Below.refl _ _) (Nat.le_refl _))) (Y5.out.keep (al (Below.refl _ _) (Nat.le_refl _)))) (fun zs hz => by
        simp at hz
        rcases hz with rfl | rfl
        · rw [HX.out]; exact rm.out
        · rw [HY.out]; exact rm.out)) ?_
      rintro e w6 ⟨q5, m5', c5', hm5, rfl, ho5, hw6⟩
      have HO5 := Lib.hid ho5; clear ho5
      have f6 := bl (al (Below.refl w5.heap.size w5) (Nat.le_refl _)) hw6 (by simp)
      have k6 := bl k5 f6 k5.size
      have O6 := Lib.hid (O5.out.keep f6); have X6 := Lib.hid (X5.out.keep f6); have Z6 := Lib.hid ((Sl.of_owns HO4.out).keep f6)
      clear f6 hw6
      go_wp2_with fail
      refine (Scale_any c p1 _ c1 aas w6 (H1.out.keep k6) rn.out).mono ?_; rintro e w7 ⟨q6, m6', c6', hm6, rfl, ho6, hw7⟩
      have hm6' : m6' = m3' := by rw [← hm6.out, List.length_map]; exact H1.out.len
      subst hm6'
      have HO6 := Lib.hid ho6; clear ho6
      have k7 := bl k6 hw7 k6.size
      have O7 := Lib.hid (O6.out.keep hw7); have X7 := Lib.hid (X6.out.keep hw7); have Z7 := Lib.hid (Z6.out.keep hw7); have S7 := Lib.hid ((Sl.of_owns HO5.out).keep hw7)
      go_wp2_with fail
      refine (D4.out q6 c6' w7 (Sl.of_owns HO6.out) (H3.out.keep k7)).mono ?_; rintro e w8 ⟨q7, m7', c7', hm7, rfl, ho7, hw8⟩
      have HO7 := Lib.hid ho7; clear ho7
      have k8 := bl k7 hw8 k7.size
      have O8 := Lib.hid (O7.out.keep hw8); have X8 := Lib.hid (X7.out.keep hw8); have Z8 := Lib.hid (Z7.out.keep hw8); have S8 := Lib.hid (S7.out.keep hw8)
      generalize xadd X Y = V at *
      go_wp2_with fail
      refine Calls.mono (Same_any _ _ _ _ _ _ V V w8 Z8.out S8.out) ?_; rintro e w9 ⟨rfl, hw9⟩
      have k9 := bl k8 hw9 k8.size
      rw [decide_eq_true rfl]
      have O9 := Lib.hid (O8.out.keep hw9); have X9 := Lib.hid (X8.out.keep hw9); have W9 := Lib.hid ((Sl.of_owns HO7.out).keep hw9)
      have hm1m : m1' = m0 := hm1.out.symm.trans HX.out
      subst hm1m
      go_wp2_with fail
      refine (Scale_any c q1 _ c1' X w9 X9.out rm.out).mono ?_; rintro e w10 ⟨q8, m8', c8', hm8, rfl, ho8, hw10⟩
      have HO8 := Lib.hid ho8; clear ho8
      have k10 := bl k9 hw10 k9.size
      have O10 := Lib.hid (O9.out.keep hw10); have X10 := Lib.hid (X9.out.keep hw10); have W10 := Lib.hid (W9.out.keep hw10)
      generalize X.map (Gf.gmul c) = U at *
      go_wp2_with fail
      refine Calls.mono (Same_any _ _ _ _ _ _ U U w10 W10.out (Sl.of_owns HO8.out)) ?_; rintro e w11 ⟨rfl, hw11⟩
      have k11 := bl k10 hw11 k10.size
      rw [decide_eq_true rfl]
      have O11 := Lib.hid (O10.out.keep hw11); have X11 := Lib.hid (X10.out.keep hw11)
      obtain ⟨qw, cw, hu⟩ : ∃ qw cw, u9 = Value.slice qw m6' cw := by obtain ⟨vs, hv, _⟩ := O11.out; exact owns_shape hv
      subst hu
      have S11 := Lib.hid O11.out.sl2
      have XM : Hid ((X.map (Gf.gmul c)).length = m1') := by show _ = _; rw [List.length_map]; exact HX.out
      clear hw11 O11 O10 O9 O8 O7 O6 O5 O4 O3 O2 HO9
      go_wp2
      go_loopw [149] (fun i wr => ∃ k : Nat, k ≤ m6' ∧ i = .int .i64 k ∧ Below w.heap.size w wr ∧ Below w11.heap.size w11 wr) (fun i _ => m6' - (intOf i).toNat)
      case atStart => exact ⟨0, Nat.zero_le _, rfl, k11, Below.refl _ _⟩
      case round =>
        obtain ⟨k, hk, rfl, kw, kw'⟩ := hrel
        by_cases hlt : k < m6'
        · obtain ⟨b', o', q, m, c', row, hp, hc, hs, hy⟩ := H3.out.at k hlt
          cases hp
          have hc' := (kw.cell (p := ⟨b, o + k, none⟩) (lt_of_cell hc)).trans hc
          obtain ⟨b2, o2, q', mw, cw', row', rfl, hcw, hsw, hyw⟩ := (S11.out.keep kw').at k hlt
          have hre : row' = row := Option.some.inj (hyw.out.symm.trans hy.out)
          subst hre
          have HS1 := Lib.hid (hs.keep kw); have HS2 := Lib.hid hsw
          have i1 : (k : Int) < (m6' : Int) := by omega
          have HLT := Lib.hid hlt
          clear hc hs hsw hyw
          go_wp2
          go_quiet ((go_at_call 20; exact Same_q _ _ _ _ _ _ row' _ _ HS1.out HS2.out))
          go_wp2
          go_roundw
          case rel => exact ⟨k + 1, by have := HLT.out; omega, by go_num, ⟨kw.os, kw.tape, kw.output, kw.size, kw.block⟩, ⟨kw'.os, kw'.tape, kw'.output, kw'.size, kw'.block⟩⟩
          case measure => have := HLT.out; simp [intOf]; omega
        · have XR := Lib.hid (X11.out.keep kw')
          go_wp2_with fail
          refine (Inv_any c wr).mono ?_; rintro e w12 ⟨rfl, rfl⟩
          by_cases hc0 : c = 0
          · have hI : invRes c = (B8 0, 3) := by simp [invRes, hc0]
            rw [hI]
            have HC := Lib.hid hc0; clear hI hc0
            go_wp2
            go_ret
            exact ⟨rfl, kw⟩
          · have hI : invRes c = (B8 (Gf.ginv c), 0) := by simp [invRes, hc0]
            rw [hI]
            have HV := Lib.hid (scale_inv hc0 X)
            clear hI hc0
            generalize Gf.ginv c = ci at *
            go_wp2_with fail
            refine (Scale_any c q1 _ c1' X wr XR.out rm.out).mono ?_; rintro e w13 ⟨q9, m9', c9', hm9, rfl, ho9, hw13⟩
            have hm9' : m9' = m1' := hm9.out.symm.trans XM.out
            subst hm9'
            have HO9 := Lib.hid ho9; clear ho9
            have k13 := bl kw hw13 kw.size
            have X13 := Lib.hid (XR.out.keep hw13)
            go_wp2_with fail
            refine (Scale_any ci q9 _ c9' (X.map (Gf.gmul c)) w13 (Sl.of_owns HO9.out) rm.out).mono ?_; rintro e w14 ⟨q10, m10', c10', hm10, rfl, ho10, hw14⟩
            rw [HV.out] at ho10
            have HO10 := Lib.hid ho10; clear ho10
            have k14 := bl k13 hw14 k13.size
            go_wp2_with fail
            refine Calls.mono (Same_any _ _ _ _ _ _ X X w14 (Sl.of_owns HO10.out) (X13.out.keep hw14)) ?_; rintro e w15 ⟨rfl, hw15⟩
            have k15 := bl k14 hw15 k14.size
            rw [decide_eq_true rfl]
            go_wp2
            go_ret
            exact ⟨by simp, k15⟩
theorem KernLinear_any (c : UInt8) (p1 : Option Addr) (n1 c1 : Nat) (aas : List UInt8) (p2 : Option Addr) (n2 c2 : Nat) (bbs : List UInt8) (p3 : Option Addr) (n3 c3 : Nat) (xss : List (List UInt8)) (w : World) (h1 : Sl B8 w p1 n1 c1 aas) (h2 : Sl B8 w p2 n2 c2 bbs) (h3 : Sl2 w p3 n3 c3 xss) :
    Calls Try.prog 5 #[B8 c, .slice p1 n1 c1, .slice p2 n2 c2, .slice p3 n3 c3] w fun e w' => e = .returned (.bool true) ∧ Below w.heap.size w w' := by
  by_cases h : fewS xss = false ∨ n1 ≠ n3 ∨ n2 ≠ n3 ∨ n3 = 0
  · exact KL_not c p1 n1 c1 p2 n2 c2 p3 n3 c3 xss w h1.bound h2.bound h3 h
  · have hf : fewS xss = true := by
      cases hf : fewS xss with
      | true => rfl
      | false => exact absurd (.inl hf) h
    obtain rfl : n1 = n3 := by omega
    obtain rfl : n2 = n1 := by omega
    exact KL_main c p1 n2 c1 aas p2 c2 bbs p3 c3 xss w h1 h2 h3 hf (by omega)
end Go.Proofs.Ythekakfddhgpcaa
