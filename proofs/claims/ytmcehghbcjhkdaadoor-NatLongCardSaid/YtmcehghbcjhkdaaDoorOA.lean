/- NatTells: the walk. -/
import Derived.Test.YtmcehghbcjhkdaaDoorNW
import Derived.Test.YtmcehghbcjhkdaaDoorNV
namespace Go.By
open Go.RowKit
/-- a number, and a code -/
def RetC (T : TypeId) (w : World) (N : Nat) (code : Int) (e : Ending) (w' : World) : Prop := ∃ q n c, e = .returned (.tuple #[.agg #[.slice q n c], .int .i64 code]) ∧ Ws T w' q n c N ∧ Below w.heap.size w w'
/-- bytes, and a code -/
def RetBC (w : World) (xs : List UInt8) (code : Int) (e : Ending) (w' : World) : Prop := ∃ q n c, e = .returned (.tuple #[.slice q n c, .int .i64 code]) ∧ Sl B8 w' q n c xs ∧ Below w.heap.size w w'
theorem lt16 {N j k : Nat} (h : N < 16 ^ j) (hj : j ≤ 2 * k) : N < 256 ^ k := by
  refine Nat.lt_of_lt_of_le h ?_
  rw [show (256 : Nat) = 16 ^ 2 from rfl, ← Nat.pow_mul]
  exact Nat.pow_le_pow_right (by decide) hj
theorem bytesN_short {N k : Nat} (h : N < 256 ^ k) : (bytesN N).length ≤ k := by
  rw [bytesN_len]; exact (lowD_pad (b := 256) (by decide) k N h).2
end Go.By
namespace Go.Proofs.YtmcehghbcjhkdaaDoor
open Go.RowKit Go.By
theorem goodT_all {l : List UInt8} (h : goodT l = true) : ∀ c, c ∈ l → isHex c = true := by
  cases l with
  | nil => intro c hc; cases hc
  | cons x r =>
    have h : ((decide (x ≠ 48) || r.isEmpty) && (x :: r).all isHex) = true := h
    rw [Bool.and_eq_true] at h
    exact List.all_eq_true.1 h.2
theorem Parse_both (l : List UInt8) (h8 : l.length ≤ 400) : ∃ (X : Nat) (code : Int), X < 256 ^ 200 ∧ (∀ w, Calls Tryd.prog 14 #[.string (strB l)] w (RetC 28 w X code)) ∧ ∀ w, Calls Tryd.prog 15 #[.string (strB l)] w (RetBC w (bytesN X) code) := by
  cases hg : goodT l with
  | true =>
    refine ⟨valT l, 0, ?_, fun w => (Parse_any l (by omega) w).mono fun e w' h => ?_, fun w => (Parse_ref l (by omega) w).mono fun e w' h => ?_⟩
    · exact lt16 (valT_lt (goodT_all hg)) (by omega)
    · rcases h with ⟨_, h⟩ | ⟨h, _⟩
      · exact h
      · rw [hg] at h; cases h
    · rcases h with ⟨_, h⟩ | ⟨h, _⟩
      · exact h
      · rw [hg] at h; cases h
  | false =>
    refine ⟨0, 14, Nat.pow_pos (by decide), fun w => (Parse_any l (by omega) w).mono fun e w' h => ?_, fun w => (Parse_ref l (by omega) w).mono fun e w' h => ?_⟩
    · rcases h with ⟨h, _⟩ | ⟨_, h⟩
      · rw [hg] at h; cases h
      · exact ⟨_, _, _, h.1, Ws.zero _ _, h.2⟩
    · rcases h with ⟨h, _⟩ | ⟨_, h⟩
      · rw [hg] at h; cases h
      · rw [bytesN_zero]; exact ⟨_, _, _, h.1, Sl.nil0 _ _, h.2⟩
theorem Is_yes {p q : Option Addr} {m d n c N : Nat} {xs : List UInt8} {w : World} (hN : Ws 28 w p m d N) (h : Sl B8 w q n c xs) (hn : n ≤ 100000) (hT : Tab w) (hv : valB xs = N) :
    Calls Tryd.prog 20 #[.agg #[.slice p m d], .slice q n c] w fun e w' => e = .returned (.bool true) ∧ Below w.heap.size w w' := by
  have := Is_any p q m d n c N xs w hN h hn hT
  rwa [decide_eq_true hv.symm] at this
set_option maxRecDepth 100000 in
set_option maxHeartbeats 4000000 in
theorem NatTells_main (u : UInt64) (l : List UInt8) (p1 p2 : Option Addr) (n1 c1 n2 c2 : Nat) (xs ys : List UInt8) (w : World) (h1 : Sl B8 w p1 n1 c1 xs) (h2 : Sl B8 w p2 n2 c2 ys) (b0 : l.length ≤ 400) (b1 : n1 ≤ 200) (b2 : n2 ≤ 200) (hT : Tab w) :
    Calls Tryd.prog 4 #[W64 u, .string (strB l), .slice p1 n1 c1, .slice p2 n2 c2] w fun e w' => e = .returned (.bool true) ∧ Below w.heap.size w w' := by
  obtain ⟨X, code, hX, hP, hR⟩ := Parse_both l b0
  have HX := Lib.hid hX; have HP := Lib.hid hP; have HR := Lib.hid hR
  have H1 := Lib.hid h1; have H2 := Lib.hid h2; have HT := Lib.hid hT
  obtain ⟨n0, hn0⟩ : ∃ n0, n0 = l.length := ⟨_, rfl⟩
  have hsz : (strB l).size = n0 := by rw [strB_size, hn0]
  have g0 : (n0 : Int) ≤ 400 := by omega
  have g1 : (n1 : Int) ≤ 200 := by omega
  have g2 : (n2 : Int) ≤ 200 := by omega
  obtain ⟨S, hS⟩ : ∃ S, S = strB l := ⟨_, rfl⟩
  rw [← hS] at HP HR hsz ⊢
  clear hX hP hR h1 h2 hT hn0 b0 hS
  go_enter Tryd.func4, Tryd.ntmps4
  go_wp2_with fail
  refine Calls.mono (awake_nat _ HT.out) ?_
  rintro e w1 ⟨rfl, hb⟩
  have B1 := Lib.hid hb
  have H1a := Lib.hid (H1.out.keep hb); have H2a := Lib.hid (H2.out.keep hb); have T1 := Lib.hid (HT.out.keep hb)
  clear hb H1 H2 HT
  go_wp2_with fail
  refine Calls.mono (HP.out _) ?_
  rintro e w2 ⟨q2, m2, d2, rfl, hw, hb⟩
  have X2 := Lib.hid hw; have B2 := Lib.hid (bl B1.out hb B1.out.size)
  have H1b := Lib.hid (H1a.out.keep hb); have H2b := Lib.hid (H2a.out.keep hb); have T2 := Lib.hid (T1.out.keep hb)
  clear hb hw H1a H2a T1 B1 HP hsz g0 g1 g2
  go_wp2_with fail
  have S2 : Hid (NS 24 28 w [] w2) := ⟨B2.out, fun b N hm => by cases hm⟩
  refine Calls.mono (HR.out _) ?_
  rintro e w3 ⟨q3, m3, d3, rfl, hw, hb⟩
  have S3 := Lib.hid (S2.out.on1 X2.out hb)
  have ba : ∀ o, Below w2.heap.size w2 (w2.alloc o) := fun o => al (Below.refl _ _) (Nat.le_refl _)
  have W3 := Lib.hid hw
  have H1c := Lib.hid ((H1b.out.keep (ba _)).keep hb); have H2c := Lib.hid ((H2b.out.keep (ba _)).keep hb); have T3 := Lib.hid ((T2.out.keep (ba _)).keep hb)
  have hm3 : m3 ≤ 200 := by rw [← W3.out.len]; exact bytesN_short HX.out
  clear hb hw H1b H2b T2 B2 HR S2 X2 ba
  generalize w2.heap.size = bx at *
  go_wp2_with fail
  refine Calls.mono (To_any p1 n1 c1 xs _ H1c.out (by omega)) ?_
  rintro e w4 ⟨q4, m4, d4, rfl, hw, hb⟩
  have S4 := Lib.hid (S3.out.keep hb); have A4 := Lib.hid hw; have W4 := Lib.hid (W3.out.keep hb)
  have H1d := Lib.hid (H1c.out.keep hb); have H2d := Lib.hid (H2c.out.keep hb); have T4 := Lib.hid (T3.out.keep hb)
  clear hb hw H1c H2c T3 S3 W3
  go_wp2_with fail
  refine Calls.mono (To_any p2 n2 c2 ys _ H2d.out (by omega)) ?_
  rintro e w5 ⟨q5, m5, d5, rfl, hw, hb⟩
  have S5 := Lib.hid (S4.out.keep hb); have A5 := Lib.hid (A4.out.keep hb); have C5 := Lib.hid hw; have W5 := Lib.hid (W4.out.keep hb)
  have H1e := Lib.hid (H1d.out.keep hb); have H2e := Lib.hid (H2d.out.keep hb); have T5 := Lib.hid (T4.out.keep hb)
  clear hb hw H1d H2d T4 S4 W4 A4
  go_wp2_with fail
  have S6 : Hid (NS 24 28 w [(w5.heap.size + 1, valB ys), (w5.heap.size, valB xs), (bx, X)] ((w5.alloc (.cells #[.slice q4 m4 d4] 24)).alloc (.cells #[.slice q5 m5 d5] 24))) := by
    have := (S5.out.new A5.out).new C5.out.on1
    show NS _ _ _ _ _
    simpa using this
  have ba : Below w5.heap.size w5 ((w5.alloc (.cells #[.slice q4 m4 d4] 24)).alloc (.cells #[.slice q5 m5 d5] 24)) := al (al (Below.refl _ _) (Nat.le_refl _)) (by simp)
  have W6 := Lib.hid (W5.out.keep ba); have P6 := Lib.hid (H1e.out.keep ba); have Q6 := Lib.hid (H2e.out.keep ba); have T6 := Lib.hid (T5.out.keep ba)
  clear ba W5 H1e H2e T5 S5 A5 C5
  generalize (w5.alloc (.cells #[.slice q4 m4 d4] 24)).alloc (.cells #[.slice q5 m5 d5] 24) = w6 at *
  generalize w5.heap.size + 1 = bq at *
  generalize w5.heap.size = bp at *
  obtain ⟨A, hA⟩ : ∃ A, A = valB xs := ⟨_, rfl⟩
  obtain ⟨B, hB⟩ : ∃ B, B = valB ys := ⟨_, rfl⟩
  rw [← hA, ← hB] at S6
  have HA := Lib.hid hA; have HB := Lib.hid hB
  clear hA hB
  go_wp2_with fail
  refine Calls.mono (Of_any u _) ?_
  rintro e w7 ⟨q7, m7, d7, rfl, hw, hb⟩
  have S7 := Lib.hid (S6.out.keep hb); have W7 := Lib.hid (W6.out.keep hb); have P7 := Lib.hid (P6.out.keep hb); have Q7 := Lib.hid (Q6.out.keep hb); have T7 := Lib.hid (T6.out.keep hb)
  have U7 := Lib.hid hw
  clear hw
  clear hb S6 W6 P6 Q6 T6
  go_wp2_with fail
  refine Calls.mono (Text_nat q7 m7 d7 _ _ U7.out T7.out) ?_
  rintro e w8 ⟨rfl, hb⟩
  have S8 := Lib.hid (S7.out.keep hb); have W8 := Lib.hid (W7.out.keep hb); have P8 := Lib.hid (P7.out.keep hb); have Q8 := Lib.hid (Q7.out.keep hb); have T8 := Lib.hid (T7.out.keep hb)
  clear hb S7 W7 P7 Q7 T7 U7
  go_wp2_with fail
  refine Calls.mono (Of_ref u _) ?_
  rintro e w9 ⟨q9, m9, d9, rfl, hw, hb⟩
  have S9 := Lib.hid (S8.out.keep hb); have W9 := Lib.hid (W8.out.keep hb); have P9 := Lib.hid (P8.out.keep hb); have Q9 := Lib.hid (Q8.out.keep hb); have T9 := Lib.hid (T8.out.keep hb)
  have V9 := Lib.hid (Sl.of_owns hw)
  have hm9 : m9 ≤ 100 := by rw [← V9.out.len]; have := bytesN_short (N := u.toNat) (k := 8) u.toNat_lt; omega
  clear hw
  clear hb S8 W8 P8 Q8 T8
  go_wp2_with fail
  refine Calls.mono (Text_ref q9 m9 d9 _ _ V9.out (by omega)) ?_
  rintro e w10 ⟨rfl, hb⟩
  have S10 := Lib.hid (S9.out.keep hb); have W10 := Lib.hid (W9.out.keep hb); have P10 := Lib.hid (P9.out.keep hb); have Q10 := Lib.hid (Q9.out.keep hb); have T10 := Lib.hid (T9.out.keep hb)
  clear hb S9 W9 P9 Q9 T9 V9
  rw [valB_bytesN]
  have hse : ((strB (hexText u.toNat)).toList == (strB (hexText u.toNat)).toList) = true := by rw [hex_beq]; exact decide_eq_true rfl
  generalize strB (hexText u.toNat) = SU at *
  obtain ⟨qx, nx, cx, kx, xx⟩ := S10.out.box bx X (by simp)
  obtain ⟨_, ex1, ex2, ex3, ex4⟩ := One.of kx
  have Xx := Lib.hid xx
  clear kx xx
  go_wp2_with fail
  refine Calls.mono (Is_yes Xx.out W10.out (by omega) T10.out (valB_bytesN X)) ?_
  rintro e w11 ⟨rfl, hb⟩
  have S11 := Lib.hid (S10.out.keep hb); have P11 := Lib.hid (P10.out.keep hb); have Q11 := Lib.hid (Q10.out.keep hb); have T11 := Lib.hid (T10.out.keep hb)
  clear hb S10 P10 Q10 T10 W10
  clear hse
  clear ex1 ex2 ex3 ex4 Xx
  obtain ⟨qp, np, cp, kp, xp⟩ := S11.out.box bp A (by simp)
  obtain ⟨_, ep1, ep2, ep3, ep4⟩ := One.of kp
  have Xp := Lib.hid xp
  clear kp xp
  go_wp2_with fail
  refine Calls.mono (Is_yes Xp.out P11.out (by omega) T11.out HA.out.symm) ?_
  rintro e w12 ⟨rfl, hb⟩
  have S12 := Lib.hid (S11.out.keep hb); have P12 := Lib.hid (P11.out.keep hb); have Q12 := Lib.hid (Q11.out.keep hb)
  clear hb S11 P11 Q11 T11
  clear ep1 ep2 ep3 ep4 Xp
  obtain ⟨qp, np, cp, kp, xp⟩ := S12.out.box bp A (by simp)
  obtain ⟨_, ep1, ep2, ep3, ep4⟩ := One.of kp
  have Xp := Lib.hid xp
  clear kp xp
  go_wp2_with fail
  refine Calls.mono (Len_any _ _ _ _ _ Xp.out) ?_
  rintro e w13 ⟨rfl, hb⟩
  have S13 := Lib.hid (S12.out.keep hb); have P13 := Lib.hid (P12.out.keep hb); have Q13 := Lib.hid (Q12.out.keep hb)
  clear hb S12 P12 Q12
  clear ep1 ep2 ep3 ep4 Xp
  go_wp2_with fail
  refine Calls.mono (Trim_ref p1 n1 c1 xs _ P13.out) ?_
  rintro e w' ⟨qa, na, ca, rfl, hs, rfl⟩
  have hna : na = (bytesN A).length := by rw [HA.out]; exact hs.len.symm
  subst hna
  clear hs
  generalize (bytesN A).length = la at *
  obtain ⟨qp, np, cp, kp, xp⟩ := S13.out.box bp A (by simp)
  obtain ⟨_, ep1, ep2, ep3, ep4⟩ := One.of kp
  have Xp := Lib.hid xp
  clear kp xp
  obtain ⟨qq, nq, cq, kq, xq⟩ := S13.out.box bq B (by simp)
  obtain ⟨_, eq1, eq2, eq3, eq4⟩ := One.of kq
  have Xq := Lib.hid xq
  clear kq xq
  go_wp2_with fail
  refine Calls.mono (Cmp_any _ _ _ _ _ _ A B _ Xp.out Xq.out) ?_
  rintro e w14 ⟨rfl, hb⟩
  have S14 := Lib.hid (S13.out.keep hb); have P14 := Lib.hid (P13.out.keep hb); have Q14 := Lib.hid (Q13.out.keep hb)
  clear hb S13 P13 Q13
  clear ep1 ep2 ep3 ep4 Xp eq1 eq2 eq3 eq4 Xq
  go_wp2_with fail
  refine Calls.mono (Trim_ref p1 n1 c1 xs _ P14.out) ?_
  rintro e w' ⟨qa, na, ca, rfl, hs1, rfl⟩
  have VA := Lib.hid hs1
  clear hs1
  go_wp2_with fail
  refine Calls.mono (Trim_ref p2 n2 c2 ys _ Q14.out) ?_
  rintro e w' ⟨qb, nb, cb, rfl, hs2, rfl⟩
  have VB := Lib.hid hs2
  clear hs2
  go_wp2_with fail
  refine Calls.mono (Cmp_ref qa qb na ca nb cb _ _ _ VA.out VB.out (bytesN_last _) (bytesN_last _)) ?_
  rintro e w15 ⟨rfl, u15, rfl⟩
  rw [valB_bytesN, valB_bytesN, ← HA.out, ← HB.out]
  have R15 := Lib.hid (bdn (n := u15) S14.out.bel)
  clear S14 VA VB P14 Q14
  generalize cmpN A B = cAB at *
  go_wp2_with fail
  refine Calls.mono (Of_any u _) ?_
  rintro e w16 ⟨q16, m16, d16, rfl, hw, hb⟩
  have U16 := Lib.hid hw; have R16 := Lib.hid (bl R15.out hb R15.out.size)
  clear hw hb R15
  go_wp2_with fail
  refine Calls.mono (Len_any _ _ _ _ _ U16.out) ?_
  rintro e w17 ⟨rfl, hb⟩
  have R17 := Lib.hid (bl R16.out hb R16.out.size)
  clear hb R16 U16
  go_wp2_with fail
  refine Calls.mono (Of_ref u _) ?_
  rintro e w18 ⟨q18, m18, d18, rfl, hw, hb⟩
  have hm : m18 = (bytesN u.toNat).length := (Sl.of_owns hw).len.symm
  subst hm
  have R18 := Lib.hid (bl R17.out hb R17.out.size)
  clear hb hw R17
  generalize (bytesN u.toNat).length = lu at *
  go_wp2
  go_ret
  exact ⟨rfl, R18.out⟩
end Go.Proofs.YtmcehghbcjhkdaaDoor
