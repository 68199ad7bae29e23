/- Counts of grids: Full, Fails. -/
import Derived.Test.YtbfmdfbnhakolaaDoorD1
namespace Go.By
open Go.RowKit
theorem fullN_le (n : Nat) : ∀ r, fullN n r ≤ 256 ^ (n * r)
  | 0 => by rw [Nat.mul_zero]; exact Nat.le_refl _
  | r + 1 => by
    rw [Nat.mul_succ, Nat.pow_add]
    exact Nat.mul_le_mul (fullN_le n r) (Nat.sub_le _ _)
/-- how many are full -/
def fullC (n k : Nat) : Nat := if k ≤ n then fullN n k else 0
theorem fullC_le (n k : Nat) : fullC n k ≤ 256 ^ (n * k) := by
  unfold fullC
  split
  · exact fullN_le n k
  · exact Nat.zero_le _
/-- a box's number is turned -/
theorem NBox.set {T U : TypeId} {w : World} {b M N : Nat} {q : Option Addr} {n c : Nat} (h : NBox T U w b M) (hw : Ws U w q n c N) (hne : T ≠ U) : NBox T U (w.setCell ⟨b, 0, none⟩ (.slice q n c)) b N := by
  obtain ⟨q1, n1, c1, k, _⟩ := h
  exact ⟨q, n, c, hss k, hw.set k hne⟩
theorem NBox.other {T U : TypeId} {w : World} {b b2 N : Nat} {v u : Value} (h : NBox T U w b N) (k2 : w.heap[b2]? = some (.cells #[u] T (0, 0))) (hb : b ≠ b2) (hne : T ≠ U) : NBox T U (w.setCell ⟨b2, 0, none⟩ v) b N := by
  obtain ⟨q1, n1, c1, k, hw⟩ := h
  exact ⟨q1, n1, c1, hsc k hb, hw.set k2 hne⟩
end Go.By
namespace Go.Proofs.YtbfmdfbnhakolaaDoor
open Go.RowKit Go.By
set_option maxRecDepth 100000 in
set_option maxHeartbeats 1000000 in
theorem Full_less (n k : Nat) (hn : n ≤ 20) (hk : k ≤ 20) (hlt : n < k) (w : World) : Calls Tryd.prog 38 #[.int .i64 n, .int .i64 k] w (RetN 34 w 0) := by
  have hinfo := info_nat
  have HF : Hid (∀ W, Calls Tryd.prog 34 #[.int .i64 n, .int .i64 k] W fun e w' => e = .returned (.bool true) ∧ W = w') := fun W => fits_yes n k hn (by omega) hk W
  have h1 : (n : Int) < (k : Int) := by omega
  clear hlt
  go_enter Tryd.func38, Tryd.ntmps38
  go_wp2_with fail
  refine Calls.mono (HF.out _) ?_
  rintro e w' ⟨rfl, rfl⟩
  go_wp2_with fail
  refine Calls.mono (Of_k 0 (by decide) _) ?_
  rintro e w2 ⟨q2, m2, d2, rfl, hw, hb⟩
  have K2 : w2.heap[w.heap.size]? = some (.cells #[.slice none 0 0] 29 (0, 0)) := (hb.block _ (by simp)).trans (hnew rfl)
  have R := Lib.hid (ret_num K2 (Nat.le_refl _) ((Bel.mk (ba1 w _)).keep hb).out hw (by decide))
  obtain ⟨_, a1, a2, a3, a4⟩ := One.of K2
  clear hw hb K2
  go_wp2
  exact bodyPost_ret (res_cell_tmp rfl _ _ _ 29 #[.slice q2 m2 d2] (0, 0) _ (.int .i64 0) rfl R.out.2.2 rfl Tryd.underlying29 rfl hinfo) rfl ⟨_, _, _, rfl, R.out.1, R.out.2.1⟩
set_option maxRecDepth 100000 in
set_option maxHeartbeats 2000000 in
theorem Full_more (n k : Nat) (hn : n ≤ 20) (hk1 : 1 ≤ k) (hk : k ≤ n) (w : World) : Calls Tryd.prog 38 #[.int .i64 n, .int .i64 k] w (RetN 34 w (fullN n k)) := by
  have hinfo := info_nat
  have HF : Hid (∀ W, Calls Tryd.prog 34 #[.int .i64 n, .int .i64 k] W fun e w' => e = .returned (.bool true) ∧ W = w') := fun W => fits_yes n k hn hk1 (by omega) W
  have h1 : (k : Int) ≤ (n : Int) := by omega
  have HK := Lib.hid hk
  clear hk
  go_enter Tryd.func38, Tryd.ntmps38
  go_wp2_with fail
  refine Calls.mono (HF.out _) ?_
  rintro e w' ⟨rfl, rfl⟩
  go_wp2_with fail
  refine Calls.mono (Of_k 1 (by decide) _) ?_
  rintro e w2 ⟨q2, m2, d2, rfl, hw, hb⟩
  have K2 : Hid (BlkIs w.heap.size (.cells #[.slice none 0 0] 29) w2) := BlkIs.keep (hnew rfl) hb
  have B2 : Hid (Bel w w2) := (Bel.mk (ba1 w _)).keep hb
  have K3 := Lib.hid (K2.out.keep (ba1 w2 (.cells #[.slice q2 m2 d2] 29)))
  have B3 := Lib.hid (B2.out.keep (ba1 w2 (.cells #[.slice q2 m2 d2] 29)))
  have N3 : Hid (NBox 29 34 (w2.alloc (.cells #[.slice q2 m2 d2] 29)) w2.heap.size 1) := NBox.new hw
  have hlt : w.heap.size < w2.heap.size := by have := hb.size; simp at this; omega
  clear hw hb K2 B2
  go_wp2
  generalize w2.alloc (.cells #[.slice q2 m2 d2] 29) = w3 at *
  generalize w2.heap.size = bf at *
  go_loopw [21] (fun iv wr => ∃ i : Nat, i ≤ k ∧ iv = .int .i64 i ∧ Hid (BlkIs w.heap.size (.cells #[.slice none 0 0] 29) wr) ∧ Hid (Bel w wr) ∧ Hid (NBox 29 34 wr bf (fullN n i))) (fun iv _ => k - (intOf iv).toNat)
  case atStart => exact ⟨0, Nat.zero_le _, rfl, K3.out, B3.out, N3.out⟩
  case round =>
    clear K3 B3 N3
    obtain ⟨i, hi, rfl, hK, hB, hN⟩ := hrel
    by_cases hik : i < k
    · have hik' : (i : Int) < (k : Int) := by omega
      have HB1 : Hid (fullN n i < capN ∧ fullN n i * (256 ^ n - 256 ^ i) < capN) := by
        have e1 : n * i ≤ 20 * 20 := Nat.mul_le_mul hn (show i ≤ 20 by have := HK.out; omega)
        have e2 : n * (i + 1) ≤ 20 * 20 := Nat.mul_le_mul hn (show i + 1 ≤ 20 by have := HK.out; omega)
        exact ⟨Nat.lt_of_le_of_lt (fullN_le n i) (pow256 (by omega)), Nat.lt_of_le_of_lt (fullN_le n (i + 1)) (pow256 (by omega))⟩
      have HI := Lib.hid hik
      clear hik
      go_wp2_with fail
      refine Calls.mono (without_any n i (by omega) (by have := HK.out; have := HI.out; omega) _) ?_
      rintro e w4 ⟨q4, m4, d4, rfl, hw, hb⟩
      have K4 := Lib.hid (hK.out.keep hb); have B4 := Lib.hid (hB.out.keep hb); have N4 := Lib.hid (hN.out.keep hb)
      have F4 := Lib.hid hw
      clear hw hb hK hB hN
      obtain ⟨qf, nf, cf, kf, xf⟩ := N4.out
      obtain ⟨_, e1, e2, e3, e4⟩ := One.of kf
      have Xf := Lib.hid xf
      have Kf := Lib.hid kf
      clear kf xf
      go_wp2_with fail
      refine Calls.mono (Mul2_ok (Nsl.two (hnew (by simp)) Xf.out.on F4.out.on) HB1.out.1 HB1.out.2) ?_
      rintro e w5 ⟨q5, m5, d5, rfl, hw, hb⟩
      have hbb : Below w4.heap.size w4 w5 := bl (ba2 w4 _ _) hb (ba2 w4 _ _).size
      have kf5 : w5.heap[bf]? = some (.cells #[.slice qf nf cf] 29 (0, 0)) := (hbb.block _ (blk_lt Kf.out)).trans Kf.out
      have K5 := K4.out.keep hbb
      have F : Hid (BlkIs w.heap.size (.cells #[.slice none 0 0] 29) (w5.setCell ⟨bf, 0, none⟩ (.slice q5 m5 d5)) ∧ Bel w (w5.setCell ⟨bf, 0, none⟩ (.slice q5 m5 d5)) ∧ NBox 29 34 (w5.setCell ⟨bf, 0, none⟩ (.slice q5 m5 d5)) bf (fullN n (i + 1))) :=
        ⟨hsc K5 (by show w.heap.size ≠ bf; omega), ⟨(B4.out.keep hbb).out.setCell (by show w.heap.size ≤ bf; omega) _⟩, (N4.out.keep hbb).set hw (by decide)⟩
      obtain ⟨_, f1, f2, f3, f4⟩ := One.of kf5
      clear hw hb hbb kf5 K5 K4 B4 N4 F4 Xf Kf e1 e2 e3 e4
      go_wp2
      go_roundw
      case rel => exact ⟨i + 1, by have := HI.out; omega, by go_num, F.out.1, F.out.2.1, F.out.2.2⟩
      case measure => simp [intOf]; have := HI.out; omega
    · obtain rfl : i = k := by omega
      obtain ⟨qf, nf, cf, kf, xf⟩ := hN.out
      obtain ⟨_, e1, e2, e3, e4⟩ := One.of kf
      have R := Lib.hid (ret_num hK.out (Nat.le_refl _) hB.out.out xf (by decide))
      obtain ⟨_, a1, a2, a3, a4⟩ := One.of hK.out
      clear kf xf hK hB hN hik
      go_wp2
      exact bodyPost_ret (res_cell_tmp rfl _ _ _ 29 #[.slice qf nf cf] (0, 0) _ (.int .i64 0) rfl R.out.2.2 rfl Tryd.underlying29 rfl hinfo) rfl ⟨_, _, _, rfl, R.out.1, R.out.2.1⟩
theorem Full_any (n k : Nat) (hn : n ≤ 20) (hk1 : 1 ≤ k) (hk : k ≤ 20) (w : World) : Calls Tryd.prog 38 #[.int .i64 n, .int .i64 k] w (RetN 34 w (fullC n k)) := by
  unfold fullC
  by_cases h : k ≤ n
  · rw [if_pos h]; exact Full_more n k hn hk1 h w
  · rw [if_neg h]; exact Full_less n k hn hk (by omega) w
set_option maxRecDepth 100000 in
set_option maxHeartbeats 1000000 in
theorem Fails_any (n k : Nat) (hn : n ≤ 20) (hk1 : 1 ≤ k) (hk : k ≤ 20) (w : World) : Calls Tryd.prog 16 #[.int .i64 n, .int .i64 k] w (RetN 34 w (256 ^ (n * k) - fullC n k)) := by
  have hinfo := info_nat
  have hle := Lib.hid (fullC_le n k)
  have HA : Hid (∀ W, Calls Tryd.prog 15 #[.int .i64 n, .int .i64 k] W (RetN 34 W (256 ^ (n * k)))) := fun W => All_any n k hn hk1 hk W
  have HU : Hid (∀ W, Calls Tryd.prog 38 #[.int .i64 n, .int .i64 k] W (RetN 34 W (fullC n k))) := fun W => Full_any n k hn hk1 hk W
  go_enter Tryd.func16, Tryd.ntmps16
  go_wp2_with fail
  refine Calls.mono (HA.out _) ?_
  rintro e w1 ⟨q1, m1, d1, rfl, hw, hb⟩
  have K1 : Hid (BlkIs w.heap.size (.cells #[.slice none 0 0] 29) w1) := BlkIs.keep (hnew rfl) hb
  have B1 : Hid (Bel w w1) := (Bel.mk (ba1 w _)).keep hb
  have F1 := Lib.hid hw
  clear hw hb
  go_wp2_with fail
  refine Calls.mono (HU.out _) ?_
  rintro e w2 ⟨q2, m2, d2, rfl, hw, hb⟩
  have hbb : Below w1.heap.size w1 w2 := bl (ba1 w1 _) hb (ba1 w1 _).size
  have K2 := Lib.hid (K1.out.keep hbb)
  have B2 := Lib.hid (B1.out.keep hbb)
  have F2 := Lib.hid (F1.out.keep hbb)
  have X2 : w2.heap[w1.heap.size]? = some (.cells #[.slice q1 m1 d1] 29 (0, 0)) := (hb.block _ (by simp)).trans (hnew rfl)
  obtain ⟨_, e1, e2, e3, e4⟩ := One.of X2
  have G2 := Lib.hid hw
  clear hw hb hbb K1 B1 F1 X2
  go_wp2_with fail
  refine Calls.mono (Sub_ok F2.out.on1 G2.out.on1 hle.out) ?_
  rintro e w3 ⟨q3, m3, d3, rfl, hw, hb⟩
  have hbb : Below w2.heap.size w2 w3 := bl (ba1 w2 _) hb (ba1 w2 _).size
  have K3 := K2.out.keep hbb
  have R := Lib.hid (ret_num K3 (Nat.le_refl _) (B2.out.keep hbb).out hw (by decide))
  obtain ⟨_, a1, a2, a3, a4⟩ := One.of K3
  clear hw hb hbb K2 B2 F2 G2 K3 e1 e2 e3 e4
  go_wp2
  exact bodyPost_ret (res_cell_tmp rfl _ _ _ 29 #[.slice q3 m3 d3] (0, 0) _ (.int .i64 0) rfl R.out.2.2 rfl Tryd.underlying29 rfl hinfo) rfl ⟨_, _, _, rfl, R.out.1, R.out.2.1⟩
end Go.Proofs.YtbfmdfbnhakolaaDoor
