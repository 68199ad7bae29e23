/- Counts of grids: power, Spare, All, without. -/
import Derived.Test.YtbfmdfbnhakolaaDoorD0
namespace Go.Proofs.YtbfmdfbnhakolaaDoor
open Go.RowKit Go.By
set_option maxRecDepth 100000 in
set_option maxHeartbeats 1000000 in
theorem power_any (n : Nat) (hn : n ≤ 4095) (w : World) : Calls Tryd.prog 32 #[.int .i64 n] w (RetN 34 w (256 ^ n)) := by
  have hinfo := info_nat
  go_enter Tryd.func32, Tryd.ntmps32
  go_wp2_with fail
  refine Calls.mono (Of_k 256 (by decide) _) ?_
  rintro e w1 ⟨q1, m1, d1, rfl, hw, hb⟩
  have K1 : Hid (BlkIs w.heap.size (.cells #[.slice none 0 0] 29) w1) := BlkIs.keep (hnew rfl) hb
  have B1 : Hid (Bel w w1) := (Bel.mk (ba1 w _)).keep hb
  have F1 := Lib.hid hw
  clear hw hb
  go_wp2_with fail
  refine Calls.mono (Pow_ok F1.out (by omega) (fun j hj => pow256 (by omega))) ?_
  rintro e w2 ⟨q2, m2, d2, rfl, hw, hb⟩
  have K2 := K1.out.keep hb
  have R := Lib.hid (ret_num K2 (Nat.le_refl _) (B1.out.keep hb).out hw (by decide))
  obtain ⟨_, a1, a2, a3, a4⟩ := One.of K2
  clear hw hb K1 B1 F1 K2
  go_wp2
  exact bodyPost_ret (res_cell_tmp rfl _ _ _ 29 #[.slice q2 m2 d2] (0, 0) _ (.int .i64 0) rfl R.out.2.2 rfl Tryd.underlying29 rfl hinfo) rfl ⟨_, _, _, rfl, R.out.1, R.out.2.1⟩
set_option maxRecDepth 100000 in
set_option maxHeartbeats 1000000 in
theorem fits_yes (n k : Nat) (hn : n ≤ 20) (hk1 : 1 ≤ k) (hk : k ≤ 20) (w : World) : Calls Tryd.prog 34 #[.int .i64 n, .int .i64 k] w fun e w' => e = .returned (.bool true) ∧ w = w' := by
  obtain ⟨P, hP⟩ : ∃ P, P = n * k := ⟨_, rfl⟩
  have hPb : P ≤ 400 := by rw [hP]; exact Nat.mul_le_mul hn hk
  have wm : IntKind.i64.wrap ((n : Int) * (k : Int)) = (P : Int) := by rw [hP, ← Int.natCast_mul]; exact Go.IntWalk.i64_in _ (by omega)
  have h1 : (1 : Int) ≤ (k : Int) := by omega
  have h2 : (n : Int) ≤ 4096 := by omega
  have h3 : (k : Int) ≤ 4096 := by omega
  have h4 : (P : Int) < 4096 := by omega
  clear hP hPb hn hk1 hk
  go_enter Tryd.func34, Tryd.ntmps34
  go_wp2
  go_ret
  exact ⟨rfl, rfl⟩
set_option maxRecDepth 100000 in
set_option maxHeartbeats 1000000 in
theorem Spare_any (n : Nat) (hn : n ≤ 4095) (w : World) : Calls Tryd.prog 9 #[.int .i64 n] w (RetN 34 w (256 ^ n)) := by
  have hinfo := info_nat
  have h1 : (n : Int) < 4096 := by omega
  go_enter Tryd.func9, Tryd.ntmps9
  go_wp2_with fail
  refine Calls.mono (power_any n hn _) ?_
  rintro e w2 ⟨q2, m2, d2, rfl, hw, hb⟩
  have K2 : w2.heap[w.heap.size]? = some (.cells #[.slice none 0 0] 29 (0, 0)) := (hb.block _ (by simp)).trans (hnew rfl)
  have R := Lib.hid (ret_num K2 (Nat.le_refl _) ((Bel.mk (ba1 w _)).keep hb).out hw (by decide))
  obtain ⟨_, a1, a2, a3, a4⟩ := One.of K2
  clear hw hb K2
  go_wp2
  exact bodyPost_ret (res_cell_tmp rfl _ _ _ 29 #[.slice q2 m2 d2] (0, 0) _ (.int .i64 0) rfl R.out.2.2 rfl Tryd.underlying29 rfl hinfo) rfl ⟨_, _, _, rfl, R.out.1, R.out.2.1⟩
set_option maxRecDepth 100000 in
set_option maxHeartbeats 1000000 in
theorem All_any (n k : Nat) (hn : n ≤ 20) (hk1 : 1 ≤ k) (hk : k ≤ 20) (w : World) : Calls Tryd.prog 15 #[.int .i64 n, .int .i64 k] w (RetN 34 w (256 ^ (n * k))) := by
  have hinfo := info_nat
  obtain ⟨P, hP⟩ : ∃ P, P = n * k := ⟨_, rfl⟩
  have hPb : P ≤ 400 := by rw [hP]; exact Nat.mul_le_mul hn hk
  have wm : IntKind.i64.wrap ((n : Int) * (k : Int)) = (P : Int) := by rw [hP, ← Int.natCast_mul]; exact Go.IntWalk.i64_in _ (by omega)
  rw [← hP]
  clear hP
  have HF : Hid (∀ W, Calls Tryd.prog 34 #[.int .i64 n, .int .i64 k] W fun e w' => e = .returned (.bool true) ∧ W = w') := fun W => fits_yes n k hn hk1 hk W
  go_enter Tryd.func15, Tryd.ntmps15
  go_wp2_with fail
  refine Calls.mono (HF.out _) ?_
  rintro e w' ⟨rfl, rfl⟩
  go_wp2_with fail
  refine Calls.mono (power_any P (by omega) _) ?_
  rintro e w2 ⟨q2, m2, d2, rfl, hw, hb⟩
  have K2 : w2.heap[w.heap.size]? = some (.cells #[.slice none 0 0] 29 (0, 0)) := (hb.block _ (by simp)).trans (hnew rfl)
  have R := Lib.hid (ret_num K2 (Nat.le_refl _) ((Bel.mk (ba1 w _)).keep hb).out hw (by decide))
  obtain ⟨_, a1, a2, a3, a4⟩ := One.of K2
  clear hw hb K2
  go_wp2
  exact bodyPost_ret (res_cell_tmp rfl _ _ _ 29 #[.slice q2 m2 d2] (0, 0) _ (.int .i64 0) rfl R.out.2.2 rfl Tryd.underlying29 rfl hinfo) rfl ⟨_, _, _, rfl, R.out.1, R.out.2.1⟩
/-- two boxes: the first is read behind the second -/
theorem box_keep {w : World} {b : Nat} {o o2 : Obj} (h : w.heap[b]? = some o) : (w.alloc o2).heap[b]? = some o := hal h
set_option maxRecDepth 100000 in
set_option maxHeartbeats 1000000 in
theorem without_any (n i : Nat) (hn : n ≤ 4095) (hi : i ≤ n) (w : World) : Calls Tryd.prog 35 #[.int .i64 n, .int .i64 i] w (RetN 34 w (256 ^ n - 256 ^ i)) := by
  have hinfo := info_nat
  have hle : Hid ((256 : Nat) ^ i ≤ 256 ^ n) := Nat.pow_le_pow_right (by decide) hi
  go_enter Tryd.func35, Tryd.ntmps35
  go_wp2_with fail
  refine Calls.mono (power_any n hn _) ?_
  rintro e w1 ⟨q1, m1, d1, rfl, hw, hb⟩
  have K1 : Hid (BlkIs w.heap.size (.cells #[.slice none 0 0] 29) w1) := BlkIs.keep (hnew rfl) hb
  have B1 : Hid (Bel w w1) := (Bel.mk (ba1 w _)).keep hb
  have F1 := Lib.hid hw
  clear hw hb
  go_wp2_with fail
  refine Calls.mono (power_any i (by omega) _) ?_
  rintro e w2 ⟨q2, m2, d2, rfl, hw, hb⟩
  have hbb : Below w1.heap.size w1 w2 := bl (ba1 w1 _) hb (ba1 w1 _).size
  have K2 := Lib.hid (K1.out.keep hbb)
  have B2 := Lib.hid (B1.out.keep hbb)
  have F2 := Lib.hid (F1.out.keep hbb)
  have X2 : w2.heap[w1.heap.size]? = some (.cells #[.slice q1 m1 d1] 29 (0, 0)) := (hb.block _ (by simp)).trans (hnew rfl)
  obtain ⟨_, e1, e2, e3, e4⟩ := One.of X2
  have G2 := Lib.hid hw
  clear hw hb hbb K1 B1 F1 X2
  go_wp2_with fail
  refine Calls.mono (Sub_ok F2.out.on1 G2.out.on1 hle.out) ?_
  rintro e w3 ⟨q3, m3, d3, rfl, hw, hb⟩
  have hbb : Below w2.heap.size w2 w3 := bl (ba1 w2 _) hb (ba1 w2 _).size
  have K3 := K2.out.keep hbb
  have R := Lib.hid (ret_num K3 (Nat.le_refl _) (B2.out.keep hbb).out hw (by decide))
  obtain ⟨_, a1, a2, a3, a4⟩ := One.of K3
  clear hw hb hbb K2 B2 F2 G2 K3 e1 e2 e3 e4
  go_wp2
  exact bodyPost_ret (res_cell_tmp rfl _ _ _ 29 #[.slice q3 m3 d3] (0, 0) _ (.int .i64 0) rfl R.out.2.2 rfl Tryd.underlying29 rfl hinfo) rfl ⟨_, _, _, rfl, R.out.1, R.out.2.1⟩
end Go.Proofs.YtbfmdfbnhakolaaDoor
