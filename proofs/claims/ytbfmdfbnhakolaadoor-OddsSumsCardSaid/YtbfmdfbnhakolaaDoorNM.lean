/- Numbers: Pow, Sub. -/
import Derived.Test.YtbfmdfbnhakolaaDoorNL
namespace Go.By
open Go.RowKit
theorem one_cap : 1 < capN := Nat.lt_of_lt_of_le (show 1 < powW 1 by decide) (powW_mono (show 1 ≤ 512 by decide))
theorem RetP.two {T : TypeId} {w w' : World} {M N : Nat} {e : Ending} (h : RetP T w [M, N] e w') (hM : M < capN) : RetM T w (M * N) e w' := by
  have e2 : mulL [M, N] = M * N := by simp [mulL]
  rcases h with ⟨h1, h2⟩ | ⟨⟨j, hj⟩, h2⟩
  · have := h1 2
    rw [show [M, N].take 2 = [M, N] from rfl, e2] at this
    rw [e2] at h2
    exact Or.inl ⟨this, h2⟩
  · refine Or.inr ⟨?_, h2⟩
    match j, hj with
    | 0, hj => have := one_cap; rw [show mulL ([M, N].take 0) = 1 from rfl] at hj; omega
    | 1, hj => rw [show mulL ([M, N].take 1) = M * 1 from rfl] at hj; omega
    | j + 2, hj => rw [List.take_of_length_le (by simp), e2] at hj; exact hj
theorem RetP.three {T : TypeId} {w w' : World} {M N K : Nat} {e : Ending} (h : RetP T w [M, N, K] e w') (hM : M < capN) (h2 : M * N < capN) (h3 : M * N * K < capN) : RetN T w (M * N * K) e w' := by
  have e3 : mulL [M, N, K] = M * N * K := by simp [mulL, Nat.mul_assoc]
  rcases h with ⟨_, h⟩ | ⟨⟨j, hj⟩, _⟩
  · rwa [e3] at h
  · exfalso
    match j, hj with
    | 0, hj => have := one_cap; rw [show mulL ([M, N, K].take 0) = 1 from rfl] at hj; omega
    | 1, hj => rw [show mulL ([M, N, K].take 1) = M * 1 from rfl] at hj; omega
    | 2, hj => rw [show mulL ([M, N, K].take 2) = M * (N * 1) from rfl, Nat.mul_one] at hj; omega
    | j + 3, hj => rw [List.take_of_length_le (by simp), e3] at hj; omega
/-- a power, or that one on the way is too great -/
def RetW (T : TypeId) (w : World) (N k : Nat) (e : Ending) (w' : World) : Prop := ((∀ j, j ≤ k → N ^ j < capN) ∧ RetN T w (N ^ k) e w') ∨ ((∃ j, j ≤ k ∧ capN ≤ N ^ j) ∧ Ret0 w 16 e w')
end Go.By
namespace Go.Proofs.YtbfmdfbnhakolaaDoor
open Go.RowKit Go.By
set_option maxRecDepth 100000 in
set_option maxHeartbeats 1000000 in
theorem Pow_bad (q : Option Addr) (n c : Nat) (k : Int) (w : World) (hk : k < 0 ∨ 65536 < k) :
    Calls Tryd.prog 44 #[.agg #[.slice q n c], .int .i64 k] w (Ret0 w 2) := by
  have hinfo := info_nat
  have HB : Hid (∀ o o2, Below w.heap.size w ((w.alloc o).alloc o2)) := fun o o2 => al (al (Below.refl _ _) (Nat.le_refl _)) (by simp)
  have HX : Hid (∀ o o2, ((w.alloc o).alloc o2).heap[w.heap.size + 1]? = some o2) := fun o o2 => hnew (by simp)
  rcases hk with h | h
  · go_enter Tryd.func44, Tryd.ntmps44
    go_wp2
    exact bodyPost_ret (res_cell_tmp rfl _ _ _ 29 #[.slice none 0 0] (0, 0) _ (.int .i64 2) rfl (HX.out _ _) rfl Tryd.underlying29 rfl hinfo) rfl ⟨rfl, HB.out _ _⟩
  · have h0 : ¬ k < 0 := by omega
    go_enter Tryd.func44, Tryd.ntmps44
    go_wp2
    exact bodyPost_ret (res_cell_tmp rfl _ _ _ 29 #[.slice none 0 0] (0, 0) _ (.int .i64 2) rfl (HX.out _ _) rfl Tryd.underlying29 rfl hinfo) rfl ⟨rfl, HB.out _ _⟩
set_option maxRecDepth 100000 in
set_option maxHeartbeats 2000000 in
theorem Pow_any (p : Option Addr) (m c N k : Nat) (w : World) (h : Ws 34 w p m c N) (hk : k ≤ 65536) :
    Calls Tryd.prog 44 #[.agg #[.slice p m c], .int .i64 k] w (RetW 34 w N k) := by
  have hinfo := info_nat
  have H := Lib.hid h; clear h
  have hk1 : ¬ (k : Int) < 0 := by omega
  have hk2 : ¬ (65536 : Int) < (k : Int) := by omega
  go_enter Tryd.func44, Tryd.ntmps44
  go_wp2_with fail
  refine Calls.mono (Of_one _) ?_
  rintro e w1 ⟨q1, n1, c1, rfl, hw1, hb1⟩
  have k0 : w1.heap[w.heap.size + 1]? = some (.cells #[.slice none 0 0] 29 (0, 0)) := (hb1.block _ (by simp)).trans (hnew (by simp))
  have k2 : w1.heap[w.heap.size]? = some (.cells #[.slice p m c] 29 (0, 0)) := (hb1.block _ (by simp <;> omega)).trans (hal (hnew rfl))
  have HB : Hid (Below w.heap.size w w1) := bl (al (al (Below.refl _ _) (Nat.le_refl _)) (by simp)) hb1 (by simp <;> omega)
  have K0 : Hid (∀ o, (w1.alloc o).heap[w.heap.size + 1]? = some (.cells #[.slice none 0 0] 29 (0, 0)) ∧ (w1.alloc o).heap[w.heap.size]? = some (.cells #[.slice p m c] 29 (0, 0))) := fun o => ⟨hal k0, hal k2⟩
  have HW1 : Hid (∀ o, Ws 34 (w1.alloc o) q1 n1 c1 1) := fun o => hw1.keep (al (Below.refl _ _) (Nat.le_refl _))
  have HG : Hid (w.heap.size + 1 < w1.heap.size) := by have := blk_lt k0; exact this
  clear k0 k2 hw1 hb1
  go_wp2
  go_loopw [17] (fun i wr => ∃ (j : Nat) (q : Option Addr) (n d : Nat), j ≤ k ∧ i = .int .i64 j ∧ Hid (wr.heap[w.heap.size + 1]? = some (.cells #[.slice none 0 0] 29 (0, 0)) ∧ wr.heap[w.heap.size]? = some (.cells #[.slice p m c] 29 (0, 0))) ∧ Hid (wr.heap[w1.heap.size]? = some (.cells #[.slice q n d] 29 (0, 0))) ∧ Hid (Ws 34 wr q n d (N ^ j)) ∧ Hid (∀ i, i ≤ j → N ^ i < capN) ∧ Hid (Below w.heap.size w wr)) (fun i _ => k - (intOf i).toNat)
  case atStart =>
    refine ⟨0, q1, n1, c1, Nat.zero_le _, rfl, K0.out _, hnew rfl, ?_, ?_, al HB.out (by have := HG.out; omega)⟩
    · show Ws _ _ _ _ _ (N ^ 0)
      exact HW1.out _
    · intro i hi
      obtain rfl : i = 0 := by omega
      exact one_cap
  case round =>
    obtain ⟨j, q, n, d, hj, rfl, h0, h1, hw, hcaps, hB⟩ := hrel
    obtain ⟨_, a1, a2, a3, a4⟩ := One.of h0.out.1
    obtain ⟨_, d1, d2, d3, d4⟩ := One.of h0.out.2
    obtain ⟨_, b1, b2, b3, b4⟩ := One.of h1.out
    have hsz := hB.out.size
    by_cases hlt : j < k
    · have hjk : (j : Int) < (k : Int) := by omega
      clear hlt
      go_wp2_with fail
      refine Calls.mono (Mul_nat _ _ _ _ _ (Nsl.two (hnew rfl) (hw.out.keep (al (Below.refl _ _) (Nat.le_refl _))) ((H.out.keep hB.out).keep (al (Below.refl _ _) (Nat.le_refl _))))) ?_
      rintro e w5 hr0
      have hr := hr0.two (hcaps.out j (Nat.le_refl _))
      have hpow : N ^ j * N = N ^ (j + 1) := (Nat.pow_succ N j).symm
      rw [hpow] at hr
      have hb45 : ∀ {a}, Below (wr.alloc a).heap.size (wr.alloc a) w5 → Below wr.heap.size wr w5 := fun h => (al (Below.refl _ _) (Nat.le_refl _)).trans (h.mono (by simp))
      clear hr0 hpow
      rcases hr with ⟨hcap, q5, n5, c5, rfl, hw5, hb5⟩ | ⟨hcap, rfl, hb5⟩
      · have hb6 := hb45 hb5
        have k0 : w5.heap[w.heap.size + 1]? = some (.cells #[.slice none 0 0] 29 (0, 0)) := (hb6.block _ (blk_lt h0.out.1)).trans h0.out.1
        have k2 : w5.heap[w.heap.size]? = some (.cells #[.slice p m c] 29 (0, 0)) := (hb6.block _ (blk_lt h0.out.2)).trans h0.out.2
        have k1 : w5.heap[w1.heap.size]? = some (.cells #[.slice q n d] 29 (0, 0)) := (hb6.block _ (blk_lt h1.out)).trans h1.out
        obtain ⟨_, x1, x2, x3, x4⟩ := One.of k1
        have hg := HG.out
        have F : Hid (((w5.setCell ⟨w1.heap.size, 0, none⟩ (.slice q5 n5 c5)).heap[w.heap.size + 1]? = some (.cells #[.slice none 0 0] 29 (0, 0)) ∧ (w5.setCell ⟨w1.heap.size, 0, none⟩ (.slice q5 n5 c5)).heap[w.heap.size]? = some (.cells #[.slice p m c] 29 (0, 0))) ∧ (w5.setCell ⟨w1.heap.size, 0, none⟩ (.slice q5 n5 c5)).heap[w1.heap.size]? = some (.cells #[.slice q5 n5 c5] 29 (0, 0)) ∧ Ws 34 (w5.setCell ⟨w1.heap.size, 0, none⟩ (.slice q5 n5 c5)) q5 n5 c5 (N ^ (j + 1)) ∧ (∀ i, i ≤ j + 1 → N ^ i < capN) ∧ Below w.heap.size w (w5.setCell ⟨w1.heap.size, 0, none⟩ (.slice q5 n5 c5))) :=
          ⟨⟨hsc k0 (show w.heap.size + 1 ≠ w1.heap.size by omega), hsc k2 (show w.heap.size ≠ w1.heap.size by omega)⟩, hss k1, hw5.set k1 (by decide), fun i hi => by
            rcases Nat.lt_or_ge i (j + 1) with h | h
            · exact hcaps.out i (by omega)
            · obtain rfl : i = j + 1 := by omega
              exact hcap, ((hB.out.trans (hb6.mono (by omega)))).setCell (show w.heap.size ≤ w1.heap.size by omega) _⟩
        clear hb6 hb5 hw5 k0 k1 k2 hb45 hcap hg
        go_wp2
        go_roundw
        case rel => exact ⟨j + 1, _, _, _, by omega, by go_num, F.out.1, F.out.2.1, F.out.2.2.1, F.out.2.2.2.1, F.out.2.2.2.2⟩
        case measure => simp [intOf]; omega
      · have hb6 := hb45 hb5
        have k0 : w5.heap[w.heap.size + 1]? = some (.cells #[.slice none 0 0] 29 (0, 0)) := (hb6.block _ (blk_lt h0.out.1)).trans h0.out.1
        have k1 : w5.heap[w1.heap.size]? = some (.cells #[.slice q n d] 29 (0, 0)) := (hb6.block _ (blk_lt h1.out)).trans h1.out
        obtain ⟨_, x1, x2, x3, x4⟩ := One.of k1
        have hg := HG.out
        obtain ⟨y1, y2⟩ := One.later k0 w1.heap.size 0 (.slice none 0 0) (by omega)
        have K0 := Lib.hid (hsc k0 (show w.heap.size + 1 ≠ (⟨w1.heap.size, 0, none⟩ : Addr).block from (by show w.heap.size + 1 ≠ w1.heap.size; omega)) (v := .slice none 0 0))
        have F : Hid (capN ≤ N ^ (j + 1) ∧ j + 1 ≤ k ∧ Below w.heap.size w ((w5.setCell ⟨w1.heap.size, 0, none⟩ (.slice none 0 0)).setCell ⟨w.heap.size + 1, 0, none⟩ (.slice none 0 0))) :=
          ⟨hcap, by omega, ((hB.out.trans (hb6.mono (by omega))).setCell (show w.heap.size ≤ w1.heap.size by omega) _).setCell (show w.heap.size ≤ w.heap.size + 1 by omega) _⟩
        clear hb6 hb5 k0 k1 hb45 hcap hg
        go_wp2
        exact bodyPost_ret (res_cell_tmp rfl _ _ _ 29 #[.slice none 0 0] (0, 0) _ (.int .i64 16) rfl (hss K0.out) rfl Tryd.underlying29 rfl hinfo) rfl (Or.inr ⟨⟨_, F.out.2.1, F.out.1⟩, rfl, F.out.2.2⟩)
    · obtain rfl : j = k := by omega
      have HWE : Hid (Ws 34 (wr.setCell ⟨w.heap.size + 1, 0, none⟩ (.slice q n d)) q n d (N ^ j) ∧ (∀ i, i ≤ j → N ^ i < capN) ∧ Below w.heap.size w (wr.setCell ⟨w.heap.size + 1, 0, none⟩ (.slice q n d))) := ⟨hw.out.set h0.out.1 (by decide), hcaps.out, hB.out.setCell (show w.heap.size ≤ w.heap.size + 1 by omega) _⟩
      clear hw hlt
      go_wp2
      exact bodyPost_ret (res_cell_tmp rfl _ _ _ 29 #[.slice q n d] (0, 0) _ (.int .i64 0) rfl (hss h0.out.1) rfl Tryd.underlying29 rfl hinfo) rfl (Or.inl ⟨HWE.out.2.1, _, _, _, rfl, HWE.out.1, HWE.out.2.2⟩)
end Go.Proofs.YtbfmdfbnhakolaaDoor
