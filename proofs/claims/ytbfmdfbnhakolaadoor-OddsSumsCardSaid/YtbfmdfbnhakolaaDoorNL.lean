/- Numbers: Mul of any; Pow. -/
import Derived.Test.YtbfmdfbnhakolaaDoorNK
namespace Go.By
open Go.RowKit
def mulL : List Nat → Nat
  | [] => 1
  | x :: xs => x * mulL xs
theorem mulL_snoc : ∀ (xs : List Nat) (x : Nat), mulL (xs ++ [x]) = mulL xs * x
  | [], x => by simp [mulL]
  | y :: ys, x => by show y * mulL (ys ++ [x]) = y * mulL ys * x; rw [mulL_snoc ys x, Nat.mul_assoc]
theorem mulL_take {Ns : List Nat} {k N : Nat} (h : Ns[k]? = some N) : mulL (Ns.take (k + 1)) = mulL (Ns.take k) * N := by
  rw [List.take_add_one, h]; exact mulL_snoc _ _
/-- a product, or that one on the way is too great -/
def RetP (T : TypeId) (w : World) (Ns : List Nat) (e : Ending) (w' : World) : Prop := ((∀ j, mulL (Ns.take j) < capN) ∧ RetN T w (mulL Ns) e w') ∨ ((∃ j, capN ≤ mulL (Ns.take j)) ∧ Ret0 w 16 e w')
end Go.By
namespace Go.Proofs.YtbfmdfbnhakolaaDoor
open Go.RowKit Go.By
theorem Of_one (W : World) : Calls Tryd.prog 10 #[.int .u64 1] W (RetN1 34 W 1) := Of_any 1 W
set_option maxRecDepth 100000 in
set_option maxHeartbeats 2000000 in
theorem Mul_nat (p : Option Addr) (k c : Nat) (Ns : List Nat) (w : World) (h : Nsl 34 w p k c Ns) :
    Calls Tryd.prog 14 #[.slice p k c] w (RetP 34 w Ns) := by
  have hinfo := info_nat
  have hkm := h.max
  have H := Lib.hid h; clear h
  go_enter Tryd.func14, Tryd.ntmps14
  go_wp2_with fail
  refine Calls.mono (Of_one _) ?_
  rintro e w1 ⟨q1, n1, c1, rfl, hw1, hb1⟩
  have k0 : w1.heap[w.heap.size]? = some (.cells #[.slice none 0 0] 29 (0, 0)) := (hb1.block _ (by simp)).trans (hnew rfl)
  have HB : Hid (Below w.heap.size w w1) := bl (al (Below.refl _ _) (Nat.le_refl _)) hb1 (by simp)
  have K0 : Hid (∀ o, (w1.alloc o).heap[w.heap.size]? = some (.cells #[.slice none 0 0] 29 (0, 0))) := fun o => hal k0
  have HW1 : Hid (∀ o, Ws 34 (w1.alloc o) q1 n1 c1 1) := fun o => hw1.keep (al (Below.refl _ _) (Nat.le_refl _))
  have HG : Hid (w.heap.size ≠ w1.heap.size ∧ w.heap.size ≤ w1.heap.size) := ⟨by have := blk_lt k0; omega, by have := blk_lt k0; omega⟩
  clear k0 hw1 hb1
  go_wp2
  go_loopw [11] (fun i wr => ∃ (j : Nat) (q : Option Addr) (n d : Nat), j ≤ k ∧ i = .int .i64 j ∧ Hid (wr.heap[w.heap.size]? = some (.cells #[.slice none 0 0] 29 (0, 0))) ∧ Hid (wr.heap[w1.heap.size]? = some (.cells #[.slice q n d] 29 (0, 0))) ∧ Hid (Ws 34 wr q n d (mulL (Ns.take j))) ∧ Hid (∀ i, i ≤ j → mulL (Ns.take i) < capN) ∧ Hid (Below w.heap.size w wr)) (fun i _ => k - (intOf i).toNat)
  case atStart =>
    refine ⟨0, q1, n1, c1, Nat.zero_le _, rfl, K0.out _, hnew rfl, ?_, ?_, al HB.out HG.out.2⟩
    · show Ws _ _ _ _ _ (mulL (Ns.take 0))
      rw [List.take_zero]; exact HW1.out _
    · intro i hi
      obtain rfl : i = 0 := by omega
      rw [List.take_zero]; exact (HW1.out (.cells #[] 0)).lt
  case round =>
    obtain ⟨j, q, n, d, hj, rfl, h0, h1, hw, hcaps, hB⟩ := hrel
    obtain ⟨_, a1, a2, a3, a4⟩ := One.of h0.out
    obtain ⟨_, b1, b2, b3, b4⟩ := One.of h1.out
    have hsz := hB.out.size
    by_cases hlt : j < k
    · obtain ⟨N, hN⟩ : ∃ N, Ns[j]? = some N := ⟨Ns[j]'(by rw [H.out.len]; exact hlt), List.getElem?_eq_getElem _⟩
      obtain ⟨b, o, q2, m, d2, rfl, hc, hw2⟩ := H.out.elt j N hN
      have hcw := (hB.out.cell (p := ⟨b, o + j, none⟩) (lt_of_cell hc)).trans hc
      have hw2' : Hid (Ws 34 wr q2 m d2 N) := hw2.keep hB.out
      have hjk : (j : Int) < (k : Int) := by omega
      have HN := Lib.hid hN
      clear hc hw2 hN hlt
      go_wp2_with fail
      refine Calls.mono (times_then _ _ _ _ _ _ _ _ _ (hw.out.keep (al (Below.refl _ _) (Nat.le_refl _))) (hw2'.out.keep (al (Below.refl _ _) (Nat.le_refl _)))) ?_
      rintro e w4 ⟨g, nn, rfl, hb4, hmade⟩
      go_wp2_with fail
      refine Calls.mono hmade.out ?_
      rintro e w5 hr
      have hb45 : Below wr.heap.size w4 w5 → Below wr.heap.size wr w5 := fun h => (bl (al (Below.refl _ _) (Nat.le_refl _)) hb4 (by simp)).trans h
      have hsz4 := hb4.size
      simp at hsz4
      rcases hr with ⟨hcap, q5, n5, c5, rfl, hw5, hb5⟩ | ⟨hcap, rfl, hb5⟩
      · have hb6 := hb45 (hb5.mono (by omega))
        have k0 : w5.heap[w.heap.size]? = some (.cells #[.slice none 0 0] 29 (0, 0)) := (hb6.block _ (blk_lt h0.out)).trans h0.out
        have k1 : w5.heap[w1.heap.size]? = some (.cells #[.slice q n d] 29 (0, 0)) := (hb6.block _ (blk_lt h1.out)).trans h1.out
        obtain ⟨_, x1, x2, x3, x4⟩ := One.of k1
        have F : Hid ((w5.setCell ⟨w1.heap.size, 0, none⟩ (.slice q5 n5 c5)).heap[w.heap.size]? = some (.cells #[.slice none 0 0] 29 (0, 0)) ∧ (w5.setCell ⟨w1.heap.size, 0, none⟩ (.slice q5 n5 c5)).heap[w1.heap.size]? = some (.cells #[.slice q5 n5 c5] 29 (0, 0)) ∧ Ws 34 (w5.setCell ⟨w1.heap.size, 0, none⟩ (.slice q5 n5 c5)) q5 n5 c5 (mulL (Ns.take (j + 1))) ∧ (∀ i, i ≤ j + 1 → mulL (Ns.take i) < capN) ∧ Below w.heap.size w (w5.setCell ⟨w1.heap.size, 0, none⟩ (.slice q5 n5 c5))) :=
          ⟨hsc k0 HG.out.1, hss k1, by rw [mulL_take HN.out]; exact hw5.set k1 (by decide), fun i hi => by
            rcases Nat.lt_or_ge i (j + 1) with h | h
            · exact hcaps.out i (by omega)
            · obtain rfl : i = j + 1 := by omega
              rw [mulL_take HN.out]; exact hcap, ((hB.out.trans (hb6.mono (by omega)))).setCell HG.out.2 _⟩
        clear hb6 hb5 hb4 hw5 k0 k1 hb45 hcap hmade
        go_wp2
        go_roundw
        case rel => exact ⟨j + 1, _, _, _, by omega, by go_num, F.out.1, F.out.2.1, F.out.2.2.1, F.out.2.2.2.1, F.out.2.2.2.2⟩
        case measure => simp [intOf]; omega
      · have hb6 := hb45 (hb5.mono (by omega))
        have k0 : w5.heap[w.heap.size]? = some (.cells #[.slice none 0 0] 29 (0, 0)) := (hb6.block _ (blk_lt h0.out)).trans h0.out
        have k1 : w5.heap[w1.heap.size]? = some (.cells #[.slice q n d] 29 (0, 0)) := (hb6.block _ (blk_lt h1.out)).trans h1.out
        obtain ⟨_, x1, x2, x3, x4⟩ := One.of k1
        obtain ⟨y1, y2⟩ := One.later k0 w1.heap.size 0 (.slice none 0 0) HG.out.1
        have K0 := Lib.hid (hsc k0 (show w.heap.size ≠ (⟨w1.heap.size, 0, none⟩ : Addr).block from HG.out.1) (v := .slice none 0 0))
        have F : Hid (capN ≤ mulL (Ns.take (j + 1)) ∧ Below w.heap.size w ((w5.setCell ⟨w1.heap.size, 0, none⟩ (.slice none 0 0)).setCell ⟨w.heap.size, 0, none⟩ (.slice none 0 0))) :=
          ⟨by rw [mulL_take HN.out]; exact hcap, ((hB.out.trans (hb6.mono (by omega))).setCell HG.out.2 _).setCell (Nat.le_refl _) _⟩
        clear hb6 hb5 hb4 k0 k1 hb45 hcap hmade
        go_wp2
        exact bodyPost_ret (res_cell_tmp rfl _ _ _ 29 #[.slice none 0 0] (0, 0) _ (.int .i64 16) rfl (hss K0.out) rfl Tryd.underlying29 rfl hinfo) rfl (Or.inr ⟨⟨_, F.out.1⟩, rfl, F.out.2⟩)
    · obtain rfl : j = k := by omega
      have F : Hid (mulL (Ns.take j) = mulL Ns ∧ ∀ i, mulL (Ns.take i) < capN) := by
        have e : Ns.take j = Ns := List.take_of_length_le (by have := H.out.len; omega)
        refine ⟨by rw [e], fun i => ?_⟩
        rcases Nat.lt_or_ge i (j + 1) with h | h
        · exact hcaps.out i (by omega)
        · rw [List.take_of_length_le (by have := H.out.len; omega), ← e]; exact hcaps.out j (Nat.le_refl _)
      rw [F.out.1] at hw
      have HWE : Hid (Ws 34 (wr.setCell ⟨w.heap.size, 0, none⟩ (.slice q n d)) q n d (mulL Ns) ∧ (∀ i, mulL (Ns.take i) < capN) ∧ Below w.heap.size w (wr.setCell ⟨w.heap.size, 0, none⟩ (.slice q n d))) := ⟨hw.out.set h0.out (by decide), F.out.2, hB.out.setCell (Nat.le_refl _) _⟩
      clear hw hlt
      go_wp2
      exact bodyPost_ret (res_cell_tmp rfl _ _ _ 29 #[.slice q n d] (0, 0) _ (.int .i64 0) rfl (hss h0.out) rfl Tryd.underlying29 rfl hinfo) rfl (Or.inl ⟨HWE.out.2.1, _, _, _, rfl, HWE.out.1, HWE.out.2.2⟩)
end Go.Proofs.YtbfmdfbnhakolaaDoor
