/- The contracts of the kernel's functions: halves. -/
import Derived.Test.YtofhdakggapahaaProg
import Derived.Test.YtofhdakggapahaaW1
namespace Go.Proofs.Ytofhdakggapahaa
open Go.RowKit Go.By
/-- the first k of sixteen products -/
def half (f : UInt8 → UInt8) (k : Nat) : Array Value := (List.ofFn fun j : Fin 16 => B8 (if j.val < k then f (UInt8.ofNat j.val) else 0)).toArray
def lowF (c x : UInt8) : UInt8 := Gf.gmul c x
def highF (c x : UInt8) : UInt8 := Gf.gmul c (x <<< 4)
theorem half_size (f : UInt8 → UInt8) (k : Nat) : (half f k).size = 16 := by simp [half]
theorem half_zero (f : UInt8 → UInt8) : half f 0 = (List.replicate 16 (Value.int .u8 0)).toArray := by
  unfold half; congr 1
theorem half_at (f : UInt8 → UInt8) (k j : Nat) (hj : j < 16) : (half f k)[j]? = some (B8 (if j < k then f (UInt8.ofNat j) else 0)) := by
  simp only [half, List.getElem?_toArray, List.getElem?_ofFn, hj, dif_pos]
theorem half_succ (f : UInt8 → UInt8) (k : Nat) (hk : k < 16) : (half f k).setIfInBounds k (B8 (f (UInt8.ofNat k))) = half f (k + 1) := by
  apply Array.ext_getElem?
  intro j
  by_cases hj : j < 16
  · rw [Array.getElem?_setIfInBounds, half_at f (k + 1) j hj]
    by_cases e : k = j
    · subst e; simp [half_size, hk]
    · rw [if_neg e, half_at f k j hj]
      congr 2
      by_cases h : j < k
      · simp [h, show j < k + 1 by omega]
      · simp [h, show ¬ j < k + 1 by omega]
  · rw [Array.getElem?_eq_none (by simp [half_size]; omega), Array.getElem?_eq_none (by simp [half_size]; omega)]
theorem rs_pair (w : World) (u v : Value) (T : TypeId) (x y : UInt8) (hu : u = B8 x) (hv : v = B8 y) : Rs B8 (w.alloc (.cells #[u, v] T)) (some ⟨w.heap.size, 0, none⟩) [x, y] := by
  intro i hi
  refine ⟨w.heap.size, 0, rfl, ?_⟩
  rw [Nat.zero_add, cell_of_row _ _ _ _ _ _ (heap_alloc_new w _)]
  match i, hi with
  | 0, _ => simp [hu]
  | 1, _ => simp [hv]
theorem Mul2_any (g : Nat) (w : World) (u v : Value) (T : TypeId) (x y : UInt8) (hg : g = w.heap.size) (hu : u = B8 x) (hv : v = B8 y) :
    Calls Try.prog 104 #[.slice (some ⟨g, 0, none⟩) 2 2] (w.alloc (.cells #[u, v] T)) fun e w' => e = .returned (B8 (Gf.gmul x y)) ∧ (w.alloc (.cells #[u, v] T)) = w' :=
  hg ▸ (Mul_any _ 2 [x, y] _ (rs_pair w u v T x y hu hv) (by simp)).mono fun e w' ⟨he, hw⟩ => ⟨by rw [he]; simp [Gf.one_gmul], hw⟩
theorem byte_nat {k : Nat} (hk : k < 256) : Value.int .u8 (k : Int) = B8 (UInt8.ofNat k) := by
  refine B8_congr ?_
  simp; omega
theorem byte_shl4' {k : Nat} (hk : k < 16) : Value.int .u8 ((k : Int) * 16) = B8 (UInt8.ofNat k <<< 4) := by
  refine B8_congr ?_
  rw [UInt8.toNat_shiftLeft]
  simp [Nat.shiftLeft_eq]; omega
theorem byte_shl4 {k : Nat} (hk : k < 16) : Value.int .u8 ((k : Int) * 16 % 256) = B8 (UInt8.ofNat k <<< 4) := by
  refine B8_congr ?_
  rw [UInt8.toNat_shiftLeft]
  simp [Nat.shiftLeft_eq]
set_option maxRecDepth 100000 in
set_option maxHeartbeats 400000 in
theorem halves_any (c : UInt8) (w : World) :
    Calls Try.prog 97 #[B8 c] w fun e w' => e = .returned (.tuple #[.agg (half (lowF c) 16), .agg (half (highF c) 16)]) ∧ Below w.heap.size w w' := by
  go_enter Try.func97, Try.ntmps97
  go_wp2
  go_loopw [7] (fun i wr => ∃ k : Nat, k ≤ 16 ∧ i = .int .i64 k ∧ (∃ z1, z1.size = 16 ∧ wr.heap[w.heap.size]? = some (.cells z1 132 (0, 0))) ∧ (∃ z2, z2.size = 16 ∧ wr.heap[w.heap.size + 1]? = some (.cells z2 132 (0, 0))) ∧
     wr.heap[w.heap.size + 1 + 1]? = some (.cells (half (lowF c) k) 132 (0, 0)) ∧ wr.heap[w.heap.size + 1 + 1 + 1]? = some (.cells (half (highF c) k) 132 (0, 0)) ∧ Below w.heap.size w wr) (fun i _ => 16 - (intOf i).toNat)
  case atStart =>
    refine ⟨0, by omega, rfl, ⟨(List.replicate 16 (Value.int .u8 0)).toArray, rfl, ?_⟩, ⟨(List.replicate 16 (Value.int .u8 0)).toArray, rfl, ?_⟩, ?_, ?_, ?_⟩
    · exact hal (hal (hal (hnew rfl)))
    · exact hal (hal (hnew (by simp)))
    · rw [half_zero]; exact hal (hnew (by simp))
    · rw [half_zero]; exact hnew (by simp)
    · exact (((((Below.refl _ _).alloc (Nat.le_refl _) _).alloc (by simp) _).alloc (by simp <;> omega) _).alloc (by simp <;> omega) _)
  case round =>
    obtain ⟨k, hk, rfl, ⟨z1, hz1, h1⟩, ⟨z2, hz2, h2⟩, h3, h4, hb⟩ := hrel
    by_cases hlt : k < 16
    · have c3 : ∀ o, (wr.alloc o).cell? ⟨w.heap.size + 1 + 1, k, none⟩ = some (B8 (if k < k then lowF c (UInt8.ofNat k) else 0)) := fun o => by
        rw [cell_of_row _ _ _ _ _ _ (hal h3), half_at _ _ _ hlt]
      have f3 : ∀ o, (wr.alloc o).frozen? ⟨w.heap.size + 1 + 1, k, none⟩ = false := fun o => frozen_of_row _ _ _ _ _ (hal h3)
      have e4 : ∀ o v o2, (((wr.alloc o).setCell ⟨w.heap.size + 1 + 1, k, none⟩ v).alloc o2).heap[w.heap.size + 1 + 1 + 1]? = some (.cells (half (highF c) k) 132 (0, 0)) := fun o v o2 => hal (hsc (hal h4) (by simp))
      have c4 : ∀ o v o2, (((wr.alloc o).setCell ⟨w.heap.size + 1 + 1, k, none⟩ v).alloc o2).cell? ⟨w.heap.size + 1 + 1 + 1, k, none⟩ = some (B8 (if k < k then highF c (UInt8.ofNat k) else 0)) := fun o v o2 => by
        rw [cell_of_row _ _ _ _ _ _ (e4 o v o2), half_at _ _ _ hlt]
      have f4 : ∀ o v o2, (((wr.alloc o).setCell ⟨w.heap.size + 1 + 1, k, none⟩ v).alloc o2).frozen? ⟨w.heap.size + 1 + 1 + 1, k, none⟩ = false := fun o v o2 => frozen_of_row _ _ _ _ _ (e4 o v o2)
      have HE := Lib.hid e4; clear e4
      go_wp2_with fail
      refine (Mul2_any _ _ _ _ _ c (UInt8.ofNat k) rfl rfl (byte_nat (by omega))).mono ?_; rintro e w' ⟨rfl, rfl⟩
      generalize hv1 : Gf.gmul c (UInt8.ofNat k) = v1
      have HV1 := Lib.hid hv1; clear hv1
      go_wp2_with fail
      refine Calls.mono (Mul2_any _ _ _ _ _ c (UInt8.ofNat k <<< 4) (by simp) rfl (byte_shl4' hlt)) ?_; rintro e w' ⟨rfl, rfl⟩
      generalize hv2 : Gf.gmul c (UInt8.ofNat k <<< 4) = v2
      have HV2 := Lib.hid hv2; clear hv2
      go_wp2_with fail
      go_roundw
      case rel =>
        have hs := hb.size
        refine ⟨k + 1, by omega, by go_num, ⟨z1, hz1, hsc (hal (hsc (hal h1) (by simp <;> omega))) (by simp <;> omega)⟩, ⟨z2, hz2, hsc (hal (hsc (hal h2) (by simp))) (by simp <;> omega)⟩, ?_, ?_, ?_⟩
        · rw [← half_succ _ _ hlt, lowF, HV1.out]
          exact hsc (hal (hss (hal h3))) (by simp)
        · rw [← half_succ _ _ hlt, highF, HV2.out]
          exact hss (HE.out _ _ _)
        · exact (((hb.alloc hs _).setCell (by simp <;> omega) _).alloc (by simp <;> omega) _).setCell (by simp <;> omega) _
      case measure => simp [intOf]; omega
    · obtain rfl : k = 16 := by omega
      clear hk hlt
      have hs := hb.size
      have hi : (Try.prog.info? 132).map (·.size) = some 16 := by kernel_rfl
      have hL : (half (lowF c) 16).all (·.oneCell') = true := by simp [half, Value.oneCell']
      have hH : (half (highF c) 16).all (·.oneCell') = true := by simp [half, Value.oneCell']
      have sL := half_size (lowF c) 16
      have sH := half_size (highF c) 16
      have fin : ∀ (W : World), W.heap[w.heap.size]? = some (.cells (half (lowF c) 16) 132 (0, 0)) → W.heap[w.heap.size + 1]? = some (.cells (half (highF c) 16) 132 (0, 0)) → Below w.heap.size w W →
          ∀ tmps : Array Value, tmps.getD 2 undef = .pointer (some ⟨w.heap.size, 0, none⟩) → tmps.getD 3 undef = .pointer (some ⟨w.heap.size + 1, 0, none⟩) →
          bodyPost Try.prog Try.f97 (fun e w' => e = .returned (.tuple #[.agg (half (lowF c) 16), .agg (half (highF c) 16)]) ∧ Below w.heap.size w w') .ret ⟨tmps, []⟩ W :=
        fun W g1 g2 gb tmps p1 p2 => bodyPost_ret (results_cell_row2 rfl tmps W _ _ _ _ _ _ _ _ _ p1 g1 p2 g2 Try.underlying132 rfl (hi.trans (by rw [sL])) (hi.trans (by rw [sH]))) rfl ⟨rfl, gb⟩
      have HF := Lib.hid fin
      clear fin
      go_wp2_with fail
      refine wp_region_any (by kernel_rfl) ?_
      change wpAny _ _ _ _ _ _ _ (World.drew _)
      have d1 : wr.drew.heap[w.heap.size]? = some (.cells z1 132 (0, 0)) := h1
      have d2 : wr.drew.heap[w.heap.size + 1]? = some (.cells z2 132 (0, 0)) := h2
      have d3 : wr.drew.heap[w.heap.size + 1 + 1]? = some (.cells (half (lowF c) 16) 132 (0, 0)) := h3
      have d4 : wr.drew.heap[w.heap.size + 1 + 1 + 1]? = some (.cells (half (highF c) 16) 132 (0, 0)) := h4
      have db : Below w.heap.size w wr.drew := hb.drew
      generalize wr.drew = W at *
      refine wpAny_ready (rs := [0, 1]) (by kernel_rfl) (by simp) ?_; refine AllReady.cons rfl (fun K hK => ?_) (AllReady.cons rfl (fun K hK => ?_) AllReady.nil)
      · refine step_load_row rfl 132 (.tmp 4) rfl (w.heap.size + 1 + 1) rfl 132 (half (lowF c) 16) (0, 0) _ (by first | exact d3 | exact hro d3 (by omega)) Try.underlying132 rfl (hi.trans (by rw [sL])) ?_; refine hK _ _ ?_; clear hK K
        refine wpAny_ready (rs := [1, 2]) (by kernel_rfl) (by simp) ?_; refine AllReady.cons rfl (fun K hK => ?_) (AllReady.cons rfl (fun K hK => ?_) AllReady.nil)
        · refine step_load_row rfl 132 (.tmp 5) rfl (w.heap.size + 1 + 1 + 1) rfl 132 (half (highF c) 16) (0, 0) _ (by first | exact d4 | exact hro d4 (by omega)) Try.underlying132 rfl (hi.trans (by rw [sH])) ?_; refine hK _ _ ?_; clear hK K
          refine wpAny_ready (rs := [2]) (by kernel_rfl) (by simp) ?_; refine AllReady.cons rfl (fun K hK => ?_) AllReady.nil
          refine step_store_row rfl 132 (.tmp 2) (.tmp 26) rfl w.heap.size (half (lowF c) 16) rfl rfl 132 z1 d1 (hi.trans (by rw [sL])) (by rw [hz1, sL]) hL ?_; refine hK _ _ ?_; clear hK K
          refine wpAny_ready (rs := [3]) (by kernel_rfl) (by simp) ?_; refine AllReady.cons rfl (fun K hK => ?_) AllReady.nil
          refine step_store_row rfl 132 (.tmp 3) (.tmp 27) rfl (w.heap.size + 1) (half (highF c) 16) rfl rfl 132 z2 (hro d2 (by omega)) (hi.trans (by rw [sH])) (by rw [hz2, sH]) hH ?_; refine hK _ _ ?_; clear hK K
          refine wpAny_done (by kernel_rfl) ?_ _; go_wp2; refine HF.out _ (hro (hrs d1) (by omega)) (hrs (hro d2 (by omega))) (below_setRow (below_setRow db (by omega) _) (by omega) _) _ ?_ ?_ <;> rfl
        · refine step_store_row rfl 132 (.tmp 2) (.tmp 26) rfl w.heap.size (half (lowF c) 16) rfl rfl 132 z1 d1 (hi.trans (by rw [sL])) (by rw [hz1, sL]) hL ?_; refine hK _ _ ?_; clear hK K
          refine wpAny_ready (rs := [1]) (by kernel_rfl) (by simp) ?_; refine AllReady.cons rfl (fun K hK => ?_) AllReady.nil
          refine step_load_row rfl 132 (.tmp 5) rfl (w.heap.size + 1 + 1 + 1) rfl 132 (half (highF c) 16) (0, 0) _ (by first | exact d4 | exact hro d4 (by omega)) Try.underlying132 rfl (hi.trans (by rw [sH])) ?_; refine hK _ _ ?_; clear hK K
          refine wpAny_ready (rs := [3]) (by kernel_rfl) (by simp) ?_; refine AllReady.cons rfl (fun K hK => ?_) AllReady.nil
          refine step_store_row rfl 132 (.tmp 3) (.tmp 27) rfl (w.heap.size + 1) (half (highF c) 16) rfl rfl 132 z2 (hro d2 (by omega)) (hi.trans (by rw [sH])) (by rw [hz2, sH]) hH ?_; refine hK _ _ ?_; clear hK K
          refine wpAny_done (by kernel_rfl) ?_ _; go_wp2; refine HF.out _ (hro (hrs d1) (by omega)) (hrs (hro d2 (by omega))) (below_setRow (below_setRow db (by omega) _) (by omega) _) _ ?_ ?_ <;> rfl
      · refine step_load_row rfl 132 (.tmp 5) rfl (w.heap.size + 1 + 1 + 1) rfl 132 (half (highF c) 16) (0, 0) _ (by first | exact d4 | exact hro d4 (by omega)) Try.underlying132 rfl (hi.trans (by rw [sH])) ?_; refine hK _ _ ?_; clear hK K
        refine wpAny_ready (rs := [0]) (by kernel_rfl) (by simp) ?_; refine AllReady.cons rfl (fun K hK => ?_) AllReady.nil
        refine step_load_row rfl 132 (.tmp 4) rfl (w.heap.size + 1 + 1) rfl 132 (half (lowF c) 16) (0, 0) _ (by first | exact d3 | exact hro d3 (by omega)) Try.underlying132 rfl (hi.trans (by rw [sL])) ?_; refine hK _ _ ?_; clear hK K
        refine wpAny_ready (rs := [2]) (by kernel_rfl) (by simp) ?_; refine AllReady.cons rfl (fun K hK => ?_) AllReady.nil
        refine step_store_row rfl 132 (.tmp 2) (.tmp 26) rfl w.heap.size (half (lowF c) 16) rfl rfl 132 z1 d1 (hi.trans (by rw [sL])) (by rw [hz1, sL]) hL ?_; refine hK _ _ ?_; clear hK K
        refine wpAny_ready (rs := [3]) (by kernel_rfl) (by simp) ?_; refine AllReady.cons rfl (fun K hK => ?_) AllReady.nil
        refine step_store_row rfl 132 (.tmp 3) (.tmp 27) rfl (w.heap.size + 1) (half (highF c) 16) rfl rfl 132 z2 (hro d2 (by omega)) (hi.trans (by rw [sH])) (by rw [hz2, sH]) hH ?_; refine hK _ _ ?_; clear hK K
        refine wpAny_done (by kernel_rfl) ?_ _; go_wp2; refine HF.out _ (hro (hrs d1) (by omega)) (hrs (hro d2 (by omega))) (below_setRow (below_setRow db (by omega) _) (by omega) _) _ ?_ ?_ <;> rfl
end Go.Proofs.Ytofhdakggapahaa
