/- The contracts of the kernel's functions: halves. The contracts of the kernel's functions: put. The contracts of slices.Clone, IndexFunc, ContainsFunc at bytes and rows. The contracts of the kernel's functions: Scale, Axpy, Dot, Zero. The contracts of the kernel's functions: nought, Sum, Comb. The contracts of the kernel's functions: Sum, Comb. The contracts of the vectors' functions: Lead, At, Zero, Unit, Of, Clone. Plain mathematics: the reference's product of two bytes is the field's. The contract of the reference's product. The contracts of the reference's functions of layer 2. The contracts of the rows' functions: Clone, Norm, Less. The contracts of the rows' functions: Less. The contracts of slices.Equal and of the rows' Same. The contracts of slices.Grow and Concat at bytes; of the whole of the symbols. The contracts of a grid's parts: blank, row, Width, Height, Same. The contracts of grid.Of, and of the reference's Of; Few. The contracts of grid.Unit and Rows. A slice of rows that the call owns. -/
import Derived.Test.YtofhdakggapahaaZk1
import Derived.Test.YtofhdakggapahaaProg
import Derived.BigRegion
import Derived.WalkKit
import Derived.WalkLawsBesides
import Derived.WalkSpells
import Derived.Lib.Hide
import Derived.Shelf.Abstract
import Derived.Deep.QuietTactic
import Derived.BigQuiet
import Derived.Deep.RegionHeld3
import Derived.Deep.RegionWith
import Derived.Lib.AppendZeros
import Derived.Deep.AppendLies
namespace Go.Proofs.Ytofhdakggapahaa
open Go.RowKit Go.By
/-- the first k of sixteen products -/
def half (f : UInt8 → UInt8) (k : Nat) : Array Value := (List.ofFn fun j : Fin 16 => B8 (if j.val < k then f (UInt8.ofNat j.val) else 0)).toArray
def lowF (c x : UInt8) : UInt8 := Gf.gmul c x
def highF (c x : UInt8) : UInt8 := Gf.gmul c (x <<< 4)
theorem half_size (f : UInt8 → UInt8) (k : Nat) : (half f k).size = 16 := by simp [half]
theorem half_zero (f : UInt8 → UInt8) : half f 0 = (List.replicate 16 (Value.int .u8 0)).toArray := by
  unfold half; congr 1
theorem half_at (f : UInt8 → UInt8) (k j : Nat) (hj : j < 16) : (half f k)[j]? = some (B8 (if j < k then f (UInt8.ofNat j) else 0)) := by
  simp only [half, List.getElem?_toArray, List.getElem?_ofFn, hj, dif_pos]
theorem half_succ (f : UInt8 → UInt8) (k : Nat) (hk : k < 16) : (half f k).setIfInBounds k (B8 (f (UInt8.ofNat k))) = half f (k + 1) := by
  apply Array.ext_getElem?
  intro j
  by_cases hj : j < 16
  · rw [Array.getElem?_setIfInBounds, half_at f (k + 1) j hj]
    by_cases e : k = j
    · subst e; simp [half_size, hk]
    · rw [if_neg e, half_at f k j hj]
      congr 2
      by_cases h : j < k
      · simp [h, show j < k + 1 by omega]
      · simp [h, show ¬ j < k + 1 by omega]
  · rw [Array.getElem?_eq_none (by simp [half_size]; omega), Array.getElem?_eq_none (by simp [half_size]; omega)]
theorem rs_pair (w : World) (u v : Value) (T : TypeId) (x y : UInt8) (hu : u = B8 x) (hv : v = B8 y) : Rs B8 (w.alloc (.cells #[u, v] T)) (some ⟨w.heap.size, 0, none⟩) [x, y] := by
  intro i hi
  refine ⟨w.heap.size, 0, rfl, ?_⟩
  rw [Nat.zero_add, cell_of_row _ _ _ _ _ _ (heap_alloc_new w _)]
  match i, hi with
  | 0, _ => simp [hu]
  | 1, _ => simp [hv]
theorem Mul2_any (g : Nat) (w : World) (u v : Value) (T : TypeId) (x y : UInt8) (hg : g = w.heap.size) (hu : u = B8 x) (hv : v = B8 y) :
    Calls Try.prog 104 #[.slice (some ⟨g, 0, none⟩) 2 2] (w.alloc (.cells #[u, v] T)) fun e w' => e = .returned (B8 (Gf.gmul x y)) ∧ (w.alloc (.cells #[u, v] T)) = w' :=
  hg ▸ (Mul_any _ 2 [x, y] _ (rs_pair w u v T x y hu hv) (by simp)).mono fun e w' ⟨he, hw⟩ => ⟨by rw [he]; simp [Gf.one_gmul], hw⟩
theorem byte_nat {k : Nat} (hk : k < 256) : Value.int .u8 (k : Int) = B8 (UInt8.ofNat k) := by
  refine B8_congr ?_
  simp; omega
theorem byte_shl4' {k : Nat} (hk : k < 16) : Value.int .u8 ((k : Int) * 16) = B8 (UInt8.ofNat k <<< 4) := by
  refine B8_congr ?_
  rw [UInt8.toNat_shiftLeft]
  simp [Nat.shiftLeft_eq]; omega
theorem byte_shl4 {k : Nat} (hk : k < 16) : Value.int .u8 ((k : Int) * 16 % 256) = B8 (UInt8.ofNat k <<< 4) := by
  refine B8_congr ?_
  rw [UInt8.toNat_shiftLeft]
  simp [Nat.shiftLeft_eq]
set_option maxRecDepth 100000 in
set_option maxHeartbeats 400000 in
theorem halves_any (c : UInt8) (w : World) :
    Calls Try.prog 97 #[B8 c] w fun e w' => e = .returned (.tuple #[.agg (half (lowF c) 16), .agg (half (highF c) 16)]) ∧ Below w.heap.size w w' := by
  go_enter Try.func97, Try.ntmps97
  go_wp2
  go_loopw [7] (fun i wr => ∃ k : Nat, k ≤ 16 ∧ i = .int .i64 k ∧ (∃ z1, z1.size = 16 ∧ wr.heap[w.heap.size]? = some (.cells z1 132 (0, 0))) ∧ (∃ z2, z2.size = 16 ∧ wr.heap[w.heap.size + 1]? = some (.cells z2 132 (0, 0))) ∧
     wr.heap[w.heap.size + 1 + 1]? = some (.cells (half (lowF c) k) 132 (0, 0)) ∧ wr.heap[w.heap.size + 1 + 1 + 1]? = some (.cells (half (highF c) k) 132 (0, 0)) ∧ Below w.heap.size w wr) (fun i _ => 16 - (intOf i).toNat)
  case atStart =>
    refine ⟨0, by omega, rfl, ⟨(List.replicate 16 (Value.int .u8 0)).toArray, rfl, ?_⟩, ⟨(List.replicate 16 (Value.int .u8 0)).toArray, rfl, ?_⟩, ?_, ?_, ?_⟩
    · exact hal (hal (hal (hnew rfl)))
    · exact hal (hal (hnew (by simp)))
    · rw [half_zero]; exact hal (hnew (by simp))
    · rw [half_zero]; exact hnew (by simp)
    · exact (((((Below.refl _ _).alloc (Nat.le_refl _) _).alloc (by simp) _).alloc (by simp <;> omega) _).alloc (by simp <;> omega) _)
  case round =>
    obtain ⟨k, hk, rfl, ⟨z1, hz1, h1⟩, ⟨z2, hz2, h2⟩, h3, h4, hb⟩ := hrel
    by_cases hlt : k < 16
    · have c3 : ∀ o, (wr.alloc o).cell? ⟨w.heap.size + 1 + 1, k, none⟩ = some (B8 (if k < k then lowF c (UInt8.ofNat k) else 0)) := fun o => by
        rw [cell_of_row _ _ _ _ _ _ (hal h3), half_at _ _ _ hlt]
      have f3 : ∀ o, (wr.alloc o).frozen? ⟨w.heap.size + 1 + 1, k, none⟩ = false := fun o => frozen_of_row _ _ _ _ _ (hal h3)
      have e4 : ∀ o v o2, (((wr.alloc o).setCell ⟨w.heap.size + 1 + 1, k, none⟩ v).alloc o2).heap[w.heap.size + 1 + 1 + 1]? = some (.cells (half (highF c) k) 132 (0, 0)) := fun o v o2 => hal (hsc (hal h4) (by simp))
      have c4 : ∀ o v o2, (((wr.alloc o).setCell ⟨w.heap.size + 1 + 1, k, none⟩ v).alloc o2).cell? ⟨w.heap.size + 1 + 1 + 1, k, none⟩ = some (B8 (if k < k then highF c (UInt8.ofNat k) else 0)) := fun o v o2 => by
        rw [cell_of_row _ _ _ _ _ _ (e4 o v o2), half_at _ _ _ hlt]
      have f4 : ∀ o v o2, (((wr.alloc o).setCell ⟨w.heap.size + 1 + 1, k, none⟩ v).alloc o2).frozen? ⟨w.heap.size + 1 + 1 + 1, k, none⟩ = false := fun o v o2 => frozen_of_row _ _ _ _ _ (e4 o v o2)
      have HE := Lib.hid e4; clear e4
      go_wp2_with fail
      refine (Mul2_any _ _ _ _ _ c (UInt8.ofNat k) rfl rfl (byte_nat (by omega))).mono ?_; rintro e w' ⟨rfl, rfl⟩
      generalize hv1 : Gf.gmul c (UInt8.ofNat k) = v1
      have HV1 := Lib.hid hv1; clear hv1
      go_wp2_with fail
      refine Calls.mono (Mul2_any _ _ _ _ _ c (UInt8.ofNat k <<< 4) (by simp) rfl (byte_shl4' hlt)) ?_; rintro e w' ⟨rfl, rfl⟩
      generalize hv2 : Gf.gmul c (UInt8.ofNat k <<< 4) = v2
      have HV2 := Lib.hid hv2; clear hv2
      go_wp2_with fail
      go_roundw
      case rel =>
        have hs := hb.size
        refine ⟨k + 1, by omega, by go_num, ⟨z1, hz1, hsc (hal (hsc (hal h1) (by simp <;> omega))) (by simp <;> omega)⟩, ⟨z2, hz2, hsc (hal (hsc (hal h2) (by simp))) (by simp <;> omega)⟩, ?_, ?_, ?_⟩
        · rw [← half_succ _ _ hlt, lowF, HV1.out]
          exact hsc (hal (hss (hal h3))) (by simp)
        · rw [← half_succ _ _ hlt, highF, HV2.out]
          exact hss (HE.out _ _ _)
        · exact (((hb.alloc hs _).setCell (by simp <;> omega) _).alloc (by simp <;> omega) _).setCell (by simp <;> omega) _
      case measure => simp [intOf]; omega
    · obtain rfl : k = 16 := by omega
      clear hk hlt
      have hs := hb.size
      have hi : (Try.prog.info? 132).map (·.size) = some 16 := by kernel_rfl
      have hL : (half (lowF c) 16).all (·.oneCell') = true := by simp [half, Value.oneCell']
      have hH : (half (highF c) 16).all (·.oneCell') = true := by simp [half, Value.oneCell']
      have sL := half_size (lowF c) 16
      have sH := half_size (highF c) 16
      have fin : ∀ (W : World), W.heap[w.heap.size]? = some (.cells (half (lowF c) 16) 132 (0, 0)) → W.heap[w.heap.size + 1]? = some (.cells (half (highF c) 16) 132 (0, 0)) → Below w.heap.size w W →
          ∀ tmps : Array Value, tmps.getD 2 undef = .pointer (some ⟨w.heap.size, 0, none⟩) → tmps.getD 3 undef = .pointer (some ⟨w.heap.size + 1, 0, none⟩) →
          bodyPost Try.prog Try.f97 (fun e w' => e = .returned (.tuple #[.agg (half (lowF c) 16), .agg (half (highF c) 16)]) ∧ Below w.heap.size w w') .ret ⟨tmps, []⟩ W :=
        fun W g1 g2 gb tmps p1 p2 => bodyPost_ret (results_cell_row2 rfl tmps W _ _ _ _ _ _ _ _ _ p1 g1 p2 g2 Try.underlying132 rfl (hi.trans (by rw [sL])) (hi.trans (by rw [sH]))) rfl ⟨rfl, gb⟩
      have HF := Lib.hid fin
      clear fin
      go_wp2_with fail
      refine wp_region_any (by kernel_rfl) ?_
      change wpAny _ _ _ _ _ _ _ (World.drew _)
      have d1 : wr.drew.heap[w.heap.size]? = some (.cells z1 132 (0, 0)) := h1
      have d2 : wr.drew.heap[w.heap.size + 1]? = some (.cells z2 132 (0, 0)) := h2
      have d3 : wr.drew.heap[w.heap.size + 1 + 1]? = some (.cells (half (lowF c) 16) 132 (0, 0)) := h3
      have d4 : wr.drew.heap[w.heap.size + 1 + 1 + 1]? = some (.cells (half (highF c) 16) 132 (0, 0)) := h4
      have db : Below w.heap.size w wr.drew := hb.drew
      generalize wr.drew = W at *
      refine wpAny_ready (rs := [0, 1]) (by kernel_rfl) (by simp) ?_; refine AllReady.cons rfl (fun K hK => ?_) (AllReady.cons rfl (fun K hK => ?_) AllReady.nil)
      · refine step_load_row rfl 132 (.tmp 4) rfl (w.heap.size + 1 + 1) rfl 132 (half (lowF c) 16) (0, 0) _ (by first | exact d3 | exact hro d3 (by omega)) Try.underlying132 rfl (hi.trans (by rw [sL])) ?_; refine hK _ _ ?_; clear hK K
        refine wpAny_ready (rs := [1, 2]) (by kernel_rfl) (by simp) ?_; refine AllReady.cons rfl (fun K hK => ?_) (AllReady.cons rfl (fun K hK => ?_) AllReady.nil)
        · refine step_load_row rfl 132 (.tmp 5) rfl (w.heap.size + 1 + 1 + 1) rfl 132 (half (highF c) 16) (0, 0) _ (by first | exact d4 | exact hro d4 (by omega)) Try.underlying132 rfl (hi.trans (by rw [sH])) ?_; refine hK _ _ ?_; clear hK K
          refine wpAny_ready (rs := [2]) (by kernel_rfl) (by simp) ?_; refine AllReady.cons rfl (fun K hK => ?_) AllReady.nil
          refine step_store_row rfl 132 (.tmp 2) (.tmp 26) rfl w.heap.size (half (lowF c) 16) rfl rfl 132 z1 d1 (hi.trans (by rw [sL])) (by rw [hz1, sL]) hL ?_; refine hK _ _ ?_; clear hK K
          refine wpAny_ready (rs := [3]) (by kernel_rfl) (by simp) ?_; refine AllReady.cons rfl (fun K hK => ?_) AllReady.nil
          refine step_store_row rfl 132 (.tmp 3) (.tmp 27) rfl (w.heap.size + 1) (half (highF c) 16) rfl rfl 132 z2 (hro d2 (by omega)) (hi.trans (by rw [sH])) (by rw [hz2, sH]) hH ?_; refine hK _ _ ?_; clear hK K
          refine wpAny_done (by kernel_rfl) ?_ _; go_wp2; refine HF.out _ (hro (hrs d1) (by omega)) (hrs (hro d2 (by omega))) (below_setRow (below_setRow db (by omega) _) (by omega) _) _ ?_ ?_ <;> rfl
        · refine step_store_row rfl 132 (.tmp 2) (.tmp 26) rfl w.heap.size (half (lowF c) 16) rfl rfl 132 z1 d1 (hi.trans (by rw [sL])) (by rw [hz1, sL]) hL ?_; refine hK _ _ ?_; clear hK K
          refine wpAny_ready (rs := [1]) (by kernel_rfl) (by simp) ?_; refine AllReady.cons rfl (fun K hK => ?_) AllReady.nil
          refine step_load_row rfl 132 (.tmp 5) rfl (w.heap.size + 1 + 1 + 1) rfl 132 (half (highF c) 16) (0, 0) _ (by first | exact d4 | exact hro d4 (by omega)) Try.underlying132 rfl (hi.trans (by rw [sH])) ?_; refine hK _ _ ?_; clear hK K
          refine wpAny_ready (rs := [3]) (by kernel_rfl) (by simp) ?_; refine AllReady.cons rfl (fun K hK => ?_) AllReady.nil
          refine step_store_row rfl 132 (.tmp 3) (.tmp 27) rfl (w.heap.size + 1) (half (highF c) 16) rfl rfl 132 z2 (hro d2 (by omega)) (hi.trans (by rw [sH])) (by rw [hz2, sH]) hH ?_; refine hK _ _ ?_; clear hK K
          refine wpAny_done (by kernel_rfl) ?_ _; go_wp2; refine HF.out _ (hro (hrs d1) (by omega)) (hrs (hro d2 (by omega))) (below_setRow (below_setRow db (by omega) _) (by omega) _) _ ?_ ?_ <;> rfl
      · refine step_load_row rfl 132 (.tmp 5) rfl (w.heap.size + 1 + 1 + 1) rfl 132 (half (highF c) 16) (0, 0) _ (by first | exact d4 | exact hro d4 (by omega)) Try.underlying132 rfl (hi.trans (by rw [sH])) ?_; refine hK _ _ ?_; clear hK K
        refine wpAny_ready (rs := [0]) (by kernel_rfl) (by simp) ?_; refine AllReady.cons rfl (fun K hK => ?_) AllReady.nil
        refine step_load_row rfl 132 (.tmp 4) rfl (w.heap.size + 1 + 1) rfl 132 (half (lowF c) 16) (0, 0) _ (by first | exact d3 | exact hro d3 (by omega)) Try.underlying132 rfl (hi.trans (by rw [sL])) ?_; refine hK _ _ ?_; clear hK K
        refine wpAny_ready (rs := [2]) (by kernel_rfl) (by simp) ?_; refine AllReady.cons rfl (fun K hK => ?_) AllReady.nil
        refine step_store_row rfl 132 (.tmp 2) (.tmp 26) rfl w.heap.size (half (lowF c) 16) rfl rfl 132 z1 d1 (hi.trans (by rw [sL])) (by rw [hz1, sL]) hL ?_; refine hK _ _ ?_; clear hK K
        refine wpAny_ready (rs := [3]) (by kernel_rfl) (by simp) ?_; refine AllReady.cons rfl (fun K hK => ?_) AllReady.nil
        refine step_store_row rfl 132 (.tmp 3) (.tmp 27) rfl (w.heap.size + 1) (half (highF c) 16) rfl rfl 132 z2 (hro d2 (by omega)) (hi.trans (by rw [sH])) (by rw [hz2, sH]) hH ?_; refine hK _ _ ?_; clear hK K
        refine wpAny_done (by kernel_rfl) ?_ _; go_wp2; refine HF.out _ (hro (hrs d1) (by omega)) (hrs (hro d2 (by omega))) (below_setRow (below_setRow db (by omega) _) (by omega) _) _ ?_ ?_ <;> rfl
end Go.Proofs.Ytofhdakggapahaa
namespace Go.Proofs.Ytofhdakggapahaa
open Go.RowKit Go.By
def axpy (c : UInt8) (xs ss : List UInt8) : List UInt8 := List.zipWith (fun x s => s ^^^ Gf.gmul c x) xs ss
theorem axpy_length (c : UInt8) (xs ss : List UInt8) (h : xs.length = ss.length) : (axpy c xs ss).length = ss.length := by simp [axpy, h]
theorem split_byte (b : UInt8) : b = UInt8.ofNat (b.toNat % 16) ^^^ (UInt8.ofNat (b.toNat / 16) <<< 4) := by
  revert b; refine Gf.all8 ?_; decide +kernel
theorem low_high (c b : UInt8) : lowF c (UInt8.ofNat (b.toNat % 16)) ^^^ highF c (UInt8.ofNat (b.toNat / 16)) = Gf.gmul c b := by
  unfold lowF highF
  rw [← Gf.gmul_xor_right, ← split_byte]
theorem half_cell {w : World} {g T : Nat} {f : UInt8 → UInt8} (h : w.heap[g]? = some (.cells (half f 16) T (0, 0))) (j : Nat) (hj : j < 16) : w.cell? ⟨g, j, none⟩ = some (B8 (f (UInt8.ofNat j))) := by
  rw [cell_of_row _ _ _ _ _ _ h, half_at _ _ _ hj, if_pos hj]
set_option maxRecDepth 100000 in
set_option maxHeartbeats 400000 in
theorem put_any (base n : Nat) (q p : Option Addr) (c1 c2 : Nat) (c : UInt8) (xs ss : List UInt8) (w : World) (hx : xs.length = n) (hs : ss.length = n) (hn : n ≤ 9223372036854775807)
    (hown : w.ownsRow base 5 1 (.slice q n c1) n (ss.map B8)) (hrow : Rs B8 w p xs) (hne : 0 < n → ∀ a, p = some a → ∀ a', q = some a' → a.block ≠ a'.block) :
    Calls Try.prog 81 #[.slice q n c1, B8 c, .slice p n c2] w fun e w' =>
      e = .returned (.tuple #[]) ∧ w'.ownsRow base 5 1 (.slice q n c1) n ((axpy c xs ss).map B8) ∧ w.grownBy w' (q.map (·.block)) := by
  have HX := Lib.hid hx; have HS := Lib.hid hs; clear hx hs
  have hi : (Try.prog.info? 132).map (·.size) = some 16 := by kernel_rfl
  have hL : (half (lowF c) 16).all (·.oneCell') = true := by simp [half, Value.oneCell']
  have hH : (half (highF c) 16).all (·.oneCell') = true := by simp [half, Value.oneCell']
  have sL := half_size (lowF c) 16
  have sH := half_size (highF c) 16
  go_enter Try.func81, Try.ntmps81
  go_wp2_with fail
  refine (halves_any _ _).mono ?_; rintro e w1 ⟨rfl, hb1⟩
  generalize hLO : half (lowF c) 16 = LO at *
  generalize hHI : half (highF c) 16 = HI at *
  have HLO := Lib.hid hLO; have HHI := Lib.hid hHI; clear hLO hHI
  have e1 : ∀ o1 o2, (((w1.alloc o1).alloc o2)).heap[w1.heap.size]? = some o1 := fun o1 o2 => hal (hnew rfl)
  have e2 : ∀ o1 o2 cs, (((w1.alloc o1).alloc o2).setRow w1.heap.size cs).heap[w1.heap.size + 1]? = some o2 := fun o1 o2 cs => hro (hnew (by simp)) (by simp)
  have E1 := Lib.hid e1; have E2 := Lib.hid e2; clear e1 e2
  go_wp2_with (first
    | (refine wpList_store_row (o := ⟨none, .store 132 (.tmp 6) (.tmp 13), _, _, _, _⟩) rfl 132 (.tmp 6) (.tmp 13) rfl w1.heap.size LO rfl rfl _ _ (E1.out _ _) (hi.trans (by rw [sL])) sL.symm hL ?_)
    | (refine wpList_store_row (o := ⟨none, .store 132 (.tmp 7) (.tmp 14), _, _, _, _⟩) rfl 132 (.tmp 7) (.tmp 14) rfl (w1.heap.size + 1) HI rfl rfl _ _ (E2.out _ _ _) (hi.trans (by rw [sH])) sH.symm hH ?_))
  generalize hW : (((w1.alloc _).alloc _).setRow w1.heap.size LO).setRow (w1.heap.size + 1) HI = W0
  have f1 : W0.heap[w1.heap.size]? = some (.cells LO 132 (0, 0)) := by rw [← hW]; exact hro (hrs (hal (hnew rfl))) (by omega)
  have f2 : W0.heap[w1.heap.size + 1]? = some (.cells HI 132 (0, 0)) := by rw [← hW]; exact hrs (hro (hnew (by simp)) (by omega))
  have fb : Below w.heap.size w W0 := by
    have := hb1.size
    rw [← hW]
    exact below_setRow (below_setRow ((hb1.alloc this _).alloc (by simp; omega) _) this _) (by omega) _
  have fg : w.heap.size ≤ w1.heap.size := hb1.size
  have fz : w1.heap.size + 1 < W0.heap.size := lt_of_block f2
  clear hW hb1 E1 E2
  generalize w1.heap.size = BL at *
  go_loopw [17] (fun i wr => ∃ k : Nat, k ≤ n ∧ i = .int .i64 k ∧ wr.ownsRow base 5 1 (.slice q n c1) n ((prog (axpy c xs ss) ss k).map B8) ∧ w.grownBy wr (q.map (·.block)) ∧
      wr.heap[BL]? = some (.cells LO 132 (0, 0)) ∧ wr.heap[BL + 1]? = some (.cells HI 132 (0, 0))) (fun i _ => n - (intOf i).toNat)
  case atStart =>
    refine ⟨0, Nat.zero_le _, rfl, ?_, ?_, f1, f2⟩
    · rw [prog_zero]
      exact hown.kept (row := none) ⟨fb.os, fb.tape, fb.output, fb.size, fun i hi _ => fb.block i hi⟩ (by rcases hq : Value.ownBlock _ with _ | g <;> simp)
    · exact ⟨fb.os, fb.tape, fb.output, fb.size, fun i hi _ => fb.block i hi⟩
  case round =>
    obtain ⟨k, hk, rfl, ho, hg, h1, h2⟩ := hrel
    by_cases hlt : k < n
    · obtain ⟨b, o, x, rfl, hc0, hx⟩ := hrow.at k (by have := HX.out; omega)
      obtain ⟨g, rfl, hbg, hgs⟩ := owns_at hown (by omega)
      have hbg' : b ≠ g := hne (by omega) _ rfl _ rfl
      have hc : wr.cell? ⟨b, o + k, none⟩ = some (B8 x) := (World.cell?_of_block (a := ⟨b, o + k, none⟩) (hg.block b (lt_of_cell hc0) (by simp; exact hbg'))).trans hc0
      obtain ⟨s, hs⟩ : ∃ s, ss[k]? = some s := ⟨_, List.getElem?_eq_getElem (by have := HS.out; omega)⟩
      have hcs : wr.cell? ⟨g, k, none⟩ = some (B8 s) := by
        rw [ho.cellAt k (by omega)]
        simp [prog_at (axpy c xs ss) ss k n (by rw [axpy_length _ _ _ (HX.out.trans HS.out.symm), HS.out]) HS.out hlt, hs]
      have hfs : wr.frozen? ⟨g, k, none⟩ = false := ho.frozenAt k
      have hsH := Lib.hid hs; clear hs
      have hx16 := x.toNat_lt
      obtain ⟨lv, hv, elh⟩ : ∃ lv hv, lv = lowF c (UInt8.ofNat (x.toNat % 16)) ∧ hv = highF c (UInt8.ofNat (x.toNat / 16)) := ⟨_, _, rfl, rfl⟩
      have elH := Lib.hid elh; clear elh
      have hlo : wr.cell? ⟨BL, x.toNat % 16, none⟩ = some (B8 lv) := by rw [elH.out.1]; exact half_cell (by rw [HLO.out]; exact h1) _ (by omega)
      have hhi : wr.cell? ⟨BL + 1, x.toNat / 16, none⟩ = some (B8 hv) := by rw [elH.out.2]; exact half_cell (by rw [HHI.out]; exact h2) _ (by omega)
      clear hc0
      go_wp2
      go_region
      all_goals go_wp2
      go_roundw
      case rel =>
        have st := ho.stored k (B8 (s ^^^ Gf.gmul c x))
        have eb : bits BinOp.xor IntKind.u8 (↑s.toNat) (bits BinOp.xor IntKind.u8 (↑lv.toNat) (↑hv.toNat)) = ((s ^^^ Gf.gmul c x).toNat : Int) := by
          rw [bits_xor, elH.out.1, elH.out.2, low_high, bits_xor]
        have ez : (axpy c xs ss)[k]? = some (s ^^^ Gf.gmul c x) := by
          have hk' : k < xs.length := by have := HX.out; omega
          simp [axpy, List.getElem?_zipWith, hsH.out, List.getElem?_eq_getElem hk', ← hx.out]
        rw [← List.map_set, prog_succ _ _ k n (by rw [axpy_length _ _ _ (HX.out.trans HS.out.symm), HS.out]) HS.out hlt _ ez] at st
        refine ⟨k + 1, by omega, by go_num, ?_, ?_, ?_, ?_⟩
        · rw [eb]; exact st.1
        · rw [eb]; exact grown_trans hg ⟨st.2.os, st.2.tape, st.2.output, st.2.size, st.2.block⟩
        · rw [eb]; exact hsc h1 (by simp; omega)
        · rw [eb]; exact hsc h2 (by simp; omega)
      case measure => simp [intOf]; omega
    · go_wp2
      go_end0
      refine ⟨rfl, ?_, hg⟩
      obtain rfl : k = n := by omega
      rwa [prog_full _ _ k (by rw [axpy_length _ _ _ (HX.out.trans HS.out.symm), HS.out]) HS.out] at ho
end Go.Proofs.Ytofhdakggapahaa
namespace Go.Proofs.Ytofhdakggapahaa
open Go.RowKit Go.By
theorem info_u8 : (Try.prog.info? 5).map (fun i => (i.zero, i.size, i.bytes)) = some (some (.int .u8 0), 1, 1) := by kernel_rfl
set_option maxHeartbeats 400000 in
theorem CloneB_any (p : Option Addr) (n c : Nat) (xs : List UInt8) (w : World) (h : Sl B8 w p n c xs) (hn : Room n) :
    Calls Try.prog 58 #[.slice p n c] w fun e w' => ∃ q c', e = .returned (.slice q n c') ∧ w'.ownsRow w.heap.size 5 1 (.slice q n c') n (xs.map B8) ∧ Below w.heap.size w w' := by
  obtain ⟨i0, hi, hz0, hz1, hz2⟩ := info_parts info_u8
  cases hp : p with
  | none =>
    subst hp
    obtain ⟨rfl, rfl⟩ := h.nil rfl
    have : xs = [] := List.eq_nil_of_length_eq_zero h.len
    subst this
    have hq := fun w => Lib.run_eql_slice_nil (P := Try.prog) w 25 5 none 0 0 0 0 Try.underlying25
    go_enter Try.func58, Try.ntmps58
    go_wp2
    go_ret
    exact ⟨none, 0, rfl, World.ownsRow_nil _ _ _ _, Below.refl _ _⟩
  | some ad =>
    subst hp
    have hq := fun w => Lib.run_eql_slice_nil (P := Try.prog) w 25 5 (some ad) n c 0 0 Try.underlying25
    have H := Lib.hid h
    clear h
    go_enter Try.func58, Try.ntmps58
    go_wp2_with (at_builtin; refine wpList_append_rs _ rfl _ _ 25 rfl w.heap.size 5 i0 (.int .u8 0) 1 Try.underlying25 hi hz0 hz1 hz2 rfl _ 0 [] rfl (World.ownsRow_lit w #[] 0 (Nat.le_refl _) (by simp [maxLen]) rfl) B8 _ _ _ xs (fun _ _ => rfl) rfl (H.out.keep ((Below.refl _ _).alloc (Nat.le_refl _) _)) ?c1 ?c2 ?c3 ?_)
    case c1 => have := H.out.le; have := H.out.max; omega
    case c2 => unfold Room at hn; omega
    case c3 => simp
    intro v' w' ho hg
    obtain ⟨q, c', rfl⟩ := owns_shape ho
    go_wp2
    go_ret
    exact ⟨q, c', rfl, ho, ((Below.refl _ _).alloc (Nat.le_refl _) _).grown hg (by simp) (by simp [Value.ownBlock])⟩
set_option maxHeartbeats 400000 in
theorem IndexFuncB_any {α : Type} (enc : α → Value) (f : α → Bool) (g : Nat) (lb : Array Value) (eg : Enters Try.prog g) (p : Option Addr) (n c : Nat) (xs : List α) (w : World) (h : Sl enc w p n c xs)
    (hf : ∀ (x : α), x ∈ xs → Calls Try.prog g (#[enc x] ++ lb) w fun e w' => e = .returned (.bool (f x)) ∧ w = w') :
    Calls Try.prog 105 #[.slice p n c, .func (.func g) #[] lb] w fun e w' => e = .returned (.int .i64 (idxf f xs)) ∧ w = w' := by
  have hn := h.bound
  have H := Lib.hid h; clear h
  have HF := Lib.hid hf; clear hf
  have eg' : ∀ args w, (callFunc g args).run Try.prog w = .ok (.enter g args) w := eg
  clear eg
  go_enter Try.func105, Try.ntmps105
  go_wp2
  go_loop [8] (fun i => ∃ k : Nat, k ≤ n ∧ i = .int .i64 k ∧ Hid (∀ j y, j < k → xs[j]? = some y → f y = false)) (fun i => n - (intOf i).toNat)
  case atStart => exact ⟨0, Nat.zero_le _, rfl, fun j y hj => by omega⟩
  case round =>
    obtain ⟨k, hk, rfl, hr⟩ := hrel
    by_cases hlt : k < n
    · obtain ⟨b, o, x, rfl, hc, hx⟩ := H.out.at k hlt
      have hm : x ∈ xs := List.mem_of_getElem? hx.out
      cases hfx : f x with
      | false =>
        have HQ := Lib.hid hfx; clear hfx
        go_wp2_with fail
        refine (HF.out x hm).mono ?_; rintro e w' ⟨rfl, rfl⟩
        rw [HQ.out]
        go_wp2
        go_round
        case rel =>
          refine ⟨k + 1, by omega, by go_num, fun j y hj hy => ?_⟩
          by_cases e : j = k
          · subst e; have := hx.out.symm.trans hy; cases this; exact HQ.out
          · exact hr.out j y (by omega) hy
        case measure => simp [intOf]; omega
      | true =>
        have HQ := Lib.hid hfx; clear hfx
        go_wp2_with fail
        refine (HF.out x hm).mono ?_; rintro e w' ⟨rfl, rfl⟩
        rw [HQ.out]
        go_wp2
        go_ret
        exact ⟨by rw [idxf_found hx.out HQ.out hr.out]; rfl, rfl⟩
    · go_wp2
      go_ret
      exact ⟨by rw [idxf_none (k := k) (by have := H.out.len; omega) hr.out]; rfl, rfl⟩
set_option maxHeartbeats 400000 in
theorem ContainsFuncB_any {α : Type} (enc : α → Value) (f : α → Bool) (g : Nat) (lb : Array Value) (eg : Enters Try.prog g) (p : Option Addr) (n c : Nat) (xs : List α) (w : World) (h : Sl enc w p n c xs)
    (hf : ∀ (x : α), x ∈ xs → Calls Try.prog g (#[enc x] ++ lb) w fun e w' => e = .returned (.bool (f x)) ∧ w = w') :
    Calls Try.prog 99 #[.slice p n c, .func (.func g) #[] lb] w fun e w' => e = .returned (.bool (xs.any f)) ∧ w = w' := by
  have H := Lib.hid h; clear h
  have HF := Lib.hid hf; clear hf
  have HE := Lib.hid eg; clear eg
  go_enter Try.func99, Try.ntmps99
  go_wp2_with fail
  refine (IndexFuncB_any enc f g lb HE.out p n c xs w H.out HF.out).mono ?_; rintro e w' ⟨rfl, rfl⟩
  go_wp2
  go_ret
  exact ⟨by rw [← idxf_ge]; rfl, rfl⟩
set_option maxHeartbeats 400000 in
theorem IndexFuncBB_any {α : Type} (enc : α → Value) (f : α → Bool) (g : Nat) (lb : Array Value) (eg : Enters Try.prog g) (p : Option Addr) (n c : Nat) (xs : List α) (w : World) (h : Sl enc w p n c xs)
    (hf : ∀ (x : α), x ∈ xs → Calls Try.prog g (#[enc x] ++ lb) w fun e w' => e = .returned (.bool (f x)) ∧ w = w') :
    Calls Try.prog 83 #[.slice p n c, .func (.func g) #[] lb] w fun e w' => e = .returned (.int .i64 (idxf f xs)) ∧ w = w' := by
  have hn := h.bound
  have H := Lib.hid h; clear h
  have HF := Lib.hid hf; clear hf
  have eg' : ∀ args w, (callFunc g args).run Try.prog w = .ok (.enter g args) w := eg
  clear eg
  go_enter Try.func83, Try.ntmps83
  go_wp2
  go_loop [8] (fun i => ∃ k : Nat, k ≤ n ∧ i = .int .i64 k ∧ Hid (∀ j y, j < k → xs[j]? = some y → f y = false)) (fun i => n - (intOf i).toNat)
  case atStart => exact ⟨0, Nat.zero_le _, rfl, fun j y hj => by omega⟩
  case round =>
    obtain ⟨k, hk, rfl, hr⟩ := hrel
    by_cases hlt : k < n
    · obtain ⟨b, o, x, rfl, hc, hx⟩ := H.out.at k hlt
      have hm : x ∈ xs := List.mem_of_getElem? hx.out
      cases hfx : f x with
      | false =>
        have HQ := Lib.hid hfx; clear hfx
        go_wp2_with fail
        refine (HF.out x hm).mono ?_; rintro e w' ⟨rfl, rfl⟩
        rw [HQ.out]
        go_wp2
        go_round
        case rel =>
          refine ⟨k + 1, by omega, by go_num, fun j y hj hy => ?_⟩
          by_cases e : j = k
          · subst e; have := hx.out.symm.trans hy; cases this; exact HQ.out
          · exact hr.out j y (by omega) hy
        case measure => simp [intOf]; omega
      | true =>
        have HQ := Lib.hid hfx; clear hfx
        go_wp2_with fail
        refine (HF.out x hm).mono ?_; rintro e w' ⟨rfl, rfl⟩
        rw [HQ.out]
        go_wp2
        go_ret
        exact ⟨by rw [idxf_found hx.out HQ.out hr.out]; rfl, rfl⟩
    · go_wp2
      go_ret
      exact ⟨by rw [idxf_none (k := k) (by have := H.out.len; omega) hr.out]; rfl, rfl⟩
set_option maxHeartbeats 400000 in
theorem ContainsFuncBB_any {α : Type} (enc : α → Value) (f : α → Bool) (g : Nat) (lb : Array Value) (eg : Enters Try.prog g) (p : Option Addr) (n c : Nat) (xs : List α) (w : World) (h : Sl enc w p n c xs)
    (hf : ∀ (x : α), x ∈ xs → Calls Try.prog g (#[enc x] ++ lb) w fun e w' => e = .returned (.bool (f x)) ∧ w = w') :
    Calls Try.prog 54 #[.slice p n c, .func (.func g) #[] lb] w fun e w' => e = .returned (.bool (xs.any f)) ∧ w = w' := by
  have H := Lib.hid h; clear h
  have HF := Lib.hid hf; clear hf
  have HE := Lib.hid eg; clear eg
  go_enter Try.func54, Try.ntmps54
  go_wp2_with fail
  refine (IndexFuncBB_any enc f g lb HE.out p n c xs w H.out HF.out).mono ?_; rintro e w' ⟨rfl, rfl⟩
  go_wp2
  go_ret
  exact ⟨by rw [← idxf_ge]; rfl, rfl⟩
end Go.Proofs.Ytofhdakggapahaa
namespace Go.Proofs.Ytofhdakggapahaa
open Go.RowKit Go.By
def axpyS (c : UInt8) (xs ys : List UInt8) : List UInt8 × Int := if xs.length = ys.length then (axpy c xs ys, 0) else ([], 4)
set_option maxHeartbeats 400000 in
theorem Axpy_any (c : UInt8) (p1 p2 : Option Addr) (n1 n2 c1 c2 : Nat) (xs ys : List UInt8) (w : World) (h1 : Sl B8 w p1 n1 c1 xs) (h2 : Sl B8 w p2 n2 c2 ys) (hn : Room n2) :
    Calls Try.prog 85 #[B8 c, .slice p1 n1 c1, .slice p2 n2 c2] w (RetB 5 w (axpyS c xs ys).1 (axpyS c xs ys).2) := by
  by_cases he : n1 = n2
  · obtain rfl := he
    have HR := Lib.hid (show axpyS c xs ys = (axpy c xs ys, 0) by simp [axpyS, h1.len, h2.len])
    have H1 := Lib.hid h1; have H2 := Lib.hid h2; clear h1 h2
    go_enter Try.func85, Try.ntmps85
    go_wp2_with fail
    refine (CloneB_any _ _ _ ys _ H2.out hn).mono ?_; rintro e w1 ⟨q, c', rfl, ho, hb⟩
    have HO := Lib.hid ho; clear ho
    go_wp2_with fail
    refine (put_any w.heap.size n1 q p1 c' c1 c xs ys w1 H1.out.len H2.out.len H1.out.bound HO.out (H1.out.keep hb).rs (fun h0 a ha a' ha' => by
      obtain ⟨b, o, hp, hlt⟩ := H1.out.rs.lt (by rw [H1.out.len]; exact h0)
      have := (owns_new HO.out a' ha').1
      rw [hp] at ha; cases ha; show b ≠ a'.block; omega)).mono ?_
    rintro e w2 ⟨rfl, ho2, hg⟩
    have HO2 := Lib.hid ho2; clear ho2
    go_wp2
    go_ret2
    rw [HR.out]
    exact ⟨q, n1, c', by rw [axpy_length _ _ _ (H1.out.len.trans H2.out.len.symm)]; exact H2.out.len, rfl, HO2.out, hb.grown hg hb.size (fun k hk => by
      cases q with
      | none => simp at hk
      | some a => simp at hk; have := (owns_new HO.out a rfl).1; omega)⟩
  · have HR := Lib.hid (show axpyS c xs ys = ([], 4) by simp [axpyS, h1.len, h2.len, he])
    have b1 := h1.bound; have b2 := h2.bound
    have hne : ((n1 : Int) != (n2 : Int)) = true := by simp; omega
    clear h1 h2
    go_enter Try.func85, Try.ntmps85
    go_wp2
    go_ret2
    rw [HR.out]
    exact RetB.nil _ _ _ _ (Below.refl _ _)
def dotF (a b : List UInt8) : UInt8 := (List.zipWith Gf.gmul a b).foldl (· ^^^ ·) 0
def dotS (a b : List UInt8) : UInt8 × Int := if a.length = b.length then (dotF a b, 0) else (0, 4)
theorem rs_pair' {W : World} {g : Nat} {u v : Value} {T : TypeId} {fr : Nat × Nat} {x y : UInt8} (hW : W.heap[g]? = some (.cells #[u, v] T fr)) (hu : u = B8 x) (hv : v = B8 y) : Rs B8 W (some ⟨g, 0, none⟩) [x, y] := by
  intro i hi
  refine ⟨g, 0, rfl, ?_⟩
  rw [Nat.zero_add, cell_of_row _ _ _ _ _ _ hW]
  match i, hi with
  | 0, _ => simp [hu]
  | 1, _ => simp [hv]
theorem Mul2 (g : Nat) (W : World) (u v : Value) (T : TypeId) (x y : UInt8) (hW : W.heap[g]? = some (.cells #[u, v] T (0, 0))) (hu : u = B8 x) (hv : v = B8 y) :
    Calls Try.prog 104 #[.slice (some ⟨g, 0, none⟩) 2 2] W fun e w' => e = .returned (B8 (Gf.gmul x y)) ∧ W = w' :=
  (Mul_any _ 2 [x, y] _ (rs_pair' hW hu hv) (by simp)).mono fun e w' ⟨he, hw⟩ => ⟨by rw [he]; simp [Gf.one_gmul], hw⟩
theorem zip_step {a b : List UInt8} {k : Nat} {x y : UInt8} (hx : a[k]? = some x) (hy : b[k]? = some y) :
    ((List.zipWith Gf.gmul a b).take (k + 1)).foldl (· ^^^ ·) 0 = ((List.zipWith Gf.gmul a b).take k).foldl (· ^^^ ·) 0 ^^^ Gf.gmul x y := by
  have hz : (List.zipWith Gf.gmul a b)[k]? = some (Gf.gmul x y) := by simp [List.getElem?_zipWith, hx, hy]
  obtain ⟨hk, hz⟩ := List.getElem?_eq_some_iff.1 hz
  rw [foldl_take_succ _ _ _ _ hk, hz]
theorem enters_zero : Enters Try.prog 98 := enters_of Try.func98 (by kernel_rfl) rfl
set_option maxHeartbeats 400000 in
theorem Zero1_any (x : UInt8) (w : World) : Calls Try.prog 98 #[B8 x] w fun e w' => e = .returned (.bool (decide (x ≠ 0))) ∧ w = w' := by
  have hz := nat_ne_zero x
  generalize decide (x ≠ 0) = d at *
  go_enter Try.func98, Try.ntmps98
  go_wp2
  go_ret
  exact ⟨rfl, rfl⟩
def zeroS (xs : List UInt8) : Bool := xs.all (fun x => decide (x = 0))
set_option maxHeartbeats 400000 in
theorem Zero_any (p : Option Addr) (n c : Nat) (xs : List UInt8) (w : World) (h : Sl B8 w p n c xs) :
    Calls Try.prog 88 #[.slice p n c] w fun e w' => e = .returned (.bool (zeroS xs)) ∧ w = w' := by
  have HR := Lib.hid (show (!(xs.any fun x => decide (x ≠ 0))) = zeroS xs by simp [zeroS, List.any_eq_not_all_not])
  have H := Lib.hid h; clear h
  go_enter Try.func88, Try.ntmps88
  go_wp2_with fail
  refine (ContainsFuncB_any B8 (fun x => decide (x ≠ 0)) 98 #[] enters_zero p n c xs w H.out (fun x _ => Zero1_any x w)).mono ?_; rintro e w' ⟨rfl, rfl⟩
  generalize (xs.any fun x => decide (x ≠ 0)) = d at HR
  go_wp2
  go_ret
  exact ⟨by rw [← HR.out]; rfl, rfl⟩
theorem info_make : True := trivial
set_option maxHeartbeats 400000 in
theorem Scale_any (c : UInt8) (p : Option Addr) (n cc : Nat) (xs : List UInt8) (w : World) (h : Sl B8 w p n cc xs) (hn : Room n) :
    Calls Try.prog 90 #[B8 c, .slice p n cc] w (RetB1 5 w (xs.map (Gf.gmul c))) := by
  obtain ⟨i0, hi, hz0, hz1, hz2⟩ := info_parts info_u8
  have hmap : axpy c xs (List.replicate n 0) = xs.map (Gf.gmul c) := by
    have := h.len
    apply List.ext_getElem?
    intro j
    simp only [axpy, List.getElem?_zipWith, List.getElem?_map]
    by_cases hj : j < n
    · simp [hj, this]
    · simp [show xs.length ≤ j by omega]
  have HM := Lib.hid hmap; clear hmap
  have hm1 : n ≤ maxLen := by have := h.le; have := h.max; omega
  have H := Lib.hid h; clear h
  have hm2 : 1 * n ≤ 281474976710656 := by unfold Room at hn; omega
  have HM1 := Lib.hid hm1; have HM2 := Lib.hid hm2; clear hm1 hm2
  go_enter Try.func90, Try.ntmps90
  go_wp2_with (at_make; refine wpList_make_full _ rfl _ _ 25 rfl w.heap.size 5 i0 (.int .u8 0) 1 Try.underlying25 hi hz0 hz1 .i64 .i64 _ _ n rfl rfl rfl rfl (by rw [hz2]; exact HM2.out) HM1.out (Nat.le_refl _) ?_)
  intro w1 ho hg
  have ho' : w1.ownsRow w.heap.size 5 1 (.slice (some ⟨w.heap.size, 0, none⟩) n n) n ((List.replicate n (0 : UInt8)).map B8) := by
    have e : (madeCells #[Value.int .u8 0] n).toList = (List.replicate n (0 : UInt8)).map B8 := by
      rw [List.map_replicate]; exact toList_madeCells_one _ _
    rw [← e]; exact ho
  have HO := Lib.hid ho'; clear ho ho'
  have hb : Below w.heap.size w w1 := (Below.refl _ _).grown hg (Nat.le_refl _) (by simp)
  have HB := Lib.hid hb; clear hb hg
  go_wp2_with fail
  refine (put_any w.heap.size n (some ⟨w.heap.size, 0, none⟩) p n cc c xs (List.replicate n 0) w1 H.out.len (by simp) H.out.bound HO.out (H.out.keep HB.out).rs (fun h0 a ha a' ha' => by
      obtain ⟨b, o, hp, hlt⟩ := H.out.rs.lt (by rw [H.out.len]; exact h0)
      rw [hp] at ha; cases ha; cases ha'; show b ≠ _; simp; omega)).mono ?_
  rintro e w2 ⟨rfl, ho2, hg⟩
  have HO2 := Lib.hid ho2; clear ho2
  go_wp2
  go_ret
  exact ⟨_, n, n, by rw [List.length_map]; exact H.out.len, rfl, HM.out ▸ HO2.out, HB.out.grown hg HB.out.size (fun k hk => by simp at hk; omega)⟩
end Go.Proofs.Ytofhdakggapahaa
namespace Go.Proofs.Ytofhdakggapahaa
open Go.RowKit Go.By
theorem enters_nought : Enters Try.prog 96 := enters_of Try.func96 (by kernel_rfl) rfl
set_option maxHeartbeats 400000 in
theorem nought1_any (q : Option Addr) (m c B n : Nat) (w : World) (hB : w.cell? ⟨B, 0, none⟩ = some (.int .i64 n)) :
    Calls Try.prog 96 #[.slice q m c, .pointer (some ⟨B, 0, none⟩)] w fun e w' => e = .returned (.bool ((m : Int) != n)) ∧ w = w' := by
  go_enter Try.func96, Try.ntmps96
  go_wp2
  go_ret
  exact ⟨rfl, rfl⟩
/-- as many noughts as the first row has, or a code -/
def noughtS : List (List UInt8) → List UInt8 × Int
  | [] => ([], 0)
  | x :: l => if (x :: l).all (fun y => decide (y.length = x.length)) then (List.replicate x.length 0, 0) else ([], 4)
theorem noughtS_len {xss : List (List UInt8)} (h : (noughtS xss).2 = 0) : ∀ xs, xs ∈ xss → xs.length = (noughtS xss).1.length := by
  cases xss with
  | nil => intro xs hx; simp at hx
  | cons x l =>
    intro xs hx
    simp only [noughtS] at h ⊢
    by_cases ha : (x :: l).all (fun y => decide (y.length = x.length)) = true
    · rw [if_pos ha]
      have := List.all_eq_true.1 ha xs hx
      simpa using this
    · rw [if_neg ha] at h; simp at h
theorem noughtS_code (xss : List (List UInt8)) : (noughtS xss).2 = 0 ∨ ((noughtS xss).2 = 4 ∧ (noughtS xss).1 = []) := by
  cases xss with
  | nil => exact .inl rfl
  | cons x l =>
    simp only [noughtS]
    by_cases ha : (x :: l).all (fun y => decide (y.length = x.length)) = true
    · rw [if_pos ha]; exact .inl rfl
    · rw [if_neg ha]; exact .inr ⟨rfl, rfl⟩
def lenNe (n : Nat) : Value → Bool
  | .slice _ m _ => (m : Int) != n
  | _ => false
theorem any_vals {w : World} {n : Nat} {vs : List Value} {xss : List (List UInt8)} (hl : vs.length = xss.length)
    (hv : ∀ (i : Nat) (v : Value), vs[i]? = some v → ∃ xs q c', xss[i]? = some xs ∧ v = Value.slice q xs.length c' ∧ Sl B8 w q xs.length c' xs) :
    vs.any (lenNe n) = !(xss.all (fun y => decide (y.length = n))) := by
  rw [List.all_eq_not_any_not, Bool.not_not, Bool.eq_iff_iff]
  simp only [List.any_eq_true]
  constructor
  · rintro ⟨v, hm, h⟩
    obtain ⟨i, hi, e⟩ := List.getElem_of_mem hm
    obtain ⟨xs, q, c', hx, rfl, _⟩ := hv i v (by rw [List.getElem?_eq_getElem hi, e])
    refine ⟨xs, List.mem_of_getElem? hx, ?_⟩
    simp [lenNe] at h ⊢; omega
  · rintro ⟨xs, hm, h⟩
    obtain ⟨i, hi, e⟩ := List.getElem_of_mem hm
    have hi' : i < vs.length := by omega
    obtain ⟨ys, q, c', hx, hv', _⟩ := hv i _ (List.getElem?_eq_getElem hi')
    refine ⟨_, List.getElem_mem hi', ?_⟩
    rw [hv']
    rw [List.getElem?_eq_getElem hi, e] at hx
    cases hx
    simp [lenNe] at h ⊢; omega
set_option maxRecDepth 100000 in
set_option maxHeartbeats 400000 in
theorem nought_any (p : Option Addr) (n c : Nat) (xss : List (List UInt8)) (w : World) (h : Sl2 w p n c xss) (hr : ∀ xs, xs ∈ xss → Room xs.length) :
    Calls Try.prog 80 #[.slice p n c] w (RetB 5 w (noughtS xss).1 (noughtS xss).2) := by
  obtain ⟨i0, hi, hz0, hz1, hz2⟩ := info_parts info_u8
  have hb := h.bound
  by_cases h0 : n = 0
  · subst h0
    have : xss = [] := List.eq_nil_of_length_eq_zero h.len
    subst this
    clear h hr
    go_enter Try.func80, Try.ntmps80
    go_wp2
    go_ret2
    exact RetB.nil _ _ _ _ (Below.refl _ _)
  · have hn0 : ((n : Int) == 0) = false := by simp; omega
    obtain ⟨b, o, q, m, c', xs, rfl, hc, hs, hx⟩ := h.at 0 (by omega)
    obtain ⟨vs, hvs, hvv⟩ := h.vals
    have hax := any_vals (n := m) (hvs.len.trans h.len.symm) hvv
    have hmem := List.mem_of_getElem? hx.out
    have hrm := hr xs hmem
    have hml := hs.len
    have HS : Hid (noughtS xss = if xss.all (fun y => decide (y.length = m)) then (List.replicate m 0, 0) else ([], 4)) := by
      cases xss with
      | nil => simp at hmem
      | cons x l => have := hx.out; simp at this; subst this; rw [← hml]; rfl
    generalize xss.all (fun y => decide (y.length = m)) = ok at hax HS
    rw [Nat.add_zero] at hc
    have HV := Lib.hid hvs; have HW := Lib.hid hvv; have HX := Lib.hid hax; have HRm := Lib.hid hrm; have HM := Lib.hid hs
    have hlt := lt_of_cell hc
    have hnp : (0 : Int) < (n : Int) := by omega
    clear hvs hvv hax hr hx hrm h h0 hmem hml hs
    go_enter Try.func80, Try.ntmps80
    go_wp2_with fail
    have HC := fun (W : World) (hW : W.cell? ⟨w.heap.size, 0, none⟩ = some (.int .i64 m)) (hV : Sl id W (some ⟨b, o, none⟩) n c vs) =>
      ContainsFuncBB_any id (lenNe m) 96 #[.pointer (some ⟨w.heap.size, 0, none⟩)] enters_nought (some ⟨b, o, none⟩) n c vs W hV (fun v hv => by
        obtain ⟨i, hi, e⟩ := List.getElem_of_mem hv
        obtain ⟨ys, q', c'', _, rfl, _⟩ := HW.out i v (by rw [List.getElem?_eq_getElem hi, e])
        exact nought1_any q' _ c'' w.heap.size m W hW)
    refine (HC _ ?_ ?_).mono ?_
    · exact cell_of_row _ _ 0 #[.int .i64 m] _ _ (hnew rfl)
    · exact HV.out.keep ((Below.refl _ _).alloc (Nat.le_refl _) _)
    rintro e w' ⟨rfl, rfl⟩
    rw [HX.out]
    cases ok with
    | false =>
      go_wp2
      go_ret2
      rw [HS.out]
      exact RetB.nil _ _ _ _ ((Below.refl _ _).alloc (Nat.le_refl _) _)
    | true =>
      have hm1 : m ≤ maxLen := by have := HM.out.le; have := HM.out.max; omega
      have hm2 : 1 * m ≤ 281474976710656 := by have := HRm.out; rw [HM.out.len] at this; unfold Room at this; omega
      have HM1 := Lib.hid hm1; have HM2 := Lib.hid hm2; clear hm1 hm2
      go_wp2_with (at_make; refine wpList_make_full _ rfl _ _ 25 rfl w.heap.size 5 i0 (.int .u8 0) 1 Try.underlying25 hi hz0 hz1 .i64 .i64 _ _ m rfl rfl rfl rfl (by rw [hz2]; exact HM2.out) HM1.out (by simp) ?_)
      intro w1 ho hg
      have ho' : w1.ownsRow w.heap.size 5 1 (.slice (some ⟨w.heap.size + 1, 0, none⟩) m m) m ((List.replicate m (0 : UInt8)).map B8) := by
        have e : (madeCells #[Value.int .u8 0] m).toList = (List.replicate m (0 : UInt8)).map B8 := by
          rw [List.map_replicate]; exact toList_madeCells_one _ _
        rw [← e]; exact ho
      have HO := Lib.hid ho'; clear ho ho'
      have HB := Lib.hid (((Below.refl w.heap.size w).alloc (Nat.le_refl _) _).grown hg (by simp) (by simp))
      clear hg
      go_wp2
      go_ret2
      rw [HS.out]
      exact ⟨_, m, m, by simp [Hid], rfl, HO.out, HB.out⟩
end Go.Proofs.Ytofhdakggapahaa
namespace Go.Proofs.Ytofhdakggapahaa
open Go.RowKit Go.By
def combF (z : List UInt8) (cs : List UInt8) (xss : List (List UInt8)) : List UInt8 := (List.zip cs xss).foldl (fun s r => axpy r.1 r.2 s) z
def combS (cs : List UInt8) (xss : List (List UInt8)) : List UInt8 × Int :=
  if cs.length = xss.length then (if (noughtS xss).2 = 0 then (combF (noughtS xss).1 cs xss, 0) else ([], 4)) else ([], 4)
def sumS (xss : List (List UInt8)) : List UInt8 × Int :=
  if (noughtS xss).2 = 0 then (combF (noughtS xss).1 (List.replicate xss.length 1) xss, 0) else ([], 4)
theorem combF_len (cs : List UInt8) (xss : List (List UInt8)) (m : Nat) (h : ∀ xs, xs ∈ xss → xs.length = m) : ∀ z : List UInt8, z.length = m → (combF z cs xss).length = m := by
  induction xss generalizing cs with
  | nil => intro z hz; simpa [combF] using hz
  | cons x l ih =>
    intro z hz
    cases cs with
    | nil => simpa [combF] using hz
    | cons c cs =>
      have := ih cs (fun xs hx => h xs (List.mem_cons_of_mem _ hx)) (axpy c x z) (by rw [axpy_length _ _ _ ((h x List.mem_cons_self).trans hz.symm)]; exact hz)
      simpa [combF] using this
theorem combF_step {z : List UInt8} {cs : List UInt8} {xss : List (List UInt8)} {k : Nat} {c : UInt8} {x : List UInt8} (hc : cs[k]? = some c) (hx : xss[k]? = some x) :
    combF z (cs.take (k + 1)) (xss.take (k + 1)) = axpy c x (combF z (cs.take k) (xss.take k)) := by
  have e : ∀ j, List.zip (cs.take j) (xss.take j) = (List.zip cs xss).take j := fun j => by simp [List.zip, List.take_zipWith]
  have hz : (List.zip cs xss)[k]? = some (c, x) := by simp [List.zip, List.getElem?_zipWith, hc, hx]
  obtain ⟨hk, hz⟩ := List.getElem?_eq_some_iff.1 hz
  simp only [combF, e]
  rw [foldl_take_succ _ _ _ _ hk, hz]
set_option maxRecDepth 100000 in
set_option maxHeartbeats 400000 in
theorem Comb_any (p1 p2 : Option Addr) (n1 n2 c1 c2 : Nat) (cs : List UInt8) (xss : List (List UInt8)) (w : World) (h1 : Sl B8 w p1 n1 c1 cs) (h2 : Sl2 w p2 n2 c2 xss) (hr : ∀ xs, xs ∈ xss → Room xs.length) :
    Calls Try.prog 50 #[.slice p1 n1 c1, .slice p2 n2 c2] w (RetB 5 w (combS cs xss).1 (combS cs xss).2) := by
  have b1 := h1.bound; have b2 := h2.bound
  by_cases he : n1 = n2
  · obtain rfl := he
    have HC := Lib.hid (noughtS_code xss)
    have HR : Hid (combS cs xss = if (noughtS xss).2 = 0 then (combF (noughtS xss).1 cs xss, 0) else ([], 4)) := by unfold combS; rw [if_pos (h1.len.trans h2.len.symm)]; rfl
    have H1 := Lib.hid h1; have H2 := Lib.hid h2; have HM := Lib.hid hr; clear h1 h2 hr
    go_enter Try.func50, Try.ntmps50
    go_wp2_with fail
    refine (nought_any _ _ _ xss _ H2.out HM.out).mono ?_; rintro e w1 ⟨q, m, c', hm, rfl, ho, hb⟩
    have HO := Lib.hid ho; clear ho
    rcases HC.out with h0 | ⟨h0, _⟩
    · have HL := Lib.hid (noughtS_len h0)
      rw [h0]
      rw [if_pos h0] at HR
      have HZ := Lib.hid h0
      clear h0
      go_wp2_with fail
      go_loopw [25] (fun i wr => ∃ k : Nat, k ≤ n1 ∧ i = .int .i64 k ∧ wr.ownsRow w.heap.size 5 1 (.slice q m c') m ((combF (noughtS xss).1 (cs.take k) (xss.take k)).map B8) ∧ Below w.heap.size w wr) (fun i _ => n1 - (intOf i).toNat)
      case atStart => exact ⟨0, Nat.zero_le _, rfl, by simpa [combF] using HO.out, hb⟩
      case round =>
        obtain ⟨k, hk, rfl, ho, hw⟩ := hrel
        have HOk := Lib.hid ho; clear ho
        by_cases hlt : k < n1
        · obtain ⟨b, o, x, rfl, hc, hx⟩ := (H1.out.keep hw).at k hlt
          obtain ⟨b', o', q', m', c'', row, rfl, hc0, hs', hy⟩ := H2.out.at k hlt
          have hc' := (hw.cell (p := ⟨b', o' + k, none⟩) (lt_of_cell hc0)).trans hc0
          clear hc0
          have hml : m' = m := by rw [← hs'.len, HL.out row (List.mem_of_getElem? hy.out)]; exact hm.out
          subst hml
          have HS' := Lib.hid hs'; clear hs'
          have hold : 0 < m' → ∀ a, q' = some a → a.block < w.heap.size := fun h0 a ha => by
            obtain ⟨b3, o3, hp3, hlt3⟩ := HS'.out.rs.lt (by rw [HS'.out.len]; exact h0)
            rw [hp3] at ha; cases ha; exact hlt3
          go_wp2_with fail
          refine (put_any w.heap.size m' q q' c' c'' x row (combF (noughtS xss).1 (cs.take k) (xss.take k)) wr HS'.out.len (combF_len _ _ m' (fun xs hx => (HL.out xs (List.mem_of_mem_take hx)).trans hm.out) _ hm.out) HS'.out.bound HOk.out (HS'.out.keep hw).rs (fun h0 a ha a' ha' => by
            have := hold h0 a ha
            have := (owns_new HOk.out a' ha').1
            omega)).mono ?_
          rintro e w2 ⟨rfl, ho2, hg⟩
          have HO2 := Lib.hid ho2; clear ho2
          go_wp2
          go_roundw
          case rel =>
            refine ⟨k + 1, by omega, by go_num, ?_, hw.grown hg hw.size (fun j hj => ?_)⟩
            · rw [combF_step hx.out hy.out]; exact HO2.out
            · cases q with
              | none => simp at hj
              | some a => simp at hj; have := (owns_new HOk.out a rfl).1; omega
          case measure => simp [intOf]; omega
        · go_wp2
          go_ret2
          rw [HR.out]
          have e1 : cs.take k = cs := List.take_of_length_le (by have := H1.out.len; omega)
          have e2 : xss.take k = xss := List.take_of_length_le (by have := H2.out.len; omega)
          have := HOk.out
          rw [e1, e2] at this
          exact ⟨q, m, c', combF_len _ _ m (fun xs hx => (HL.out xs hx).trans hm.out) _ hm.out, rfl, this, hw⟩
    · rw [if_neg (by rw [h0]; decide)] at HR
      rw [h0]
      clear h0
      go_wp2
      go_ret2
      rw [HR.out]
      exact RetB.nil _ _ _ _ hb
  · have HR := Lib.hid (show combS cs xss = ([], 4) by simp [combS, h1.len, h2.len, he])
    have hne : ((n1 : Int) != (n2 : Int)) = true := by simp; omega
    clear h1 h2 hr
    go_enter Try.func50, Try.ntmps50
    go_wp2
    go_ret2
    rw [HR.out]
    exact RetB.nil _ _ _ _ (Below.refl _ _)
theorem rep_at {n k : Nat} (h : k < n) : (List.replicate n (1 : UInt8))[k]? = some 1 := by simp [h]
end Go.Proofs.Ytofhdakggapahaa
namespace Go.Proofs.Ytofhdakggapahaa
open Go.RowKit Go.By
set_option maxHeartbeats 400000 in
theorem IndexFuncV_any {α : Type} (enc : α → Value) (f : α → Bool) (g : Nat) (lb : Array Value) (eg : Enters Try.prog g) (p : Option Addr) (n c : Nat) (xs : List α) (w : World) (h : Sl enc w p n c xs)
    (hf : ∀ (x : α), x ∈ xs → Calls Try.prog g (#[enc x] ++ lb) w fun e w' => e = .returned (.bool (f x)) ∧ w = w') :
    Calls Try.prog 86 #[.slice p n c, .func (.func g) #[] lb] w fun e w' => e = .returned (.int .i64 (idxf f xs)) ∧ w = w' := by
  have hn := h.bound
  have H := Lib.hid h; clear h
  have HF := Lib.hid hf; clear hf
  have eg' : ∀ args w, (callFunc g args).run Try.prog w = .ok (.enter g args) w := eg
  clear eg
  go_enter Try.func86, Try.ntmps86
  go_wp2
  go_loop [8] (fun i => ∃ k : Nat, k ≤ n ∧ i = .int .i64 k ∧ Hid (∀ j y, j < k → xs[j]? = some y → f y = false)) (fun i => n - (intOf i).toNat)
  case atStart => exact ⟨0, Nat.zero_le _, rfl, fun j y hj => by omega⟩
  case round =>
    obtain ⟨k, hk, rfl, hr⟩ := hrel
    by_cases hlt : k < n
    · obtain ⟨b, o, x, rfl, hc, hx⟩ := H.out.at k hlt
      have hm : x ∈ xs := List.mem_of_getElem? hx.out
      cases hfx : f x with
      | false =>
        have HQ := Lib.hid hfx; clear hfx
        go_wp2_with fail
        refine (HF.out x hm).mono ?_; rintro e w' ⟨rfl, rfl⟩
        rw [HQ.out]
        go_wp2
        go_round
        case rel =>
          refine ⟨k + 1, by omega, by go_num, fun j y hj hy => ?_⟩
          by_cases e : j = k
          · subst e; have := hx.out.symm.trans hy; cases this; exact HQ.out
          · exact hr.out j y (by omega) hy
        case measure => simp [intOf]; omega
      | true =>
        have HQ := Lib.hid hfx; clear hfx
        go_wp2_with fail
        refine (HF.out x hm).mono ?_; rintro e w' ⟨rfl, rfl⟩
        rw [HQ.out]
        go_wp2
        go_ret
        exact ⟨by rw [idxf_found hx.out HQ.out hr.out]; rfl, rfl⟩
    · go_wp2
      go_ret
      exact ⟨by rw [idxf_none (k := k) (by have := H.out.len; omega) hr.out]; rfl, rfl⟩
set_option maxHeartbeats 400000 in
theorem CloneV_any (p : Option Addr) (n c : Nat) (xs : List UInt8) (w : World) (h : Sl B8 w p n c xs) (hn : Room n) :
    Calls Try.prog 82 #[.slice p n c] w fun e w' => ∃ q c', e = .returned (.slice q n c') ∧ w'.ownsRow w.heap.size 5 1 (.slice q n c') n (xs.map B8) ∧ Below w.heap.size w w' := by
  obtain ⟨i0, hi, hz0, hz1, hz2⟩ := info_parts info_u8
  cases hp : p with
  | none =>
    subst hp
    obtain ⟨rfl, rfl⟩ := h.nil rfl
    have : xs = [] := List.eq_nil_of_length_eq_zero h.len
    subst this
    have hq := fun w => Lib.run_eql_slice_nil (P := Try.prog) w 59 5 none 0 0 0 0 Try.underlying59
    go_enter Try.func82, Try.ntmps82
    go_wp2
    go_ret
    exact ⟨none, 0, rfl, World.ownsRow_nil _ _ _ _, Below.refl _ _⟩
  | some ad =>
    subst hp
    have hq := fun w => Lib.run_eql_slice_nil (P := Try.prog) w 59 5 (some ad) n c 0 0 Try.underlying59
    have H := Lib.hid h
    clear h
    go_enter Try.func82, Try.ntmps82
    go_wp2_with (at_builtin; refine wpList_append_rs _ rfl _ _ 59 rfl w.heap.size 5 i0 (.int .u8 0) 1 Try.underlying59 hi hz0 hz1 hz2 rfl _ 0 [] rfl (World.ownsRow_lit w #[] 0 (Nat.le_refl _) (by simp [maxLen]) rfl) B8 _ _ _ xs (fun _ _ => rfl) rfl (H.out.keep ((Below.refl _ _).alloc (Nat.le_refl _) _)) ?c1 ?c2 ?c3 ?_)
    case c1 => have := H.out.le; have := H.out.max; omega
    case c2 => unfold Room at hn; omega
    case c3 => simp
    intro v' w' ho hg
    obtain ⟨q, c', rfl⟩ := owns_shape ho
    go_wp2
    go_ret
    exact ⟨q, c', rfl, ho, ((Below.refl _ _).alloc (Nat.le_refl _) _).grown hg (by simp) (by simp [Value.ownBlock])⟩
def leadS (v : List UInt8) : Int := idxf (fun b => decide (b ≠ 0)) v
def atS (v : List UInt8) (i : Int) : UInt8 := if 0 ≤ i then v.getD i.toNat 0 else 0
theorem enters_lead : Enters Try.prog 87 := enters_of Try.func87 (by kernel_rfl) rfl
set_option maxHeartbeats 400000 in
theorem Lead1_any (x : UInt8) (w : World) : Calls Try.prog 87 #[B8 x] w fun e w' => e = .returned (.bool (decide (x ≠ 0))) ∧ w = w' := by
  have hz := nat_ne_zero x
  generalize decide (x ≠ 0) = d at *
  go_enter Try.func87, Try.ntmps87
  go_wp2
  go_ret
  exact ⟨rfl, rfl⟩
set_option maxHeartbeats 400000 in
theorem Lead_any (p : Option Addr) (n c : Nat) (v : List UInt8) (w : World) (h : Sl B8 w p n c v) :
    Calls Try.prog 62 #[.slice p n c] w fun e w' => e = .returned (.int .i64 (leadS v)) ∧ w = w' := by
  have H := Lib.hid h; clear h
  go_enter Try.func62, Try.ntmps62
  go_wp2_with fail
  refine (IndexFuncV_any B8 (fun x => decide (x ≠ 0)) 87 #[] enters_lead p n c v w H.out (fun x _ => Lead1_any x w)).mono ?_; rintro e w' ⟨rfl, rfl⟩
  generalize hL : idxf (fun x => decide (x ≠ 0)) v = L
  have HL := Lib.hid hL; clear hL
  go_wp2
  go_ret
  exact ⟨by rw [leadS, HL.out]; rfl, rfl⟩
set_option maxHeartbeats 400000 in
theorem At_any (p : Option Addr) (n c : Nat) (v : List UInt8) (i : Int) (w : World) (h : Sl B8 w p n c v) :
    Calls Try.prog 61 #[.slice p n c, .int .i64 i] w fun e w' => e = .returned (B8 (atS v i)) ∧ w = w' := by
  have hb := h.bound
  by_cases h0 : 0 ≤ i
  · by_cases h1 : i < n
    · obtain ⟨k, rfl⟩ := Int.eq_ofNat_of_zero_le h0
      obtain ⟨b, o, x, rfl, hc, hx⟩ := h.at k (by omega)
      have HR : Hid (atS v (k : Int) = x) := by simp [Hid, atS, List.getD, hx.out]
      have h0' : ¬ ((k : Int) < 0) := by omega
      clear h h0
      go_enter Try.func61, Try.ntmps61
      go_wp2
      go_ret
      exact ⟨by rw [HR.out]; rfl, rfl⟩
    · have HR : Hid (atS v i = 0) := by
        simp only [Hid, atS, if_pos h0, List.getD]
        rw [List.getElem?_eq_none (by have := h.len; omega)]; rfl
      have h0' : ¬ (i < 0) := by omega
      have h1' : (n : Int) ≤ i := by omega
      clear h
      go_enter Try.func61, Try.ntmps61
      go_wp2
      go_ret
      exact ⟨by rw [HR.out]; rfl, rfl⟩
  · have HR : Hid (atS v i = 0) := by simp only [Hid, atS, if_neg h0]
    have h0' : i < 0 := by omega
    clear h
    go_enter Try.func61, Try.ntmps61
    go_wp2
    go_ret
    exact ⟨by rw [HR.out]; rfl, rfl⟩
set_option maxHeartbeats 400000 in
theorem VZero_any (p : Option Addr) (n c : Nat) (v : List UInt8) (w : World) (h : Sl B8 w p n c v) :
    Calls Try.prog 63 #[.slice p n c] w fun e w' => e = .returned (.bool (zeroS v)) ∧ w = w' := by
  have H := Lib.hid h; clear h
  go_enter Try.func63, Try.ntmps63
  go_wp2_with fail
  refine (Zero_any p n c v w H.out).mono ?_; rintro e w' ⟨rfl, rfl⟩
  go_wp2
  go_ret
  exact ⟨rfl, rfl⟩
/-- one result: a row in new memory -/
def RetR (T : TypeId) (w : World) (r : List UInt8 × List UInt8) (e : Ending) (w' : World) : Prop :=
  ∃ q1 m1 c1 q2 m2 c2, Hid (r.1.length = m1) ∧ Hid (r.2.length = m2) ∧ e = .returned (.agg #[.slice q1 m1 c1, .slice q2 m2 c2]) ∧
    w'.ownsRow w.heap.size T 1 (.slice q1 m1 c1) m1 (r.1.map B8) ∧ w'.ownsRow w.heap.size T 1 (.slice q2 m2 c2) m2 (r.2.map B8) ∧ Below w.heap.size w w'
set_option maxHeartbeats 400000 in
theorem Of_any (p1 p2 : Option Addr) (n1 c1 n2 c2 : Nat) (v d : List UInt8) (w : World) (h1 : Sl B8 w p1 n1 c1 v) (h2 : Sl B8 w p2 n2 c2 d) (r1 : Room n1) (r2 : Room n2) :
    Calls Try.prog 51 #[.slice p1 n1 c1, .slice p2 n2 c2] w (RetR 5 w (v, d)) := by
  have H1 := Lib.hid h1; have H2 := Lib.hid h2; clear h1 h2
  go_enter Try.func51, Try.ntmps51
  go_wp2_with fail
  refine (CloneV_any _ _ _ v _ (H1.out.keep ((Below.refl _ _).alloc (Nat.le_refl _) _)) r1).mono ?_; rintro e w1 ⟨q1, c1', rfl, ho1, hb1⟩
  have HO1 := Lib.hid ho1; clear ho1
  go_wp2_with fail
  refine Calls.mono (CloneB_any _ _ _ d _ (H2.out.keep (bl (al (Below.refl _ _) (Nat.le_refl _)) hb1 (by simp))) r2) ?_; rintro e w2 ⟨q2, c2', rfl, ho2, hb2⟩
  have HO2 := Lib.hid ho2; clear ho2
  have e2 : w2.heap[w.heap.size]? = some (.cells #[.slice none 0 0, .slice none 0 0] 61 (0, 0)) := by
    rw [hb2.block _ (by have := hb1.size; simp at this; omega), hb1.block _ (by simp)]; exact hnew rfl
  have f0 : w2.cell? ⟨w.heap.size, 0, none⟩ = some (.slice none 0 0) := cell_of_row _ _ 0 _ _ _ e2
  have f1 : w2.cell? ⟨w.heap.size, 1, none⟩ = some (.slice none 0 0) := cell_of_row _ _ 1 _ _ _ e2
  have g0 : w2.frozen? ⟨w.heap.size, 0, none⟩ = false := frozen_of_row _ _ 0 _ _ e2
  have g1 : w2.frozen? ⟨w.heap.size, 1, none⟩ = false := frozen_of_row _ _ 1 _ _ e2
  have E2 := Lib.hid e2; clear e2
  have hi : (Try.prog.info? 61).map (·.size) = some 2 := by kernel_rfl
  go_wp2
  have k2 : Below w.heap.size w w2 := bl (bl (al (Below.refl _ _) (Nat.le_refl _)) hb1 (by simp)) hb2 (by have := hb1.size; simp at this; omega)
  refine bodyPost_ret (results_cell_row rfl _ _ _ 61 #[.slice q1 n1 c1', .slice q2 n2 c2'] (0, 0) _ rfl (hss (hss E2.out)) Try.underlying61 rfl hi) rfl ⟨q1, n1, c1', q2, n2, c2', H1.out.len, H2.out.len, rfl, ?_, ?_, (k2.setCell (Nat.le_refl _) _).setCell (Nat.le_refl _) _⟩
  · exact owns_mono (owns_set (owns_set (owns_keep HO1.out hb2) (by simp)) (by simp)) (by simp)
  · have hs := hb1.size
    exact owns_mono (owns_set (owns_set HO2.out (by simp at hs; omega)) (by simp at hs; omega)) (by simp at hs; omega)
end Go.Proofs.Ytofhdakggapahaa
namespace Gf
def rm1 (a b : Nat) : Nat → Nat
  | 0 => 0
  | k + 1 => rm1 a b k ^^^ (if b.testBit k then a <<< k else 0)
def rm2 (s : Nat) : Nat → Nat
  | 0 => s
  | j + 1 => rm2 s j ^^^ (if (rm2 s j).testBit (14 - j) then 285 <<< (6 - j) else 0)
def refmul (a b : UInt8) : UInt8 := UInt8.ofNat (rm2 (rm1 a.toNat b.toNat 8) 7)
theorem nxor4 (a b c d : Nat) : (a ^^^ b) ^^^ (c ^^^ d) = (a ^^^ c) ^^^ (b ^^^ d) := by
  rw [Nat.xor_assoc, ← Nat.xor_assoc b c d, Nat.xor_comm b c, Nat.xor_assoc c b d, ← Nat.xor_assoc]
theorem sel_nxor (p q : Bool) (v : Nat) : (if (p ^^ q) then v else 0) = (if p then v else 0) ^^^ (if q then v else 0) := by
  cases p <;> cases q <;> simp
theorem rm1_left (a a' b : Nat) : ∀ k, rm1 (a ^^^ a') b k = rm1 a b k ^^^ rm1 a' b k := by
  intro k
  induction k with
  | zero => simp [rm1]
  | succ k ih =>
    simp only [rm1, ih, Nat.shiftLeft_xor_distrib]
    by_cases h : b.testBit k = true
    · simp only [if_pos h]; rw [nxor4]
    · simp [h]
theorem rm1_right (a b b' : Nat) : ∀ k, rm1 a (b ^^^ b') k = rm1 a b k ^^^ rm1 a b' k := by
  intro k
  induction k with
  | zero => simp [rm1]
  | succ k ih => simp only [rm1, ih, Nat.testBit_xor, sel_nxor]; rw [nxor4]
theorem rm2_lin (s t : Nat) : ∀ j, rm2 (s ^^^ t) j = rm2 s j ^^^ rm2 t j := by
  intro j
  induction j with
  | zero => simp [rm2]
  | succ j ih => simp only [rm2, ih, Nat.testBit_xor, sel_nxor]; rw [nxor4]
theorem ofNat_xor (m n : Nat) : UInt8.ofNat (m ^^^ n) = UInt8.ofNat m ^^^ UInt8.ofNat n := by
  apply UInt8.eq_of_toBitVec_eq
  simp
theorem refmul_left (a a' b : UInt8) : refmul (a ^^^ a') b = refmul a b ^^^ refmul a' b := by
  unfold refmul; rw [UInt8.toNat_xor, rm1_left, rm2_lin, ofNat_xor]
theorem refmul_right (a b b' : UInt8) : refmul a (b ^^^ b') = refmul a b ^^^ refmul a b' := by
  unfold refmul; rw [UInt8.toNat_xor, rm1_right, rm2_lin, ofNat_xor]
theorem refmul_eq (a b : UInt8) : refmul a b = gmul a b := by
  refine lin_ext (f := fun a => refmul a b) (g := fun a => gmul a b) (fun x y => refmul_left x y b) (fun x y => gmul_xor_left x y b) (fun k hk => ?_) a
  refine lin_ext (f := fun b => refmul (1 <<< UInt8.ofNat k) b) (g := fun b => gmul (1 <<< UInt8.ofNat k) b) (fun x y => refmul_right _ x y) (fun x y => gmul_xor_right _ x y) (fun j hj => ?_) b
  revert j k; decide +kernel
theorem rm1_lt (a b : Nat) (ha : a < 256) : ∀ k, k ≤ 8 → rm1 a b k < 2 ^ 15 := by
  intro k
  induction k with
  | zero => intro _; simp [rm1]
  | succ k ih =>
    intro hk
    simp only [rm1]
    refine Nat.xor_lt_two_pow (ih (by omega)) ?_
    split
    · rw [Nat.shiftLeft_eq]
      have : 2 ^ k ≤ 2 ^ 7 := Nat.pow_le_pow_right (by decide) (by omega)
      calc a * 2 ^ k ≤ 255 * 2 ^ 7 := Nat.mul_le_mul (by omega) this
        _ < 2 ^ 15 := by decide
    · decide
theorem rm2_lt (s : Nat) (hs : s < 2 ^ 15) : ∀ j, j ≤ 7 → rm2 s j < 2 ^ 15 := by
  intro j
  induction j with
  | zero => intro _; simpa [rm2] using hs
  | succ j ih =>
    intro hj
    simp only [rm2]
    refine Nat.xor_lt_two_pow (ih (by omega)) ?_
    split
    · rw [Nat.shiftLeft_eq]
      have : 2 ^ (6 - j) ≤ 2 ^ 6 := Nat.pow_le_pow_right (by decide) (by omega)
      calc 285 * 2 ^ (6 - j) ≤ 285 * 2 ^ 6 := Nat.mul_le_mul (by omega) this
        _ < 2 ^ 15 := by decide
    · decide
theorem testBit_div (n k : Nat) : ((n : Int) / 2 ^ k % 2 == 1) = n.testBit k := by
  have e : ((n : Int) / 2 ^ k % 2) = ((n / 2 ^ k % 2 : Nat) : Int) := by simp
  rw [e, Nat.testBit_eq_decide_div_mod_eq]
  by_cases h : n / 2 ^ k % 2 = 1
  · simp [h]
  · simp only [h, decide_false]
    exact beq_eq_false_iff_ne.2 (by omega)
theorem testBit_tmod (n k : Nat) : (((n : Int) / 2 ^ k).tmod 2 == 1) = n.testBit k := by
  rw [← testBit_div, Int.tmod_eq_emod_of_nonneg]
  exact Int.ediv_nonneg (by omega) (Int.le_of_lt (Int.pow_pos (by decide)))
end Gf
namespace Go.Proofs.Ytofhdakggapahaa
open Go.RowKit Go.By
theorem wraps_u64 (n : Int) (h₀ : 0 ≤ n) (h₁ : n < 2 ^ 64) : IntKind.u64.wrap n = n := by
  simp [IntKind.wrap, IntKind.bits, IntKind.signed]; omega
theorem shl_bound {a k : Nat} (ha : a < 256) (hk : k < 8) : a * 2 ^ k < 2 ^ 15 := by
  have : 2 ^ k ≤ 2 ^ 7 := Nat.pow_le_pow_right (by decide) (by omega)
  calc a * 2 ^ k ≤ 255 * 2 ^ 7 := Nat.mul_le_mul (by omega) this
    _ < 2 ^ 15 := by decide
theorem xor_shl64 {q a k c : Nat} (hq : q < 2 ^ 15) (hb : a * 2 ^ k < 2 ^ 15) (hc : c = a) :
    bits .xor .u64 (q : Int) (IntKind.u64.wrap (IntKind.u64.wrap (c : Int) * 2 ^ k)) = ((q ^^^ (a <<< k) : Nat) : Int) := by
  subst hc
  have ha : c ≤ c * 2 ^ k := Nat.le_mul_of_pos_right _ (Nat.two_pow_pos k)
  have e : ((c : Int) * 2 ^ k) = ((c * 2 ^ k : Nat) : Int) := by simp
  rw [wraps_u64 (c : Int) (by omega) (by omega), e, wraps_u64 _ (by omega) (by omega), Nat.shiftLeft_eq]
  exact bits_xor_nat .u64 64 (by decide) wraps_u64 _ _ (by omega) (by omega)
theorem xor_shl64' {q a k : Nat} (hq : q < 2 ^ 15) (hb : a * 2 ^ k < 2 ^ 15) :
    bits .xor .u64 (q : Int) (IntKind.u64.wrap ((a : Int) * 2 ^ k)) = ((q ^^^ (a <<< k) : Nat) : Int) := by
  have := xor_shl64 hq hb rfl
  have ha : a ≤ a * 2 ^ k := Nat.le_mul_of_pos_right _ (Nat.two_pow_pos k)
  rwa [wraps_u64 (a : Int) (by omega) (by omega)] at this
theorem ret_int {k : IntKind} {a b : Int} (h : a = b) : Ending.returned (.int k a) = .returned (.int k b) := by rw [h]
set_option maxHeartbeats 400000 in
theorem RefMul_any (a b : UInt8) (w : World) :
    Calls Try.prog 65 #[B8 a, B8 b] w fun e w' => e = .returned (B8 (Gf.gmul a b)) ∧ w = w' := by
  go_enter Try.func65, Try.ntmps65
  go_wp2
  go_loop [5, 6] (fun s i => ∃ k : Nat, k ≤ 8 ∧ i = .int .i64 k ∧ s = .int .u64 (Gf.rm1 a.toNat b.toNat k)) (fun _ i => 8 - (intOf i).toNat)
  case atStart => exact ⟨0, Nat.zero_le _, rfl, rfl⟩
  case round =>
    obtain ⟨k, hk, rfl, rfl⟩ := hrel
    have hql := Gf.rm1_lt a.toNat b.toNat a.toNat_lt k hk
    by_cases hlt : k < 8
    · have HS := Lib.hid (show Gf.rm1 a.toNat b.toNat (k + 1) = Gf.rm1 a.toNat b.toNat k ^^^ (if b.toNat.testBit k then a.toNat <<< k else 0) from rfl)
      generalize Gf.rm1 a.toNat b.toNat k = q at HS hql
      have hx := Lib.hid (xor_shl64 hql (shl_bound a.toNat_lt hlt) rfl)
      have hbt := Gf.testBit_tmod b.toNat k
      cases hb : b.toNat.testBit k
      all_goals
        rw [hb] at hbt HS
        clear hb
        go_wp2
        go_round
        case rel => exact ⟨k + 1, by omega, by go_num, by rw [HS.out]; simp [← hx.out]⟩
        case measure => simp [intOf]; omega
    · obtain rfl : k = 8 := by omega
      generalize hq : Gf.rm1 a.toNat b.toNat 8 = q at hql
      have Hq := Lib.hid hq
      clear hq hk hlt
      go_wp2
      go_loop [5, 7] (fun s i => ∃ j m : Nat, j + m = 14 ∧ 7 ≤ m ∧ i = .int .i64 m ∧ s = .int .u64 (Gf.rm2 q j)) (fun _ i => (intOf i).toNat)
      case atStart => exact ⟨0, 14, rfl, by omega, rfl, rfl⟩
      case round =>
        obtain ⟨j, m, hjm, hm, rfl, rfl⟩ := hrel
        have hsl := Gf.rm2_lt q hql j (by omega)
        have HJ := Lib.hid hjm
        by_cases hlt : 8 ≤ m
        · have HS := Lib.hid (show Gf.rm2 q (j + 1) = Gf.rm2 q j ^^^ (if (Gf.rm2 q j).testBit (14 - j) then 285 <<< (6 - j) else 0) from rfl)
          generalize Gf.rm2 q j = s at HS hsl
          have hx := Lib.hid (xor_shl64' (q := s) (a := 285) (k := m - 8) hsl (by
            have : 2 ^ (m - 8) ≤ 2 ^ 6 := Nat.pow_le_pow_right (by decide) (by omega)
            calc 285 * 2 ^ (m - 8) ≤ 285 * 2 ^ 6 := Nat.mul_le_mul (by omega) this
              _ < 2 ^ 15 := by decide))
          have hbt := Gf.testBit_tmod s m
          have hbt' := Gf.testBit_div s m
          rw [show 14 - j = m by omega, show 6 - j = m - 8 by omega] at HS
          have e1 : ((m : Int) - 8).toNat = m - 8 := by omega
          have hm14 : m ≤ 14 := by omega
          clear hjm
          cases hb : s.testBit m
          all_goals
            rw [hb] at hbt hbt' HS
            clear hb
            go_wp2
            go_round
            case rel => exact ⟨j + 1, m - 1, by have := HJ.out; omega, by omega, by go_num, by rw [HS.out]; simp [← hx.out]⟩
            case measure => simp [intOf]; omega
        · go_wp2
          go_ret
          refine ⟨ret_int ?_, rfl⟩
          have hj7 : j = 7 := by omega
          rw [hj7, ← Gf.refmul_eq, Gf.refmul, Hq.out]
          simp
end Go.Proofs.Ytofhdakggapahaa
namespace Go.Proofs.Ytofhdakggapahaa
open Go.RowKit Go.By
theorem eq_of_pref {xs ys : List UInt8} {k : Nat} (h1 : xs.length = k) (h2 : ys.length = k) (h : ∀ j : Nat, j < k → xs[j]? = ys[j]?) : xs = ys := by
  apply List.ext_getElem?
  intro j
  by_cases hj : j < k
  · exact h j hj
  · rw [List.getElem?_eq_none (by omega), List.getElem?_eq_none (by omega)]
theorem u8_ne {x y : UInt8} (h : x ≠ y) : (((x.toNat : Int) != (y.toNat : Int)) = true) := by
  rw [bne_iff_ne]; intro e; exact h (UInt8.toNat_inj.1 (by omega))
theorem u8_eq (x : UInt8) : (((x.toNat : Int) != (x.toNat : Int)) = false) := by simp
set_option maxHeartbeats 400000 in
theorem Same_d (p1 p2 : Option Addr) (n1 n2 c1 c2 : Nat) (xs ys : List UInt8) (w : World) (h1 : Sl B8 w p1 n1 c1 xs) (h2 : Sl B8 w p2 n2 c2 ys) :
    Calls Try.prog 48 #[.slice p1 n1 c1, .slice p2 n2 c2] w fun e w' => e = .returned (.bool (decide (xs = ys))) ∧ ∃ q, w' = w.drewN q := by
  have b1 := h1.bound; have b2 := h2.bound
  by_cases he : n1 = n2
  · obtain rfl := he
    have H1 := Lib.hid h1; have H2 := Lib.hid h2; clear h1 h2
    go_enter Try.func48, Try.ntmps48
    go_wp2
    go_loopw [5] (fun i wr => ∃ k q : Nat, k ≤ n1 ∧ i = .int .i64 k ∧ wr = w.drewN q ∧ Hid (∀ j : Nat, j < k → xs[j]? = ys[j]?)) (fun i _ => n1 - (intOf i).toNat)
    case atStart => exact ⟨0, 0, Nat.zero_le _, rfl, rfl, fun j hj => by omega⟩
    case round =>
      obtain ⟨k, q, hk, rfl, rfl, hj⟩ := hrel
      by_cases hlt : k < n1
      · obtain ⟨b, o, x, rfl, hc, hx⟩ := H1.out.at k hlt
        obtain ⟨b', o', y, rfl, hc', hy⟩ := H2.out.at k hlt
        have i1 : (k : Int) < (n1 : Int) := by omega
        by_cases hxy : x = y
        · subst hxy
          have ht := u8_eq x
          go_wp2
          go_quiet (fail)
          go_wp2
          go_roundw
          case rel => exact ⟨k + 1, _, by omega, by go_num, rfl, fun j hj' => by
            by_cases e : j = k
            · subst e; exact hx.out.trans hy.out.symm
            · exact hj.out j (by omega)⟩
          case measure => simp [intOf]; omega
        · have ht := u8_ne hxy
          have HN := Lib.hid hxy; clear hxy
          go_wp2
          go_quiet (fail)
          go_wp2
          go_ret
          refine ⟨?_, _, by rw [World.drewN_drewN]⟩
          have : ¬ xs = ys := by rintro rfl; exact HN.out (Option.some.inj (hx.out.symm.trans hy.out))
          simp [this]
      · go_wp2
        go_ret
        refine ⟨?_, q, rfl⟩
        have : xs = ys := eq_of_pref (k := k) (by have := H1.out.len; omega) (by have := H2.out.len; omega) hj.out
        simp [this]
  · have hne : ((n1 : Int) != (n2 : Int)) = true := by simp; omega
    have HN : Hid (decide (xs = ys) = false) := by
      simp only [Hid, decide_eq_false_iff_not]; rintro rfl; exact he (h1.len.symm.trans h2.len)
    clear h1 h2
    go_enter Try.func48, Try.ntmps48
    go_wp2
    go_ret
    exact ⟨by rw [HN.out]; rfl, 0, rfl⟩
theorem below_drewN (w : World) (q : Nat) : Below w.heap.size w (w.drewN q) := ⟨rfl, rfl, rfl, Nat.le_refl _, fun _ _ => rfl⟩
theorem Same_any (p1 p2 : Option Addr) (n1 n2 c1 c2 : Nat) (xs ys : List UInt8) (w : World) (h1 : Sl B8 w p1 n1 c1 xs) (h2 : Sl B8 w p2 n2 c2 ys) :
    Calls Try.prog 48 #[.slice p1 n1 c1, .slice p2 n2 c2] w fun e w' => e = .returned (.bool (decide (xs = ys))) ∧ Below w.heap.size w w' :=
  (Same_d p1 p2 n1 n2 c1 c2 xs ys w h1 h2).mono fun e w' ⟨he, q, hq⟩ => ⟨he, by rw [hq]; exact below_drewN _ _⟩
set_option maxHeartbeats 400000 in
theorem RZero_any (p : Option Addr) (n c : Nat) (xs : List UInt8) (w : World) (h : Sl B8 w p n c xs) :
    Calls Try.prog 76 #[.slice p n c] w fun e w' => e = .returned (.bool (zeroS xs)) ∧ w = w' := by
  have b1 := h.bound
  have H1 := Lib.hid h; clear h
  go_enter Try.func76, Try.ntmps76
  go_wp2
  go_loop [3] (fun i => ∃ k : Nat, k ≤ n ∧ i = .int .i64 k ∧ Hid (∀ j x, j < k → xs[j]? = some x → x = 0)) (fun i => n - (intOf i).toNat)
  case atStart => exact ⟨0, Nat.zero_le _, rfl, fun j x hj => by omega⟩
  case round =>
    obtain ⟨k, hk, rfl, hj⟩ := hrel
    by_cases hlt : k < n
    · obtain ⟨b, o, x, rfl, hc, hx⟩ := H1.out.at k hlt
      have ht := nat_ne_zero x
      by_cases h0 : x = 0
      · rw [decide_eq_false (by simpa using h0)] at ht
        have H0 := Lib.hid h0; clear h0
        go_wp2
        go_round
        case rel => exact ⟨k + 1, by omega, by go_num, fun j y hj' hy => by
          by_cases e : j = k
          · subst e; have := hx.out.symm.trans hy; cases this; exact H0.out
          · exact hj.out j y (by omega) hy⟩
        case measure => simp [intOf]; omega
      · rw [decide_eq_true (by simpa using h0)] at ht
        have H0 := Lib.hid h0; clear h0
        go_wp2
        go_ret
        refine ⟨?_, rfl⟩
        have : zeroS xs = false := by
          unfold zeroS
          rw [List.all_eq_false]
          exact ⟨x, List.mem_of_getElem? hx.out, by simpa using H0.out⟩
        rw [this]; rfl
    · go_wp2
      go_ret
      refine ⟨?_, rfl⟩
      have : zeroS xs = true := by
        unfold zeroS
        rw [List.all_eq_true]
        intro x hx
        obtain ⟨j, hj', e⟩ := List.getElem_of_mem hx
        exact decide_eq_true (hj.out j x (by have := H1.out.len; omega) (by rw [List.getElem?_eq_getElem hj', e]))
      rw [this]; rfl
end Go.Proofs.Ytofhdakggapahaa
namespace Go.Proofs.Ytofhdakggapahaa
open Go.RowKit Go.By
theorem qs {f : FuncId} {args : Array Value} {w : World} {n : Nat} {v : Value} (h : Calls Try.prog f args (w.drewN n) fun e w' => e = .returned v ∧ w.drewN n = w') :
    Calls Try.prog f args (w.drewN n) fun e w'' => e = .returned v ∧ ∃ m, w'' = w.drewN m :=
  Calls.quiet_of_same (h.mono fun _ _ ⟨a, b⟩ => ⟨a, b.symm⟩)
theorem dr {α : Type} {enc : α → Value} {w : World} {p : Option Addr} {n c : Nat} {xs : List α} (h : Sl enc w p n c xs) (k : Nat) : Sl enc (w.drewN k) p n c xs := h.keep (below_drewN w k)
theorem info_row : (Try.prog.info? 61).map (·.size) = some 2 := by kernel_rfl
set_option maxHeartbeats 400000 in
theorem RClone_any (p1 p2 : Option Addr) (n1 c1 n2 c2 : Nat) (v d : List UInt8) (w : World) (h1 : Sl B8 w p1 n1 c1 v) (h2 : Sl B8 w p2 n2 c2 d) (r1 : Room n1) (r2 : Room n2) :
    Calls Try.prog 70 #[.agg #[.slice p1 n1 c1, .slice p2 n2 c2]] w (RetR 5 w (v, d)) := by
  have hi := info_row
  have H1 := Lib.hid h1; have H2 := Lib.hid h2; clear h1 h2
  go_enter Try.func70, Try.ntmps70
  go_wp2_with fail
  have hB : ∀ o1 o2, Below w.heap.size w ((w.alloc o1).alloc o2) := fun o1 o2 => al (al (Below.refl _ _) (Nat.le_refl _)) (by simp)
  refine (Of_any _ _ _ _ _ _ v d _ (H1.out.keep (hB _ _)) (H2.out.keep (hB _ _)) r1 r2).mono ?_; rintro e w1 ⟨q1, m1, c1', q2, m2, c2', g1, g2, rfl, ho1, ho2, hb⟩
  have HO1 := Lib.hid ho1; have HO2 := Lib.hid ho2; clear ho1 ho2
  have e2 : w1.heap[w.heap.size + 1]? = some (.cells #[.slice none 0 0, .slice none 0 0] 61 (0, 0)) := by
    rw [hb.block _ (by simp)]; exact hnew (by simp)
  have f0 : w1.cell? ⟨w.heap.size + 1, 0, none⟩ = some (.slice none 0 0) := cell_of_row _ _ 0 _ _ _ e2
  have f1 : w1.cell? ⟨w.heap.size + 1, 1, none⟩ = some (.slice none 0 0) := cell_of_row _ _ 1 _ _ _ e2
  have z0 : w1.frozen? ⟨w.heap.size + 1, 0, none⟩ = false := frozen_of_row _ _ 0 _ _ e2
  have z1 : w1.frozen? ⟨w.heap.size + 1, 1, none⟩ = false := frozen_of_row _ _ 1 _ _ e2
  have E2 := Lib.hid e2; clear e2
  go_wp2
  refine bodyPost_ret (results_cell_row rfl _ _ _ 61 #[.slice q1 m1 c1', .slice q2 m2 c2'] (0, 0) _ rfl (hss (hss E2.out)) Try.underlying61 rfl hi) rfl ⟨q1, m1, c1', q2, m2, c2', g1, g2, rfl, ?_, ?_, ((bl (hB _ _) hb (by simp; omega)).setCell (by simp) _).setCell (by simp) _⟩
  · exact owns_mono (owns_set (owns_set HO1.out (by simp)) (by simp)) (by simp; omega)
  · exact owns_mono (owns_set (owns_set HO2.out (by simp)) (by simp)) (by simp; omega)
/-- a row, normed -/
def normS (r : List UInt8 × List UInt8) : List UInt8 × List UInt8 :=
  if atS r.1 (leadS r.1) = 0 then r else (r.1.map (Gf.gmul (Gf.ginv (atS r.1 (leadS r.1)))), r.2.map (Gf.gmul (Gf.ginv (atS r.1 (leadS r.1)))))
set_option maxRecDepth 100000 in
set_option maxHeartbeats 1000000 in
theorem Norm_any (p1 p2 : Option Addr) (n1 c1 n2 c2 : Nat) (v d : List UInt8) (w : World) (h1 : Sl B8 w p1 n1 c1 v) (h2 : Sl B8 w p2 n2 c2 d) (r1 : Room n1) (r2 : Room n2) :
    Calls Try.prog 64 #[.agg #[.slice p1 n1 c1, .slice p2 n2 c2]] w (RetR 5 w (normS (v, d))) := by
  have hi := info_row
  have H1 := Lib.hid h1; have H2 := Lib.hid h2; clear h1 h2
  obtain ⟨L, hL⟩ : ∃ L, L = leadS v := ⟨_, rfl⟩
  obtain ⟨a, ha⟩ : ∃ a, a = atS v L := ⟨_, rfl⟩
  have HL := Lib.hid hL; have HA := Lib.hid ha
  have CL : ∀ W, Below w.heap.size w W → Calls Try.prog 62 #[.slice p1 n1 c1] W fun e w' => e = .returned (.int .i64 L) ∧ W = w' := fun W hW => by rw [hL]; exact Lead_any _ _ _ v W (H1.out.keep hW)
  have CA : ∀ W, Below w.heap.size w W → Calls Try.prog 61 #[.slice p1 n1 c1, .int .i64 L] W fun e w' => e = .returned (B8 a) ∧ W = w' := fun W hW => by rw [ha]; exact At_any _ _ _ v L W (H1.out.keep hW)
  have HCL := Lib.hid CL; have HCA := Lib.hid CA
  clear CL CA hL ha
  have HN : Hid (normS (v, d) = if a = 0 then (v, d) else (v.map (Gf.gmul (Gf.ginv a)), d.map (Gf.gmul (Gf.ginv a)))) := by
    show _ = _
    simp only [normS, ← HL.out, ← HA.out]
  have hB : ∀ o1 o2 n, Below w.heap.size w (((w.alloc o1).alloc o2).drewN n) := fun o1 o2 n => (al (al (Below.refl _ _) (Nat.le_refl _)) (by simp) : Below w.heap.size w ((w.alloc o1).alloc o2)).trans ⟨rfl, rfl, rfl, Nat.le_refl _, fun _ _ => rfl⟩
  by_cases ha0 : a = 0
  · have hN := HN.out
    rw [if_pos ha0] at hN
    have HNN := Lib.hid hN
    have HI : Hid (∀ W, Calls Try.prog 89 #[B8 a] W fun e w' => e = .returned (.tuple #[B8 0, .int .i64 3]) ∧ W = w') := fun W => by
      have := Inv_any a W
      rwa [show invRes a = (B8 0, 3) by simp [invRes, ha0]] at this
    clear ha0 hN HN
    go_enter Try.func64, Try.ntmps64
    go_wp2_with fail
    go_quiet ((first
      | (go_at_call 62; exact qs (HCL.out _ (hB _ _ _)))
      | (go_at_call 61; exact qs (HCA.out _ (hB _ _ _)))
      | (go_at_call 89; exact qs (HI.out _))))
    have hB' := Lib.hid (hB (.cells #[.slice p1 n1 c1, .slice p2 n2 c2] 61) (.cells #[.slice none 0 0, .slice none 0 0] 61) nq)
    clear hB
    go_wp2_with fail
    refine (RClone_any _ _ _ _ _ _ v d _ (H1.out.keep hB'.out) (H2.out.keep hB'.out) r1 r2).mono ?_; rintro e w1 ⟨q1, m1, c1', q2, m2, c2', g1, g2, rfl, ho1, ho2, hb⟩
    have HO1 := Lib.hid ho1; have HO2 := Lib.hid ho2; clear ho1 ho2
    have e2 : w1.heap[w.heap.size + 1]? = some (.cells #[.slice none 0 0, .slice none 0 0] 61 (0, 0)) := by
      rw [hb.block _ (by simp)]; exact hnew (w := w.alloc _) (by simp)
    have f0 : w1.cell? ⟨w.heap.size + 1, 0, none⟩ = some (.slice none 0 0) := cell_of_row _ _ 0 _ _ _ e2
    have f1 : w1.cell? ⟨w.heap.size + 1, 1, none⟩ = some (.slice none 0 0) := cell_of_row _ _ 1 _ _ _ e2
    have z0 : w1.frozen? ⟨w.heap.size + 1, 0, none⟩ = false := frozen_of_row _ _ 0 _ _ e2
    have z1 : w1.frozen? ⟨w.heap.size + 1, 1, none⟩ = false := frozen_of_row _ _ 1 _ _ e2
    have E2 := Lib.hid e2; clear e2
    go_wp2
    rw [HNN.out]
    refine bodyPost_ret (results_cell_row rfl _ _ _ 61 #[.slice q1 m1 c1', .slice q2 m2 c2'] (0, 0) _ rfl (hss (hss E2.out)) Try.underlying61 rfl hi) rfl ⟨q1, m1, c1', q2, m2, c2', g1, g2, rfl, ?_, ?_, ((bl hB'.out hb (by simp; omega)).setCell (by simp) _).setCell (by simp) _⟩
    · exact owns_mono (owns_set (owns_set HO1.out (by simp)) (by simp)) (by simp; omega)
    · exact owns_mono (owns_set (owns_set HO2.out (by simp)) (by simp)) (by simp; omega)
  · have hN := HN.out
    rw [if_neg ha0] at hN
    have HNN := Lib.hid hN
    have HI : Hid (∀ W, Calls Try.prog 89 #[B8 a] W fun e w' => e = .returned (.tuple #[B8 (Gf.ginv a), .int .i64 0]) ∧ W = w') := fun W => by
      have := Inv_any a W
      rwa [show invRes a = (B8 (Gf.ginv a), 0) by simp [invRes, ha0]] at this
    clear ha0 hN HN
    generalize Gf.ginv a = g at *
    go_enter Try.func64, Try.ntmps64
    go_wp2_with fail
    go_quiet ((first
      | (go_at_call 62; exact qs (HCL.out _ (hB _ _ _)))
      | (go_at_call 61; exact qs (HCA.out _ (hB _ _ _)))
      | (go_at_call 89; exact qs (HI.out _))))
    have hB' := hB (.cells #[.slice p1 n1 c1, .slice p2 n2 c2] 61) (.cells #[.slice none 0 0, .slice none 0 0] 61) nq
    have e1 : (((w.alloc (.cells #[.slice p1 n1 c1, .slice p2 n2 c2] 61)).alloc (.cells #[.slice none 0 0, .slice none 0 0] 61)).drewN nq).heap[w.heap.size]? = some (.cells #[.slice p1 n1 c1, .slice p2 n2 c2] 61 (0, 0)) := hal (hnew rfl)
    have e2 : (((w.alloc (.cells #[.slice p1 n1 c1, .slice p2 n2 c2] 61)).alloc (.cells #[.slice none 0 0, .slice none 0 0] 61)).drewN nq).heap[w.heap.size + 1]? = some (.cells #[.slice none 0 0, .slice none 0 0] 61 (0, 0)) := hnew (w := w.alloc _) (by simp)
    have esz : w.heap.size + 2 ≤ (((w.alloc (.cells #[.slice p1 n1 c1, .slice p2 n2 c2] 61)).alloc (.cells #[.slice none 0 0, .slice none 0 0] 61)).drewN nq).heap.size := by simp
    clear hB
    go_wp2_with fail
    generalize ((w.alloc (.cells #[.slice p1 n1 c1, .slice p2 n2 c2] 61)).alloc (.cells #[.slice none 0 0, .slice none 0 0] 61)).drewN nq = W at *
    have R0 : ∀ W', Below (w.heap.size + 2) W W' → W'.cell? ⟨w.heap.size, 0, none⟩ = some (.slice p1 n1 c1) := fun W' h => cell_of_row _ _ 0 _ _ _ ((h.block _ (by omega)).trans e1)
    have R1 : ∀ W', Below (w.heap.size + 2) W W' → W'.cell? ⟨w.heap.size, 1, none⟩ = some (.slice p2 n2 c2) := fun W' h => cell_of_row _ _ 1 _ _ _ ((h.block _ (by omega)).trans e1)
    have R2 : ∀ W', Below (w.heap.size + 2) W W' → W'.cell? ⟨w.heap.size + 1, 0, none⟩ = some (.slice none 0 0) := fun W' h => cell_of_row _ _ 0 _ _ _ ((h.block _ (by omega)).trans e2)
    have R3 : ∀ W', Below (w.heap.size + 2) W W' → W'.cell? ⟨w.heap.size + 1, 1, none⟩ = some (.slice none 0 0) := fun W' h => cell_of_row _ _ 1 _ _ _ ((h.block _ (by omega)).trans e2)
    have Z2 : ∀ W', Below (w.heap.size + 2) W W' → W'.frozen? ⟨w.heap.size + 1, 0, none⟩ = false := fun W' h => frozen_of_row _ _ 0 _ _ ((h.block _ (by omega)).trans e2)
    have Z3 : ∀ W', Below (w.heap.size + 2) W W' → W'.frozen? ⟨w.heap.size + 1, 1, none⟩ = false := fun W' h => frozen_of_row _ _ 1 _ _ ((h.block _ (by omega)).trans e2)
    have E2 := Lib.hid e2
    clear e1 e2
    have hd : Below (w.heap.size + 2) W W.drew := (Below.refl _ _).drew
    have C1 : Hid (∀ W', Below (w.heap.size + 2) W W' → Calls Try.prog 90 #[B8 g, .slice p1 n1 c1] W' (RetB1 5 W' (v.map (Gf.gmul g)))) := fun W' h => Scale_any g p1 n1 c1 v W' (H1.out.keep (hB'.trans (h.mono (by omega)))) r1
    have C2 : Hid (∀ W', Below (w.heap.size + 2) W W' → Calls Try.prog 90 #[B8 g, .slice p2 n2 c2] W' (RetB1 5 W' (d.map (Gf.gmul g)))) := fun W' h => Scale_any g p2 n2 c2 d W' (H2.out.keep (hB'.trans (h.mono (by omega)))) r2
    have hB2 := Lib.hid hB'
    clear hB'
    go_region_with (first
      | (go_at_call 90; (with_reducible refine Calls.mono (C1.out _ (by assumption)) ?_); rintro e w1 ⟨q1, m1, c1', hm1, rfl, ho1, hb1⟩; have hw1 := stp (by assumption) hb1 rfl esz)
      | (go_at_call 90; (with_reducible refine Calls.mono (C2.out _ (by assumption)) ?_); rintro e w2 ⟨q2, m2, c2', hm2, rfl, ho2, hb2⟩; have hw2 := stp (by assumption) hb2 rfl esz))
    all_goals go_wp2
    all_goals rw [HNN.out]
    all_goals first
      | (refine bodyPost_ret (results_cell_row rfl _ _ _ 61 #[.slice q1 m1 c1', .slice q2 m2 c2'] (0, 0) _ rfl (hss (hss ((hw2.block _ (by omega)).trans E2.out))) Try.underlying61 rfl hi) rfl ⟨q1, m1, c1', q2, m2, c2', hm1, hm2, rfl, owns_mono (owns_set (owns_set (owns_keep ho1 hb2) (show w.heap.size + 1 < _ by have := hw1.size; simp; omega)) (show w.heap.size + 1 < _ by have := hw1.size; simp; omega)) (by have := hw1.size; simp; omega), owns_mono (owns_set (owns_set ho2 (show w.heap.size + 1 < _ by have := hw1.size; simp; omega)) (show w.heap.size + 1 < _ by have := hw1.size; simp; omega)) (by have := hw1.size; simp; omega), ((hB2.out.trans (hw2.mono (by omega))).setCell (by simp) _).setCell (by simp) _⟩)
      | (refine bodyPost_ret (results_cell_row rfl _ _ _ 61 #[.slice q1 m1 c1', .slice q2 m2 c2'] (0, 0) _ rfl (hss (hss ((hw1.block _ (by omega)).trans E2.out))) Try.underlying61 rfl hi) rfl ⟨q1, m1, c1', q2, m2, c2', hm1, hm2, rfl, owns_mono (owns_set (owns_set ho1 (show w.heap.size + 1 < _ by have := hw2.size; simp; omega)) (show w.heap.size + 1 < _ by have := hw2.size; simp; omega)) (by have := hw2.size; simp; omega), owns_mono (owns_set (owns_set (owns_keep ho2 hb1) (show w.heap.size + 1 < _ by have := hw2.size; simp; omega)) (show w.heap.size + 1 < _ by have := hw2.size; simp; omega)) (by have := hw2.size; simp; omega), ((hB2.out.trans (hw1.mono (by omega))).setCell (by simp) _).setCell (by simp) _⟩)
end Go.Proofs.Ytofhdakggapahaa
namespace Go.Proofs.Ytofhdakggapahaa
open Go.RowKit Go.By
theorem results_cell_tmp {P : Program} {fn : Func} {p u : Tmp} {ty : TypeId} (h : fn.results = #[.cell p ty, .tmp u]) (tmps : Array Value) (w : World) (g : Nat) (t : TypeId) (cs : Array Value) (fr : Nat × Nat) (d : TypeDesc) (v : Value)
    (hp : tmps.getD p undef = .pointer (some ⟨g, 0, none⟩)) (hg : w.heap[g]? = some (.cells cs t fr)) (hv : tmps.getD u undef = v)
    (hu : P.underlying ty = some d) (hd : (match d with | .struct _ | .array _ _ => true | _ => false) = true) (hi : (P.info? ty).map (·.size) = some cs.size) :
    (results fn tmps).run P w = .ok (.tuple #[.agg cs, v]) w := by
  have hp' : tmps[p]?.getD undef = .pointer (some ⟨g, 0, none⟩) := by simpa using hp
  have hv' : tmps[u]?.getD undef = v := by simpa using hv
  simp [results, h, hp', hv', asAddr, run_loadVar_row w g t ty cs fr d hg hu hd hi]
/-- two results: a row in new memory, and a code -/
def RetR2 (T : TypeId) (w : World) (r : List UInt8 × List UInt8) (code : Int) (e : Ending) (w' : World) : Prop :=
  ∃ q1 m1 c1 q2 m2 c2, Hid (r.1.length = m1) ∧ Hid (r.2.length = m2) ∧ e = .returned (.tuple #[.agg #[.slice q1 m1 c1, .slice q2 m2 c2], .int .i64 code]) ∧
    w'.ownsRow w.heap.size T 1 (.slice q1 m1 c1) m1 (r.1.map B8) ∧ w'.ownsRow w.heap.size T 1 (.slice q2 m2 c2) m2 (r.2.map B8) ∧ Below w.heap.size w w'
def lessS (r : List UInt8 × List UInt8) (c : UInt8) (o : List UInt8 × List UInt8) : (List UInt8 × List UInt8) × Int :=
  if o.1.length = r.1.length ∧ o.2.length = r.2.length then ((axpy c o.1 r.1, axpy c o.2 r.2), 0) else (([], []), 4)
theorem axpyS_yes {c : UInt8} {x y : List UInt8} (h : x.length = y.length) : axpyS c x y = (axpy c x y, 0) := by simp [axpyS, h]
theorem axpyS_no {c : UInt8} {x y : List UInt8} (h : x.length ≠ y.length) : axpyS c x y = ([], 4) := by simp [axpyS, h]
set_option maxRecDepth 100000 in
set_option maxHeartbeats 1000000 in
theorem Less_any (p1 p2 p3 p4 : Option Addr) (n1 c1 n2 c2 n3 c3 n4 c4 : Nat) (v d x y : List UInt8) (c : UInt8) (w : World) (h1 : Sl B8 w p1 n1 c1 v) (h2 : Sl B8 w p2 n2 c2 d) (h3 : Sl B8 w p3 n3 c3 x) (h4 : Sl B8 w p4 n4 c4 y) (r1 : Room n1) (r2 : Room n2) :
    Calls Try.prog 60 #[.agg #[.slice p1 n1 c1, .slice p2 n2 c2], B8 c, .agg #[.slice p3 n3 c3, .slice p4 n4 c4]] w (RetR2 5 w (lessS (v, d) c (x, y)).1 (lessS (v, d) c (x, y)).2) := by
  have hi := info_row
  have H1 := Lib.hid h1; have H2 := Lib.hid h2; have H3 := Lib.hid h3; have H4 := Lib.hid h4
  have hB : ∀ o1 o2 o3, Below w.heap.size w (((w.alloc o1).alloc o2).alloc o3) := fun o1 o2 o3 => al (al (al (Below.refl _ _) (Nat.le_refl _)) (by simp)) (by simp; omega)
  have F : ∀ (w1 : World), (Below (w.heap.size + 3) (((w.alloc (.cells #[.slice p1 n1 c1, .slice p2 n2 c2] 61)).alloc (.cells #[.slice p3 n3 c3, .slice p4 n4 c4] 61)).alloc (.cells #[.slice none 0 0, .slice none 0 0] 61)) w1) →
      w1.heap[w.heap.size]? = some (.cells #[.slice p1 n1 c1, .slice p2 n2 c2] 61 (0, 0)) ∧ w1.heap[w.heap.size + 1]? = some (.cells #[.slice p3 n3 c3, .slice p4 n4 c4] 61 (0, 0)) ∧ w1.heap[w.heap.size + 1 + 1]? = some (.cells #[.slice none 0 0, .slice none 0 0] 61 (0, 0)) := fun w1 h =>
    ⟨(h.block _ (by omega)).trans (hal (hal (hnew rfl))), (h.block _ (by omega)).trans (hal (hnew (by simp))), (h.block _ (by omega)).trans (hnew (by simp))⟩
  have C1 := Lib.hid (fun W a b => Axpy_any c p3 p1 n3 n1 c3 c1 x v W a b r1)
  have C2 := Lib.hid (fun W a b => Axpy_any c p4 p2 n4 n2 c4 c2 y d W a b r2)
  by_cases e1 : n3 = n1
  · have E1 : Hid (axpyS c x v = (axpy c x v, 0)) := axpyS_yes (h3.len.trans (e1.trans h1.len.symm))
    have E1' : Hid (x.length = v.length) := h3.len.trans (e1.trans h1.len.symm)
    have HF := Lib.hid F
    clear F h1 h2 h3 h4 e1
    go_enter Try.func60, Try.ntmps60
    go_wp2_with fail
    refine (C1.out _ (H3.out.keep (hB _ _ _)) (H1.out.keep (hB _ _ _))).mono ?_; rintro e w1 ⟨q1, m1, c1', g1, rfl, ho1, hb1⟩
    rw [E1.out] at ho1 g1 ⊢
    have HO1 := Lib.hid ho1; clear ho1
    have k1 := hb1.mono (show w.heap.size + 3 ≤ _ by simp)
    obtain ⟨f0, f1, f2⟩ := HF.out w1 k1
    have l0 : w1.cell? ⟨w.heap.size, 1, none⟩ = some (.slice p2 n2 c2) := cell_of_row _ _ 1 _ _ _ f0
    have l1 : w1.cell? ⟨w.heap.size + 1, 1, none⟩ = some (.slice p4 n4 c4) := cell_of_row _ _ 1 _ _ _ f1
    have hw1 := bl (hB _ _ _) hb1 (by simp; omega)
    have hs1 := hb1.size
    have f0 := trivial; have f1 := trivial
    clear f2
    go_wp2_with fail
    refine (C2.out w1 (H4.out.keep hw1) (H2.out.keep hw1)).mono ?_; rintro e w2 ⟨q2, m2, c2', g2, rfl, ho2, hb2⟩
    have k2 := k1.trans (hb2.mono (by simp at hs1; omega))
    obtain ⟨_, _, f2⟩ := HF.out w2 k2
    have t0 : w2.cell? ⟨w.heap.size + 1 + 1, 0, none⟩ = some (.slice none 0 0) := cell_of_row _ _ 0 _ _ _ f2
    have t1 : w2.cell? ⟨w.heap.size + 1 + 1, 1, none⟩ = some (.slice none 0 0) := cell_of_row _ _ 1 _ _ _ f2
    have z0 : w2.frozen? ⟨w.heap.size + 1 + 1, 0, none⟩ = false := frozen_of_row _ _ 0 _ _ f2
    have z1 : w2.frozen? ⟨w.heap.size + 1 + 1, 1, none⟩ = false := frozen_of_row _ _ 1 _ _ f2
    have E2 := Lib.hid f2; clear f2
    by_cases e2 : n4 = n2
    · have E3 : Hid (axpyS c y d = (axpy c y d, 0)) := axpyS_yes (H4.out.len.trans (e2.trans H2.out.len.symm))
      have HR : Hid (lessS (v, d) c (x, y) = ((axpy c x v, axpy c y d), 0)) := if_pos ⟨E1'.out, H4.out.len.trans (e2.trans H2.out.len.symm)⟩
      rw [E3.out] at ho2 g2 ⊢
      have HO2 := Lib.hid ho2; clear ho2
      clear e2
      go_wp2
      rw [HR.out]
      refine bodyPost_ret (results_cell_tmp rfl _ _ _ 61 #[.slice q1 m1 c1', .slice q2 m2 c2'] (0, 0) _ (.int .i64 0) rfl (hss (hss E2.out)) rfl Try.underlying61 rfl hi) rfl ⟨q1, m1, c1', q2, m2, c2', g1, g2, rfl, ?_, ?_, ((bl hw1 hb2 hw1.size).setCell (by simp; omega) _).setCell (by simp; omega) _⟩
      · exact owns_mono (owns_set (owns_set (owns_keep HO1.out hb2) (by simp)) (by simp)) (by simp; omega)
      · exact owns_mono (owns_set (owns_set HO2.out (by simp at hs1; omega)) (by simp at hs1; omega)) hw1.size
    · have E3 : Hid (axpyS c y d = ([], 4)) := axpyS_no (by rw [H4.out.len, H2.out.len]; exact e2)
      have HR : Hid (lessS (v, d) c (x, y) = (([], []), 4)) := if_neg (fun h => e2 (H4.out.len.symm.trans (h.2.trans H2.out.len)))
      rw [E3.out] at ho2 g2 ⊢
      clear e2 ho2
      go_wp2
      rw [HR.out]
      refine bodyPost_ret (results_cell_tmp rfl _ _ _ 61 #[.slice none 0 0, .slice none 0 0] (0, 0) _ (.int .i64 4) rfl (hss (hss E2.out)) rfl Try.underlying61 rfl hi) rfl ⟨none, 0, 0, none, 0, 0, rfl, rfl, rfl, World.ownsRow_nil _ _ _ _, World.ownsRow_nil _ _ _ _, ((bl hw1 hb2 hw1.size).setCell (by simp; omega) _).setCell (by simp; omega) _⟩
  · have E1 : Hid (axpyS c x v = ([], 4)) := axpyS_no (by rw [h3.len, h1.len]; exact e1)
    have HR : Hid (lessS (v, d) c (x, y) = (([], []), 4)) := if_neg (fun h => e1 (h3.len.symm.trans (h.1.trans h1.len)))
    have HF := Lib.hid F
    clear F h1 h2 h3 h4 e1
    go_enter Try.func60, Try.ntmps60
    go_wp2_with fail
    refine (C1.out _ (H3.out.keep (hB _ _ _)) (H1.out.keep (hB _ _ _))).mono ?_; rintro e w1 ⟨q1, m1, c1', g1, rfl, ho1, hb1⟩
    rw [E1.out] at ho1 g1 ⊢
    clear ho1
    have k1 := hb1.mono (show w.heap.size + 3 ≤ _ by simp)
    obtain ⟨_, _, f2⟩ := HF.out w1 k1
    have t0 : w1.cell? ⟨w.heap.size + 1 + 1, 0, none⟩ = some (.slice none 0 0) := cell_of_row _ _ 0 _ _ _ f2
    have t1 : w1.cell? ⟨w.heap.size + 1 + 1, 1, none⟩ = some (.slice none 0 0) := cell_of_row _ _ 1 _ _ _ f2
    have z0 : w1.frozen? ⟨w.heap.size + 1 + 1, 0, none⟩ = false := frozen_of_row _ _ 0 _ _ f2
    have z1 : w1.frozen? ⟨w.heap.size + 1 + 1, 1, none⟩ = false := frozen_of_row _ _ 1 _ _ f2
    have E2 := Lib.hid f2; clear f2
    have hw1 := bl (hB _ _ _) hb1 (by simp; omega)
    go_wp2
    rw [HR.out]
    refine bodyPost_ret (results_cell_tmp rfl _ _ _ 61 #[.slice none 0 0, .slice none 0 0] (0, 0) _ (.int .i64 4) rfl (hss (hss E2.out)) rfl Try.underlying61 rfl hi) rfl ⟨none, 0, 0, none, 0, 0, rfl, rfl, rfl, World.ownsRow_nil _ _ _ _, World.ownsRow_nil _ _ _ _, (hw1.setCell (by simp; omega) _).setCell (by simp; omega) _⟩
end Go.Proofs.Ytofhdakggapahaa
namespace Go.Proofs.Ytofhdakggapahaa
open Go.RowKit Go.By
theorem bdn {B : Nat} {a w : World} (h : Below B a w) {n : Nat} : Below B a (w.drewN n) := ⟨h.os, h.tape, h.output, h.size, h.block⟩
set_option maxHeartbeats 400000 in
theorem EqualB_d (p1 p2 : Option Addr) (n1 n2 c1 c2 : Nat) (xs ys : List UInt8) (w : World) (h1 : Sl B8 w p1 n1 c1 xs) (h2 : Sl B8 w p2 n2 c2 ys) :
    Calls Try.prog 59 #[.slice p1 n1 c1, .slice p2 n2 c2] w fun e w' => e = .returned (.bool (decide (xs = ys))) ∧ ∃ q, w' = w.drewN q := by
  have b1 := h1.bound; have b2 := h2.bound
  by_cases he : n1 = n2
  · obtain rfl := he
    have H1 := Lib.hid h1; have H2 := Lib.hid h2; clear h1 h2
    go_enter Try.func59, Try.ntmps59
    go_wp2
    go_loopw [13] (fun i wr => ∃ k q : Nat, k ≤ n1 ∧ i = .int .i64 k ∧ wr = w.drewN q ∧ Hid (∀ j : Nat, j < k → xs[j]? = ys[j]?)) (fun i _ => n1 - (intOf i).toNat)
    case atStart => exact ⟨0, 0, Nat.zero_le _, rfl, rfl, fun j hj => by omega⟩
    case round =>
      obtain ⟨k, q, hk, rfl, rfl, hj⟩ := hrel
      by_cases hlt : k < n1
      · obtain ⟨b, o, x, rfl, hc, hx⟩ := H1.out.at k hlt
        obtain ⟨b', o', y, rfl, hc', hy⟩ := H2.out.at k hlt
        have i1 : (k : Int) < (n1 : Int) := by omega
        by_cases hxy : x = y
        · subst hxy
          have ht := u8_eq x
          go_wp2
          go_quiet (fail)
          go_wp2
          go_roundw
          case rel => exact ⟨k + 1, _, by omega, by go_num, rfl, fun j hj' => by
            by_cases e : j = k
            · subst e; exact hx.out.trans hy.out.symm
            · exact hj.out j (by omega)⟩
          case measure => simp [intOf]; omega
        · have ht := u8_ne hxy
          have HN := Lib.hid hxy; clear hxy
          go_wp2
          go_quiet (fail)
          go_wp2
          go_ret
          refine ⟨?_, _, by rw [World.drewN_drewN]⟩
          have : ¬ xs = ys := by rintro rfl; exact HN.out (Option.some.inj (hx.out.symm.trans hy.out))
          simp [this]
      · go_wp2
        go_ret
        refine ⟨?_, q, rfl⟩
        have : xs = ys := eq_of_pref (k := k) (by have := H1.out.len; omega) (by have := H2.out.len; omega) hj.out
        simp [this]
  · have hne : ((n1 : Int) != (n2 : Int)) = true := by simp; omega
    have HN : Hid (decide (xs = ys) = false) := by
      simp only [Hid, decide_eq_false_iff_not]; rintro rfl; exact he (h1.len.symm.trans h2.len)
    clear h1 h2
    go_enter Try.func59, Try.ntmps59
    go_wp2
    go_ret
    exact ⟨by rw [HN.out]; rfl, 0, rfl⟩
set_option maxHeartbeats 400000 in
theorem EqualV_d (p1 p2 : Option Addr) (n1 n2 c1 c2 : Nat) (xs ys : List UInt8) (w : World) (h1 : Sl B8 w p1 n1 c1 xs) (h2 : Sl B8 w p2 n2 c2 ys) :
    Calls Try.prog 79 #[.slice p1 n1 c1, .slice p2 n2 c2] w fun e w' => e = .returned (.bool (decide (xs = ys))) ∧ ∃ q, w' = w.drewN q := by
  have b1 := h1.bound; have b2 := h2.bound
  by_cases he : n1 = n2
  · obtain rfl := he
    have H1 := Lib.hid h1; have H2 := Lib.hid h2; clear h1 h2
    go_enter Try.func79, Try.ntmps79
    go_wp2
    go_loopw [13] (fun i wr => ∃ k q : Nat, k ≤ n1 ∧ i = .int .i64 k ∧ wr = w.drewN q ∧ Hid (∀ j : Nat, j < k → xs[j]? = ys[j]?)) (fun i _ => n1 - (intOf i).toNat)
    case atStart => exact ⟨0, 0, Nat.zero_le _, rfl, rfl, fun j hj => by omega⟩
    case round =>
      obtain ⟨k, q, hk, rfl, rfl, hj⟩ := hrel
      by_cases hlt : k < n1
      · obtain ⟨b, o, x, rfl, hc, hx⟩ := H1.out.at k hlt
        obtain ⟨b', o', y, rfl, hc', hy⟩ := H2.out.at k hlt
        have i1 : (k : Int) < (n1 : Int) := by omega
        by_cases hxy : x = y
        · subst hxy
          have ht := u8_eq x
          go_wp2
          go_quiet (fail)
          go_wp2
          go_roundw
          case rel => exact ⟨k + 1, _, by omega, by go_num, rfl, fun j hj' => by
            by_cases e : j = k
            · subst e; exact hx.out.trans hy.out.symm
            · exact hj.out j (by omega)⟩
          case measure => simp [intOf]; omega
        · have ht := u8_ne hxy
          have HN := Lib.hid hxy; clear hxy
          go_wp2
          go_quiet (fail)
          go_wp2
          go_ret
          refine ⟨?_, _, by rw [World.drewN_drewN]⟩
          have : ¬ xs = ys := by rintro rfl; exact HN.out (Option.some.inj (hx.out.symm.trans hy.out))
          simp [this]
      · go_wp2
        go_ret
        refine ⟨?_, q, rfl⟩
        have : xs = ys := eq_of_pref (k := k) (by have := H1.out.len; omega) (by have := H2.out.len; omega) hj.out
        simp [this]
  · have hne : ((n1 : Int) != (n2 : Int)) = true := by simp; omega
    have HN : Hid (decide (xs = ys) = false) := by
      simp only [Hid, decide_eq_false_iff_not]; rintro rfl; exact he (h1.len.symm.trans h2.len)
    clear h1 h2
    go_enter Try.func79, Try.ntmps79
    go_wp2
    go_ret
    exact ⟨by rw [HN.out]; rfl, 0, rfl⟩

set_option maxRecDepth 100000 in
set_option maxHeartbeats 1000000 in
theorem VSame_any (p1 p2 p3 p4 : Option Addr) (n1 c1 n2 c2 n3 c3 n4 c4 : Nat) (v d x y : List UInt8) (w : World) (h1 : Sl B8 w p1 n1 c1 v) (h2 : Sl B8 w p2 n2 c2 d) (h3 : Sl B8 w p3 n3 c3 x) (h4 : Sl B8 w p4 n4 c4 y) :
    Calls Try.prog 52 #[.agg #[.slice p1 n1 c1, .slice p2 n2 c2], .agg #[.slice p3 n3 c3, .slice p4 n4 c4]] w fun e w' => e = .returned (.bool (decide ((v, d) = (x, y)))) ∧ Below w.heap.size w w' := by
  have H1 := Lib.hid h1; have H2 := Lib.hid h2; have H3 := Lib.hid h3; have H4 := Lib.hid h4
  clear h1 h2 h3 h4
  have hB : ∀ o1 o2, Below w.heap.size w ((w.alloc o1).alloc o2) := fun o1 o2 => al (al (Below.refl _ _) (Nat.le_refl _)) (by simp)
  go_enter Try.func52, Try.ntmps52
  go_wp2_with fail
  refine (EqualV_d _ _ _ _ _ _ v x _ (H1.out.keep (hB _ _)) (H3.out.keep (hB _ _))).mono ?_; rintro e w1 ⟨rfl, q, rfl⟩
  by_cases e1 : v = x
  · rw [decide_eq_true e1]
    have HE : Hid (decide ((v, d) = (x, y)) = decide (d = y)) := by simp [Hid, e1]
    clear e1
    go_wp2_with fail
    refine (EqualB_d _ _ _ _ _ _ d y _ (dr (H2.out.keep (hB _ _)) q) (dr (H4.out.keep (hB _ _)) q)).mono ?_; rintro e w1 ⟨rfl, q', rfl⟩
    generalize decide (d = y) = z at HE ⊢
    go_wp2
    go_ret
    exact ⟨by rw [HE.out]; rfl, bdn (hB _ _)⟩
  · rw [decide_eq_false e1]
    have HE : Hid (decide ((v, d) = (x, y)) = false) := by simp [Hid, e1]
    clear e1
    go_wp2_with fail
    go_ret
    exact ⟨by rw [HE.out]; rfl, bdn (hB _ _)⟩
end Go.Proofs.Ytofhdakggapahaa
namespace Go.Proofs.Ytofhdakggapahaa
open Go.RowKit Go.By
set_option maxRecDepth 100000 in
set_option maxHeartbeats 1000000 in
theorem GrowNil_any (N : Nat) (w : World) (hN : Room N) :
    Calls Try.prog 84 #[.slice none 0 0, .int .i64 N] w fun e w' => ∃ q c', e = .returned (.slice q 0 c') ∧ w'.ownsRow w.heap.size 5 1 (.slice q 0 c') 0 [] ∧ Below w.heap.size w w' := by
  obtain ⟨i0, hi, hz0, hz1, hz2⟩ := info_parts info_u8
  by_cases h0 : N = 0
  · subst h0
    go_enter Try.func84, Try.ntmps84
    go_wp2
    go_ret
    exact ⟨none, 0, rfl, World.ownsRow_nil _ _ _ _, Below.refl _ _⟩
  · have hp : 0 < N := by omega
    unfold Room at hN
    have hr := fun ty => Lib.run_append_nil_zeros (P := Try.prog) w 25 3 ty 5 i0 (.int .u8 0) .i64 .i64 Try.underlying25 Try.underlying3 hi hz0 N hp (by rw [hz1]; omega) (by omega) (by rw [hz2]; omega)
    have g1 := grownCap_ge w N 0 5
    have g2 := grownCap_le_maxLen w N 0 5 (by unfold maxLen; omega)
    generalize grownCap w N 0 5 = G at *
    have G2 := Lib.hid g2
    unfold maxLen at g2
    have HR := Lib.hid hr; clear hr
    clear h0
    go_enter Try.func84, Try.ntmps84
    go_wp2_with (at_builtin; refine Lib.wpList_append_run _ rfl _ _ _ _ rfl _ _ rfl rfl _ _ (HR.out _) ?_)
    go_ret
    refine ⟨_, G, rfl, ⟨rfl, .inr ⟨w.heap.size, G, _, rfl, Nat.le_refl _, hnew rfl, Nat.zero_le _, G2.out, ?_, by simp⟩⟩, al (w1 := w.drew) ⟨rfl, rfl, rfl, Nat.le_refl _, fun _ _ => rfl⟩ (Nat.le_refl _)⟩
    simp [size_zeroCells, Value.cells]; omega
theorem flat_take {xss : List (List UInt8)} {k : Nat} {xs : List UInt8} (h : xss[k]? = some xs) : (xss.take (k + 1)).flatten = (xss.take k).flatten ++ xs := by
  obtain ⟨hk, h⟩ := List.getElem?_eq_some_iff.1 h
  rw [List.take_succ_eq_append_getElem hk, h, List.flatten_append]; simp
theorem flat_le (xss : List (List UInt8)) (k : Nat) : (xss.take k).flatten.length ≤ xss.flatten.length := by
  have : xss.flatten = (xss.take k).flatten ++ (xss.drop k).flatten := by rw [← List.flatten_append, List.take_append_drop]
  rw [this]; simp
set_option maxRecDepth 100000 in
set_option maxHeartbeats 1000000 in
theorem Concat_any (p : Option Addr) (n c : Nat) (xss : List (List UInt8)) (w : World) (h : Sl2 w p n c xss) (hr : Room xss.flatten.length) :
    Calls Try.prog 55 #[.slice p n c] w (RetB1 5 w xss.flatten) := by
  obtain ⟨i0, hi, hz0, hz1, hz2⟩ := info_parts info_u8
  have hn := h.bound
  obtain ⟨F, hF⟩ : ∃ F : Nat → List UInt8, F = fun k => (xss.take k).flatten := ⟨_, rfl⟩
  have HF : Hid (∀ k xs, xss[k]? = some xs → F (k + 1) = F k ++ xs) := fun k xs hx => by subst hF; exact flat_take hx
  have HM : Hid (∀ k, (F k).length ≤ 140737488355328) := fun k => by subst hF; exact Nat.le_trans (flat_le xss k) hr
  have HN : Hid (F n = xss.flatten) := by subst hF; show (xss.take n).flatten = _; rw [List.take_of_length_le (by rw [h.len]; omega)]
  have H0 : Hid (F 0 = []) := by subst hF; rfl
  obtain ⟨T, hT⟩ : ∃ T : Nat → Nat, T = fun k => (F k).length := ⟨_, rfl⟩
  have HL : Hid (∀ k, (F k).length = T k) := fun k => by subst hT; rfl
  have HT0 : T 0 = 0 := by rw [← HL.out, H0.out]; rfl
  have H := Lib.hid h
  have HTn : Hid (∀ k, T k ≤ 140737488355328) := fun k => by rw [← HL.out]; exact HM.out k
  clear h hr hF hT
  go_enter Try.func55, Try.ntmps55
  go_wp2
  go_loop [3, 11] (fun s i => ∃ k : Nat, k ≤ n ∧ i = .int .i64 k ∧ s = .int .i64 (T k)) (fun _ i => n - (intOf i).toNat)
  case atStart => exact ⟨0, Nat.zero_le _, rfl, by rw [HT0]; rfl⟩
  case round =>
    obtain ⟨k, hk, rfl, rfl⟩ := hrel
    have t1 := HTn.out k
    by_cases hlt : k < n
    · obtain ⟨b, o, q, m, c', xs, rfl, hc, hs, hx⟩ := H.out.at k hlt
      have e1 : T (k + 1) = T k + m := by rw [← HL.out, HF.out k xs hx.out, List.length_append, HL.out, hs.len]
      have t2 := HTn.out (k + 1)
      have hm := hs.bound
      have t3 : T k + m ≤ 140737488355328 := by omega
      have E1 := Lib.hid e1
      clear e1 t2 hs
      go_wp2
      go_round
      case rel => exact ⟨k + 1, by omega, by go_num, by rw [E1.out]; go_num⟩
      case measure => simp [intOf]; omega
    · have hkn : k = n := by omega
      subst hkn
      go_wp2_with fail
      refine (GrowNil_any (T k) w t1).mono ?_; rintro e w1 ⟨q0, c0, rfl, ho, hb⟩
      have HO := Lib.hid ho; clear ho
      go_wp2
      go_loopw [6, 27] (fun v i wr => ∃ (j : Nat) (q : Option Addr) (c' : Nat), j ≤ k ∧ i = .int .i64 j ∧ v = .slice q (T j) c' ∧ Hid (wr.ownsRow w.heap.size 5 1 (.slice q (T j) c') (T j) ((F j).map B8)) ∧ Below w.heap.size w wr) (fun _ i _ => k - (intOf i).toNat)
      case atStart => exact ⟨0, q0, c0, Nat.zero_le _, rfl, by rw [HT0], by rw [HT0, H0.out]; exact HO.out, hb⟩
      case round =>
        obtain ⟨j, q, c', hj, rfl, rfl, hov, hbv⟩ := hrel
        have s1 := HTn.out j
        by_cases hjk : j < k
        · obtain ⟨b, o, q', m, c'', xs, rfl, hc, hs, hx⟩ := H.out.at j hjk
          have hcw := (hbv.cell (p := ⟨b, o + j, none⟩) (lt_of_cell hc)).trans hc
          have e1 : T (j + 1) = T j + m := by rw [← HL.out, HF.out j xs hx.out, List.length_append, HL.out, hs.len]
          have e2 : F (j + 1) = F j ++ xs := HF.out j xs hx.out
          have t2 := HTn.out (j + 1)
          have hm := hs.bound
          have t3 : T j + m ≤ 140737488355328 := by omega
          have HS := Lib.hid hs
          have E1 := Lib.hid e1; have E2 := Lib.hid e2
          clear e1 e2 t2 hs
          go_wp2_with (at_builtin; refine wpList_append_rs _ rfl _ _ 25 rfl w.heap.size 5 i0 (.int .u8 0) 1 Try.underlying25 hi hz0 hz1 hz2 rfl _ (T j) _ rfl hov.out B8 _ _ _ xs (fun _ _ => rfl) rfl (HS.out.keep hbv) ?c1 ?c2 ?c3 ?_)
          case c1 => unfold maxLen; omega
          case c2 => omega
          case c3 => exact hbv.size
          intro v' w' ho' hg'
          obtain ⟨q2, c2, rfl⟩ := owns_shape ho'
          have hb' : Below w.heap.size w w' := hbv.grown hg' hbv.size (fun r hr' => (hov.out.lt r hr').1)
          clear hg'
          go_wp2
          go_roundw
          case rel => exact ⟨j + 1, q2, c2, by omega, by go_num, by rw [E1.out], by rw [E1.out, E2.out, List.map_append]; exact ho', hb'⟩
          case measure => simp [intOf]; omega
        · have hjk' : j = k := by omega
          subst hjk'
          go_wp2
          go_ret
          refine ⟨q, T j, c', ?_, rfl, ?_, hbv⟩
          · rw [← HN.out]; exact HL.out j
          · rw [← HN.out]; exact hov.out
end Go.Proofs.Ytofhdakggapahaa
namespace Go.By
open Go.RowKit
theorem cells3 {w : World} {b T : Nat} {u v x : Value} (h : w.heap[b]? = some (.cells #[u, v, x] T (0, 0))) : w.cell? ⟨b, 0, none⟩ = some u ∧ w.cell? ⟨b, 1, none⟩ = some v ∧ w.cell? ⟨b, 2, none⟩ = some x :=
  ⟨cell_of_row _ _ 0 _ _ _ h, cell_of_row _ _ 1 _ _ _ h, cell_of_row _ _ 2 _ _ _ h⟩
theorem Sl.mid {α : Type} {enc : α → Value} {w : World} {b o n c k m : Nat} {xs : List α} (h : Sl enc w (some ⟨b, o, none⟩) n c xs) (hk : k + m ≤ n) : Sl enc w (some ⟨b, o + k, none⟩) m (c - k) ((xs.drop k).take m) := by
  have h1 := h.len; have h2 := h.le; have h3 := h.max
  refine ⟨by rw [List.length_take, List.length_drop]; omega, by omega, by omega, fun e => (by cases e), ?_⟩
  intro i hi
  have hi' : k + i < xs.length := by rw [List.length_take, List.length_drop] at hi; omega
  obtain ⟨b', o', hp, hc⟩ := h.rs (k + i) hi'
  cases hp
  exact ⟨b, o + k, rfl, by rw [show o + k + i = o + (k + i) by omega, hc]; simp⟩
theorem Sl.empty {α : Type} {enc : α → Value} {w : World} {p : Option Addr} {n c : Nat} {xs : List α} (h : Sl enc w p n c xs) : Sl enc w p 0 c ([] : List α) :=
  ⟨rfl, Nat.zero_le _, h.max, fun e => ⟨rfl, (h.nil e).2⟩, Rs.nil⟩
end Go.By
namespace Go.Proofs.Ytofhdakggapahaa
open Go.RowKit Go.By
theorem info_grid : (Try.prog.info? 27).map (·.size) = some 3 := by kernel_rfl
def rowF (wd : Nat) (cells : List UInt8) (i : Nat) : List UInt8 := (cells.drop (i * wd)).take wd
/-- a row, not copied -/
def RetRow (w : World) (p : Option Addr) (wd i : Nat) (cells : List UInt8) (e : Ending) (w' : World) : Prop :=
  ∃ q c', e = .returned (.slice q wd c') ∧ Sl B8 w' q wd c' (rowF wd cells i) ∧ (0 < wd → ∀ g o, p = some ⟨g, o, none⟩ → q = some ⟨g, o + i * wd, none⟩) ∧ Below w.heap.size w w'
set_option maxRecDepth 100000 in
set_option maxHeartbeats 1000000 in
theorem row_any (h wd i : Nat) (p : Option Addr) (n c : Nat) (cells : List UInt8) (w : World) (hs : Sl B8 w p n c cells) (hn : n = h * wd) (hi : i < h) (hb : h ≤ 9223372036854775807) :
    Calls Try.prog 57 #[.agg #[.int .i64 h, .int .i64 wd, .slice p n c], .int .i64 i] w (RetRow w p wd i cells) := by
  have hB : ∀ o, Below w.heap.size w (w.alloc o) := fun o => al (Below.refl _ _) (Nat.le_refl _)
  have HB := Lib.hid hB
  have hmul : (i + 1) * wd ≤ n := by rw [hn]; exact Nat.mul_le_mul_right _ hi
  have hmul2 : (i + 1) * wd = i * wd + wd := Nat.succ_mul _ _
  have hbd := hs.bound
  have w1 : IntKind.i64.wrap ((i : Int) * (wd : Int)) = ((i * wd : Nat) : Int) := by rw [← Int.natCast_mul]; exact Go.IntWalk.i64_in _ (by omega)
  have w2 : IntKind.i64.wrap (((i : Int) + 1) * (wd : Int)) = ((i * wd + wd : Nat) : Int) := by
    rw [← hmul2, Int.natCast_mul, Int.natCast_add]; exact Go.IntWalk.i64_in _ (by rw [← Int.natCast_one, ← Int.natCast_add, ← Int.natCast_mul]; omega)
  have hle := hs.le
  have HS := Lib.hid hs
  have HN := Lib.hid hn
  obtain ⟨k, hk⟩ : ∃ k, k = i * wd := ⟨_, rfl⟩
  rw [← hk] at w1 w2 hmul2
  have HK := Lib.hid hk
  have hk2 : k + wd ≤ n := by omega
  by_cases hw0 : wd = 0
  · subst hw0
    have hk0 : k = 0 := by rw [hk]; simp
    subst hk0
    have HE : Hid (rowF 0 cells i = []) := by show rowF 0 cells i = []; simp [rowF]
    cases p with
    | none =>
      obtain ⟨rfl, rfl⟩ := hs.nil rfl
      clear hs hn hB hk hmul hmul2 hle hk2
      go_enter Try.func57, Try.ntmps57
      go_wp2
      go_ret
      exact ⟨none, 0, rfl, by rw [HE.out]; exact Sl.nil0 _ _, fun h => by omega, HB.out _⟩
    | some ad =>
      clear hs hn hB hk hmul hmul2
      by_cases hc0 : c = 0
      · subst hc0
        go_enter Try.func57, Try.ntmps57
        go_wp2
        go_ret
        exact ⟨_, _, rfl, by rw [HE.out]; simpa using (HS.out.keep (HB.out _)).empty, fun h => by omega, HB.out _⟩
      · have hcp : 0 < c := by omega
        go_enter Try.func57, Try.ntmps57
        go_wp2
        go_ret
        refine ⟨_, _, rfl, by rw [HE.out]; exact ⟨rfl, Nat.zero_le _, by have := HS.out.max; omega, fun e => (by cases e), Rs.nil⟩, fun h => by omega, HB.out _⟩
  · cases p with
    | none => have := hs.nil rfl; omega
    | some ad =>
      obtain ⟨b, o, hp, hc0⟩ := hs.rs 0 (by rw [hs.len]; omega)
      obtain rfl : ad = ⟨b, o, none⟩ := by simpa using hp
      clear hc0 hs hn hB hk hmul hmul2
      have hkc : k < c := by omega
      go_enter Try.func57, Try.ntmps57
      go_wp2
      go_ret
      refine ⟨some ⟨b, o + k, none⟩, c - k, rfl, ?_, fun _ g o' e => by cases e; rw [HK.out], HB.out _⟩
      unfold rowF
      rw [← HK.out]
      exact (HS.out.keep (HB.out _)).mid hk2
set_option maxHeartbeats 400000 in
theorem Width_any (h wd : Nat) (v : Value) (w : World) : Calls Try.prog 14 #[.agg #[.int .i64 h, .int .i64 wd, v]] w fun e w' => e = .returned (.int .i64 wd) ∧ Below w.heap.size w w' := by
  go_enter Try.func14, Try.ntmps14
  go_wp2
  go_ret
  exact ⟨rfl, al (Below.refl _ _) (Nat.le_refl _)⟩
set_option maxHeartbeats 400000 in
theorem Height_any (h wd : Nat) (v : Value) (w : World) : Calls Try.prog 15 #[.agg #[.int .i64 h, .int .i64 wd, v]] w fun e w' => e = .returned (.int .i64 h) ∧ Below w.heap.size w w' := by
  go_enter Try.func15, Try.ntmps15
  go_wp2
  go_ret
  exact ⟨rfl, al (Below.refl _ _) (Nat.le_refl _)⟩
set_option maxRecDepth 100000 in
set_option maxHeartbeats 1000000 in
theorem GSame_any (h1 w1 h2 w2 : Nat) (p1 p2 : Option Addr) (n1 c1 n2 c2 : Nat) (xs ys : List UInt8) (w : World) (s1 : Sl B8 w p1 n1 c1 xs) (s2 : Sl B8 w p2 n2 c2 ys) :
    Calls Try.prog 18 #[.agg #[.int .i64 h1, .int .i64 w1, .slice p1 n1 c1], .agg #[.int .i64 h2, .int .i64 w2, .slice p2 n2 c2]] w fun e w' => e = .returned (.bool (decide (w1 = w2 ∧ h1 = h2 ∧ xs = ys))) ∧ Below w.heap.size w w' := by
  have hB : ∀ o1 o2, Below w.heap.size w ((w.alloc o1).alloc o2) := fun o1 o2 => al (al (Below.refl _ _) (Nat.le_refl _)) (by simp)
  have HB := Lib.hid hB; have S1 := Lib.hid s1; have S2 := Lib.hid s2
  clear hB s1 s2
  by_cases e1 : w1 = w2
  · by_cases e2 : h1 = h2
    · subst e1; subst e2
      have HE : Hid (decide (w1 = w1 ∧ h1 = h1 ∧ xs = ys) = decide (xs = ys)) := by simp [Hid]
      go_enter Try.func18, Try.ntmps18
      go_wp2_with fail
      refine (EqualB_d _ _ _ _ _ _ xs ys _ (S1.out.keep (HB.out _ _)) (S2.out.keep (HB.out _ _))).mono ?_; rintro e w1 ⟨rfl, q, rfl⟩
      generalize decide (xs = ys) = z at HE ⊢
      go_wp2
      go_ret
      exact ⟨by rw [HE.out]; rfl, bdn (HB.out _ _)⟩
    · have HE : Hid (decide (w1 = w2 ∧ h1 = h2 ∧ xs = ys) = false) := by simp [Hid, e2]
      have d1 : ((w1 : Int) == (w2 : Int)) = true := by simp [e1]
      have d2 : ((h1 : Int) == (h2 : Int)) = false := by simp; omega
      clear e1 e2
      go_enter Try.func18, Try.ntmps18
      go_wp2
      go_ret
      exact ⟨by rw [HE.out]; rfl, HB.out _ _⟩
  · have HE : Hid (decide (w1 = w2 ∧ h1 = h2 ∧ xs = ys) = false) := by simp [Hid, e1]
    have d1 : ((w1 : Int) == (w2 : Int)) = false := by simp; omega
    clear e1
    go_enter Try.func18, Try.ntmps18
    go_wp2
    go_ret
    exact ⟨by rw [HE.out]; rfl, HB.out _ _⟩
/-- a grid in new memory -/
def RetG (T : TypeId) (w : World) (h wd : Nat) (cells : List UInt8) (e : Ending) (w' : World) : Prop :=
  ∃ q n c, n = h * wd ∧ e = .returned (.agg #[.int .i64 h, .int .i64 wd, .slice q n c]) ∧ w'.ownsRow w.heap.size T 1 (.slice q n c) n (cells.map B8) ∧ Below w.heap.size w w'
/-- a grid in new memory, and a code -/
def RetG2 (T : TypeId) (w : World) (h wd : Nat) (cells : List UInt8) (code : Int) (e : Ending) (w' : World) : Prop :=
  ∃ q n c, n = h * wd ∧ e = .returned (.tuple #[.agg #[.int .i64 h, .int .i64 wd, .slice q n c], .int .i64 code]) ∧ w'.ownsRow w.heap.size T 1 (.slice q n c) n (cells.map B8) ∧ Below w.heap.size w w'
set_option maxRecDepth 100000 in
set_option maxHeartbeats 1000000 in
theorem blank_any (h wd : Nat) (w : World) (hn : Room (h * wd)) (b1 : h ≤ 9223372036854775807) (b2 : wd ≤ 9223372036854775807) :
    Calls Try.prog 56 #[.int .i64 h, .int .i64 wd] w (RetG 5 w h wd (List.replicate (h * wd) 0)) := by
  obtain ⟨i0, hi, hz0, hz1, hz2⟩ := info_parts info_u8
  have hinfo := info_grid
  obtain ⟨n, hN⟩ : ∃ n, n = h * wd := ⟨_, rfl⟩
  rw [← hN] at hn ⊢
  unfold Room at hn
  have wm : IntKind.i64.wrap ((h : Int) * (wd : Int)) = ((n : Nat) : Int) := by rw [hN, ← Int.natCast_mul]; exact Go.IntWalk.i64_in _ (by rw [← hN]; omega)
  have HM1 : Hid (n ≤ maxLen) := by show n ≤ maxLen; unfold maxLen; omega
  have HM2 : Hid (1 * n ≤ 281474976710656) := by show 1 * n ≤ _; omega
  have HNN := Lib.hid hN
  have HB : Hid (∀ o, Below w.heap.size w (w.alloc o)) := fun o => al (Below.refl _ _) (Nat.le_refl _)
  clear hN
  go_enter Try.func56, Try.ntmps56
  go_wp2_with (at_make; refine wpList_make_full _ rfl _ _ 25 rfl (w.heap.size + 1) 5 i0 (.int .u8 0) 1 Try.underlying25 hi hz0 hz1 .i64 .i64 _ _ n rfl rfl rfl rfl (by rw [hz2]; exact HM2.out) HM1.out (by simp) ?_)
  intro w1 ho hg
  have ho' : w1.ownsRow (w.heap.size + 1) 5 1 (.slice (some ⟨w.heap.size + 1, 0, none⟩) n n) n ((List.replicate n (0 : UInt8)).map B8) := by
    have e : (madeCells #[Value.int .u8 0] n).toList = (List.replicate n (0 : UInt8)).map B8 := by
      rw [List.map_replicate]; exact toList_madeCells_one _ _
    rw [← e]; simpa using ho
  have hb : Below w.heap.size w w1 := (HB.out _).grown hg (by simp) (by simp)
  have e2 : w1.heap[w.heap.size]? = some (.cells #[.int .i64 0, .int .i64 0, .slice none 0 0] 27 (0, 0)) := by
    rw [hg.block _ (by simp) (by simp)]; exact hnew rfl
  obtain ⟨f0, f1, f2⟩ := cells3 e2
  have g0 : w1.frozen? ⟨w.heap.size, 0, none⟩ = false := frozen_of_row _ _ 0 _ _ e2
  have g1 : w1.frozen? ⟨w.heap.size, 1, none⟩ = false := frozen_of_row _ _ 1 _ _ e2
  have g2 : w1.frozen? ⟨w.heap.size, 2, none⟩ = false := frozen_of_row _ _ 2 _ _ e2
  have E2 := Lib.hid e2; have HO := Lib.hid ho'; have HBB := Lib.hid hb
  clear e2 ho ho' hg hb
  go_wp2
  refine bodyPost_ret (results_cell_row rfl _ _ _ 27 #[.int .i64 h, .int .i64 wd, .slice (some ⟨w.heap.size + 1, 0, none⟩) n n] (0, 0) _ rfl (hss (hss (hss E2.out))) Try.underlying27 rfl hinfo) rfl ⟨_, n, n, HNN.out, rfl, ?_, ((HBB.out.setCell (Nat.le_refl _) _).setCell (Nat.le_refl _) _).setCell (Nat.le_refl _) _⟩
  exact owns_mono (owns_set (owns_set (owns_set HO.out (by simp)) (by simp)) (by simp)) (by simp)
end Go.Proofs.Ytofhdakggapahaa
namespace Go.Proofs.Ytofhdakggapahaa
open Go.RowKit Go.By
def gofS (width : Int) (rows : List (List UInt8)) : Int :=
  if width < 0 ∨ 65536 < width then 2 else if (65536 : Int) < rows.length ∨ (65536 : Int) < rows.length * width then 5 else if rows.all (fun y => decide (y.length = width.toNat)) then 0 else 4
theorem enters_of1 : Enters Try.prog 53 := enters_of Try.func53 (by kernel_rfl) rfl
set_option maxHeartbeats 400000 in
theorem Of1_any (q : Option Addr) (m c B s : Nat) (w : World) (hB : w.cell? ⟨B, 0, none⟩ = some (.int .i64 s)) :
    Calls Try.prog 53 #[.slice q m c, .pointer (some ⟨B, 0, none⟩)] w fun e w' => e = .returned (.bool ((m : Int) != s)) ∧ w = w' := by
  go_enter Try.func53, Try.ntmps53
  go_wp2
  go_ret
  exact ⟨rfl, rfl⟩
theorem RetG2.zero {T : TypeId} {w w' : World} {code : Int} (hb : Below w.heap.size w w') : RetG2 T w 0 0 [] code (.returned (.tuple #[.agg #[.int .i64 0, .int .i64 0, .slice none 0 0], .int .i64 code])) w' :=
  ⟨none, 0, 0, rfl, rfl, World.ownsRow_nil _ _ _ _, hb⟩
set_option maxRecDepth 100000 in
set_option maxHeartbeats 1000000 in
theorem GOf_bad (width : Int) (p : Option Addr) (m c : Nat) (w : World) (code : Int) (hc : (width < 0 ∨ 65536 < width) ∧ code = 2 ∨ (0 ≤ width ∧ width ≤ 65536 ∧ 65536 < m ∧ code = 5) ∨ (0 ≤ width ∧ width ≤ 65536 ∧ m ≤ 65536 ∧ (65536 : Int) < (m : Int) * width ∧ code = 5)) (hm : m ≤ 9223372036854775807) (hw : width ≤ 9223372036854775807) :
    Calls Try.prog 11 #[.int .i64 width, .slice p m c] w (RetG2 5 w 0 0 [] code) := by
  have hinfo := info_grid
  have HB : Hid (∀ o1 o2, Below w.heap.size w ((w.alloc o1).alloc o2)) := fun o1 o2 => al (al (Below.refl _ _) (Nat.le_refl _)) (by simp)
  have HX : Hid (∀ o1, ((w.alloc o1).alloc (.cells #[.int .i64 0, .int .i64 0, .slice none 0 0] 27)).heap[w.heap.size + 1]? = some (.cells #[.int .i64 0, .int .i64 0, .slice none 0 0] 27 (0, 0))) := fun o1 => hnew (by simp)
  rcases hc with ⟨h1 | h1, rfl⟩ | ⟨h0, h1, h2, rfl⟩ | ⟨h0, h1, h2, h3, rfl⟩
  · go_enter Try.func11, Try.ntmps11
    go_wp2
    refine bodyPost_ret (results_cell_tmp rfl _ _ _ 27 #[.int .i64 0, .int .i64 0, .slice none 0 0] (0, 0) _ (.int .i64 2) rfl (HX.out _) rfl Try.underlying27 rfl hinfo) rfl (RetG2.zero (HB.out _ _))
  · have h0 : 0 ≤ width := by omega
    go_enter Try.func11, Try.ntmps11
    go_wp2
    refine bodyPost_ret (results_cell_tmp rfl _ _ _ 27 #[.int .i64 0, .int .i64 0, .slice none 0 0] (0, 0) _ (.int .i64 2) rfl (HX.out _) rfl Try.underlying27 rfl hinfo) rfl (RetG2.zero (HB.out _ _))
  · have h3 : (65536 : Int) < (m : Int) := by omega
    go_enter Try.func11, Try.ntmps11
    go_wp2
    refine bodyPost_ret (results_cell_tmp rfl _ _ _ 27 #[.int .i64 0, .int .i64 0, .slice none 0 0] (0, 0) _ (.int .i64 5) rfl (HX.out _) rfl Try.underlying27 rfl hinfo) rfl (RetG2.zero (HB.out _ _))
  · obtain ⟨wd, rfl⟩ := Int.eq_ofNat_of_zero_le h0
    have h4 : (m : Int) ≤ 65536 := by omega
    have hle : m * wd ≤ 65536 * 65536 := Nat.mul_le_mul h2 (by omega)
    obtain ⟨k, hk⟩ : ∃ k, k = m * wd := ⟨_, rfl⟩
    have wm : IntKind.i64.wrap ((m : Int) * (wd : Int)) = ((k : Nat) : Int) := by rw [hk, ← Int.natCast_mul]; exact Go.IntWalk.i64_in _ (by omega)
    have h5 : (65536 : Int) < (k : Int) := by rw [hk, Int.natCast_mul]; exact h3
    clear h3 hk hle
    go_enter Try.func11, Try.ntmps11
    go_wp2
    refine bodyPost_ret (results_cell_tmp rfl _ _ _ 27 #[.int .i64 0, .int .i64 0, .slice none 0 0] (0, 0) _ (.int .i64 5) rfl (HX.out _) rfl Try.underlying27 rfl hinfo) rfl (RetG2.zero (HB.out _ _))
set_option maxRecDepth 100000 in
set_option maxHeartbeats 1000000 in
theorem RGOf_bad (width : Int) (p : Option Addr) (m c : Nat) (w : World) (code : Int) (hc : (width < 0 ∨ 65536 < width) ∧ code = 2 ∨ (0 ≤ width ∧ width ≤ 65536 ∧ 65536 < m ∧ code = 5) ∨ (0 ≤ width ∧ width ≤ 65536 ∧ m ≤ 65536 ∧ (65536 : Int) < (m : Int) * width ∧ code = 5)) (hm : m ≤ 9223372036854775807) (hw : width ≤ 9223372036854775807) :
    Calls Try.prog 13 #[.int .i64 width, .slice p m c] w fun e w' => e = .returned (.int .i64 code) ∧ w = w' := by
  rcases hc with ⟨h1 | h1, rfl⟩ | ⟨h0, h1, h2, rfl⟩ | ⟨h0, h1, h2, h3, rfl⟩
  · go_enter Try.func13, Try.ntmps13
    go_wp2
    go_ret
    exact ⟨rfl, rfl⟩
  · have h0 : 0 ≤ width := by omega
    go_enter Try.func13, Try.ntmps13
    go_wp2
    go_ret
    exact ⟨rfl, rfl⟩
  · have h3 : (65536 : Int) < (m : Int) := by omega
    go_enter Try.func13, Try.ntmps13
    go_wp2
    go_ret
    exact ⟨rfl, rfl⟩
  · obtain ⟨wd, rfl⟩ := Int.eq_ofNat_of_zero_le h0
    have h4 : (m : Int) ≤ 65536 := by omega
    have hle : m * wd ≤ 65536 * 65536 := Nat.mul_le_mul h2 (by omega)
    obtain ⟨k, hk⟩ : ∃ k, k = m * wd := ⟨_, rfl⟩
    have wm : IntKind.i64.wrap ((m : Int) * (wd : Int)) = ((k : Nat) : Int) := by rw [hk, ← Int.natCast_mul]; exact Go.IntWalk.i64_in _ (by omega)
    have h5 : (65536 : Int) < (k : Int) := by rw [hk, Int.natCast_mul]; exact h3
    clear h3 hk hle
    go_enter Try.func13, Try.ntmps13
    go_wp2
    go_ret
    exact ⟨rfl, rfl⟩
set_option maxRecDepth 100000 in
set_option maxHeartbeats 1000000 in
theorem RGOf_good (wd : Nat) (p : Option Addr) (m c : Nat) (xss : List (List UInt8)) (w : World) (h : Sl2 w p m c xss) (h1 : wd ≤ 65536) (h2 : m ≤ 65536) (h3 : m * wd ≤ 65536) :
    Calls Try.prog 13 #[.int .i64 wd, .slice p m c] w fun e w' => e = .returned (.int .i64 (if xss.all (fun y => decide (y.length = wd)) then 0 else 4)) ∧ w = w' := by
  obtain ⟨k, hk⟩ : ∃ k, k = m * wd := ⟨_, rfl⟩
  have wm : IntKind.i64.wrap ((m : Int) * (wd : Int)) = ((k : Nat) : Int) := by rw [hk, ← Int.natCast_mul]; exact Go.IntWalk.i64_in _ (by omega)
  rw [← hk] at h3
  have H := Lib.hid h
  have HL := Lib.hid h.len
  obtain ⟨R, hR⟩ : ∃ R : Int, R = if xss.all (fun y => decide (y.length = wd)) then 0 else 4 := ⟨_, rfl⟩
  rw [← hR]
  have HR := Lib.hid hR
  clear hk h hR
  go_enter Try.func13, Try.ntmps13
  go_wp2
  go_loop [25] (fun i => ∃ k : Nat, k ≤ m ∧ i = .int .i64 k ∧ Hid (∀ (j : Nat) (x : List UInt8), j < k → xss[j]? = some x → x.length = wd)) (fun i => m - (intOf i).toNat)
  case atStart => exact ⟨0, Nat.zero_le _, rfl, fun j x hj => by omega⟩
  case round =>
    obtain ⟨k, hk, rfl, hj⟩ := hrel
    by_cases hlt : k < m
    · obtain ⟨b, o, q, mx, cx, xs, rfl, hc, hs, hx⟩ := H.out.at k hlt
      have hmx := hs.len
      have hmb := hs.bound
      by_cases e : mx = wd
      · subst e
        have HX := Lib.hid hmx
        clear hs hmx
        go_wp2
        go_round
        case rel => exact ⟨k + 1, by omega, by go_num, fun j x hjk hx' => by
          rcases Nat.lt_or_ge j k with h | h
          · exact hj.out j x h hx'
          · obtain rfl : j = k := by omega
            have := hx.out; rw [hx'] at this; cases this; exact HX.out⟩
        case measure => simp [intOf]; omega
      · have d1 : ((mx : Int) != (wd : Int)) = true := by simp; omega
        have hR4 : Hid (R = 4) := by
          show R = 4
          rw [HR.out, if_neg]
          intro hall
          have := List.all_eq_true.1 hall xs (List.mem_of_getElem? hx.out)
          simp at this; omega
        clear hs hmx e
        go_wp2
        go_ret
        exact ⟨by rw [hR4.out]; rfl, rfl⟩
    · have hkm : k = m := by omega
      have hR0 : Hid (R = 0) := by
        show R = 0
        rw [HR.out, if_pos]
        rw [List.all_eq_true]
        intro x hx
        obtain ⟨i, hi, rfl⟩ := List.getElem_of_mem hx
        exact decide_eq_true (hj.out i _ (by rw [hkm, ← HL.out]; exact hi) (List.getElem?_eq_getElem hi))
      have hge : (m : Int) ≤ (k : Int) := by omega
      clear hkm
      go_wp2
      go_ret
      exact ⟨by rw [hR0.out]; rfl, rfl⟩
set_option maxRecDepth 100000 in
set_option maxHeartbeats 1000000 in
theorem Few7_any (p : Option Addr) (m c : Nat) (xss : List (List UInt8)) (w : World) (h : Sl2 w p m c xss) :
    Calls Try.prog 10 #[.slice p m c] w fun e w' => e = .returned (.bool (xss.all (fun y => decide (y.length ≤ 30)) && decide (m ≤ 30))) ∧ w = w' := by
  have H := Lib.hid h
  have HL := Lib.hid h.len
  have hmb := h.bound
  obtain ⟨R, hR⟩ : ∃ R : Bool, R = (xss.all (fun y => decide (y.length ≤ 30)) && decide (m ≤ 30)) := ⟨_, rfl⟩
  rw [← hR]
  have HR := Lib.hid hR
  clear h hR
  go_enter Try.func10, Try.ntmps10
  go_wp2
  go_loop [7] (fun i => ∃ k : Nat, k ≤ m ∧ i = .int .i64 k ∧ Hid (∀ (j : Nat) (x : List UInt8), j < k → xss[j]? = some x → x.length ≤ 30)) (fun i => m - (intOf i).toNat)
  case atStart => exact ⟨0, Nat.zero_le _, rfl, fun j x hj => by omega⟩
  case round =>
    obtain ⟨k, hk, rfl, hj⟩ := hrel
    by_cases hlt : k < m
    · obtain ⟨b, o, q, mx, cx, xs, rfl, hc, hs, hx⟩ := H.out.at k hlt
      have hmx := hs.len
      have hxb := hs.bound
      by_cases e : mx ≤ 30
      · have HX := Lib.hid hmx
        clear hs hmx
        have e' : (mx : Int) ≤ 30 := by omega
        go_wp2
        go_round
        case rel => exact ⟨k + 1, by omega, by go_num, fun j x hjk hx' => by
          rcases Nat.lt_or_ge j k with h | h
          · exact hj.out j x h hx'
          · obtain rfl : j = k := by omega
            have := hx.out; rw [hx'] at this; cases this; rw [HX.out]; exact e⟩
        case measure => simp [intOf]; omega
      · have e' : (30 : Int) < (mx : Int) := by omega
        have hRf : Hid (R = false) := by
          show R = false
          rw [HR.out]
          have : xss.all (fun y => decide (y.length ≤ 30)) = false := by
            rw [List.all_eq_false]
            exact ⟨xs, List.mem_of_getElem? hx.out, by simp; omega⟩
          rw [this]; rfl
        clear hs hmx e
        go_wp2
        go_ret
        exact ⟨by rw [hRf.out]; rfl, rfl⟩
    · have hkm : k = m := by omega
      have hRt : Hid (R = decide ((m : Int) ≤ 30)) := by
        show R = _
        rw [HR.out]
        have : xss.all (fun y => decide (y.length ≤ 30)) = true := by
          rw [List.all_eq_true]
          intro x hx
          obtain ⟨i, hi, rfl⟩ := List.getElem_of_mem hx
          exact decide_eq_true (hj.out i _ (by rw [hkm, ← HL.out]; exact hi) (List.getElem?_eq_getElem hi))
        rw [this, Bool.true_and]
        by_cases h30 : m ≤ 30
        · rw [decide_eq_true h30, decide_eq_true (by omega)]
        · rw [decide_eq_false h30, decide_eq_false (by omega)]
      have hge : (m : Int) ≤ (k : Int) := by omega
      clear hkm
      go_wp2
      go_ret
      exact ⟨by rw [hRt.out]; rfl, rfl⟩
end Go.Proofs.Ytofhdakggapahaa
namespace Go.By
theorem list_set_succ {α : Type} (vs : List α) (n : Nat) (z u : α) : (vs ++ List.replicate (n + 1) z).set vs.length u = (vs ++ [u]) ++ List.replicate n z := by
  rw [List.set_append_right _ _ (Nat.le_refl _), Nat.sub_self, List.replicate_succ, List.set_cons_zero, List.append_assoc]; rfl
end Go.By
namespace Go.Proofs.Ytofhdakggapahaa
open Go.RowKit Go.By
/-- the cells of a unit behind so many rounds -/
def unitC (n : Nat) : Nat → List UInt8
  | 0 => List.replicate (n * n) 0
  | k + 1 => (unitC n k).set (k * n + k) 1
theorem unitC_len (n : Nat) : ∀ k, (unitC n k).length = n * n
  | 0 => by simp [unitC]
  | k + 1 => by simp [unitC, unitC_len n k]
theorem info_rows : (Try.prog.info? 25).map (fun i => (i.zero, i.size, i.bytes)) = some (some (.slice none 0 0), 1, 24) := by kernel_rfl
set_option maxRecDepth 100000 in
set_option maxHeartbeats 1000000 in
theorem Unit_bad (n : Int) (w : World) (h : n < 0 ∨ 256 < n) : Calls Try.prog 12 #[.int .i64 n] w (RetG2 5 w 0 0 [] 2) := by
  have hinfo := info_grid
  have HB : Hid (∀ o1, Below w.heap.size w (w.alloc o1)) := fun o1 => al (Below.refl _ _) (Nat.le_refl _)
  have HX : Hid ((w.alloc (.cells #[.int .i64 0, .int .i64 0, .slice none 0 0] 27)).heap[w.heap.size]? = some (.cells #[.int .i64 0, .int .i64 0, .slice none 0 0] 27 (0, 0))) := hnew rfl
  rcases h with h | h
  · go_enter Try.func12, Try.ntmps12
    go_wp2
    refine bodyPost_ret (results_cell_tmp rfl _ _ _ 27 #[.int .i64 0, .int .i64 0, .slice none 0 0] (0, 0) _ (.int .i64 2) rfl HX.out rfl Try.underlying27 rfl hinfo) rfl (RetG2.zero (HB.out _))
  · have h0 : 0 ≤ n := by omega
    go_enter Try.func12, Try.ntmps12
    go_wp2
    refine bodyPost_ret (results_cell_tmp rfl _ _ _ 27 #[.int .i64 0, .int .i64 0, .slice none 0 0] (0, 0) _ (.int .i64 2) rfl HX.out rfl Try.underlying27 rfl hinfo) rfl (RetG2.zero (HB.out _))
set_option maxRecDepth 100000 in
set_option maxHeartbeats 2000000 in
theorem Unit_good (n : Nat) (w : World) (hn : n ≤ 256) : Calls Try.prog 12 #[.int .i64 n] w (RetG2 5 w n n (unitC n n) 0) := by
  have hinfo := info_grid
  have hnn : n * n ≤ 256 * 256 := Nat.mul_le_mul hn hn
  have HBL := Lib.hid (fun W => blank_any n n W (show Room (n * n) by unfold Room; omega) (by omega) (by omega))
  obtain ⟨N, hN⟩ : ∃ N, N = n * n := ⟨_, rfl⟩
  have HNE := Lib.hid hN
  have HL : Hid (∀ k, (unitC n k).length = N) := fun k => by rw [hN]; exact unitC_len n k
  rw [← hN] at hnn
  clear hN
  go_enter Try.func12, Try.ntmps12
  go_wp2_with fail
  refine Calls.mono (HBL.out _) ?_; rintro e w1 ⟨q, n1, c, hn1, rfl, ho, hb⟩
  obtain rfl : n1 = N := hn1.trans HNE.out.symm
  have E0 : Hid (w1.heap[w.heap.size]? = some (.cells #[.int .i64 0, .int .i64 0, .slice none 0 0] 27 (0, 0))) := (hb.block _ (by simp)).trans (hnew rfl)
  have K1 : Hid (Below w.heap.size w w1) := bl (al (Below.refl _ _) (Nat.le_refl _)) hb (by simp)
  have hs1 := hb.size
  have HS1 : Hid (w.heap.size + 1 ≤ w1.heap.size) := by show _ ≤ _; simp at hs1; omega
  have HO : Hid (w1.ownsRow (w.heap.size + 1) 5 1 (.slice q n1 c) n1 ((unitC n 0).map B8)) := by
    show World.ownsRow _ _ _ _ _ _ _
    unfold unitC
    have ho2 := owns_mono ho (show w.heap.size + 1 ≤ _ by simp)
    exact ho2
  clear ho hb hs1 hn1
  go_wp2
  go_loopw [17] (fun i wr => ∃ k : Nat, k ≤ n ∧ i = .int .i64 k ∧ Hid (wr.ownsRow (w.heap.size + 1) 5 1 (.slice q n1 c) n1 ((unitC n k).map B8)) ∧ Hid (Below w.heap.size w wr) ∧
    Hid (wr.heap[w1.heap.size]? = some (.cells #[.int .i64 n, .int .i64 n, .slice q n1 c] 27 (0, 0))) ∧ Hid (wr.heap[w.heap.size]? = some (.cells #[.int .i64 0, .int .i64 0, .slice none 0 0] 27 (0, 0)))) (fun i _ => n - (intOf i).toNat)
  case atStart => exact ⟨0, Nat.zero_le _, rfl, owns_keep HO.out (al (Below.refl _ _) (Nat.le_refl _)), al K1.out K1.out.size, hnew rfl, hal E0.out⟩
  case round =>
    obtain ⟨k, hk, rfl, hO, hB, hX, hZ⟩ := hrel
    by_cases hlt : k < n
    · obtain ⟨x0, x1, x2⟩ := cells3 hX.out
      have hpos : 0 < n1 := by rw [HNE.out]; exact Nat.mul_pos (by omega) (by omega)
      obtain ⟨g, rfl, hg1, hg2⟩ := owns_at hO.out hpos
      have hidx : k * n + k < n1 := by
        have h1 : (k + 1) * n ≤ n * n := Nat.mul_le_mul_right _ hlt
        rw [Nat.add_mul, Nat.one_mul, ← HNE.out] at h1; omega
      have hg : w1.heap.size ≠ g := fun e => by
        subst e
        rcases hO.out.2 with ⟨h', _⟩ | ⟨g', cap, cur, hv, _, hh, _⟩
        · cases h'
        · cases hv
          rw [hX.out] at hh; cases hh
      have hz : w.heap.size ≠ g := by omega
      go_wp2_with fail
      refine Calls.mono (row_any n n k _ n1 c (unitC n k) wr (Sl.of_owns hO.out) HNE.out hlt (by omega)) ?_
      rintro e w2 ⟨q', c', rfl, hs', hq', hb'⟩
      have hq2 := hq' (by omega) g 0 rfl
      rw [Nat.zero_add] at hq2
      subst hq2
      have hO2 : Hid (w2.ownsRow (w.heap.size + 1) 5 1 (.slice (some ⟨g, 0, none⟩) n1 c) n1 ((unitC n k).map B8)) := owns_keep hO.out hb'
      have hB2 : Hid (Below w.heap.size w w2) := bl hB.out hb' hB.out.size
      have hX2 : Hid (w2.heap[w1.heap.size]? = some (.cells #[.int .i64 n, .int .i64 n, .slice (some ⟨g, 0, none⟩) n1 c] 27 (0, 0))) := (hb'.block _ (blk_lt hX.out)).trans hX.out
      have hZ2 : Hid (w2.heap[w.heap.size]? = some (.cells #[.int .i64 0, .int .i64 0, .slice none 0 0] 27 (0, 0))) := (hb'.block _ (blk_lt hZ.out)).trans hZ.out
      obtain ⟨y, hy⟩ : ∃ y, (unitC n k)[k * n + k]? = some y := ⟨_, List.getElem?_eq_getElem (by rw [HL.out]; exact hidx)⟩
      have cx : w2.cell? ⟨g, k * n + k, none⟩ = some (B8 y) := by rw [hO2.out.cellAt _ (by omega), List.getElem?_map, hy]; rfl
      have zx : w2.frozen? ⟨g, k * n + k, none⟩ = false := hO2.out.frozenAt _
      have kn : (k : Int) < (n : Int) := by omega
      clear hO hB hX hZ hs' hq' hb' x0 x1 x2 hy hidx
      have P2 : Hid ((w2.setCell ⟨g, k * n + k, none⟩ (.int .u8 1)).ownsRow (w.heap.size + 1) 5 1 (.slice (some ⟨g, 0, none⟩) n1 c) n1 ((unitC n (k + 1)).map B8) ∧ Below w.heap.size w (w2.setCell ⟨g, k * n + k, none⟩ (.int .u8 1)) ∧
          (w2.setCell ⟨g, k * n + k, none⟩ (.int .u8 1)).heap[w1.heap.size]? = some (.cells #[.int .i64 n, .int .i64 n, .slice (some ⟨g, 0, none⟩) n1 c] 27 (0, 0)) ∧
          (w2.setCell ⟨g, k * n + k, none⟩ (.int .u8 1)).heap[w.heap.size]? = some (.cells #[.int .i64 0, .int .i64 0, .slice none 0 0] 27 (0, 0))) := by
        refine ⟨?_, hB2.out.setCell (by show w.heap.size ≤ g; omega) _, hsc hX2.out hg, hsc hZ2.out hz⟩
        have e : unitC n (k + 1) = (unitC n k).set (k * n + k) 1 := rfl
        rw [e, List.map_set]
        exact (hO2.out.stored (k * n + k) (B8 1)).1
      clear hO2 hB2 hX2 hZ2
      go_wp2
      go_roundw
      case rel => exact ⟨k + 1, by omega, by go_num, P2.out.1, P2.out.2.1, P2.out.2.2.1, P2.out.2.2.2⟩
      case measure => simp [intOf]; omega
    · have hkn : k = n := by omega
      obtain ⟨x0, x1, x2⟩ := cells3 hX.out
      obtain ⟨f0, f1, f2⟩ := cells3 hZ.out
      have z0 := frozen_of_row _ _ 0 _ _ hZ.out
      have z1 := frozen_of_row _ _ 1 _ _ hZ.out
      have z2 := frozen_of_row _ _ 2 _ _ hZ.out
      have hge : (n : Int) ≤ (k : Int) := by omega
      have HKN := Lib.hid hkn
      clear hkn
      go_wp2
      refine bodyPost_ret (results_cell_tmp rfl _ _ _ 27 #[.int .i64 n, .int .i64 n, .slice q n1 c] (0, 0) _ (.int .i64 0) rfl (hss (hss (hss hZ.out))) rfl Try.underlying27 rfl hinfo) rfl ⟨q, n1, c, HNE.out, rfl, ?_, ((hB.out.setCell (Nat.le_refl _) _).setCell (Nat.le_refl _) _).setCell (Nat.le_refl _) _⟩
      rw [← HKN.out]
      rw [HKN.out] at hO ⊢
      exact owns_mono (owns_set (owns_set (owns_set hO.out (by simp)) (by simp)) (by simp)) (by simp)
set_option maxRecDepth 100000 in
set_option maxHeartbeats 2000000 in
theorem GRows_any (h wd : Nat) (p : Option Addr) (n c : Nat) (cells : List UInt8) (w : World) (hs : Sl B8 w p n c cells) (hn : n = h * wd) (hr : Room wd) (hh : Room (h * 24)) :
    Calls Try.prog 17 #[.agg #[.int .i64 h, .int .i64 wd, .slice p n c]] w fun e w' => ∃ q c', e = .returned (.slice q h c') ∧ Own2 25 5 w' w.heap.size (.slice q h c') h ((List.range h).map (rowF wd cells)) ∧ Below w.heap.size w w' := by
  obtain ⟨r0, hr0, hrz, hr1, hr2⟩ := info_parts info_rows
  have HS := Lib.hid hs; have HN := Lib.hid hn
  unfold Room at hh
  have hb : h ≤ 9223372036854775807 := by omega
  have HM1 : Hid (h ≤ maxLen) := by show h ≤ maxLen; unfold maxLen; omega
  have HM2 : Hid (24 * h ≤ 281474976710656) := by show 24 * h ≤ _; omega
  have HR := Lib.hid hr
  have HB : Hid (∀ o, Below w.heap.size w (w.alloc o)) := fun o => al (Below.refl _ _) (Nat.le_refl _)
  clear hs hn hr
  go_enter Try.func17, Try.ntmps17
  go_wp2_with (at_make; refine wpList_make_full _ rfl _ _ 22 rfl (w.heap.size + 1) 25 r0 (.slice none 0 0) 1 Try.underlying22 hr0 hrz hr1 .i64 .i64 _ _ h rfl rfl rfl rfl (by rw [hr2]; exact HM2.out) HM1.out (by simp) ?_)
  intro w1 ho hg
  have HO : Hid (w1.ownsRow (w.heap.size + 1) 25 1 (.slice (some ⟨w.heap.size + 1, 0, none⟩) h h) h ([] ++ List.replicate (h - 0) (Value.slice none 0 0))) := by
    have e : (madeCells #[Value.slice none 0 0] h).toList = List.replicate h (Value.slice none 0 0) := toList_madeCells_one _ _
    show World.ownsRow _ _ _ _ _ _ _
    rw [List.nil_append, Nat.sub_zero, ← e]; simpa using ho
  have hb1 : Below w.heap.size w w1 := (HB.out _).grown hg (by simp) (by simp)
  have E0 : Hid (w1.heap[w.heap.size]? = some (.cells #[.int .i64 h, .int .i64 wd, .slice p n c] 27 (0, 0))) := by
    show _ = _
    rw [hg.block _ (by simp) (by simp)]; exact hnew rfl
  have K1 := Lib.hid hb1
  obtain ⟨y0, y1, y2⟩ := cells3 E0.out
  clear ho hg hb1
  go_wp2
  clear y0 y1 y2
  go_loopw [10] (fun i wr => ∃ (k : Nat) (vs : List Value), k ≤ h ∧ i = .int .i64 k ∧ Hid (vs.length = k) ∧ Hid (wr.ownsRow (w.heap.size + 1) 25 1 (.slice (some ⟨w.heap.size + 1, 0, none⟩) h h) h (vs ++ List.replicate (h - k) (Value.slice none 0 0))) ∧
    Hid (∀ (j : Nat) (v : Value), vs[j]? = some v → ∃ q c', v = .slice q wd c' ∧ wr.ownsRow (w.heap.size + 1) 5 1 (.slice q wd c') wd ((rowF wd cells j).map B8)) ∧ Hid (Below w.heap.size w wr) ∧
    Hid (wr.heap[w.heap.size]? = some (.cells #[.int .i64 h, .int .i64 wd, .slice p n c] 27 (0, 0)))) (fun i _ => h - (intOf i).toNat)
  case atStart => exact ⟨0, [], Nat.zero_le _, rfl, rfl, HO.out, fun j v hj => by simp at hj, K1.out, E0.out⟩
  case round =>
    obtain ⟨k, vs, hk, rfl, hl, hO, hV, hBw, hX⟩ := hrel
    by_cases hlt : k < h
    · obtain ⟨x0, x1, x2⟩ := cells3 hX.out
      go_wp2_with fail
      refine Calls.mono (row_any h wd k p n c cells wr (HS.out.keep hBw.out) HN.out hlt hb) ?_
      rintro e w2 ⟨q', c', rfl, hs', -, hb'⟩
      have hB2 : Hid (Below w.heap.size w w2) := bl hBw.out hb' hBw.out.size
      have HS' := Lib.hid hs'
      have hs2 := hb'.size
      have hsz := hBw.out.size
      clear x0 x1 x2 hs'
      go_wp2_with fail
      refine Calls.mono (CloneB_any q' wd c' (rowF wd cells k) w2 HS'.out HR.out) ?_
      rintro e w3 ⟨q3, c3, rfl, ho3, hb3⟩
      have hb23 := bl hb' hb3 hs2
      have hO3 : Hid (w3.ownsRow (w.heap.size + 1) 25 1 (.slice (some ⟨w.heap.size + 1, 0, none⟩) h h) h (vs ++ List.replicate (h - k) (Value.slice none 0 0))) := owns_keep hO.out hb23
      have hlt0 := (hO.out.lt (w.heap.size + 1) rfl).2
      have hR3 : Hid (w3.ownsRow (w.heap.size + 1) 5 1 (.slice q3 wd c3) wd ((rowF wd cells k).map B8)) := owns_mono ho3 (by omega)
      have hV3 : Hid (∀ (j : Nat) (v : Value), vs[j]? = some v → ∃ q c', v = .slice q wd c' ∧ w3.ownsRow (w.heap.size + 1) 5 1 (.slice q wd c') wd ((rowF wd cells j).map B8)) := fun j v hj => by
        obtain ⟨q, c', e, ho⟩ := hV.out j v hj
        exact ⟨q, c', e, owns_keep ho hb23⟩
      have hB3 : Hid (Below w.heap.size w w3) := bl hBw.out hb23 hBw.out.size
      have hX3 : Hid (w3.heap[w.heap.size]? = some (.cells #[.int .i64 h, .int .i64 wd, .slice p n c] 27 (0, 0))) := (hb23.block _ (blk_lt hX.out)).trans hX.out
      have cx : w3.cell? ⟨w.heap.size + 1, k, none⟩ = some (.slice none 0 0) := by
        rw [hO3.out.cellAt _ (by omega), List.getElem?_append_right (by rw [hl.out]; exact Nat.le_refl _), hl.out, Nat.sub_self]
        exact List.getElem?_replicate_of_lt (by omega)
      have zx : w3.frozen? ⟨w.heap.size + 1, k, none⟩ = false := hO3.out.frozenAt _
      have kn : (k : Int) < (h : Int) := by omega
      have P2 : Hid ((w3.setCell ⟨w.heap.size + 1, k, none⟩ (.slice q3 wd c3)).ownsRow (w.heap.size + 1) 25 1 (.slice (some ⟨w.heap.size + 1, 0, none⟩) h h) h ((vs ++ [.slice q3 wd c3]) ++ List.replicate (h - (k + 1)) (Value.slice none 0 0)) ∧
          (∀ (j : Nat) (v : Value), (vs ++ [.slice q3 wd c3])[j]? = some v → ∃ q c', v = .slice q wd c' ∧ (w3.setCell ⟨w.heap.size + 1, k, none⟩ (.slice q3 wd c3)).ownsRow (w.heap.size + 1) 5 1 (.slice q wd c') wd ((rowF wd cells j).map B8)) ∧
          Below w.heap.size w (w3.setCell ⟨w.heap.size + 1, k, none⟩ (.slice q3 wd c3)) ∧
          (w3.setCell ⟨w.heap.size + 1, k, none⟩ (.slice q3 wd c3)).heap[w.heap.size]? = some (.cells #[.int .i64 h, .int .i64 wd, .slice p n c] 27 (0, 0))) := by
        have hst := hO3.out.stored k (.slice q3 wd c3)
        have hkeep : ∀ (q : Option Addr) (c' j : Nat), w3.ownsRow (w.heap.size + 1) 5 1 (.slice q wd c') wd ((rowF wd cells j).map B8) → (w3.setCell ⟨w.heap.size + 1, k, none⟩ (.slice q3 wd c3)).ownsRow (w.heap.size + 1) 5 1 (.slice q wd c') wd ((rowF wd cells j).map B8) := fun q c' j hh =>
          owns_kept hh hst.2 (owns_ne hh hO3.out (by decide))
        refine ⟨?_, ?_, hB3.out.setCell (by show w.heap.size ≤ w.heap.size + 1; omega) _, hsc hX3.out (by show w.heap.size ≠ w.heap.size + 1; omega)⟩
        · have e := list_set_succ vs (h - (k + 1)) (Value.slice none 0 0) (.slice q3 wd c3)
          rw [hl.out, show h - (k + 1) + 1 = h - k by omega] at e
          rw [← e]; exact hst.1
        · intro j v hj
          by_cases hjk : j < vs.length
          · rw [List.getElem?_append_left hjk] at hj
            obtain ⟨q, c', e, ho⟩ := hV3.out j v hj
            exact ⟨q, c', e, hkeep _ _ _ ho⟩
          · have hj2 := (List.getElem?_eq_some_iff.1 hj).1
            rw [List.length_append, List.length_singleton] at hj2
            obtain rfl : j = vs.length := by omega
            rw [List.getElem?_append_right (Nat.le_refl _), Nat.sub_self] at hj
            have hv : Value.slice q3 wd c3 = v := by simpa using hj
            exact ⟨q3, c3, hv.symm, by rw [hl.out]; exact hkeep _ _ _ hR3.out⟩
      have HL2 : Hid ((vs ++ [Value.slice q3 wd c3]).length = k + 1) := by show _ = _; rw [List.length_append, hl.out]; rfl
      clear hO hV hBw hX ho3 hb3 hb23 hO3 hR3 hV3 hB3 hX3 hB2 hs2 hlt0 HS' hb' hsz
      go_wp2
      go_roundw
      case rel => exact ⟨k + 1, vs ++ [Value.slice q3 wd c3], by omega, by go_num, HL2.out, P2.out.1, P2.out.2.1, P2.out.2.2.1, P2.out.2.2.2⟩
      case measure => simp [intOf]; omega
    · have hkh : k = h := by omega
      have hge : (h : Int) ≤ (k : Int) := by omega
      have HF : Hid (Own2 25 5 wr w.heap.size (.slice (some ⟨w.heap.size + 1, 0, none⟩) h h) h ((List.range h).map (rowF wd cells))) := by
        have hO' := hO.out
        rw [hkh, Nat.sub_self, List.replicate_zero, List.append_nil] at hO'
        refine ⟨vs, owns_mono hO' (by omega), by simp, ?_⟩
        intro j v hj
        have hj2 := (List.getElem?_eq_some_iff.1 hj).1
        rw [hl.out] at hj2
        obtain ⟨q, c', e, ho⟩ := hV.out j v hj
        have hlen : (rowF wd cells j).length = wd := by have := owns_len ho; simpa using this
        refine ⟨rowF wd cells j, q, c', by rw [List.getElem?_map, List.getElem?_range (by omega)]; rfl, by rw [hlen]; exact e, ?_⟩
        rw [hlen]; exact owns_mono ho (by omega)
      have HBF := Lib.hid hBw.out
      clear hkh hO hV hX hBw hl
      go_wp2
      go_ret
      exact ⟨_, _, rfl, HF.out, HBF.out⟩
end Go.Proofs.Ytofhdakggapahaa
namespace Go.By
open Go.RowKit
def fl2 (vs : List (Value × Value)) : List Value := vs.flatMap fun u => [u.1, u.2]
theorem fl2_append (a b : List (Value × Value)) : fl2 (a ++ b) = fl2 a ++ fl2 b := by simp [fl2]
theorem fl2_length (vs : List (Value × Value)) : (fl2 vs).length = vs.length * 2 := by
  induction vs with
  | nil => rfl
  | cons u vs ih => show (u.1 :: u.2 :: fl2 vs).length = _; simp only [List.length_cons, ih]; omega
theorem fl2_at : ∀ {vs : List (Value × Value)} {i : Nat} {u : Value × Value}, vs[i]? = some u → (fl2 vs)[i * 2]? = some u.1 ∧ (fl2 vs)[i * 2 + 1]? = some u.2
  | v :: vs, 0, u, h => by obtain rfl : v = u := by simpa using h
                           exact ⟨rfl, rfl⟩
  | v :: vs, i + 1, u, h => by
    have ih := fl2_at (vs := vs) (i := i) (u := u) (by simpa using h)
    have e : fl2 (v :: vs) = v.1 :: v.2 :: fl2 vs := rfl
    rw [e, show (i + 1) * 2 = i * 2 + 2 by omega]
    exact ⟨by simpa using ih.1, by simpa using ih.2⟩
/-- a slice value that owns these bytes -/
def Bw (T1 : TypeId) (w : World) (base : Nat) (v : Value) (xs : List UInt8) : Prop := ∃ q m c, v = .slice q m c ∧ xs.length = m ∧ w.ownsRow base T1 1 (.slice q m c) m (xs.map B8)
/-- rows, each with bytes of its own -/
def RwL (T2 T1 : TypeId) (w : World) (base : Nat) (v : Value) (n : Nat) (K : List (List UInt8 × List UInt8)) : Prop :=
  ∃ vs : List (Value × Value), vs.length = n ∧ K.length = n ∧ w.ownsRow base T2 2 v n (fl2 vs) ∧ ∀ (j : Nat) (u : Value × Value), vs[j]? = some u → ∃ k, K[j]? = some k ∧ Bw T1 w base u.1 k.1 ∧ Bw T1 w base u.2 k.2
section
variable {T2 T1 : TypeId} {w w' : World} {base n : Nat} {v : Value} {K : List (List UInt8 × List UInt8)}
theorem Bw.keep {xs : List UInt8} (h : Bw T1 w base v xs) (hb : Below w.heap.size w w') : Bw T1 w' base v xs := by
  obtain ⟨q, m, c, e, l, o⟩ := h; exact ⟨q, m, c, e, l, owns_keep o hb⟩
theorem Bw.sl {xs : List UInt8} (h : Bw T1 w base v xs) : ∃ q m c, v = .slice q m c ∧ Sl B8 w q m c xs := by
  obtain ⟨q, m, c, e, l, o⟩ := h; exact ⟨q, m, c, e, Sl.of_owns o⟩
theorem Bw.grown {xs : List UInt8} {u : Value} {L : List Value} {m : Nat} (h : Bw T1 w base v xs) (hT : T1 ≠ T2) (ho : w.ownsRow base T2 2 u m L) (hg : w.grownBy w' u.ownBlock) : Bw T1 w' base v xs := by
  obtain ⟨q, m, c, e, l, o⟩ := h; exact ⟨q, m, c, e, l, owns_kept o hg (owns_ne o ho hT)⟩
theorem RwL.nil (T2 T1 : TypeId) (w : World) (base : Nat) : RwL T2 T1 w base (.slice none 0 0) 0 [] := ⟨[], rfl, rfl, World.ownsRow_nil _ _ _ _, fun j u h => by simp at h⟩
theorem RwL.keep (h : RwL T2 T1 w base v n K) (hb : Below w.heap.size w w') : RwL T2 T1 w' base v n K := by
  obtain ⟨vs, a, b, o, r⟩ := h
  exact ⟨vs, a, b, owns_keepv o hb, fun j u hj => by obtain ⟨k, hk, g1, g2⟩ := r j u hj; exact ⟨k, hk, g1.keep hb, g2.keep hb⟩⟩
theorem RwL.len (h : RwL T2 T1 w base v n K) : K.length = n := by obtain ⟨vs, a, b, o, r⟩ := h; exact b
theorem RwL.shape (h : RwL T2 T1 w base v n K) : ∃ q c, v = .slice q n c := by obtain ⟨vs, a, b, o, r⟩ := h; exact owns_shape o
/-- one row, in memory -/
theorem RwL.at {q : Option Addr} {c : Nat} (h : RwL T2 T1 w base (.slice q n c) n K) {j : Nat} (hj : j < n) : ∃ g k q1 m1 c1 q2 m2 c2, q = some ⟨g, 0, none⟩ ∧ w.cell? ⟨g, j * 2, none⟩ = some (.slice q1 m1 c1) ∧ w.cell? ⟨g, j * 2 + 1, none⟩ = some (.slice q2 m2 c2) ∧
    Hid (K[j]? = some k) ∧ Sl B8 w q1 m1 c1 k.1 ∧ Sl B8 w q2 m2 c2 k.2 := by
  obtain ⟨vs, a, b, o, r⟩ := h
  obtain ⟨u, hu⟩ : ∃ u, vs[j]? = some u := ⟨_, List.getElem?_eq_getElem (by omega)⟩
  obtain ⟨k, hk, g1, g2⟩ := r j u hu
  obtain ⟨q1, m1, c1, e1, s1⟩ := g1.sl
  obtain ⟨q2, m2, c2, e2, s2⟩ := g2.sl
  rcases o.2 with ⟨hv, _⟩ | ⟨g, cap, cur, hv, _⟩
  · simp at hv; omega
  · obtain ⟨rfl, rfl⟩ : q = some ⟨g, 0, none⟩ ∧ c = cap := by simpa using hv
    obtain ⟨f1, f2⟩ := fl2_at hu
    refine ⟨g, k, q1, m1, c1, q2, m2, c2, rfl, ?_, ?_, hk, s1, s2⟩
    · rw [o.cellAt _ (by omega), f1, e1]
    · rw [o.cellAt _ (by omega), f2, e2]
theorem RwL.lt (h : RwL T2 T1 w base v n K) : ∀ k, v.ownBlock = some k → base ≤ k ∧ k < w.heap.size := by
  obtain ⟨vs, a, b, o, r⟩ := h; exact fun k hk => o.lt k hk
theorem Bw.set {xs : List UInt8} {g o : Nat} {u : Value} (h : Bw T1 w base v xs) (hne : ∀ k, v.ownBlock = some k → k ≠ g) (hg : w.grownBy w' (some g)) : Bw T1 w' base v xs := by
  obtain ⟨q, m, c, rfl, l, ho⟩ := h; exact ⟨q, m, c, rfl, l, owns_kept ho hg (fun k hk e => hne k hk (by injection e))⟩
/-- what is written into a block of another type leaves them -/
theorem RwL.set {g TX : Nat} {cs : Array Value} {fr : Nat × Nat} (h : RwL T2 T1 w base v n K) (hX : w.heap[g]? = some (.cells cs TX fr)) (h1 : T1 ≠ TX) (h2 : v.ownBlock ≠ some g) (hg : w.grownBy w' (some g)) : RwL T2 T1 w' base v n K := by
  obtain ⟨vs, a, b, o, r⟩ := h
  have hB : ∀ (u : Value) (xs : List UInt8), Bw T1 w base u xs → Bw T1 w' base u xs := fun u xs hu => by
    refine hu.set (g := g) (o := 0) (u := u) (fun k hk e => ?_) hg
    obtain ⟨q, m, c, rfl, l, ho⟩ := hu
    rcases ho.2 with ⟨hv, _⟩ | ⟨g', cap, cur, hv, _, hh, _⟩
    · rw [hv] at hk; simp [Value.ownBlock] at hk
    · rw [hv] at hk; simp [Value.ownBlock] at hk
      rw [e] at hk; rw [hk, hX] at hh
      injection hh with hh; injection hh with _ hh _; exact h1 hh.symm
  exact ⟨vs, a, b, owns_kept o hg (fun k hk e => h2 (by rw [hk, e])), fun j u hj => by obtain ⟨k, hk, g1, g2⟩ := r j u hj; exact ⟨k, hk, hB _ _ g1, hB _ _ g2⟩⟩
/-- one more -/
theorem RwL.push {w1 : World} {v' : Value} {u1 u2 : Value} {k : List UInt8 × List UInt8} {vs : List (Value × Value)} (a : vs.length = n) (b : K.length = n) (o : w.ownsRow base T2 2 v n (fl2 vs))
    (r : ∀ (j : Nat) (u : Value × Value), vs[j]? = some u → ∃ k, K[j]? = some k ∧ Bw T1 w base u.1 k.1 ∧ Bw T1 w base u.2 k.2) (hT : T1 ≠ T2) (h1 : Bw T1 w base u1 k.1) (h2 : Bw T1 w base u2 k.2)
    (ho : w1.ownsRow base T2 2 v' (n + 1) (fl2 vs ++ [u1, u2])) (hg : w.grownBy w1 v.ownBlock) : RwL T2 T1 w1 base v' (n + 1) (K ++ [k]) := by
  refine ⟨vs ++ [(u1, u2)], by simp [a], by simp [b], by rw [fl2_append]; exact ho, ?_⟩
  intro j u hj
  by_cases hjn : j < vs.length
  · rw [List.getElem?_append_left hjn] at hj
    obtain ⟨k', hk, g1, g2⟩ := r j u hj
    exact ⟨k', by rw [List.getElem?_append_left (by omega)]; exact hk, g1.grown hT o hg, g2.grown hT o hg⟩
  · have hj2 := (List.getElem?_eq_some_iff.1 hj).1
    rw [List.length_append, List.length_singleton] at hj2
    obtain rfl : j = vs.length := by omega
    rw [List.getElem?_append_right (Nat.le_refl _), Nat.sub_self] at hj
    have hu : (u1, u2) = u := by simpa using hj
    subst hu
    exact ⟨k, by rw [a, ← b, List.getElem?_append_right (Nat.le_refl _), Nat.sub_self]; rfl, h1.grown hT o hg, h2.grown hT o hg⟩
end
end Go.By
