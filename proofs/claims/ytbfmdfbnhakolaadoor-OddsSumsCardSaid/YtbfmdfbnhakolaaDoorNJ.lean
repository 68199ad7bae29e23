/- Numbers: times. -/
import Derived.Test.YtbfmdfbnhakolaaDoorNI
namespace Go.By
open Go.RowKit
theorem valW_set {S : List UInt64} {k : Nat} {s p : UInt64} (h : S[k]? = some p) : valW (S.set k s) + 18446744073709551616 ^ k * p.toNat = valW S + 18446744073709551616 ^ k * s.toNat := by
  unfold valW
  rw [List.map_set]
  exact valD_set _ _ _ _ (by rw [List.getElem?_map, h]; rfl)
theorem mul_parts {a y p c hi lo l1 c1 l2 c2 : Nat} (h0 : hi * 18446744073709551616 + lo = a * y) (h1 : l1 = (lo + p + 0) % 18446744073709551616) (g1 : c1 = (lo + p + 0) / 18446744073709551616) (h2 : l2 = (l1 + c + 0) % 18446744073709551616) (g2 : c2 = (l1 + c + 0) / 18446744073709551616) :
    l2 = (a * y + p + c) % 18446744073709551616 ∧ hi + c1 + c2 = (a * y + p + c) / 18446744073709551616 := by
  rw [← h0]; omega
end Go.By
namespace Go.Proofs.YtbfmdfbnhakolaaDoor
open Go.RowKit Go.By
theorem mul64_ex (x y : UInt64) : ∃ hi lo : UInt64, (∀ w, Calls Tryd.prog 65 #[W64 x, W64 y] w fun e w' => e = .returned (.tuple #[W64 hi, W64 lo]) ∧ w' = w) ∧ Hid (hi.toNat * 18446744073709551616 + lo.toNat = x.toNat * y.toNat) := by
  have hx := x.toNat_lt; have hy := y.toNat_lt
  have hxy : x.toNat * y.toNat < 18446744073709551616 * 18446744073709551616 := Nat.mul_lt_mul'' hx hy
  obtain ⟨z, hz⟩ : ∃ z, z = x.toNat * y.toNat := ⟨_, rfl⟩
  rw [← hz] at hxy ⊢
  have e1 : (UInt64.ofNat (z / 18446744073709551616)).toNat = z / 18446744073709551616 := by simp; omega
  have e2 : (UInt64.ofNat (z % 18446744073709551616)).toNat = z % 18446744073709551616 := by simp
  refine ⟨UInt64.ofNat (z / 18446744073709551616), UInt64.ofNat (z % 18446744073709551616), fun w => ?_, ?_⟩
  · refine (Tryd.bits_Mul64 x.toNat y.toNat hx hy w).mono ?_
    rintro e w' ⟨rfl, rfl⟩
    rw [← hz]
    exact ⟨by rw [← W64_eq (congrArg Int.ofNat e1.symm), ← W64_eq (congrArg Int.ofNat e2.symm)]; rfl, rfl⟩
  · show _ = z
    rw [e1, e2]; omega
set_option maxRecDepth 100000 in
set_option maxHeartbeats 2000000 in
theorem times_any (p q : Option Addr) (n c m d : Nat) (xs ys : List UInt64) (w : World) (h1 : Sl W64 w p n c xs) (h2 : Sl W64 w q m d ys) (hn : n ≤ 1000000) (hm : m ≤ 1000000) :
    Calls Tryd.prog 37 #[.slice p n c, .slice q m d] w (RetWs 34 w (n + m) (valW xs * valW ys)) := by
  obtain ⟨i0, hi, hz0, hz1, hz2⟩ := info_parts info_u64
  have HM1 : Hid (n + m ≤ maxLen) := by show n + m ≤ maxLen; unfold maxLen; omega
  have HM2 : Hid (8 * (n + m) ≤ 281474976710656) := by show 8 * (n + m) ≤ _; omega
  have HL : Hid (xs.length = n ∧ ys.length = m) := ⟨h1.len, h2.len⟩
  have H1 := Lib.hid h1; have H2 := Lib.hid h2
  clear h1 h2
  go_enter Tryd.func37, Tryd.ntmps37
  go_wp2_with (at_make; refine wpList_make_full _ rfl _ _ 27 rfl w.heap.size 34 i0 (.int .u64 0) 1 Tryd.underlying27 hi hz0 hz1 .i64 .i64 _ _ (n + m) rfl rfl (by simp) (by simp) (by rw [hz2]; exact HM2.out) HM1.out (Nat.le_refl _) ?_)
  intro w1 ho hg
  have HO : Hid (w1.ownsRow w.heap.size 34 1 (.slice (some ⟨w.heap.size, 0, none⟩) (n + m) (n + m)) (n + m) ((List.replicate (n + m) (0 : UInt64)).map W64)) := by
    have e : (madeCells #[Value.int .u64 0] (n + m)).toList = (List.replicate (n + m) (0 : UInt64)).map W64 := by rw [List.map_replicate]; exact toList_madeCells_one _ _
    show World.ownsRow _ _ _ _ _ _ _
    rw [← e]; simpa using ho
  have HB : Hid (Below w.heap.size w w1) := (Below.refl _ _).grown hg (Nat.le_refl _) (by simp)
  clear ho hg
  go_wp2
  go_loopw [20] (fun i wr => ∃ (k : Nat) (S : List UInt64), k ≤ n ∧ i = .int .i64 k ∧ Hid (S.length = n + m) ∧ Hid (wr.ownsRow w.heap.size 34 1 (.slice (some ⟨w.heap.size, 0, none⟩) (n + m) (n + m)) (n + m) (S.map W64)) ∧ Hid (valW S = valW (xs.take k) * valW ys) ∧ Hid (∀ j, k + m ≤ j → j < n + m → S[j]? = some 0) ∧ Hid (Below w.heap.size w wr)) (fun i _ => n - (intOf i).toNat)
  case atStart => exact ⟨0, _, Nat.zero_le _, rfl, by simp [Hid], HO.out, by show valW _ = valW (xs.take 0) * _; rw [valW_zeros, List.take_zero, show valW [] = 0 from rfl, Nat.zero_mul], fun j _ hj => List.getElem?_replicate_of_lt hj, HB.out⟩
  case round =>
    clear HO HB
    obtain ⟨k, S, hk, rfl, hSl, hO, hV, hZ, hB⟩ := hrel
    by_cases hlt : k < n
    · obtain ⟨b, o, x, rfl, hc, hx⟩ := H1.out.at k hlt
      have HC := Lib.hid hc
      obtain ⟨wo, hwo⟩ : ∃ wo : World, wo = wr := ⟨_, rfl⟩
      have hlt' : (k : Int) < (n : Int) := by omega
      have ST : Hid (S.length = n + m ∧ wr.ownsRow w.heap.size 34 1 (.slice (some ⟨w.heap.size, 0, none⟩) (n + m) (n + m)) (n + m) (S.map W64) ∧ valW S + 18446744073709551616 ^ (k + 0) * 0 = valW S + 18446744073709551616 ^ k * (x.toNat * valW (ys.take 0)) ∧ Below w.heap.size w wr) := ⟨hSl.out, hO.out, by rw [List.take_zero, show valW [] = 0 from rfl]; simp, hB.out⟩
      obtain ⟨V0, hV0⟩ : ∃ V0, V0 = valW S := ⟨_, rfl⟩
      have HV0 : Hid (V0 = valW (xs.take k) * valW ys) := hV0.trans hV.out
      have ST2 : Hid (∃ S' : List UInt64, S'.length = n + m ∧ wr.ownsRow w.heap.size 34 1 (.slice (some ⟨w.heap.size, 0, none⟩) (n + m) (n + m)) (n + m) (S'.map W64) ∧ valW S' + 18446744073709551616 ^ (k + 0) * 0 = V0 + 18446744073709551616 ^ k * (x.toNat * valW (ys.take 0)) ∧ (∀ j, k + m ≤ j → j < n + m → S'[j]? = some 0) ∧ Below w.heap.size w wr) := ⟨S, ST.out.1, ST.out.2.1, by rw [hV0]; exact ST.out.2.2.1, hZ.out, hB.out⟩
      clear hc hO hSl hB hV hZ ST hV0
      clear S
      go_wp2
      go_loopw [25, 7] (fun i cv wr => ∃ (j cy : Nat) (S : List UInt64), j ≤ m ∧ i = .int .i64 j ∧ cv = .int .u64 cy ∧ cy < 18446744073709551616 ∧ Hid (S.length = n + m) ∧ Hid (wr.ownsRow w.heap.size 34 1 (.slice (some ⟨w.heap.size, 0, none⟩) (n + m) (n + m)) (n + m) (S.map W64)) ∧ Hid (valW S + 18446744073709551616 ^ (k + j) * cy = V0 + 18446744073709551616 ^ k * (x.toNat * valW (ys.take j))) ∧ Hid (∀ j, k + m ≤ j → j < n + m → S[j]? = some 0) ∧ Hid (Below w.heap.size w wr)) (fun i _ _ => m - (intOf i).toNat)
      case atStart =>
        obtain ⟨S, g1, g2, g3, g4, g5⟩ := ST2.out
        exact ⟨0, 0, S, Nat.zero_le _, rfl, rfl, by decide, g1, g2, g3, g4, g5⟩
      case round =>
        clear ST2
        obtain ⟨j, cy, S, hj, rfl, rfl, hcy, hSl, hO, hV, hZ, hB⟩ := hrel
        by_cases hjm : j < m
        · obtain ⟨b', o', y, rfl, hcy2, hy⟩ := H2.out.at j hjm
          have cX := (hB.out.cell (p := ⟨b, o + k, none⟩) (lt_of_cell HC.out)).trans HC.out
          have cY := (hB.out.cell (p := ⟨b', o' + j, none⟩) (lt_of_cell hcy2)).trans hcy2
          obtain ⟨pr, hpr⟩ : ∃ pr, S[k + j]? = some pr := ⟨S[k + j]'(by rw [hSl.out]; omega), List.getElem?_eq_getElem _⟩
          have cP : wr.cell? ⟨w.heap.size, k + j, none⟩ = some (W64 pr) := by
            rw [hO.out.cellAt _ (by omega), List.getElem?_map, hpr]; rfl
          have zP : wr.frozen? ⟨w.heap.size, k + j, none⟩ = false := hO.out.frozenAt _
          obtain ⟨hi', lo, hmul, hml⟩ := mul64_ex x y
          obtain ⟨l1, c1, hr1, hc1, hs1⟩ := add64_ex lo.toNat pr.toNat 0 (by decide) lo.toNat_lt pr.toNat_lt
          obtain ⟨l2, c2, hr2, hc2, hs2⟩ := add64_ex l1.toNat cy 0 (by decide) l1.toNat_lt hcy
          obtain ⟨e1, e2⟩ := mul_parts hml.out hs1.out.1 hs1.out.2 hs2.out.1 hs2.out.2
          have hfit : hi'.toNat + c1 + c2 < 18446744073709551616 := by
            rw [e2]; exact mul_fits x.toNat_lt y.toNat_lt pr.toNat_lt hcy
          have hf1 : (hi'.toNat : Int) + (c1 : Int) < 18446744073709551616 := by omega
          have hf2 : (hi'.toNat : Int) + (c1 : Int) + (c2 : Int) < 18446744073709551616 := by omega
          have r1 : ∀ w, (callFunc 64 #[W64 lo, W64 pr, .int .u64 0]).run Tryd.prog w = .ok (.value (.tuple #[W64 l1, .int .u64 c1])) w := hr1
          have r2 : ∀ w, (callFunc 64 #[W64 l1, .int .u64 cy, .int .u64 0]).run Tryd.prog w = .ok (.value (.tuple #[W64 l2, .int .u64 c2])) w := hr2
          have F : Hid ((S.set (k + j) l2).length = n + m ∧ (∀ u, ((wr.drewN u).setCell ⟨w.heap.size, k + j, none⟩ (W64 l2)).ownsRow w.heap.size 34 1 (.slice (some ⟨w.heap.size, 0, none⟩) (n + m) (n + m)) (n + m) ((S.set (k + j) l2).map W64)) ∧ valW (S.set (k + j) l2) + 18446744073709551616 ^ (k + (j + 1)) * (hi'.toNat + c1 + c2) = V0 + 18446744073709551616 ^ k * (x.toNat * valW (ys.take (j + 1))) ∧ (∀ t, k + m ≤ t → t < n + m → (S.set (k + j) l2)[t]? = some 0) ∧ ∀ u, Below w.heap.size w ((wr.drewN u).setCell ⟨w.heap.size, k + j, none⟩ (W64 l2))) := by
            refine ⟨by rw [List.length_set]; exact hSl.out, fun u => ?_, ?_, fun t ht1 ht2 => by rw [List.getElem?_set, if_neg (by omega)]; exact hZ.out t ht1 ht2, fun u => (bdn hB.out).setCell (Nat.le_refl _) _⟩
            · rw [List.map_set]
              exact (World.ownsRow.stored (w := wr.drewN u) hO.out _ _).1
            · rw [valW_take hy.out]
              exact mul_step (b := 18446744073709551616) hV.out e1 e2 (valW_set hpr)
          have hjm' : (j : Int) < (m : Int) := by omega
          have hkj : (k : Int) + (j : Int) < (n : Int) + (m : Int) := by omega
          clear hcy2 hjm hlt hr1 hr2 e1 e2 hfit hml hs1 hs2 hpr hO hSl hV hZ hB
          go_wp2
          go_quiet ((go_at_call 65; exact Calls.quiet_of_same (hmul _)))
          go_wp2_with (first | simp only [r1] | simp only [r2])
          go_roundw
          case rel => exact ⟨j + 1, hi'.toNat + c1 + c2, _, by omega, by go_num, by go_num, by omega, F.out.1, F.out.2.1 _, F.out.2.2.1, F.out.2.2.2.1, F.out.2.2.2.2 _⟩
          case measure => simp [intOf]; omega
        · obtain rfl : j = m := by omega
          have hz0 := hZ.out (k + j) (by omega) (by omega)
          have cP : wr.cell? ⟨w.heap.size, k + j, none⟩ = some (W64 0) := by
            rw [hO.out.cellAt _ (by omega), List.getElem?_map, hz0]; rfl
          have zP : wr.frozen? ⟨w.heap.size, k + j, none⟩ = false := hO.out.frozenAt _
          have e : (UInt64.ofNat cy).toNat = cy := by simp; omega
          have e2 : Value.int .u64 (cy : Int) = W64 (UInt64.ofNat cy) := W64_eq (by rw [e])
          have F : Hid ((S.set (k + j) (UInt64.ofNat cy)).length = n + j ∧ (wr.setCell ⟨w.heap.size, k + j, none⟩ (.int .u64 (cy : Int))).ownsRow w.heap.size 34 1 (.slice (some ⟨w.heap.size, 0, none⟩) (n + j) (n + j)) (n + j) ((S.set (k + j) (UInt64.ofNat cy)).map W64) ∧ valW (S.set (k + j) (UInt64.ofNat cy)) = valW (xs.take (k + 1)) * valW ys ∧ (∀ t, k + 1 + j ≤ t → t < n + j → (S.set (k + j) (UInt64.ofNat cy))[t]? = some 0) ∧ Below w.heap.size w (wr.setCell ⟨w.heap.size, k + j, none⟩ (.int .u64 (cy : Int)))) := by
            refine ⟨by rw [List.length_set]; exact hSl.out, ?_, ?_, fun t ht1 ht2 => by rw [List.getElem?_set, if_neg (by omega)]; exact hZ.out t (by omega) ht2, hB.out.setCell (Nat.le_refl _) _⟩
            · rw [List.map_set, e2]
              exact (hO.out.stored _ _).1
            · rw [valW_take hx.out]
              have h1 := hV.out
              rw [valW_take_all (by have := HL.out.2; omega)] at h1
              have h2 := mul_row h1 (by have := valW_set (s := UInt64.ofNat cy) hz0; rw [e] at this; exact this)
              rw [h2, HV0.out]
              exact mul_next rfl
          have hkj : (k : Int) + (j : Int) < (n : Int) + (j : Int) := by omega
          clear hjm hlt hz0 e e2 hO hSl hV hZ hB
          go_wp2
          go_roundw
          case rel => exact ⟨k + 1, _, by omega, by go_num, F.out.1, F.out.2.1, F.out.2.2.1, F.out.2.2.2.1, F.out.2.2.2.2⟩
          case measure => simp [intOf]; omega
    · obtain rfl : k = n := by omega
      have F : Hid (wr.ownsRow w.heap.size 34 1 (.slice (some ⟨w.heap.size, 0, none⟩) (k + m) (k + m)) (k + m) (S.map W64) ∧ valW S = valW xs * valW ys ∧ Below w.heap.size w wr) := ⟨hO.out, by rw [hV.out, valW_take_all (by have := HL.out.1; omega)], hB.out⟩
      clear hO hSl hV hZ hB hlt
      go_wp2
      go_ret
      exact ⟨_, rfl, F.out.1, F.out.2.1, F.out.2.2⟩
end Go.Proofs.YtbfmdfbnhakolaaDoor
