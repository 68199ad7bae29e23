/- Numbers: times. Numbers: Add of any. Numbers: Mul of any; Pow. Numbers: Text. The library: ParseUint of base 16, of texts that are numbers of at most sixteen letters. Numbers: Parse. The reference's numbers: Trim, Text. Numbers: Pow, Sub. Numbers: Sub. The laws' small parts on numbers: To, Is, awake. The laws of numbers: what they carry along. A region that draws its order, with one store into a box of one cell of its own (a number): each operation has a shape that lasts. Counts of grids by rank: plain laws. Counts of grids: what their functions carry along. What equations say together: Judge. What equations say together: Judge, where one doesn't fit. Counts of grids: power, Spare, All, without. Counts of grids: Full, Fails. How many solutions there are: Count. The reference's Vectors. The reference's Wide. The reference's Judge. A region with two appends of rows: what stays. The law's Rows: what its region leaves. The law's Rows. Whether chapter 9 is awake. SolveJudges: the walk. SolveJudges: sizes out of range. SolveJudges: sizes within bounds. SolveJudges: whole. Whether symbols hold for equations: Holds. Equations that symbols solve: there is a solution; how many: plain laws. The theorems through the layers: plain law of TopCounts. The theorems through the layers: a taker alone, carried along; numbers in boxes beside it. The theorems through the layers: TopCounts, of an object that a plan fits. The theorems through the layers: TopCounts, of whatever comes. Arguments that came in: slices of byte slices. The table of the sum, out of the row's condition. -/
import Derived.Test.YtfbmdlfkipipfaaGreatDoorZc8
import Derived.Lib.Repeat
import Derived.Lib.AtoiAllMem
import Derived.Lib.ConvBytes
import Derived.Lib.Walk
import Derived.Laws.Strings3
import Derived.Laws.Closers25
import Derived.Laws.Closers25b
import Derived.BigCall
import Derived.BigGuard
import Derived.Laws.Concat
import Derived.WalkKit
import Derived.IntWalk
import Derived.OpenShut
import Derived.Deep.Matrix
import Derived.Test.YtfbmdlfkipipfaaGreatDoorRows
import Derived.Lib.LaidTab
namespace Go.By
open Go.RowKit
theorem valW_set {S : List UInt64} {k : Nat} {s p : UInt64} (h : S[k]? = some p) : valW (S.set k s) + 18446744073709551616 ^ k * p.toNat = valW S + 18446744073709551616 ^ k * s.toNat := by
  unfold valW
  rw [List.map_set]
  exact valD_set _ _ _ _ (by rw [List.getElem?_map, h]; rfl)
theorem mul_parts {a y p c hi lo l1 c1 l2 c2 : Nat} (h0 : hi * 18446744073709551616 + lo = a * y) (h1 : l1 = (lo + p + 0) % 18446744073709551616) (g1 : c1 = (lo + p + 0) / 18446744073709551616) (h2 : l2 = (l1 + c + 0) % 18446744073709551616) (g2 : c2 = (l1 + c + 0) / 18446744073709551616) :
    l2 = (a * y + p + c) % 18446744073709551616 ∧ hi + c1 + c2 = (a * y + p + c) / 18446744073709551616 := by
  rw [← h0]; omega
end Go.By
namespace Go.Proofs.YtfbmdlfkipipfaaGreatDoor
open Go.RowKit Go.By
theorem mul64_ex (x y : UInt64) : ∃ hi lo : UInt64, (∀ w, Calls Tryz.prog 117 #[W64 x, W64 y] w fun e w' => e = .returned (.tuple #[W64 hi, W64 lo]) ∧ w' = w) ∧ Hid (hi.toNat * 18446744073709551616 + lo.toNat = x.toNat * y.toNat) := by
  have hx := x.toNat_lt; have hy := y.toNat_lt
  have hxy : x.toNat * y.toNat < 18446744073709551616 * 18446744073709551616 := Nat.mul_lt_mul'' hx hy
  obtain ⟨z, hz⟩ : ∃ z, z = x.toNat * y.toNat := ⟨_, rfl⟩
  rw [← hz] at hxy ⊢
  have e1 : (UInt64.ofNat (z / 18446744073709551616)).toNat = z / 18446744073709551616 := by simp; omega
  have e2 : (UInt64.ofNat (z % 18446744073709551616)).toNat = z % 18446744073709551616 := by simp
  refine ⟨UInt64.ofNat (z / 18446744073709551616), UInt64.ofNat (z % 18446744073709551616), fun w => ?_, ?_⟩
  · refine (Tryz.bits_Mul64 x.toNat y.toNat hx hy w).mono ?_
    rintro e w' ⟨rfl, rfl⟩
    rw [← hz]
    exact ⟨by rw [← W64_eq (congrArg Int.ofNat e1.symm), ← W64_eq (congrArg Int.ofNat e2.symm)]; rfl, rfl⟩
  · show _ = z
    rw [e1, e2]; omega
set_option maxRecDepth 100000 in
set_option maxHeartbeats 2000000 in
theorem timesN_any (p q : Option Addr) (n c m d : Nat) (xs ys : List UInt64) (w : World) (h1 : Sl W64 w p n c xs) (h2 : Sl W64 w q m d ys) (hn : n ≤ 1000000) (hm : m ≤ 1000000) :
    Calls Tryz.prog 66 #[.slice p n c, .slice q m d] w (RetWs 44 w (n + m) (valW xs * valW ys)) := by
  obtain ⟨i0, hi, hz0, hz1, hz2⟩ := info_parts info_u64
  have HM1 : Hid (n + m ≤ maxLen) := by show n + m ≤ maxLen; unfold maxLen; omega
  have HM2 : Hid (8 * (n + m) ≤ 281474976710656) := by show 8 * (n + m) ≤ _; omega
  have HL : Hid (xs.length = n ∧ ys.length = m) := ⟨h1.len, h2.len⟩
  have H1 := Lib.hid h1; have H2 := Lib.hid h2
  clear h1 h2
  go_enter Tryz.func66, Tryz.ntmps66
  go_wp2_with (at_make; refine wpList_make_full _ rfl _ _ 38 rfl w.heap.size 44 i0 (.int .u64 0) 1 Tryz.underlying38 hi hz0 hz1 .i64 .i64 _ _ (n + m) rfl rfl (by simp) (by simp) (by rw [hz2]; exact HM2.out) HM1.out (Nat.le_refl _) ?_)
  intro w1 ho hg
  have HO : Hid (w1.ownsRow w.heap.size 44 1 (.slice (some ⟨w.heap.size, 0, none⟩) (n + m) (n + m)) (n + m) ((List.replicate (n + m) (0 : UInt64)).map W64)) := by
    have e : (madeCells #[Value.int .u64 0] (n + m)).toList = (List.replicate (n + m) (0 : UInt64)).map W64 := by rw [List.map_replicate]; exact toList_madeCells_one _ _
    show World.ownsRow _ _ _ _ _ _ _
    rw [← e]; simpa using ho
  have HB : Hid (Below w.heap.size w w1) := (Below.refl _ _).grown hg (Nat.le_refl _) (by simp)
  clear ho hg
  go_wp2
  go_loopw [20] (fun i wr => ∃ (k : Nat) (S : List UInt64), k ≤ n ∧ i = .int .i64 k ∧ Hid (S.length = n + m) ∧ Hid (wr.ownsRow w.heap.size 44 1 (.slice (some ⟨w.heap.size, 0, none⟩) (n + m) (n + m)) (n + m) (S.map W64)) ∧ Hid (valW S = valW (xs.take k) * valW ys) ∧ Hid (∀ j, k + m ≤ j → j < n + m → S[j]? = some 0) ∧ Hid (Below w.heap.size w wr)) (fun i _ => n - (intOf i).toNat)
  case atStart => exact ⟨0, _, Nat.zero_le _, rfl, by simp [Hid], HO.out, by show valW _ = valW (xs.take 0) * _; rw [valW_zeros, List.take_zero, show valW [] = 0 from rfl, Nat.zero_mul], fun j _ hj => List.getElem?_replicate_of_lt hj, HB.out⟩
  case round =>
    clear HO HB
    obtain ⟨k, S, hk, rfl, hSl, hO, hV, hZ, hB⟩ := hrel
    by_cases hlt : k < n
    · obtain ⟨b, o, x, rfl, hc, hx⟩ := H1.out.at k hlt
      have HC := Lib.hid hc
      obtain ⟨wo, hwo⟩ : ∃ wo : World, wo = wr := ⟨_, rfl⟩
      have hlt' : (k : Int) < (n : Int) := by omega
      have ST : Hid (S.length = n + m ∧ wr.ownsRow w.heap.size 44 1 (.slice (some ⟨w.heap.size, 0, none⟩) (n + m) (n + m)) (n + m) (S.map W64) ∧ valW S + 18446744073709551616 ^ (k + 0) * 0 = valW S + 18446744073709551616 ^ k * (x.toNat * valW (ys.take 0)) ∧ Below w.heap.size w wr) := ⟨hSl.out, hO.out, by rw [List.take_zero, show valW [] = 0 from rfl]; simp, hB.out⟩
      obtain ⟨V0, hV0⟩ : ∃ V0, V0 = valW S := ⟨_, rfl⟩
      have HV0 : Hid (V0 = valW (xs.take k) * valW ys) := hV0.trans hV.out
      have ST2 : Hid (∃ S' : List UInt64, S'.length = n + m ∧ wr.ownsRow w.heap.size 44 1 (.slice (some ⟨w.heap.size, 0, none⟩) (n + m) (n + m)) (n + m) (S'.map W64) ∧ valW S' + 18446744073709551616 ^ (k + 0) * 0 = V0 + 18446744073709551616 ^ k * (x.toNat * valW (ys.take 0)) ∧ (∀ j, k + m ≤ j → j < n + m → S'[j]? = some 0) ∧ Below w.heap.size w wr) := ⟨S, ST.out.1, ST.out.2.1, by rw [hV0]; exact ST.out.2.2.1, hZ.out, hB.out⟩
      clear hc hO hSl hB hV hZ ST hV0
      clear S
      go_wp2
      go_loopw [25, 7] (fun i cv wr => ∃ (j cy : Nat) (S : List UInt64), j ≤ m ∧ i = .int .i64 j ∧ cv = .int .u64 cy ∧ cy < 18446744073709551616 ∧ Hid (S.length = n + m) ∧ Hid (wr.ownsRow w.heap.size 44 1 (.slice (some ⟨w.heap.size, 0, none⟩) (n + m) (n + m)) (n + m) (S.map W64)) ∧ Hid (valW S + 18446744073709551616 ^ (k + j) * cy = V0 + 18446744073709551616 ^ k * (x.toNat * valW (ys.take j))) ∧ Hid (∀ j, k + m ≤ j → j < n + m → S[j]? = some 0) ∧ Hid (Below w.heap.size w wr)) (fun i _ _ => m - (intOf i).toNat)
      case atStart =>
        obtain ⟨S, g1, g2, g3, g4, g5⟩ := ST2.out
        exact ⟨0, 0, S, Nat.zero_le _, rfl, rfl, by decide, g1, g2, g3, g4, g5⟩
      case round =>
        clear ST2
        obtain ⟨j, cy, S, hj, rfl, rfl, hcy, hSl, hO, hV, hZ, hB⟩ := hrel
        by_cases hjm : j < m
        · obtain ⟨b', o', y, rfl, hcy2, hy⟩ := H2.out.at j hjm
          have cX := (hB.out.cell (p := ⟨b, o + k, none⟩) (lt_of_cell HC.out)).trans HC.out
          have cY := (hB.out.cell (p := ⟨b', o' + j, none⟩) (lt_of_cell hcy2)).trans hcy2
          obtain ⟨pr, hpr⟩ : ∃ pr, S[k + j]? = some pr := ⟨S[k + j]'(by rw [hSl.out]; omega), List.getElem?_eq_getElem _⟩
          have cP : wr.cell? ⟨w.heap.size, k + j, none⟩ = some (W64 pr) := by
            rw [hO.out.cellAt _ (by omega), List.getElem?_map, hpr]; rfl
          have zP : wr.frozen? ⟨w.heap.size, k + j, none⟩ = false := hO.out.frozenAt _
          obtain ⟨hi', lo, hmul, hml⟩ := mul64_ex x y
          obtain ⟨l1, c1, hr1, hc1, hs1⟩ := add64_ex lo.toNat pr.toNat 0 (by decide) lo.toNat_lt pr.toNat_lt
          obtain ⟨l2, c2, hr2, hc2, hs2⟩ := add64_ex l1.toNat cy 0 (by decide) l1.toNat_lt hcy
          obtain ⟨e1, e2⟩ := mul_parts hml.out hs1.out.1 hs1.out.2 hs2.out.1 hs2.out.2
          have hfit : hi'.toNat + c1 + c2 < 18446744073709551616 := by
            rw [e2]; exact mul_fits x.toNat_lt y.toNat_lt pr.toNat_lt hcy
          have hf1 : (hi'.toNat : Int) + (c1 : Int) < 18446744073709551616 := by omega
          have hf2 : (hi'.toNat : Int) + (c1 : Int) + (c2 : Int) < 18446744073709551616 := by omega
          have r1 : ∀ w, (callFunc 118 #[W64 lo, W64 pr, .int .u64 0]).run Tryz.prog w = .ok (.value (.tuple #[W64 l1, .int .u64 c1])) w := hr1
          have r2 : ∀ w, (callFunc 118 #[W64 l1, .int .u64 cy, .int .u64 0]).run Tryz.prog w = .ok (.value (.tuple #[W64 l2, .int .u64 c2])) w := hr2
          have F : Hid ((S.set (k + j) l2).length = n + m ∧ (∀ u, ((wr.drewN u).setCell ⟨w.heap.size, k + j, none⟩ (W64 l2)).ownsRow w.heap.size 44 1 (.slice (some ⟨w.heap.size, 0, none⟩) (n + m) (n + m)) (n + m) ((S.set (k + j) l2).map W64)) ∧ valW (S.set (k + j) l2) + 18446744073709551616 ^ (k + (j + 1)) * (hi'.toNat + c1 + c2) = V0 + 18446744073709551616 ^ k * (x.toNat * valW (ys.take (j + 1))) ∧ (∀ t, k + m ≤ t → t < n + m → (S.set (k + j) l2)[t]? = some 0) ∧ ∀ u, Below w.heap.size w ((wr.drewN u).setCell ⟨w.heap.size, k + j, none⟩ (W64 l2))) := by
            refine ⟨by rw [List.length_set]; exact hSl.out, fun u => ?_, ?_, fun t ht1 ht2 => by rw [List.getElem?_set, if_neg (by omega)]; exact hZ.out t ht1 ht2, fun u => (bdn hB.out).setCell (Nat.le_refl _) _⟩
            · rw [List.map_set]
              exact (World.ownsRow.stored (w := wr.drewN u) hO.out _ _).1
            · rw [valW_take hy.out]
              exact mul_step (b := 18446744073709551616) hV.out e1 e2 (valW_set hpr)
          have hjm' : (j : Int) < (m : Int) := by omega
          have hkj : (k : Int) + (j : Int) < (n : Int) + (m : Int) := by omega
          clear hcy2 hjm hlt hr1 hr2 e1 e2 hfit hml hs1 hs2 hpr hO hSl hV hZ hB
          go_wp2
          go_quiet ((go_at_call 117; exact Calls.quiet_of_same (hmul _)))
          go_wp2_with (first | simp only [r1] | simp only [r2])
          go_roundw
          case rel => exact ⟨j + 1, hi'.toNat + c1 + c2, _, by omega, by go_num, by go_num, by omega, F.out.1, F.out.2.1 _, F.out.2.2.1, F.out.2.2.2.1, F.out.2.2.2.2 _⟩
          case measure => simp [intOf]; omega
        · obtain rfl : j = m := by omega
          have hz0 := hZ.out (k + j) (by omega) (by omega)
          have cP : wr.cell? ⟨w.heap.size, k + j, none⟩ = some (W64 0) := by
            rw [hO.out.cellAt _ (by omega), List.getElem?_map, hz0]; rfl
          have zP : wr.frozen? ⟨w.heap.size, k + j, none⟩ = false := hO.out.frozenAt _
          have e : (UInt64.ofNat cy).toNat = cy := by simp; omega
          have e2 : Value.int .u64 (cy : Int) = W64 (UInt64.ofNat cy) := W64_eq (by rw [e])
          have F : Hid ((S.set (k + j) (UInt64.ofNat cy)).length = n + j ∧ (wr.setCell ⟨w.heap.size, k + j, none⟩ (.int .u64 (cy : Int))).ownsRow w.heap.size 44 1 (.slice (some ⟨w.heap.size, 0, none⟩) (n + j) (n + j)) (n + j) ((S.set (k + j) (UInt64.ofNat cy)).map W64) ∧ valW (S.set (k + j) (UInt64.ofNat cy)) = valW (xs.take (k + 1)) * valW ys ∧ (∀ t, k + 1 + j ≤ t → t < n + j → (S.set (k + j) (UInt64.ofNat cy))[t]? = some 0) ∧ Below w.heap.size w (wr.setCell ⟨w.heap.size, k + j, none⟩ (.int .u64 (cy : Int)))) := by
            refine ⟨by rw [List.length_set]; exact hSl.out, ?_, ?_, fun t ht1 ht2 => by rw [List.getElem?_set, if_neg (by omega)]; exact hZ.out t (by omega) ht2, hB.out.setCell (Nat.le_refl _) _⟩
            · rw [List.map_set, e2]
              exact (hO.out.stored _ _).1
            · rw [valW_take hx.out]
              have h1 := hV.out
              rw [valW_take_all (by have := HL.out.2; omega)] at h1
              have h2 := mul_row h1 (by have := valW_set (s := UInt64.ofNat cy) hz0; rw [e] at this; exact this)
              rw [h2, HV0.out]
              exact mul_next rfl
          have hkj : (k : Int) + (j : Int) < (n : Int) + (j : Int) := by omega
          clear hjm hlt hz0 e e2 hO hSl hV hZ hB
          go_wp2
          go_roundw
          case rel => exact ⟨k + 1, _, by omega, by go_num, F.out.1, F.out.2.1, F.out.2.2.1, F.out.2.2.2.1, F.out.2.2.2.2⟩
          case measure => simp [intOf]; omega
    · obtain rfl : k = n := by omega
      have F : Hid (wr.ownsRow w.heap.size 44 1 (.slice (some ⟨w.heap.size, 0, none⟩) (k + m) (k + m)) (k + m) (S.map W64) ∧ valW S = valW xs * valW ys ∧ Below w.heap.size w wr) := ⟨hO.out, by rw [hV.out, valW_take_all (by have := HL.out.1; omega)], hB.out⟩
      clear hO hSl hV hZ hB hlt
      go_wp2
      go_ret
      exact ⟨_, rfl, F.out.1, F.out.2.1, F.out.2.2⟩
end Go.Proofs.YtfbmdlfkipipfaaGreatDoor
namespace Go.By
open Go.RowKit
/-- a slice of numbers -/
structure Nsl (T : TypeId) (w : World) (p : Option Addr) (n c : Nat) (Ns : List Nat) : Prop where
  len : Ns.length = n
  max : n ≤ 9223372036854775807
  elt : ∀ i N, Ns[i]? = some N → ∃ b o q m d, p = some ⟨b, o, none⟩ ∧ w.cell? ⟨b, o + i, none⟩ = some (.slice q m d) ∧ Ws T w q m d N
theorem Nsl.keep {T : TypeId} {w w' : World} {p : Option Addr} {n c : Nat} {Ns : List Nat} (h : Nsl T w p n c Ns) (hb : Below w.heap.size w w') : Nsl T w' p n c Ns :=
  ⟨h.len, h.max, fun i N hi => by
    obtain ⟨b, o, q, m, d, hp, hc, hw⟩ := h.elt i N hi
    exact ⟨b, o, q, m, d, hp, (hb.cell (p := ⟨b, o + i, none⟩) (lt_of_cell hc)).trans hc, hw.keep hb⟩⟩
theorem Nsl.two {T T' : TypeId} {w : World} {g : Nat} {fr : Nat × Nat} {q1 q2 : Option Addr} {n1 c1 n2 c2 M N : Nat} (hg : w.heap[g]? = some (.cells #[.slice q1 n1 c1, .slice q2 n2 c2] T' fr)) (h1 : Ws T w q1 n1 c1 M) (h2 : Ws T w q2 n2 c2 N) : Nsl T w (some ⟨g, 0, none⟩) 2 2 [M, N] :=
  ⟨rfl, by omega, fun i N' hi => by
    match i, hi with
    | 0, hi => simp at hi; subst hi; exact ⟨g, 0, q1, n1, c1, rfl, cell_of_row _ _ 0 _ _ _ hg, h1⟩
    | 1, hi => simp at hi; subst hi; exact ⟨g, 0, q2, n2, c2, rfl, cell_of_row _ _ 1 _ _ _ hg, h2⟩
    | j + 2, hi => simp at hi⟩
theorem One.later {w : World} {g : Nat} {v : Value} {T : TypeId} (h : w.heap[g]? = some (.cells #[v] T (0, 0))) (g' i : Nat) (u : Value) (hne : g ≠ g' := by simp) : (w.setCell ⟨g', i, none⟩ u).cell? ⟨g, 0, none⟩ = some v ∧ (w.setCell ⟨g', i, none⟩ u).frozen? ⟨g, 0, none⟩ = false :=
  ⟨cell_of_row _ _ 0 _ _ _ (hsc h hne), frozen_of_row _ _ _ _ _ (hsc h hne)⟩
/-- two calls: a sum (or product) of words, and what is made of it -/
theorem RetWs.sl {T : TypeId} {w w' : World} {n N : Nat} {e : Ending} (h : RetWs T w n N e w') : ∃ S : List UInt64, e = .returned (.slice (some ⟨w.heap.size, 0, none⟩) n n) ∧ Sl W64 w' (some ⟨w.heap.size, 0, none⟩) n n S ∧ Lies T w' (some ⟨w.heap.size, 0, none⟩) ∧ valW S = N ∧ Below w.heap.size w w' := by
  obtain ⟨S, he, ho, hv, hb⟩ := h
  exact ⟨S, he, Sl.of_owns ho, lies_of_owns ho, hv, hb⟩
end Go.By
namespace Go.Proofs.YtfbmdlfkipipfaaGreatDoor
open Go.RowKit Go.By
/-- words, of which a number is made next -/
def RetThen (w : World) (N : Nat) (e : Ending) (w1 : World) : Prop :=
  ∃ g n, e = .returned (.slice (some ⟨g, 0, none⟩) n n) ∧ Below w.heap.size w w1 ∧ Hid (Calls Tryz.prog 60 #[.slice (some ⟨g, 0, none⟩) n n] w1 (RetMn 44 w1 N))
theorem times_then (p q : Option Addr) (n c m d M N : Nat) (w : World) (h1 : Ws 44 w p n c M) (h2 : Ws 44 w q m d N) :
    Calls Tryz.prog 66 #[.slice p n c, .slice q m d] w (RetThen w (M * N)) := by
  obtain ⟨xs, s1, n1, v1⟩ := h1.ex
  obtain ⟨ys, s2, n2, v2⟩ := h2.ex
  refine (timesN_any p q n c m d xs ys w s1 s2 (by have := h1.le; omega) (by have := h2.le; omega)).mono ?_
  rintro e w1 hr
  obtain ⟨S, rfl, hs, hl, hv, hb⟩ := hr.sl
  refine ⟨_, _, rfl, hb, ?_⟩
  have := made_any _ _ _ S w1 hs hl
  rw [hv, v1, v2] at this
  exact this
end Go.Proofs.YtfbmdlfkipipfaaGreatDoor
namespace Go.By
open Go.RowKit
def mulL : List Nat → Nat
  | [] => 1
  | x :: xs => x * mulL xs
theorem mulL_snoc : ∀ (xs : List Nat) (x : Nat), mulL (xs ++ [x]) = mulL xs * x
  | [], x => by simp [mulL]
  | y :: ys, x => by show y * mulL (ys ++ [x]) = y * mulL ys * x; rw [mulL_snoc ys x, Nat.mul_assoc]
theorem mulL_take {Ns : List Nat} {k N : Nat} (h : Ns[k]? = some N) : mulL (Ns.take (k + 1)) = mulL (Ns.take k) * N := by
  rw [List.take_add_one, h]; exact mulL_snoc _ _
/-- a product, or that one on the way is too great -/
def RetPn (T : TypeId) (w : World) (Ns : List Nat) (e : Ending) (w' : World) : Prop := ((∀ j, mulL (Ns.take j) < capN) ∧ RetN T w (mulL Ns) e w') ∨ ((∃ j, capN ≤ mulL (Ns.take j)) ∧ Ret0 w 16 e w')
end Go.By
namespace Go.Proofs.YtfbmdlfkipipfaaGreatDoor
open Go.RowKit Go.By
theorem Of_one (W : World) : Calls Tryz.prog 16 #[.int .u64 1] W (RetN1 44 W 1) := OfN_any 1 W
set_option maxRecDepth 100000 in
set_option maxHeartbeats 2000000 in
theorem Mul_nat (p : Option Addr) (k c : Nat) (Ns : List Nat) (w : World) (h : Nsl 44 w p k c Ns) :
    Calls Tryz.prog 21 #[.slice p k c] w (RetPn 44 w Ns) := by
  have hinfo := info_nat
  have hkm := h.max
  have H := Lib.hid h; clear h
  go_enter Tryz.func21, Tryz.ntmps21
  go_wp2_with fail
  refine Calls.mono (Of_one _) ?_
  rintro e w1 ⟨q1, n1, c1, rfl, hw1, hb1⟩
  have k0 : w1.heap[w.heap.size]? = some (.cells #[.slice none 0 0] 40 (0, 0)) := (hb1.block _ (by simp)).trans (hnew rfl)
  have HB : Hid (Below w.heap.size w w1) := bl (al (Below.refl _ _) (Nat.le_refl _)) hb1 (by simp)
  have K0 : Hid (∀ o, (w1.alloc o).heap[w.heap.size]? = some (.cells #[.slice none 0 0] 40 (0, 0))) := fun o => hal k0
  have HW1 : Hid (∀ o, Ws 44 (w1.alloc o) q1 n1 c1 1) := fun o => hw1.keep (al (Below.refl _ _) (Nat.le_refl _))
  have HG : Hid (w.heap.size ≠ w1.heap.size ∧ w.heap.size ≤ w1.heap.size) := ⟨by have := blk_lt k0; omega, by have := blk_lt k0; omega⟩
  clear k0 hw1 hb1
  go_wp2
  go_loopw [11] (fun i wr => ∃ (j : Nat) (q : Option Addr) (n d : Nat), j ≤ k ∧ i = .int .i64 j ∧ Hid (wr.heap[w.heap.size]? = some (.cells #[.slice none 0 0] 40 (0, 0))) ∧ Hid (wr.heap[w1.heap.size]? = some (.cells #[.slice q n d] 40 (0, 0))) ∧ Hid (Ws 44 wr q n d (mulL (Ns.take j))) ∧ Hid (∀ i, i ≤ j → mulL (Ns.take i) < capN) ∧ Hid (Below w.heap.size w wr)) (fun i _ => k - (intOf i).toNat)
  case atStart =>
    refine ⟨0, q1, n1, c1, Nat.zero_le _, rfl, K0.out _, hnew rfl, ?_, ?_, al HB.out HG.out.2⟩
    · show Ws _ _ _ _ _ (mulL (Ns.take 0))
      rw [List.take_zero]; exact HW1.out _
    · intro i hi
      obtain rfl : i = 0 := by omega
      rw [List.take_zero]; exact (HW1.out (.cells #[] 0)).lt
  case round =>
    obtain ⟨j, q, n, d, hj, rfl, h0, h1, hw, hcaps, hB⟩ := hrel
    obtain ⟨_, a1, a2, a3, a4⟩ := One.of h0.out
    obtain ⟨_, b1, b2, b3, b4⟩ := One.of h1.out
    have hsz := hB.out.size
    by_cases hlt : j < k
    · obtain ⟨N, hN⟩ : ∃ N, Ns[j]? = some N := ⟨Ns[j]'(by rw [H.out.len]; exact hlt), List.getElem?_eq_getElem _⟩
      obtain ⟨b, o, q2, m, d2, rfl, hc, hw2⟩ := H.out.elt j N hN
      have hcw := (hB.out.cell (p := ⟨b, o + j, none⟩) (lt_of_cell hc)).trans hc
      have hw2' : Hid (Ws 44 wr q2 m d2 N) := hw2.keep hB.out
      have hjk : (j : Int) < (k : Int) := by omega
      have HN := Lib.hid hN
      clear hc hw2 hN hlt
      go_wp2_with fail
      refine Calls.mono (times_then _ _ _ _ _ _ _ _ _ (hw.out.keep (al (Below.refl _ _) (Nat.le_refl _))) (hw2'.out.keep (al (Below.refl _ _) (Nat.le_refl _)))) ?_
      rintro e w4 ⟨g, nn, rfl, hb4, hmade⟩
      go_wp2_with fail
      refine Calls.mono hmade.out ?_
      rintro e w5 hr
      have hb45 : Below wr.heap.size w4 w5 → Below wr.heap.size wr w5 := fun h => (bl (al (Below.refl _ _) (Nat.le_refl _)) hb4 (by simp)).trans h
      have hsz4 := hb4.size
      simp at hsz4
      rcases hr with ⟨hcap, q5, n5, c5, rfl, hw5, hb5⟩ | ⟨hcap, rfl, hb5⟩
      · have hb6 := hb45 (hb5.mono (by omega))
        have k0 : w5.heap[w.heap.size]? = some (.cells #[.slice none 0 0] 40 (0, 0)) := (hb6.block _ (blk_lt h0.out)).trans h0.out
        have k1 : w5.heap[w1.heap.size]? = some (.cells #[.slice q n d] 40 (0, 0)) := (hb6.block _ (blk_lt h1.out)).trans h1.out
        obtain ⟨_, x1, x2, x3, x4⟩ := One.of k1
        have F : Hid ((w5.setCell ⟨w1.heap.size, 0, none⟩ (.slice q5 n5 c5)).heap[w.heap.size]? = some (.cells #[.slice none 0 0] 40 (0, 0)) ∧ (w5.setCell ⟨w1.heap.size, 0, none⟩ (.slice q5 n5 c5)).heap[w1.heap.size]? = some (.cells #[.slice q5 n5 c5] 40 (0, 0)) ∧ Ws 44 (w5.setCell ⟨w1.heap.size, 0, none⟩ (.slice q5 n5 c5)) q5 n5 c5 (mulL (Ns.take (j + 1))) ∧ (∀ i, i ≤ j + 1 → mulL (Ns.take i) < capN) ∧ Below w.heap.size w (w5.setCell ⟨w1.heap.size, 0, none⟩ (.slice q5 n5 c5))) :=
          ⟨hsc k0 HG.out.1, hss k1, by rw [mulL_take HN.out]; exact hw5.set k1 (by decide), fun i hi => by
            rcases Nat.lt_or_ge i (j + 1) with h | h
            · exact hcaps.out i (by omega)
            · obtain rfl : i = j + 1 := by omega
              rw [mulL_take HN.out]; exact hcap, ((hB.out.trans (hb6.mono (by omega)))).setCell HG.out.2 _⟩
        clear hb6 hb5 hb4 hw5 k0 k1 hb45 hcap hmade
        go_wp2
        go_roundw
        case rel => exact ⟨j + 1, _, _, _, by omega, by go_num, F.out.1, F.out.2.1, F.out.2.2.1, F.out.2.2.2.1, F.out.2.2.2.2⟩
        case measure => simp [intOf]; omega
      · have hb6 := hb45 (hb5.mono (by omega))
        have k0 : w5.heap[w.heap.size]? = some (.cells #[.slice none 0 0] 40 (0, 0)) := (hb6.block _ (blk_lt h0.out)).trans h0.out
        have k1 : w5.heap[w1.heap.size]? = some (.cells #[.slice q n d] 40 (0, 0)) := (hb6.block _ (blk_lt h1.out)).trans h1.out
        obtain ⟨_, x1, x2, x3, x4⟩ := One.of k1
        obtain ⟨y1, y2⟩ := One.later k0 w1.heap.size 0 (.slice none 0 0) HG.out.1
        have K0 := Lib.hid (hsc k0 (show w.heap.size ≠ (⟨w1.heap.size, 0, none⟩ : Addr).block from HG.out.1) (v := .slice none 0 0))
        have F : Hid (capN ≤ mulL (Ns.take (j + 1)) ∧ Below w.heap.size w ((w5.setCell ⟨w1.heap.size, 0, none⟩ (.slice none 0 0)).setCell ⟨w.heap.size, 0, none⟩ (.slice none 0 0))) :=
          ⟨by rw [mulL_take HN.out]; exact hcap, ((hB.out.trans (hb6.mono (by omega))).setCell HG.out.2 _).setCell (Nat.le_refl _) _⟩
        clear hb6 hb5 hb4 k0 k1 hb45 hcap hmade
        go_wp2
        exact bodyPost_ret (res_cell_tmp rfl _ _ _ 40 #[.slice none 0 0] (0, 0) _ (.int .i64 16) rfl (hss K0.out) rfl Tryz.underlying40 rfl hinfo) rfl (Or.inr ⟨⟨_, F.out.1⟩, rfl, F.out.2⟩)
    · obtain rfl : j = k := by omega
      have F : Hid (mulL (Ns.take j) = mulL Ns ∧ ∀ i, mulL (Ns.take i) < capN) := by
        have e : Ns.take j = Ns := List.take_of_length_le (by have := H.out.len; omega)
        refine ⟨by rw [e], fun i => ?_⟩
        rcases Nat.lt_or_ge i (j + 1) with h | h
        · exact hcaps.out i (by omega)
        · rw [List.take_of_length_le (by have := H.out.len; omega), ← e]; exact hcaps.out j (Nat.le_refl _)
      rw [F.out.1] at hw
      have HWE : Hid (Ws 44 (wr.setCell ⟨w.heap.size, 0, none⟩ (.slice q n d)) q n d (mulL Ns) ∧ (∀ i, mulL (Ns.take i) < capN) ∧ Below w.heap.size w (wr.setCell ⟨w.heap.size, 0, none⟩ (.slice q n d))) := ⟨hw.out.set h0.out (by decide), F.out.2, hB.out.setCell (Nat.le_refl _) _⟩
      clear hw hlt
      go_wp2
      exact bodyPost_ret (res_cell_tmp rfl _ _ _ 40 #[.slice q n d] (0, 0) _ (.int .i64 0) rfl (hss h0.out) rfl Tryz.underlying40 rfl hinfo) rfl (Or.inl ⟨HWE.out.2.1, _, _, _, rfl, HWE.out.1, HWE.out.2.2⟩)
end Go.Proofs.YtfbmdlfkipipfaaGreatDoor
namespace Go.By
open Go.RowKit
end Go.By
namespace Go.Proofs.YtfbmdlfkipipfaaGreatDoor
open Go.RowKit Go.By
end Go.Proofs.YtfbmdlfkipipfaaGreatDoor
namespace Go.By
open Go.RowKit
end Go.By
namespace Go.Proofs.YtfbmdlfkipipfaaGreatDoor
open Go.RowKit Go.By
end Go.Proofs.YtfbmdlfkipipfaaGreatDoor
namespace Go.By
open Go.RowKit
end Go.By
namespace Go.Proofs.YtfbmdlfkipipfaaGreatDoor
open Go.RowKit Go.By
end Go.Proofs.YtfbmdlfkipipfaaGreatDoor
namespace Go.By
open Go.RowKit
end Go.By
namespace Go.Proofs.YtfbmdlfkipipfaaGreatDoor
open Go.RowKit Go.By
end Go.Proofs.YtfbmdlfkipipfaaGreatDoor
namespace Go.By
open Go.RowKit
theorem one_cap : 1 < capN := Nat.lt_of_lt_of_le (show 1 < powW 1 by decide) (powW_mono (show 1 ≤ 512 by decide))
theorem RetPn.two {T : TypeId} {w w' : World} {M N : Nat} {e : Ending} (h : RetPn T w [M, N] e w') (hM : M < capN) : RetMn T w (M * N) e w' := by
  have e2 : mulL [M, N] = M * N := by simp [mulL]
  rcases h with ⟨h1, h2⟩ | ⟨⟨j, hj⟩, h2⟩
  · have := h1 2
    rw [show [M, N].take 2 = [M, N] from rfl, e2] at this
    rw [e2] at h2
    exact Or.inl ⟨this, h2⟩
  · refine Or.inr ⟨?_, h2⟩
    match j, hj with
    | 0, hj => have := one_cap; rw [show mulL ([M, N].take 0) = 1 from rfl] at hj; omega
    | 1, hj => rw [show mulL ([M, N].take 1) = M * 1 from rfl] at hj; omega
    | j + 2, hj => rw [List.take_of_length_le (by simp), e2] at hj; exact hj
/-- a power, or that one on the way is too great -/
def RetW (T : TypeId) (w : World) (N k : Nat) (e : Ending) (w' : World) : Prop := ((∀ j, j ≤ k → N ^ j < capN) ∧ RetN T w (N ^ k) e w') ∨ ((∃ j, j ≤ k ∧ capN ≤ N ^ j) ∧ Ret0 w 16 e w')
end Go.By
namespace Go.Proofs.YtfbmdlfkipipfaaGreatDoor
open Go.RowKit Go.By
set_option maxRecDepth 100000 in
set_option maxHeartbeats 2000000 in
theorem Pow_any (p : Option Addr) (m c N k : Nat) (w : World) (h : Ws 44 w p m c N) (hk : k ≤ 65536) :
    Calls Tryz.prog 17 #[.agg #[.slice p m c], .int .i64 k] w (RetW 44 w N k) := by
  have hinfo := info_nat
  have H := Lib.hid h; clear h
  have hk1 : ¬ (k : Int) < 0 := by omega
  have hk2 : ¬ (65536 : Int) < (k : Int) := by omega
  go_enter Tryz.func17, Tryz.ntmps17
  go_wp2_with fail
  refine Calls.mono (Of_one _) ?_
  rintro e w1 ⟨q1, n1, c1, rfl, hw1, hb1⟩
  have k0 : w1.heap[w.heap.size + 1]? = some (.cells #[.slice none 0 0] 40 (0, 0)) := (hb1.block _ (by simp)).trans (hnew (by simp))
  have k2 : w1.heap[w.heap.size]? = some (.cells #[.slice p m c] 40 (0, 0)) := (hb1.block _ (by simp <;> omega)).trans (hal (hnew rfl))
  have HB : Hid (Below w.heap.size w w1) := bl (al (al (Below.refl _ _) (Nat.le_refl _)) (by simp)) hb1 (by simp <;> omega)
  have K0 : Hid (∀ o, (w1.alloc o).heap[w.heap.size + 1]? = some (.cells #[.slice none 0 0] 40 (0, 0)) ∧ (w1.alloc o).heap[w.heap.size]? = some (.cells #[.slice p m c] 40 (0, 0))) := fun o => ⟨hal k0, hal k2⟩
  have HW1 : Hid (∀ o, Ws 44 (w1.alloc o) q1 n1 c1 1) := fun o => hw1.keep (al (Below.refl _ _) (Nat.le_refl _))
  have HG : Hid (w.heap.size + 1 < w1.heap.size) := by have := blk_lt k0; exact this
  clear k0 k2 hw1 hb1
  go_wp2
  go_loopw [17] (fun i wr => ∃ (j : Nat) (q : Option Addr) (n d : Nat), j ≤ k ∧ i = .int .i64 j ∧ Hid (wr.heap[w.heap.size + 1]? = some (.cells #[.slice none 0 0] 40 (0, 0)) ∧ wr.heap[w.heap.size]? = some (.cells #[.slice p m c] 40 (0, 0))) ∧ Hid (wr.heap[w1.heap.size]? = some (.cells #[.slice q n d] 40 (0, 0))) ∧ Hid (Ws 44 wr q n d (N ^ j)) ∧ Hid (∀ i, i ≤ j → N ^ i < capN) ∧ Hid (Below w.heap.size w wr)) (fun i _ => k - (intOf i).toNat)
  case atStart =>
    refine ⟨0, q1, n1, c1, Nat.zero_le _, rfl, K0.out _, hnew rfl, ?_, ?_, al HB.out (by have := HG.out; omega)⟩
    · show Ws _ _ _ _ _ (N ^ 0)
      exact HW1.out _
    · intro i hi
      obtain rfl : i = 0 := by omega
      exact one_cap
  case round =>
    obtain ⟨j, q, n, d, hj, rfl, h0, h1, hw, hcaps, hB⟩ := hrel
    obtain ⟨_, a1, a2, a3, a4⟩ := One.of h0.out.1
    obtain ⟨_, d1, d2, d3, d4⟩ := One.of h0.out.2
    obtain ⟨_, b1, b2, b3, b4⟩ := One.of h1.out
    have hsz := hB.out.size
    by_cases hlt : j < k
    · have hjk : (j : Int) < (k : Int) := by omega
      clear hlt
      go_wp2_with fail
      refine Calls.mono (Mul_nat _ _ _ _ _ (Nsl.two (hnew rfl) (hw.out.keep (al (Below.refl _ _) (Nat.le_refl _))) ((H.out.keep hB.out).keep (al (Below.refl _ _) (Nat.le_refl _))))) ?_
      rintro e w5 hr0
      have hr := hr0.two (hcaps.out j (Nat.le_refl _))
      have hpow : N ^ j * N = N ^ (j + 1) := (Nat.pow_succ N j).symm
      rw [hpow] at hr
      have hb45 : ∀ {a}, Below (wr.alloc a).heap.size (wr.alloc a) w5 → Below wr.heap.size wr w5 := fun h => (al (Below.refl _ _) (Nat.le_refl _)).trans (h.mono (by simp))
      clear hr0 hpow
      rcases hr with ⟨hcap, q5, n5, c5, rfl, hw5, hb5⟩ | ⟨hcap, rfl, hb5⟩
      · have hb6 := hb45 hb5
        have k0 : w5.heap[w.heap.size + 1]? = some (.cells #[.slice none 0 0] 40 (0, 0)) := (hb6.block _ (blk_lt h0.out.1)).trans h0.out.1
        have k2 : w5.heap[w.heap.size]? = some (.cells #[.slice p m c] 40 (0, 0)) := (hb6.block _ (blk_lt h0.out.2)).trans h0.out.2
        have k1 : w5.heap[w1.heap.size]? = some (.cells #[.slice q n d] 40 (0, 0)) := (hb6.block _ (blk_lt h1.out)).trans h1.out
        obtain ⟨_, x1, x2, x3, x4⟩ := One.of k1
        have hg := HG.out
        have F : Hid (((w5.setCell ⟨w1.heap.size, 0, none⟩ (.slice q5 n5 c5)).heap[w.heap.size + 1]? = some (.cells #[.slice none 0 0] 40 (0, 0)) ∧ (w5.setCell ⟨w1.heap.size, 0, none⟩ (.slice q5 n5 c5)).heap[w.heap.size]? = some (.cells #[.slice p m c] 40 (0, 0))) ∧ (w5.setCell ⟨w1.heap.size, 0, none⟩ (.slice q5 n5 c5)).heap[w1.heap.size]? = some (.cells #[.slice q5 n5 c5] 40 (0, 0)) ∧ Ws 44 (w5.setCell ⟨w1.heap.size, 0, none⟩ (.slice q5 n5 c5)) q5 n5 c5 (N ^ (j + 1)) ∧ (∀ i, i ≤ j + 1 → N ^ i < capN) ∧ Below w.heap.size w (w5.setCell ⟨w1.heap.size, 0, none⟩ (.slice q5 n5 c5))) :=
          ⟨⟨hsc k0 (show w.heap.size + 1 ≠ w1.heap.size by omega), hsc k2 (show w.heap.size ≠ w1.heap.size by omega)⟩, hss k1, hw5.set k1 (by decide), fun i hi => by
            rcases Nat.lt_or_ge i (j + 1) with h | h
            · exact hcaps.out i (by omega)
            · obtain rfl : i = j + 1 := by omega
              exact hcap, ((hB.out.trans (hb6.mono (by omega)))).setCell (show w.heap.size ≤ w1.heap.size by omega) _⟩
        clear hb6 hb5 hw5 k0 k1 k2 hb45 hcap hg
        go_wp2
        go_roundw
        case rel => exact ⟨j + 1, _, _, _, by omega, by go_num, F.out.1, F.out.2.1, F.out.2.2.1, F.out.2.2.2.1, F.out.2.2.2.2⟩
        case measure => simp [intOf]; omega
      · have hb6 := hb45 hb5
        have k0 : w5.heap[w.heap.size + 1]? = some (.cells #[.slice none 0 0] 40 (0, 0)) := (hb6.block _ (blk_lt h0.out.1)).trans h0.out.1
        have k1 : w5.heap[w1.heap.size]? = some (.cells #[.slice q n d] 40 (0, 0)) := (hb6.block _ (blk_lt h1.out)).trans h1.out
        obtain ⟨_, x1, x2, x3, x4⟩ := One.of k1
        have hg := HG.out
        obtain ⟨y1, y2⟩ := One.later k0 w1.heap.size 0 (.slice none 0 0) (by omega)
        have K0 := Lib.hid (hsc k0 (show w.heap.size + 1 ≠ (⟨w1.heap.size, 0, none⟩ : Addr).block from (by show w.heap.size + 1 ≠ w1.heap.size; omega)) (v := .slice none 0 0))
        have F : Hid (capN ≤ N ^ (j + 1) ∧ j + 1 ≤ k ∧ Below w.heap.size w ((w5.setCell ⟨w1.heap.size, 0, none⟩ (.slice none 0 0)).setCell ⟨w.heap.size + 1, 0, none⟩ (.slice none 0 0))) :=
          ⟨hcap, by omega, ((hB.out.trans (hb6.mono (by omega))).setCell (show w.heap.size ≤ w1.heap.size by omega) _).setCell (show w.heap.size ≤ w.heap.size + 1 by omega) _⟩
        clear hb6 hb5 k0 k1 hb45 hcap hg
        go_wp2
        exact bodyPost_ret (res_cell_tmp rfl _ _ _ 40 #[.slice none 0 0] (0, 0) _ (.int .i64 16) rfl (hss K0.out) rfl Tryz.underlying40 rfl hinfo) rfl (Or.inr ⟨⟨_, F.out.2.1, F.out.1⟩, rfl, F.out.2.2⟩)
    · obtain rfl : j = k := by omega
      have HWE : Hid (Ws 44 (wr.setCell ⟨w.heap.size + 1, 0, none⟩ (.slice q n d)) q n d (N ^ j) ∧ (∀ i, i ≤ j → N ^ i < capN) ∧ Below w.heap.size w (wr.setCell ⟨w.heap.size + 1, 0, none⟩ (.slice q n d))) := ⟨hw.out.set h0.out.1 (by decide), hcaps.out, hB.out.setCell (show w.heap.size ≤ w.heap.size + 1 by omega) _⟩
      clear hw hlt
      go_wp2
      exact bodyPost_ret (res_cell_tmp rfl _ _ _ 40 #[.slice q n d] (0, 0) _ (.int .i64 0) rfl (hss h0.out.1) rfl Tryz.underlying40 rfl hinfo) rfl (Or.inl ⟨HWE.out.2.1, _, _, _, rfl, HWE.out.1, HWE.out.2.2⟩)
end Go.Proofs.YtfbmdlfkipipfaaGreatDoor
namespace Go.By
open Go.RowKit
end Go.By
namespace Go.Proofs.YtfbmdlfkipipfaaGreatDoor
open Go.RowKit Go.By
end Go.Proofs.YtfbmdlfkipipfaaGreatDoor
namespace Go.By
open Go.RowKit
end Go.By
namespace Go.Proofs.YtfbmdlfkipipfaaGreatDoor
open Go.RowKit Go.By
end Go.Proofs.YtfbmdlfkipipfaaGreatDoor
namespace Go.By
open Go.RowKit
theorem powW_eq (k : Nat) : powW k = 256 ^ (8 * k) := by
  unfold powW
  rw [show (18446744073709551616 : Nat) = 256 ^ 8 from rfl, ← Nat.pow_mul]
theorem capN_eq {j k : Nat} (hj : j = 512) (hk : k = 8 * j) : capN = 256 ^ k := by
  show powW 512 = _
  rw [← hj, powW_eq, hk]
theorem lt_cap {N k : Nat} (h : N < 256 ^ k) (hk : k ≤ 4096) : N < capN := by
  obtain ⟨j, hj⟩ : ∃ j, j = 512 := ⟨_, rfl⟩
  obtain ⟨i, hi⟩ : ∃ i, i = 8 * j := ⟨_, rfl⟩
  rw [capN_eq hj hi]
  exact Nat.lt_of_lt_of_le h (Nat.pow_le_pow_right (by decide) (by omega))
theorem RetW.ok {T : TypeId} {w w' : World} {N k : Nat} {e : Ending} (h : RetW T w N k e w') (hN : ∀ j, j ≤ k → N ^ j < capN) : RetN T w (N ^ k) e w' := by
  rcases h with h | ⟨⟨j, hj, hc⟩, _⟩
  · exact h.2
  · have := hN j hj; omega
theorem ba1 (w : World) (o : Obj) : Below w.heap.size w (w.alloc o) := al (Below.refl _ _) (Nat.le_refl _)
/-- a box that holds a number -/
def NBox (T U : TypeId) (W : World) (b N : Nat) : Prop := ∃ q n c, W.heap[b]? = some (.cells #[.slice q n c] T (0, 0)) ∧ Ws U W q n c N
theorem NBox.keep {T U : TypeId} {w w' : World} {b N : Nat} (h : NBox T U w b N) (hb : Below w.heap.size w w') : NBox T U w' b N := by
  obtain ⟨q, n, c, k, hw⟩ := h
  exact ⟨q, n, c, (hb.block _ (blk_lt k)).trans k, hw.keep hb⟩
theorem NBox.new {T U : TypeId} {w : World} {q : Option Addr} {n c N : Nat} (h : Ws U w q n c N) : NBox T U (w.alloc (.cells #[.slice q n c] T)) w.heap.size N :=
  ⟨q, n, c, hnew rfl, h.keep (al (Below.refl _ _) (Nat.le_refl _))⟩
theorem Ws.on {T : TypeId} {w : World} {q : Option Addr} {n c N : Nat} (h : Ws T w q n c N) {o o2 : Obj} : Ws T ((w.alloc o).alloc o2) q n c N := (h.keep (al (Below.refl _ _) (Nat.le_refl _))).keep (al (Below.refl _ _) (Nat.le_refl _))
theorem cmpN_self (N : Nat) : cmpN N N = 0 := cmpN_eq rfl
end Go.By
namespace Go.Proofs.YtfbmdlfkipipfaaGreatDoor
open Go.RowKit Go.By
theorem Mul2_ok {p : Option Addr} {c M N : Nat} {w : World} (h : Nsl 44 w p 2 c [M, N]) (h1 : M < capN) (hc : M * N < capN) : Calls Tryz.prog 21 #[.slice p 2 c] w (RetN 44 w (M * N)) :=
  (Mul_nat p 2 c _ w h).mono fun e w' hr => (hr.two h1).ok hc
theorem Pow_ok {p : Option Addr} {m c N k : Nat} {w : World} (h : Ws 44 w p m c N) (hk : k ≤ 65536) (hN : ∀ j, j ≤ k → N ^ j < capN) : Calls Tryz.prog 17 #[.agg #[.slice p m c], .int .i64 k] w (RetN 44 w (N ^ k)) :=
  (Pow_any p m c N k w h hk).mono fun e w' hr => hr.ok hN
end Go.Proofs.YtfbmdlfkipipfaaGreatDoor
namespace Go.By
open Go.RowKit
/-- a store into a block of one cell, of element type X, numbered B or more -/
structure StepN (B X : Nat) (w w' : World) : Prop where
  os : w'.os = w.os
  tape : w'.tape = w.tape
  output : w'.output = w.output
  size : w.heap.size ≤ w'.heap.size
  keep : ∀ k, k < w.heap.size → (k < B ∨ ∀ (cs : Array Value) fr, w.heap[k]? = some (Obj.cells cs X fr) → cs.size ≠ 1) → w'.heap[k]? = w.heap[k]?
  cells : ∀ (k : Nat) (cs : Array Value), w.heap[k]? = some (Obj.cells cs X (0, 0)) → ∃ cs' : Array Value, cs'.size = cs.size ∧ w'.heap[k]? = some (Obj.cells cs' X (0, 0))
structure ShN (B X : Nat) where
  ok : Value → World → Prop
  keep : ∀ (v : Value) (w w' : World), ok v w → Below w.heap.size w w' → ok v w'
  step : ∀ (v : Value) (w w' : World), ok v w → StepN B X w w' → ok v w'
def NBoxS (B X size : Nat) (v : Value) (w : World) : Prop := ∃ b cs, v = .pointer (some ⟨b, 0, none⟩) ∧ B ≤ b ∧ cs.size = size ∧ w.heap[b]? = some (.cells cs X (0, 0))
section
variable (B X : Nat)
def ShN.val (u : Value) : ShN B X := ⟨fun v _ => v = u, fun _ _ _ h _ => h, fun _ _ _ h _ => h⟩
def ShN.any : ShN B X := ⟨fun _ _ => True, fun _ _ _ h _ => h, fun _ _ _ h _ => h⟩
def ShN.box : ShN B X := ⟨NBoxS B X 1, fun _ _ _ ⟨b, cs, e, hb, hs, hh⟩ hw => ⟨b, cs, e, hb, hs, (hw.block b (lt_of_block hh)).trans hh⟩,
  fun _ _ _ ⟨b, cs, e, hb, hs, hh⟩ hw => by
    obtain ⟨cs', h1, h2⟩ := hw.cells b cs hh
    exact ⟨b, cs', e, hb, h1.trans hs, h2⟩⟩
end
/-- behind the store: the box in slot t holds a value that reads so -/
def BoxedN (B X t : Nat) (s : ShN B X) (σ : Nat → Value) (w : World) : Prop := ∃ b cs, σ t = .pointer (some ⟨b, 0, none⟩) ∧ B ≤ b ∧ w.heap[b]? = some (.cells cs X (0, 0)) ∧ s.ok (.agg cs) w
def InvN (ops : Array Oper) (B X : Nat) (sh : Nat → ShN B X) (st t : Nat) (s : ShN B X) (i : Nat) (σ : Nat → Value) (w : World) : Prop :=
  if i = st then BoxedN B X t s σ w else match dstOf ops i with
  | some d => (sh i).ok (σ d) w
  | none => True
def RelN (B X st : Nat) (i : Nat) (w w' : World) : Prop := if i = st then StepN B X w w' else Below w.heap.size w w'
def StepNS (P : Program) (ops : Array Oper) (Q : Exit → Act → World → Prop) (a0 : Act) (W0 : World) (B X : Nat) (sh : Nat → ShN B X) (st t : Nat) (s : ShN B X) (i : Nat) (o : Oper) : Prop :=
  ∀ (a : Act) (w : World), Below B W0 w → a.tmps.size = a0.tmps.size → (∀ k, k ∈ preds o → InvN ops B X sh st t s k (sl a) w) → (∀ u, initAt ops i u = true → sl a u = sl a0 u) →
    if Region.wanted o (yielded ops a.tmps) = true then o.wp P a w (fun a' w' => ∃ v, a' = a.put o.dst v ∧ RelN B X st i w w' ∧ (if i = st then BoxedN B X t s (sl a) w' else (sh i).ok v w')) Q
    else i ≠ st ∧ (sh i).ok undef w
def EachN (P : Program) (ops : Array Oper) (Q : Exit → Act → World → Prop) (a0 : Act) (W0 : World) (B X : Nat) (sh : Nat → ShN B X) (st t : Nat) (s : ShN B X) : List Oper → Nat → Prop
  | [], _ => True
  | o :: rest, i => StepNS P ops Q a0 W0 B X sh st t s i o ∧ EachN P ops Q a0 W0 B X sh st t s rest (i + 1)
/-- the store writes no slot, all others do; the box's slot is written by one that the store waits for -/
def dstsN (ops : Array Oper) (n st t : Nat) : Bool := (List.range ops.size).all fun i => match ops[i]? with
  | some o => (match o.dst with
    | some d => decide (d < n) && i != st && (d != t || (match ops[st]? with
      | some os => (preds os).contains i
      | none => false))
    | none => i == st)
  | none => true
theorem eachN_of {P : Program} {ops : Array Oper} {Q : Exit → Act → World → Prop} {a0 : Act} {W0 : World} {B X : Nat} {sh : Nat → ShN B X} {st t : Nat} {s : ShN B X} {n : Nat} (hn : a0.tmps.size = n) (hd : dstsN ops n st t = true) : ∀ (l : List Oper) (k : Nat), (∀ j o, l[j]? = some o → ops[k + j]? = some o) →
    EachN P ops Q a0 W0 B X sh st t s l k → Each P ops Q a0 W0.drew (fun W w => Below B W w) (RelN B X st) (InvN ops B X sh st t s) l k := by
  intro l
  induction l with
  | nil => intro k _ _; trivial
  | cons o l ih =>
    intro k hk h
    refine ⟨?_, ih (k + 1) (fun j o' hj => by have := hk (j + 1) o' (by simpa using hj); rwa [show k + (j + 1) = k + 1 + j by omega] at this) h.2⟩
    intro a w hE hs hp hi
    have ho : ops[k]? = some o := by have := hk 0 o (by simp); simpa using this
    have hks : k < ops.size := (Array.getElem?_eq_some_iff.1 ho).1
    have hdk := List.all_eq_true.1 hd k (List.mem_range.2 hks)
    rw [ho] at hdk
    dsimp only at hdk
    have hs1 := h.1 a w ⟨hE.os, hE.tape, hE.output, hE.size, hE.block⟩ hs hp hi
    cases hdo : o.dst with
    | none =>
      rw [hdo] at hdk
      dsimp only at hdk
      have hkst : k = st := by simpa using hdk
      split
      · rename_i hw
        rw [if_pos hw] at hs1
        refine Oper.wp_mono ?_ hs1
        rintro a' w' ⟨v, e, hb, hok⟩
        rw [if_pos hkst] at hok
        refine ⟨v, e.trans (by rw [hdo]), hb, ?_⟩
        unfold InvN
        rw [if_pos hkst, e, hdo]; exact hok
      · rename_i hw
        rw [if_neg hw] at hs1
        exact absurd hkst hs1.1
    | some d =>
      rw [hdo] at hdk
      dsimp only at hdk
      simp only [Bool.and_eq_true, decide_eq_true_eq, bne_iff_ne] at hdk
      have hkst : k ≠ st := hdk.1.2
      have hdn : d < a.tmps.size := by rw [hs, hn]; exact hdk.1.1
      have hdst : dstOf ops k = some d := by simp [dstOf, ho, hdo]
      split
      · rename_i hw
        rw [if_pos hw] at hs1
        refine Oper.wp_mono ?_ hs1
        rintro a' w' ⟨v, e, hb, hok⟩
        rw [if_neg hkst] at hok
        refine ⟨v, e.trans (by rw [hdo]), hb, ?_⟩
        unfold InvN
        rw [if_neg hkst, hdst]
        show (sh k).ok (sl a' d) w'
        rw [e, hdo, put_same _ _ _ hdn]; exact hok
      · rename_i hw
        rw [if_neg hw] at hs1
        refine ⟨?_, ?_⟩
        · unfold RelN; rw [if_neg hkst]; exact Below.refl _ _
        · unfold InvN
          rw [if_neg hkst, hdst]
          show (sh k).ok (sl (a.put (some d) undef) d) w
          rw [put_same _ _ _ hdn]; exact hs1.2
theorem stepN_below {B X : Nat} {W w w' : World} (hE : Below B W w) (h : StepN B X w w') (hB : B ≤ W.heap.size) : Below B W w' :=
  hE.trans ⟨h.os, h.tape, h.output, h.size, fun k hk => h.keep k (by have := hE.size; omega) (.inl hk)⟩
theorem wp_region_boxN {P : Program} {ops : Array Oper} {Q : Exit → Act → World → Prop} {id : Nat} {a0 : Act} {w0 : World} (X : Nat) (sh : Nat → ShN w0.heap.size X) (st t : Nat) (s : ShN w0.heap.size X) (n : Nat) (hn : a0.tmps.size = n) (hm : P.follows .mixedOrders = true) (hback : backB ops = true) (hdist : distB ops = true) (hdsts : dstsN ops n st t = true)
    (each : EachN P ops Q a0 w0 w0.heap.size X sh st t s ops.toList 0)
    (fin : ∀ a w, Below w0.heap.size w0 w → a.tmps.size = a0.tmps.size → a.defers = a0.defers → (∀ j, j < ops.size → InvN ops w0.heap.size X sh st t s j (sl a) w) → (∀ u, (ops.toList.all fun o => o.dst != some u) = true → sl a u = sl a0 u) → Q .normal a w) :
    (Code.region id ops true).wp P Q a0 w0 := by
  refine wp_region_each hm hback (fun W w => Below w0.heap.size W w) (RelN w0.heap.size X st) (InvN ops w0.heap.size X sh st t s) (Below.refl _ _) ?_ ?_ (eachN_of (W0 := w0) hn hdsts ops.toList 0 (fun j o hj => by simpa using hj) each) (fun a w hE hs hd hI ht => fin a w ⟨hE.os, hE.tape, hE.output, hE.size, hE.block⟩ hs hd hI ht)
  · intro i w w' h hR
    unfold RelN at hR
    split at hR
    · exact stepN_below h hR (Nat.le_refl _)
    · exact h.trans (hR.mono h.size)
  intro i j oi oj σ σ' w w' hij hoi hoj _ hI hR hσ _ hord
  have hi' : i < ops.size := (Array.getElem?_eq_some_iff.1 hoi).1
  have hj' : j < ops.size := (Array.getElem?_eq_some_iff.1 hoj).1
  have hdi := List.all_eq_true.1 hdsts i (List.mem_range.2 hi')
  rw [hoi] at hdi
  dsimp only at hdi
  unfold InvN at hI ⊢
  by_cases hjs : j = st
  · rw [if_pos hjs] at hI ⊢
    obtain ⟨b, cs, hb, hBb, hh, hok⟩ := hI
    have his : i ≠ st := fun e => hij (e.trans hjs.symm)
    unfold RelN at hR
    rw [if_neg his] at hR
    have hne : oi.dst ≠ some t := by
      intro e
      rw [e] at hdi
      dsimp only at hdi
      simp only [Bool.and_eq_true, decide_eq_true_eq, bne_self_eq_false, Bool.false_or] at hdi
      have h2 := hdi.2
      rw [← hjs, hoj] at h2
      exact hord t e (by simpa using h2)
    exact ⟨b, cs, by rw [hσ t hne]; exact hb, hBb, (hR.block b (lt_of_block hh)).trans hh, s.keep _ _ _ hok hR⟩
  · rw [if_neg hjs] at hI ⊢
    cases hdj : dstOf ops j with
    | none => trivial
    | some d =>
      rw [hdj] at hI
      show (sh j).ok (σ' d) w'
      have hne : oi.dst ≠ some d := by
        intro e
        have := List.all_eq_true.1 (List.all_eq_true.1 hdist i (List.mem_range.2 hi')) j (List.mem_range.2 hj')
        rw [hoi, hoj] at this
        have hdj' : oj.dst = some d := by simpa [dstOf, hoj] using hdj
        simp [e, hdj', hij] at this
      rw [hσ d hne]
      unfold RelN at hR
      by_cases his : i = st
      · rw [if_pos his] at hR; exact (sh j).step _ _ _ hI hR
      · rw [if_neg his] at hR; exact (sh j).keep _ _ _ hI hR
section
variable {B X : Nat}
theorem Ws.step {T : TypeId} {w w' : World} {q : Option Addr} {n c N : Nat} (h : Ws T w q n c N) (hb : StepN B X w w') (hne : T ≠ X) : Ws T w' q n c N := by
  obtain ⟨ws, hs, hn, hv⟩ := h.ex
  have key : ∀ a, q = some a → w'.heap[a.block]? = w.heap[a.block]? := fun a ha => by
    obtain ⟨cs, fr, hc⟩ := h.lies a ha
    exact hb.keep _ (lt_of_block hc) (.inr fun cs' fr' hc' => by rw [hc] at hc'; cases hc'; exact absurd rfl hne)
  refine ⟨⟨ws, ⟨hs.len, hs.le, hs.max, hs.nil, fun i hi => ?_⟩, hn, hv⟩, h.le, fun a ha => ?_⟩
  · obtain ⟨b, o, hp, hc⟩ := hs.rs i hi
    exact ⟨b, o, hp, (World.cell?_of_block (a := ⟨b, o + i, none⟩) (key ⟨b, o, none⟩ hp)).trans hc⟩
  · obtain ⟨cs, fr, hc⟩ := h.lies a ha
    exact ⟨cs, fr, (key a ha).trans hc⟩
theorem stepN_set {b : Nat} {w : World} {u v : Value} (hb : B ≤ b) (h : w.heap[b]? = some (.cells #[u] X (0, 0))) : StepN B X w (w.setCell ⟨b, 0, none⟩ v) := by
  have hs : (w.setCell ⟨b, 0, none⟩ v).heap[b]? = some (.cells #[v] X (0, 0)) := hss h
  refine ⟨rfl, rfl, rfl, by simp, ?_, ?_⟩
  · intro k hk hp
    have : k ≠ b := by
      rintro rfl
      rcases hp with hp | hp
      · omega
      · exact hp _ _ h rfl
    rw [Below.heap_setCell _ _ _ _ this]
  · intro k cs1 h2
    by_cases e : k = b
    · subst e
      rw [h] at h2; cases h2
      exact ⟨#[v], rfl, hs⟩
    · exact ⟨cs1, rfl, hsc h2 e⟩
theorem size1 {cs : Array Value} (h : cs.size = 1) : ∃ u, cs = #[u] := ⟨cs[0], by
  apply Array.ext
  · simp [h]
  · intro i h1 h2
    have : i = 0 := by omega
    subst this; rfl⟩
/-- a number, by value -/
def IsN (T : TypeId) (N : Nat) (v : Value) (w : World) : Prop := ∃ q n c, v = .agg #[.slice q n c] ∧ Ws T w q n c N
def ShN.num (T : TypeId) (N : Nat) (hne : T ≠ X) : ShN B X := ⟨IsN T N, fun _ _ _ ⟨q, n, c, e, h⟩ hb => ⟨q, n, c, e, h.keep hb⟩, fun _ _ _ ⟨q, n, c, e, h⟩ hb => ⟨q, n, c, e, h.step hb hne⟩⟩
/-- a number, and a code -/
def IsNT (T : TypeId) (N : Nat) (code : Int) (v : Value) (w : World) : Prop := ∃ q n c, v = .tuple #[.agg #[.slice q n c], .int .i64 code] ∧ Ws T w q n c N
def ShN.numT (T : TypeId) (N : Nat) (code : Int) (hne : T ≠ X) : ShN B X := ⟨IsNT T N code, fun _ _ _ ⟨q, n, c, e, h⟩ hb => ⟨q, n, c, e, h.keep hb⟩, fun _ _ _ ⟨q, n, c, e, h⟩ hb => ⟨q, n, c, e, h.step hb hne⟩⟩
end
end Go.By
namespace Go.By
end Go.By
namespace Go.By
open Go.RowKit
/-- a block holds this -/
def BlkIs (b : Nat) (o : Obj) (W : World) : Prop := W.heap[b]? = some o
theorem BlkIs.keep {b : Nat} {o : Obj} {W W' : World} (h : BlkIs b o W) (hb : Below W.heap.size W W') : BlkIs b o W' := (hb.block _ (blk_lt h)).trans h
structure Bel (w0 W : World) : Prop where
  out : Below w0.heap.size w0 W
theorem Bel.keep {w0 W W' : World} (h : Bel w0 W) (hb : Below W.heap.size W W') : Bel w0 W' := ⟨bl h.out hb h.out.size⟩
/-- a number is what a function gives: its cell is written last -/
theorem ret_num {T U : TypeId} {w0 w : World} {q : Option Addr} {n c N g : Nat} {u : Value} (K : w.heap[g]? = some (.cells #[u] T (0, 0))) (hg : w0.heap.size ≤ g) (hB : Below w0.heap.size w0 w) (hw : Ws U w q n c N) (hne : T ≠ U) :
    Ws U (w.setCell ⟨g, 0, none⟩ (.slice q n c)) q n c N ∧ Below w0.heap.size w0 (w.setCell ⟨g, 0, none⟩ (.slice q n c)) ∧ (w.setCell ⟨g, 0, none⟩ (.slice q n c)).heap[g]? = some (.cells #[.slice q n c] T (0, 0)) :=
  ⟨hw.set K hne, hB.setCell hg _, hss K⟩
end Go.By
namespace Go.Proofs.YtfbmdlfkipipfaaGreatDoor
open Go.RowKit Go.By
theorem Of_k (k : Nat) (hk : k < 18446744073709551616) (W : World) : Calls Tryz.prog 16 #[.int .u64 k] W (RetN1 44 W k) := by
  have := OfN_any (UInt64.ofNat k) W
  have e : (UInt64.ofNat k).toNat = k := by simp; omega
  rwa [e, show W64 (UInt64.ofNat k) = .int .u64 k by unfold W64; rw [e]] at this
theorem pow256 {j : Nat} (h : j ≤ 4095) : 256 ^ j < capN := lt_cap (k := j + 1) (Nat.pow_lt_pow_right (by decide) (by omega)) (by omega)
end Go.Proofs.YtfbmdlfkipipfaaGreatDoor
namespace Go.Proofs.YtfbmdlfkipipfaaGreatDoor
open Go.RowKit Go.By
/-- where the first i rows first clash -/
def clashI (D : List Rw) : Nat → Int
  | 0 => -1
  | i + 1 => match D[i]? with
    | some x => if clashB (kD (D.take i)) x = true ∧ clashI D i < 0 then (i : Int) else clashI D i
    | none => clashI D i
theorem clashI_step {D : List Rw} {i : Nat} {x : Rw} (h : D[i]? = some x) : clashI D (i + 1) = if clashB (kD (D.take i)) x = true ∧ clashI D i < 0 then (i : Int) else clashI D i := by
  show (match D[i]? with | some x => _ | none => _) = _
  rw [h]
theorem clashI_range (D : List Rw) : ∀ i, -1 ≤ clashI D i ∧ clashI D i < i
  | 0 => by show -1 ≤ (-1 : Int) ∧ (-1 : Int) < _; omega
  | i + 1 => by
    have ih := clashI_range D i
    show -1 ≤ (match D[i]? with | some x => _ | none => _) ∧ (match D[i]? with | some x => _ | none => _) < _
    split
    · split <;> omega
    · omega
/-- a verdict, and a code -/
def RetVd (w : World) (r c code : Int) (e : Ending) (w' : World) : Prop := e = .returned (.tuple #[.agg #[.int .i64 r, .int .i64 c], .int .i64 code]) ∧ Below w.heap.size w w'
theorem info_verdict : (Tryz.prog.info? 128).map (·.size) = some 2 := by kernel_rfl
theorem sys_len {k t : Nat} {X K : List Rw} (h : Sys k t (kD X) K) : K.length = (kD X).length := (sys_rank h).trans (vecs_rank X)
theorem sys_clash {k t : Nat} {X K : List Rw} {x : Rw} (h : Sys k t (kD X) K) (hx : Fit k t x) : clashB (kD X) x = clashB K x := by
  unfold clashB; rw [h.rest hx]
set_option maxRecDepth 100000 in
set_option maxHeartbeats 2000000 in
theorem Judge_fit (k t : Nat) (p : Option Addr) (m c : Nat) (D : List Rw) (w : World) (h : RwS w p m c D) (hk1 : 1 ≤ k) (hk : k ≤ 4096) (ht : t ≤ 65535) (hm : m ≤ 4096) (hD : ∀ x, x ∈ D → Fit k t x) : Calls Tryz.prog 59 #[.int .i64 k, .int .i64 t, .slice p m c] w (RetVd w (kD D).length (clashI D m) 0) := by
  have hinfo := info_verdict
  have H := Lib.hid h; have HL := Lib.hid h.len; have HD := Lib.hid hD
  have hN : Hid (∀ W, Calls Tryz.prog 58 #[.int .i64 k, .int .i64 t] W fun e w' => ∃ be, e = .returned (.tuple #[.pointer (some ⟨be, 0, none⟩), .int .i64 0]) ∧ Elm w' W.heap.size be k t (.slice none 0 0) 0 [] ∧ Below W.heap.size W w') := fun W => New_good k t W hk1 hk ht
  clear h hD
  go_enter Tryz.func59, Tryz.ntmps59
  go_wp2_with fail
  refine Calls.mono (hN.out _) ?_
  rintro e w1 ⟨be, rfl, hE, hb⟩
  obtain ⟨B, hBe⟩ : ∃ B, B = w.heap.size + 1 := ⟨_, rfl⟩
  have E1 : Hid (Elm w1 B be k t (.slice none 0 0) 0 []) := by have := hE; rw [show (w.alloc (.cells #[.int .i64 0, .int .i64 0] 128)).heap.size = B by rw [hBe]; simp] at this; exact this
  have BB1 : Hid (Below B (w.alloc (.cells #[.int .i64 0, .int .i64 0] 128)) w1) := by have := hb; rw [show (w.alloc (.cells #[.int .i64 0, .int .i64 0] 128)).heap.size = B by rw [hBe]; simp] at this; exact this
  have HB := Lib.hid hBe
  clear hE hb hBe hN
  go_wp2
  go_loopw [10, 27] (fun cv iv wr => ∃ (i n : Nat) (v : Value) (K : List Rw), i ≤ m ∧ iv = .int .i64 i ∧ cv = .int .i64 (clashI D i) ∧ Hid (Elm wr B be k t v n K) ∧ Hid (Sys k t (kD (D.take i)) K) ∧ Hid (Below B (w.alloc (.cells #[.int .i64 0, .int .i64 0] 128)) wr)) (fun _ iv _ => m - (intOf iv).toNat)
  case atStart => exact ⟨0, 0, _, [], Nat.zero_le _, rfl, rfl, E1.out, by show Sys k t (kD (D.take 0)) []; rw [List.take_zero]; exact Sys.nil k t, BB1.out⟩
  case round =>
    clear E1 BB1
    obtain ⟨i, n, v, K, hi, rfl, rfl, hE, hS, hB⟩ := hrel
    have hBs : B ≤ wr.heap.size := by have h1 := hB.out.size; have h2 := HB.out; simp at h1; omega
    have hKn : n ≤ i := by
      have h1 := hE.out.rows.len
      have h2 := sys_len hS.out
      have h3 := kD_len D i
      omega
    have hcr := clashI_range D i
    by_cases hlt : i < m
    · have hlt' : (i : Int) < (m : Int) := by omega
      have hW : Below w.heap.size w wr := (ba1 w _).trans (hB.out.mono (by have := HB.out; omega))
      obtain ⟨x, hx⟩ : ∃ x, D[i]? = some x := ⟨_, List.getElem?_eq_getElem (by rw [HL.out]; exact hlt)⟩
      have hfit := HD.out x (List.mem_of_getElem? hx)
      obtain ⟨b, o, q1, m1, c1, q2, m2, c2, rfl, D1, D2, s1, s2⟩ := (H.out.keep hW).row i x hx
      obtain rfl : k = m1 := by rw [← s1.len]; exact hfit.1.symm
      obtain rfl : t = m2 := by rw [← s2.len]; exact hfit.2.symm
      have S1 := Lib.hid s1; have S2 := Lib.hid s2
      have HX := Lib.hid hx; have HFT := Lib.hid hfit; have HLT := Lib.hid hlt
      obtain ⟨cz, hcz⟩ : ∃ cz, cz = clashI D i := ⟨_, rfl⟩
      rw [← hcz] at hcr ⊢
      have HCZ := Lib.hid hcz
      have hcode := @clashB_code K x
      rw [← sys_clash hS.out hfit] at hcode
      have HCD := Lib.hid hcode
      clear s1 s2 hx hfit hlt hW hcz hcode
      go_wp2_with fail
      refine Calls.mono (EPut_fit B be k t n v K q1 q2 c1 c2 x _ (hE.out.keep (ba1 _ _)) (S1.out.keep (ba1 _ _)) (S2.out.keep (ba1 _ _)) hS.out.red hk ht (by omega)) ?_
      rintro e w4 ⟨rfl, v', n', hE', hC, _⟩
      have hold := chg_old hC (hE.out.keep (ba1 _ _)).rows (Nat.le_refl B) hE.out.old (Nat.le_trans hBs (ba1 wr _).size)
      have B4 := Lib.hid ((hB.out.trans ((ba1 wr _).mono hBs)).trans hold)
      have E4 := Lib.hid hE'
      have Y4 : Hid (Sys k t (kD (D.take (i + 1))) (putK K x)) := by
        show Sys _ _ _ _
        rw [List.take_add_one, HX.out]
        exact hS.out.putX HFT.out
      clear hE' hC hold hE hS hB S1 S2 D1 D2
      have ST := clashI_step HX.out
      rw [← HCZ.out] at ST
      by_cases hcc : clashB (kD (D.take i)) x = true
      · rw [HCD.out.1 hcc]
        by_cases hng : cz < 0
        · rw [if_pos ⟨hcc, hng⟩] at ST
          have HST := Lib.hid ST
          clear ST hcc HCD
          go_wp2
          go_roundw
          case rel => exact ⟨i + 1, n', v', putK K x, by have := HLT.out; omega, by go_num, by rw [HST.out], E4.out, Y4.out, B4.out⟩
          case measure => simp [intOf]; have := HLT.out; omega
        · rw [if_neg (fun h => hng h.2)] at ST
          have HST := Lib.hid ST
          have hng' : 0 ≤ cz := by omega
          clear ST hcc HCD hng
          go_wp2
          go_roundw
          case rel => exact ⟨i + 1, n', v', putK K x, by have := HLT.out; omega, by go_num, by rw [HST.out], E4.out, Y4.out, B4.out⟩
          case measure => simp [intOf]; have := HLT.out; omega
      · rw [if_neg (fun h => hcc h.1)] at ST
        have HST := Lib.hid ST
        obtain ⟨cd, hcd⟩ : ∃ cd, cd = codeF K x := ⟨_, rfl⟩
        have hc2 : ¬ cd = 2 := fun e => hcc (HCD.out.2 (by rw [← hcd]; exact e))
        have hc3 : (cd == 2) = false := by simpa using hc2
        rw [← hcd]
        clear ST hcc HCD hcd
        go_wp2
        go_roundw
        case rel => exact ⟨i + 1, n', v', putK K x, by have := HLT.out; omega, by go_num, by rw [HST.out], E4.out, Y4.out, B4.out⟩
        case measure => simp [intOf]; have := HLT.out; omega
    · obtain rfl : i = m := by omega
      have hn : Hid (n = (kD D).length) := by
        show _ = _
        rw [← hE.out.rows.len, sys_len hS.out, List.take_of_length_le (by rw [HL.out]; exact Nat.le_refl _)]
      go_wp2_with fail
      refine Calls.mono (Rank_any' B be k t n v K _ hE.out) ?_
      rintro e w' ⟨rfl, rfl⟩
      have R1 : wr.heap[w.heap.size]? = some (.cells #[.int .i64 0, .int .i64 0] 128 (0, 0)) := (hB.out.block _ (by have := HB.out; omega)).trans (hnew rfl)
      have d1 := cell_of_row _ _ 0 _ _ _ R1
      have d2 := cell_of_row _ _ 1 _ _ _ R1
      have z1 := frozen_of_row _ _ 0 _ _ R1
      have z2 := frozen_of_row _ _ 1 _ _ R1
      have hW : Hid (Below w.heap.size w wr) := (ba1 w _).trans (hB.out.mono (by have := HB.out; omega))
      have HR1 := Lib.hid R1
      clear R1 hE hS hB hlt
      go_wp2
      exact bodyPost_ret (res_cell_tmp rfl _ _ _ 128 #[.int .i64 n, .int .i64 (clashI D i)] (0, 0) _ (.int .i64 0) rfl (hss (hss HR1.out)) rfl Tryz.underlying128 rfl hinfo) rfl ⟨by rw [hn.out], (hW.out.setCell (Nat.le_refl _) _).setCell (Nat.le_refl _) _⟩
end Go.Proofs.YtfbmdlfkipipfaaGreatDoor
namespace Go.Proofs.YtfbmdlfkipipfaaGreatDoor
open Go.RowKit Go.By
end Go.Proofs.YtfbmdlfkipipfaaGreatDoor
namespace Go.Proofs.YtfbmdlfkipipfaaGreatDoor
open Go.RowKit Go.By
end Go.Proofs.YtfbmdlfkipipfaaGreatDoor
namespace Go.By
open Go.RowKit
/-- a box's number is turned -/
theorem NBox.set {T U : TypeId} {w : World} {b M N : Nat} {q : Option Addr} {n c : Nat} (h : NBox T U w b M) (hw : Ws U w q n c N) (hne : T ≠ U) : NBox T U (w.setCell ⟨b, 0, none⟩ (.slice q n c)) b N := by
  obtain ⟨q1, n1, c1, k, _⟩ := h
  exact ⟨q, n, c, hss k, hw.set k hne⟩
end Go.By
namespace Go.Proofs.YtfbmdlfkipipfaaGreatDoor
open Go.RowKit Go.By
end Go.Proofs.YtfbmdlfkipipfaaGreatDoor
namespace Go.Proofs.YtfbmdlfkipipfaaGreatDoor
open Go.RowKit Go.By
set_option maxRecDepth 100000 in
set_option maxHeartbeats 2000000 in
theorem Count_ok (k t : Nat) (p : Option Addr) (m c : Nat) (r : Nat) (w : World) (hk : k ≤ 20) (ht : t ≤ 20) (hr : r ≤ k) (hJ : ∀ W, Below w.heap.size w W → Calls Tryz.prog 59 #[.int .i64 k, .int .i64 t, .slice p m c] W (RetVd W r (-1) 0)) : Calls Tryz.prog 15 #[.int .i64 k, .int .i64 t, .slice p m c] w (RetN 44 w (256 ^ (t * (k - r)))) := by
  have hinfo := info_nat
  have HJ := Lib.hid hJ
  obtain ⟨d, hd⟩ : ∃ d, d = k - r := ⟨_, rfl⟩
  obtain ⟨P, hP⟩ : ∃ P, P = t * d := ⟨_, rfl⟩
  rw [← hd, ← hP]
  have hPb : P ≤ 20 * 20 := by rw [hP]; exact Nat.mul_le_mul ht (by omega)
  have A1 : Hid (IntKind.i64.wrap ((k : Int) - (r : Int)) = (d : Int)) := (Go.IntWalk.i64_in _ ⟨by omega, by omega⟩).trans (by omega)
  have A2 : Hid (IntKind.i64.wrap ((t : Int) * (d : Int)) = (P : Int)) := by
    show _ = _
    rw [hP, ← Int.natCast_mul]; exact Go.IntWalk.i64_in _ (by rw [← hP]; omega)
  clear hJ hd hP hr
  go_enter Tryz.func15, Tryz.ntmps15
  go_wp2_with fail
  refine Calls.mono (HJ.out _ (ba1 w _)) ?_
  rintro e w1 ⟨rfl, hb⟩
  have K1 := BlkIs.keep (hnew (w := w) (o := .cells #[.slice none 0 0] 40) rfl) hb
  have B1 : Hid (Bel w w1) := (Bel.mk (ba1 w _)).keep hb
  have hl1 : w.heap.size < w1.heap.size := by have := hb.size; simp at this; omega
  have KA := Lib.hid (K1.keep (ba1 w1 (.cells #[.int .i64 (r : Int), .int .i64 (-1)] 128)))
  have BA := Lib.hid (B1.out.keep (ba1 w1 (.cells #[.int .i64 (r : Int), .int .i64 (-1)] 128)))
  have v0 : (w1.alloc (.cells #[.int .i64 (r : Int), .int .i64 (-1)] 128)).cell? ⟨w1.heap.size, 0, none⟩ = some (.int .i64 r) := cell_of_row _ _ 0 _ _ _ (hnew rfl)
  have V0 := Lib.hid v0
  clear hb K1 B1 v0
  go_wp2
  have v0 := V0.out
  generalize w1.alloc (.cells #[.int .i64 (r : Int), .int .i64 (-1)] 128) = wa at *
  generalize w1.heap.size = bv at *
  have a1 := A1.out; have a2 := A2.out
  refine wp_region_boxN 40 (fun ix => ([ShN.num 44 (256) (by decide), ShN.val _ _ (.int .i64 t), ShN.val _ _ (.int .i64 k), ShN.val _ _ (.pointer (some ⟨bv, 0, none⟩)), ShN.val _ _ (.int .i64 r), ShN.val _ _ (.int .i64 d), ShN.val _ _ (.int .i64 P), ShN.numT 44 (256 ^ P) (0) (by decide), ShN.numT 44 (256 ^ P) (0) (by decide), ShN.num 44 (256 ^ P) (by decide), ShN.val _ _ (.int .i64 0), ShN.box _ _, ShN.any _ _, ShN.val _ _ (.int .i64 0)][ix]?).getD (ShN.any _ _)) 12 10 (ShN.num 44 (256 ^ P) (by decide)) 41 rfl (by kernel_rfl) (by decide) (by decide) (by decide) ?_ ?_
  · refine ⟨?_, ?_, ?_, ?_, ?_, ?_, ?_, ?_, ?_, ?_, ?_, ?_, ?_, ?_, trivial⟩
    · intro a W hb hs hp hi
      refine ite_y rfl (wp_enter 16 #[.int .u64 256] ?_ (Of_k 256 (by decide) W) ?_)
      · simp only [execOp, resolve, List.map_toArray, List.map, eval_tmp, eval_func, eval_const]; simp [go_sem]
      · rintro e W' ⟨q, n, c, rfl, hw, hb'⟩; exact ⟨_, rfl, _, rfl, hb', q, n, c, rfl, hw⟩
    · intro a W hb hs hp hi
      exact ite_y rfl (wp_val (sl a 1) rfl ⟨_, rfl, Below.refl _ _, hi 1 (by decide)⟩)
    · intro a W hb hs hp hi
      exact ite_y rfl (wp_val (sl a 0) rfl ⟨_, rfl, Below.refl _ _, hi 0 (by decide)⟩)
    · intro a W hb hs hp hi
      have tx0 : sl a 8 = .pointer (some ⟨bv, 0, none⟩) := hi 8 (by decide)
      refine ite_y rfl (wp_val (.pointer (some ⟨bv, 0, none⟩)) ?_ ?_)
      · simp only [execOp, eval_tmp, tx0]; simp [go_sem]
      · exact ⟨_, rfl, Below.refl _ _, rfl⟩
    · intro a W hb hs hp hi
      have tt : sl a 30 = .pointer (some ⟨bv, 0, none⟩) := hp 3 (by decide)
      have dd := (hb.cell (p := ⟨bv, 0, none⟩) (lt_of_cell v0)).trans v0
      refine ite_y rfl (wp_val (.int .i64 r) ?_ ?_)
      · simp only [execOp, eval_tmp, tt]; simp [go_sem, dd]
      · exact ⟨_, rfl, Below.refl _ _, rfl⟩
    · intro a W hb hs hp hi
      have tx0 : sl a 29 = .int .i64 k := hp 2 (by decide)
      have tx1 : sl a 31 = .int .i64 r := hp 4 (by decide)
      refine ite_y rfl (wp_val (.int .i64 d) ?_ ?_)
      · simp only [execOp, eval_tmp, eval_const, tx0, tx1]; simp [go_sem, a1]
      · exact ⟨_, rfl, Below.refl _ _, rfl⟩
    · intro a W hb hs hp hi
      have tx0 : sl a 28 = .int .i64 t := hp 1 (by decide)
      have tx1 : sl a 32 = .int .i64 d := hp 5 (by decide)
      refine ite_y rfl (wp_val (.int .i64 P) ?_ ?_)
      · simp only [execOp, eval_tmp, eval_const, tx0, tx1]; simp [go_sem, a2]
      · exact ⟨_, rfl, Below.refl _ _, rfl⟩
    · intro a W hb hs hp hi
      have tx : IsN 44 (256) (sl a 27) W := hp 0 (by decide)
      obtain ⟨q0, n0, c0, tx, h25⟩ := tx
      have ty : sl a 33 = .int .i64 P := hp 6 (by decide)
      refine ite_y rfl (wp_enter 17 #[.agg #[.slice q0 n0 c0], .int .i64 P] ?_ (Pow_ok h25 (by omega) (fun j hj => pow256 (by omega))) ?_)
      · simp only [execOp, resolve, List.map_toArray, List.map, eval_tmp, eval_func, eval_const, tx, ty]; simp [go_sem]
      · rintro e W' ⟨q, n, c, rfl, hw, hb'⟩; exact ⟨_, rfl, _, rfl, hb', q, n, c, rfl, hw⟩
    · intro a W hb hs hp hi
      exact ite_y rfl (wp_val (sl a 34) rfl ⟨_, rfl, Below.refl _ _, hp 7 (by decide)⟩)
    · intro a W hb hs hp hi
      have tx : IsNT 44 (256 ^ P) (0) (sl a 26) W := hp 8 (by decide)
      obtain ⟨q, n, c, tx, wx⟩ := tx
      refine ite_y rfl (wp_val (.agg #[.slice q n c]) ?_ ?_)
      · simp only [execOp, eval_tmp, tx]; rfl
      · exact ⟨_, rfl, Below.refl _ _, q, n, c, rfl, wx⟩
    · intro a W hb hs hp hi
      have tx : IsNT 44 (256 ^ P) (0) (sl a 26) W := hp 8 (by decide)
      obtain ⟨q, n, c, tx, wx⟩ := tx
      refine ite_y rfl (wp_val (.int .i64 0) ?_ ?_)
      · simp only [execOp, eval_tmp, tx]; rfl
      · exact ⟨_, rfl, Below.refl _ _, rfl⟩
    · intro a W hb hs hp hi
      refine ite_y rfl (wp_val' (w' := W.alloc (.cells #[.slice none 0 0] 40)) (.pointer (some ⟨W.heap.size, 0, none⟩)) ?_ ?_)
      · simp only [execOp]; simp [go_sem]
      · exact ⟨_, rfl, al (Below.refl _ _) (Nat.le_refl _), W.heap.size, #[.slice none 0 0], rfl, hb.size, rfl, hnew rfl⟩
    · intro a W hb hs hp hi
      have tu : IsN 44 (256 ^ P) (sl a 35) W := hp 9 (by decide)
      obtain ⟨q, n, c, tu, wu⟩ := tu
      have tb : NBoxS _ _ 1 (sl a 10) W := hp 11 (by decide)
      obtain ⟨b, cs, tb, hB, hc, hh⟩ := tb
      obtain ⟨u0, rfl⟩ := size1 hc
      have d0 : W.cell? ⟨b, 0, none⟩ = some u0 := cell_of_row _ _ 0 _ _ _ hh
      have z0 : W.frozen? ⟨b, 0, none⟩ = false := frozen_of_row _ _ 0 _ _ hh
      refine ite_y rfl (wp_skipX (w' := W.setCell ⟨b, 0, none⟩ (.slice q n c)) ?_ ?_)
      · simp only [execOp, eval_tmp, tu, tb]; simp [go_sem, d0, z0]
      · have hst := stepN_set (v := .slice q n c) hB hh
        exact ⟨_, rfl, hst, b, #[.slice q n c], tb, hB, hss hh, q, n, c, rfl, wu.step hst (by decide)⟩
    · intro a W hb hs hp hi
      exact ite_y rfl (wp_val (sl a 36) rfl ⟨_, rfl, Below.refl _ _, hp 10 (by decide)⟩)
  intro a wx hb hs hd hI ht
  have ha := act_is [27, 28, 29, 30, 31, 32, 33, 34, 26, 35, 36, 10, 9] hs hd ht (by decide)
  have tb : BoxedN _ _ _ _ (sl a) wx := hI 12 (by decide)
  obtain ⟨bx, cs, t3, hBx, hhx, qx, mx, dx, ec, hwx⟩ := tb
  obtain rfl : cs = #[.slice qx mx dx] := by injection ec
  have t4 : sl a 9 = .int .i64 0 := hI 13 (by decide)
  simp only [List.foldl, t3, t4] at ha
  generalize sl a 27 = u27 at ha
  generalize sl a 28 = u28 at ha
  generalize sl a 29 = u29 at ha
  generalize sl a 30 = u30 at ha
  generalize sl a 31 = u31 at ha
  generalize sl a 32 = u32 at ha
  generalize sl a 33 = u33 at ha
  generalize sl a 34 = u34 at ha
  generalize sl a 26 = u26 at ha
  generalize sl a 35 = u35 at ha
  generalize sl a 36 = u36 at ha
  simp only [Act.put, List.setIfInBounds_toArray, List.set_cons_zero, List.set_cons_succ] at ha
  rw [ha]
  clear ha hI ht t3 t4 ec hs hd
  have HWx := Lib.hid hwx
  clear hwx
  have KB := Lib.hid (KA.out.keep hb); have BB := Lib.hid (BA.out.keep hb)
  have hlb : w.heap.size < bx := by have := KA.out; have := blk_lt this; omega
  obtain ⟨_, e1, e2, e3, e4⟩ := One.of hhx
  have R := Lib.hid (ret_num KB.out (Nat.le_refl _) BB.out.out HWx.out (by decide))
  obtain ⟨_, f1, f2, f3, f4⟩ := One.of KB.out
  clear hb hhx HWx KA BA KB BB v0 V0 a1 a2 hBx
  go_wp2
  exact bodyPost_ret (res_cell_tmp rfl _ _ _ 40 #[.slice qx mx dx] (0, 0) _ (.int .i64 0) rfl R.out.2.2 rfl Tryz.underlying40 rfl hinfo) rfl ⟨_, _, _, rfl, R.out.1, R.out.2.1⟩
end Go.Proofs.YtfbmdlfkipipfaaGreatDoor
namespace Go.Proofs.YtfbmdlfkipipfaaGreatDoor
open Go.RowKit Go.By
end Go.Proofs.YtfbmdlfkipipfaaGreatDoor
namespace Go.Proofs.YtfbmdlfkipipfaaGreatDoor
open Go.RowKit Go.By
end Go.Proofs.YtfbmdlfkipipfaaGreatDoor
namespace Go.By
open Go.RowKit
theorem RwS.take {w : World} {p : Option Addr} {n c j : Nat} {K : List (List UInt8 × List UInt8)} (h : RwS w p n c K) (hj : j ≤ n) : RwS w p j c (K.take j) :=
  ⟨by rw [List.length_take, h.len]; omega, Nat.le_trans hj h.le, h.max, fun e => ⟨by have := h.nil e; omega, (h.nil e).2⟩, fun i k hi => by
    rw [List.getElem?_take] at hi
    split at hi
    · exact h.row i k hi
    · cases hi⟩
end Go.By
namespace Go.Proofs.YtfbmdlfkipipfaaGreatDoor
open Go.RowKit Go.By
theorem calm_clashI {D : List Rw} : ∀ i, calm D i → clashI D i = -1
  | 0, _ => rfl
  | i + 1, h => by
    have ih := calm_clashI i (fun j x hj hx => h j x (by omega) hx)
    show (match D[i]? with | some x => _ | none => _) = _
    split
    · rename_i x hx
      rw [if_neg (fun g => by rw [h i x (by omega) hx] at g; cases g.1)]; exact ih
    · exact ih
end Go.Proofs.YtfbmdlfkipipfaaGreatDoor
namespace Go.By
open Go.RowKit
section
variable {T T1 T2 : TypeId} {v : Value} {w w' : World}
end
end Go.By
namespace Go.Proofs.YtfbmdlfkipipfaaGreatDoor
open Go.RowKit Go.By
section
variable {wz w w' : World} {H b7 : Nat} {x7 y7 : Value} {vA vB : Value} {n : Nat} {K : List Rw} {k : Rw}
end
end Go.Proofs.YtfbmdlfkipipfaaGreatDoor
namespace Go.Proofs.YtfbmdlfkipipfaaGreatDoor
open Go.RowKit Go.By
end Go.Proofs.YtfbmdlfkipipfaaGreatDoor
namespace Go.By
open Go.RowKit
end Go.By
namespace Go.Proofs.YtfbmdlfkipipfaaGreatDoor
open Go.RowKit Go.By
end Go.Proofs.YtfbmdlfkipipfaaGreatDoor
namespace Go.Proofs.YtfbmdlfkipipfaaGreatDoor
open Go.RowKit Go.By
end Go.Proofs.YtfbmdlfkipipfaaGreatDoor
namespace Go.Proofs.YtfbmdlfkipipfaaGreatDoor
open Go.RowKit Go.By
end Go.Proofs.YtfbmdlfkipipfaaGreatDoor
namespace Go.Proofs.YtfbmdlfkipipfaaGreatDoor
open Go.RowKit Go.By
end Go.Proofs.YtfbmdlfkipipfaaGreatDoor
namespace Go.Proofs.YtfbmdlfkipipfaaGreatDoor
open Go.RowKit Go.By
theorem Ret0.ws {w w' : World} {code : Int} {e : Ending} (h : Ret0 w code e w') : ∃ q n d, e = .returned (.tuple #[.agg #[.slice q n d], .int .i64 code]) ∧ Ws 44 w' q n d 0 ∧ Below w.heap.size w w' :=
  ⟨none, 0, 0, h.1, Ws.zero _ _, h.2⟩
end Go.Proofs.YtfbmdlfkipipfaaGreatDoor
namespace Go.Proofs.YtfbmdlfkipipfaaGreatDoor
open Go.RowKit Go.By
end Go.Proofs.YtfbmdlfkipipfaaGreatDoor
namespace Go.Proofs.YtfbmdlfkipipfaaGreatDoor
open Go.RowKit Go.By Gf
theorem fits_calm {k n : Nat} {B : List V} {X : List Rw} (hX : ∀ y, y ∈ X → Fit k n y ∧ ConsV k B (vR y)) (m : Nat) : calm X m := by
  intro i x _ hx
  have hk : KeptS k n (kD (X.take i)) := kD_kept (fun r hr => (hX r hr).1) i
  have hs : Sys k n (kD (X.take i)) (redL (kD (X.take i))) := ⟨hk, rfl⟩
  have hm := hX x (List.mem_of_getElem? hx)
  rw [sys_clash hs hm.1]
  unfold clashB
  by_cases hl : leadS (restF (redL (kD (X.take i))) x).1 < 0
  · rw [sys_code hs (fun y hy => hX y (List.mem_of_mem_take hy)) hm.1 hm.2 hl]; simp
  · rw [decide_eq_false hl]; rfl
theorem fits_clash {k n : Nat} {B : List V} {X : List Rw} (hX : ∀ y, y ∈ X → Fit k n y ∧ ConsV k B (vR y)) (m : Nat) : clashI X m = -1 := calm_clashI m (fits_calm hX m)
theorem ins_ge (K : List Rw) (x : Rw) : K.length ≤ (insF K x).length := by
  rw [(ins_perm K x).length_eq]
  unfold keepF
  split
  · exact Nat.le_refl _
  · rw [List.length_append]; exact Nat.le_add_right _ _
theorem cntQ_one {k t r : Nat} (h : r ≤ k) : 256 ^ (t * (k - r)) = 1 ↔ r = k ∨ t = 0 := by
  constructor
  · intro e
    rcases Nat.eq_zero_or_pos (t * (k - r)) with h0 | h0
    · rcases Nat.mul_eq_zero.1 h0 with h1 | h1
      · exact .inr h1
      · exact .inl (by omega)
    · have := Nat.pow_le_pow_right (show 0 < 256 by decide) h0
      rw [e] at this
      exact absurd this (by decide)
  · rintro (rfl | rfl)
    · rw [Nat.sub_self, Nat.mul_zero]
    · rw [Nat.zero_mul]
theorem cmpN_one (M : Nat) : (cmpN M 1 == 0) = decide (M = 1) := by
  unfold cmpN
  by_cases h : M = 1
  · subst h; rfl
  · rw [decide_eq_false h]
    by_cases h1 : M < 1
    · rw [if_pos h1]; rfl
    · rw [if_neg h1, if_pos (by omega)]; rfl
end Go.Proofs.YtfbmdlfkipipfaaGreatDoor
namespace Go.By
open Go.RowKit Go.Proofs.YtfbmdlfkipipfaaGreatDoor Gf
theorem vR_pr (r : Rw) : vR (prR r) = vf r.1 := by
  show vf (cat (prR r)) = _
  unfold prR cat
  rw [List.append_nil]
theorem pr_kept {k n : Nat} {K : List Rw} (h : KeptS k n K) : KeptS k 0 (K.map prR) := by
  refine ⟨fun x hx => ?_, ?_⟩
  · obtain ⟨r, hr, rfl⟩ := List.mem_map.1 hx
    exact ⟨⟨(h.rows r hr).1.1, rfl⟩, (h.rows r hr).2⟩
  · rw [List.pairwise_map]; exact h.sorted
/-- rows that are kept are of their own rank -/
theorem red_rank {k n : Nat} {K : List Rw} (h : KeptS k n K) : (kD K).length = K.length := by
  have i1 := kept_ind (pr_kept h)
  have e : (K.map prR).map vR = (vecsL K).map vf := by
    unfold vecsL
    rw [List.map_map, List.map_map]
    exact List.map_congr_left fun r _ => vR_pr r
  rw [e] at i1
  have r1 : Rk ((vecsL K).map vf) K.length := ⟨_, i1, by simp [vecsL], fun b hb => Sp.mem hb, fun a ha => Sp.mem ha⟩
  have r2 : Rk ((vecsL K).map vf) (iK (vecsL K)).length := ins_rank (vecsL K) (fun v hv => by
    unfold vecsL at hv
    obtain ⟨r, hr, rfl⟩ := List.mem_map.1 hv
    exact (h.rows r hr).1.1)
  rw [← vecs_rank]
  exact r2.unique r1
theorem sent_fold {k t D : Nat} {FX XS VS BS : List (List UInt8)} (R : RelX k t D FX XS VS BS) (hF : ∀ x, x ∈ FX → x.length = t) (hk : FX.length = k) (k1 : 1 ≤ k) : ∀ i, i ≤ XS.length →
    ∃ X, OneObj k t FX X (tkR k t D (XS.take i)).1 ∧ X.map (fun x : Rw => x.1) = VS.take i ∧ (tkR k t D (XS.take i)).2 = stF (tkR k t D (XS.take i)).1 k
  | 0, _ => by
    refine ⟨[], OneObj.nil k t FX, rfl, ?_⟩
    show 0 = stF ([] : List Rw) k
    unfold stF
    rw [if_neg (by show (0 : Nat) ≠ k; omega)]
  | i + 1, hi => by
    obtain ⟨X, h1, h2, h3⟩ := sent_fold R hF hk k1 i (by omega)
    have hc : i < XS.length := by omega
    have hv : i < VS.length := by rw [R.l1]; exact hc
    have hb : i < BS.length := by rw [R.l2]; exact hc
    have ec := List.getElem?_eq_getElem hc
    have ev := List.getElem?_eq_getElem hv
    rw [tkR_snoc ec]
    generalize tkR k t D (XS.take i) = s at h1 h3 ⊢
    obtain ⟨K, st⟩ := s
    simp only at h1 h3
    subst h3
    obtain ⟨a1, a2, a3, -⟩ := R.at_ i _ _ _ ec ev (List.getElem?_eq_getElem hb)
    obtain ⟨t1, t2⟩ := h1.takeV hF hk a1 a2 a3
    refine ⟨_, t1, ?_, t2⟩
    rw [List.map_append, h2, List.take_add_one, ev]
    rfl
/-- what the law asks of the numbers: behind so many packets the rank r i -/
structure CntN (k t D : Nat) (XS : List (List UInt8)) (r : Nat → Nat) : Prop where
  r0 : r 0 = 0
  rs : ∀ i, i < XS.length → r (i + 1) = r i ∨ r (i + 1) = r i + 1
  le : ∀ i, i ≤ XS.length → r i ≤ k
  len : ∀ i, i ≤ XS.length → (tkR k t D (XS.take i)).1.length = r i
  st : ∀ i, i ≤ XS.length → (tkR k t D (XS.take i)).2 = if r i = k then 1 else 0
  rd : ∀ x, x ∈ XS → readC k t D x = 0
  cal : ∀ i m, i ≤ XS.length → clashI (tkR k t D (XS.take i)).1 m = -1 ∧ (kD (tkR k t D (XS.take i)).1).length = r i
  fit : ∀ i, i ≤ XS.length → ∀ x, x ∈ (tkR k t D (XS.take i)).1 → Fit k t x
theorem cnt_of {k t D : Nat} {FX XS VS BS : List (List UInt8)} (R : RelX k t D FX XS VS BS) (hF : ∀ x, x ∈ FX → x.length = t) (hk : FX.length = k) (k1 : 1 ≤ k) : CntN k t D XS (fun i => (tkR k t D (XS.take i)).1.length) := by
  have key := fun i (hi : i ≤ XS.length) => sent_fold R hF hk k1 i hi
  refine ⟨rfl, fun i hi => ?_, fun i hi => ?_, fun i hi => rfl, fun i hi => ?_, fun x hx => ?_, fun i m hi => ?_, fun i hi => ?_⟩
  · obtain ⟨X, h1, h2, -⟩ := key i (by omega)
    obtain ⟨Y, g1, g2, -⟩ := key (i + 1) (by omega)
    have e1 := h1.rank; have e2 := g1.rank
    have hv : i < VS.length := by rw [R.l1]; exact hi
    rw [h2] at e1; rw [g2] at e2
    have e3 : iK (VS.take (i + 1)) = insF (iK (VS.take i)) (VS[i], []) := iK_take (List.getElem?_eq_getElem hv)
    have e4 := insF_len (iK (VS.take i)) (VS[i], [])
    have e5 := ins_ge (iK (VS.take i)) (VS[i], [])
    rw [e3] at e2
    show (tkR k t D (XS.take (i + 1))).1.length = (tkR k t D (XS.take i)).1.length ∨ (tkR k t D (XS.take (i + 1))).1.length = (tkR k t D (XS.take i)).1.length + 1
    omega
  · obtain ⟨X, h1, -, -⟩ := key i hi
    exact Red.le h1.red
  · obtain ⟨X, h1, -, h3⟩ := key i hi
    rw [h3]; rfl
  · obtain ⟨n, hn, e⟩ := List.getElem_of_mem hx
    have h1 : n < VS.length := by rw [R.l1]; exact hn
    have h2 : n < BS.length := by rw [R.l2]; exact hn
    exact (R.at_ n x _ _ (by rw [List.getElem?_eq_getElem hn, e]) (List.getElem?_eq_getElem h1) (List.getElem?_eq_getElem h2)).1
  · obtain ⟨X, h1, -, -⟩ := key i hi
    exact ⟨fits_clash h1.rows m, red_rank h1.red.kept⟩
  · obtain ⟨X, h1, -, -⟩ := key i hi
    exact fun x hx => (h1.rows x hx).1
end Go.By
namespace Go.By
open Go.RowKit Go.Maps Go.Proofs.YtfbmdlfkipipfaaGreatDoor
theorem os_nat : OthS 40 := ⟨by decide, by decide, by decide, by decide⟩
theorem os_u64 : OthS 44 := ⟨by decide, by decide, by decide, by decide⟩
theorem Ws_same {T : TypeId} {w w' : World} {q : Option Addr} {n c N : Nat} (h : Ws T w q n c N) (hp : ∀ (b : Nat) (cs : Array Value) (fr : Nat × Nat), w.heap[b]? = some (.cells cs T fr) → w'.heap[b]? = w.heap[b]?) : Ws T w' q n c N := by
  have hd : ∀ a, q = some a → w'.heap[a.block]? = w.heap[a.block]? := fun a ha => by
    obtain ⟨cs, fr, e⟩ := h.lies a ha; exact hp _ cs fr e
  obtain ⟨ws, hs, hn, hv⟩ := h.ex
  refine ⟨⟨ws, ⟨hs.len, hs.le, hs.max, hs.nil, fun i hi => ?_⟩, hn, hv⟩, h.le, fun a ha => ?_⟩
  · obtain ⟨b, o, e, hc⟩ := hs.rs i hi
    exact ⟨b, o, e, (World.cell?_of_block (a := ⟨b, o + i, none⟩) (show w'.heap[b]? = w.heap[b]? from hd ⟨b, o, none⟩ e)).trans hc⟩
  · obtain ⟨cs, fr, e⟩ := h.lies a ha
    exact ⟨cs, fr, (hd a ha).trans e⟩
theorem NBox_same {T U : TypeId} {w w' : World} {b N : Nat} (h : NBox T U w b N) (h1 : ∀ (b : Nat) (cs : Array Value) (fr : Nat × Nat), w.heap[b]? = some (.cells cs T fr) → w'.heap[b]? = w.heap[b]?) (h2 : ∀ (b : Nat) (cs : Array Value) (fr : Nat × Nat), w.heap[b]? = some (.cells cs U fr) → w'.heap[b]? = w.heap[b]?) : NBox T U w' b N := by
  obtain ⟨q, n, c, k, hw⟩ := h
  exact ⟨q, n, c, (h1 _ _ _ k).trans k, Ws_same hw h2⟩
theorem NBox_keepS {w w' : World} {b N : Nat} (h : NBox 40 44 w b N) (hk : KeepS w w') : NBox 40 44 w' b N := NBox_same h (hk.same _ os_nat) (hk.same _ os_u64)
/-- another box is written -/
theorem NBox_other {T U : TypeId} {w : World} {b g N i : Nat} {v : Value} {cs : Array Value} {fr : Nat × Nat} (h : NBox T U w b N) (hg : w.heap[g]? = some (.cells cs T fr)) (hne : b ≠ g) (hT : T ≠ U) : NBox T U (w.setCell ⟨g, i, none⟩ v) b N := by
  obtain ⟨q, n, c, k, hw⟩ := h
  exact ⟨q, n, c, hsc k hne, hw.set hg hT⟩
/-- the box itself is written -/
theorem NBox_put {T U : TypeId} {w : World} {g N n c : Nat} {v : Value} {q : Option Addr} (hg : w.heap[g]? = some (.cells #[v] T (0, 0))) (hw : Ws U w q n c N) (hT : T ≠ U) : NBox T U (w.setCell ⟨g, 0, none⟩ (.slice q n c)) g N :=
  ⟨q, n, c, hss hg, hw.set hg hT⟩
theorem NBox_lt {T U : TypeId} {w : World} {b N : Nat} (h : NBox T U w b N) : b < w.heap.size := by
  obtain ⟨q, n, c, k, hw⟩ := h
  exact lt_of_block k
end Go.By
namespace Go.Proofs.YtfbmdlfkipipfaaGreatDoor
open Go.RowKit Go.By Gf Go.Maps
/-- a taker, in memory; wI: the world ahead -/
structure T1 (wI w : World) (gt be base L t k D N : Nat) (v : Value) (K : List Rw) (st : Nat) : Prop where
  bel : Below wI.heap.size wI w
  b1 : wI.heap.size ≤ base
  b2 : base ≤ w.heap.size
  tk : ∃ M C, Tkr w base gt be L t k D N M v C K st
section
variable {wI w w' : World} {gt be base L t k D N st : Nat} {v : Value} {K : List Rw}
theorem T1.keep (h : T1 wI w gt be base L t k D N v K st) (hb : Below w.heap.size w w') : T1 wI w' gt be base L t k D N v K st := by
  obtain ⟨M, C, h1⟩ := h.tk
  exact ⟨bl h.bel hb h.bel.size, h.b1, Nat.le_trans h.b2 hb.size, M, C, h1.keep hb⟩
/-- a block of another type, not older, turned -/
theorem T1.chg (h : T1 wI w gt be base L t k D N v K st) {g T : Nat} {cs : Array Value} {fr : Nat × Nat} (hg : GChg w g w') (hh : w.heap[g]? = some (.cells cs T fr)) (hB : wI.heap.size ≤ g) (h1 : T ≠ 201) (h2 : T ≠ 139) (h3 : T ≠ 5) (h4 : T ≠ 126) : T1 wI w' gt be base L t k D N v K st := by
  obtain ⟨M, C, t1⟩ := h.tk
  exact ⟨h.bel.trans (hg.below hB h.bel.size), h.b1, Nat.le_trans h.b2 hg.size, M, C, hg.tkr hh t1 h1 h2 h3 h4⟩
theorem T1_take (h : T1 wI w gt be base L t k D N v K st) (hT : HalfT wI) (hN : N < 1000000) {p : Option Addr} {n c : Nat} {xs : List UInt8} (hs : Sl B8 w p n c xs) (hn : Room n) :
    Calls Tryz.prog 19 #[.pointer (some ⟨gt, 0, none⟩), .slice p n c] w fun e w' => e = .returned (.int .i64 (readC k t D xs)) ∧ ∃ v', T1 wI w' gt be base L t k D (N + 1) v' (takeK k t D K st xs) (takeS k t D K st xs) ∧ KeepS w w' := by
  obtain ⟨M, C, h1⟩ := h.tk
  refine Calls.mono (TTake_any base gt be L t k D N M v C K st p n c xs w h1 (hT.keep h.bel) hN hs hn) ?_
  rintro e w1 ⟨rfl, M', v', hT', hc', ho⟩
  exact ⟨rfl, v', ⟨h.bel.trans (hc'.below h1 h.b1 h.bel.size), h.b1, Nat.le_trans h.b2 hc'.size, M', _, hT'⟩, hc'.keepS h1⟩
theorem T1_status (h : T1 wI w gt be base L t k D N v K st) : Calls Tryz.prog 23 #[.pointer (some ⟨gt, 0, none⟩)] w fun e w' => e = .returned (.int .i64 (st : Nat)) ∧ w = w' := by
  obtain ⟨M, C, h1⟩ := h.tk
  exact TStatus_any base gt be L t k D N M v C K st w h1
theorem T1_rank (h : T1 wI w gt be base L t k D N v K st) : Calls Tryz.prog 18 #[.pointer (some ⟨gt, 0, none⟩)] w fun e w' => e = .returned (.int .i64 (K.length : Nat)) ∧ w = w' := by
  obtain ⟨M, C, h1⟩ := h.tk
  exact TRank_any base gt be L t k D N M v C K st w h1
theorem T1_rows (h : T1 wI w gt be base L t k D N v K st) : Calls Tryz.prog 20 #[.pointer (some ⟨gt, 0, none⟩)] w fun e w' => ∃ v', e = .returned v' ∧ RwL 139 5 w' w.heap.size v' K.length K ∧ Below w.heap.size w w' := by
  obtain ⟨M, C, h1⟩ := h.tk
  exact TRows_any base gt be L t k D N M v C K st w h1
/-- made anew -/
theorem T1.start {w0 w1 : World} {M : Value} {C : DataW Unit} (hB : Below wI.heap.size wI w0) (ht : Tkr w1 w0.heap.size gt be L t k D 0 M v C [] 0) (hb : Below w0.heap.size w0 w1) : T1 wI w1 gt be w0.heap.size L t k D 0 v [] 0 :=
  ⟨bl hB hb hB.size, hB.size, hb.size, M, C, ht⟩
end
end Go.Proofs.YtfbmdlfkipipfaaGreatDoor
namespace Go.By
open Go.RowKit Go.Proofs.YtfbmdlfkipipfaaGreatDoor
/-- the numbers of the law: A i: how many are left behind i packets; P: how many one symbol has -/
structure CntA (m k : Nat) (P : Nat) (r A : Nat → Nat) : Prop where
  st : ∀ i, i < m → (r (i + 1) = r i ∧ A (i + 1) = A i) ∨ (r (i + 1) = r i + 1 ∧ A (i + 1) * P = A i)
  cap : ∀ i, A i < capN
  capP : P < capN
  le : ∀ i, i ≤ m → r i ≤ k
  one : (cmpN (A m) 1 == 0) = decide (r m = k)
theorem cntA_of {k t D : Nat} {XS : List (List UInt8)} {r : Nat → Nat} (h : CntN k t D XS r) (hk : k ≤ 20) (ht : t ≤ 20) (t1 : 1 ≤ t) : CntA XS.length k (256 ^ t) r (fun i => 256 ^ (t * (k - r i))) := by
  have hb : ∀ i, t * (k - r i) ≤ 400 := fun i => Nat.le_trans (Nat.mul_le_mul ht (show k - r i ≤ 20 by omega)) (by decide)
  refine ⟨fun i hi => ?_, fun i => lt_cap (Nat.pow_lt_pow_right (by decide) (Nat.lt_succ_of_le (hb i))) (by decide), lt_cap (Nat.pow_lt_pow_right (by decide) (show t < 21 by omega)) (by decide), h.le, ?_⟩
  · rcases h.rs i hi with e | e
    · exact .inl ⟨e, by show 256 ^ (t * (k - r (i + 1))) = 256 ^ (t * (k - r i)); rw [e]⟩
    · refine .inr ⟨e, ?_⟩
      show 256 ^ (t * (k - r (i + 1))) * 256 ^ t = 256 ^ (t * (k - r i))
      have h1 := h.le (i + 1) (by omega)
      rw [← Nat.pow_add, show k - r i = (k - r (i + 1)) + 1 by omega, Nat.mul_add, Nat.mul_one]
  · show (cmpN (256 ^ (t * (k - r XS.length))) 1 == 0) = _
    rw [cmpN_one]
    have := cntQ_one (t := t) (h.le XS.length (Nat.le_refl _))
    by_cases e : r XS.length = k
    · rw [decide_eq_true e, decide_eq_true (this.2 (.inl e))]
    · rw [decide_eq_false e, decide_eq_false (fun g => by rcases this.1 g with g | g <;> omega)]
end Go.By
namespace Go.By
open Go.RowKit Go.Proofs.YtfbmdlfkipipfaaGreatDoor
def RwsT (K : List Rw) (v : Value) (w : World) : Prop := ∃ q n c, v = .slice q n c ∧ RwS w q n c K
def ShRws (K : List Rw) : Shp := ⟨RwsT K, fun _ _ _ ⟨q, n, c, e, h⟩ hb => ⟨q, n, c, e, h.keep hb⟩⟩
def NmT (N : Nat) (v : Value) (w : World) : Prop := ∃ q n c, v = .tuple #[.agg #[.slice q n c], .int .i64 0] ∧ Ws 44 w q n c N
def ShNmT (N : Nat) : Shp := ⟨NmT N, fun _ _ _ ⟨q, n, c, e, h⟩ hb => ⟨q, n, c, e, h.keep hb⟩⟩
def NmA (N : Nat) (v : Value) (w : World) : Prop := ∃ q n c, v = .agg #[.slice q n c] ∧ Ws 44 w q n c N
def ShNmA (N : Nat) : Shp := ⟨NmA N, fun _ _ _ ⟨q, n, c, e, h⟩ hb => ⟨q, n, c, e, h.keep hb⟩⟩
end Go.By
namespace Go.Proofs.YtfbmdlfkipipfaaGreatDoor
open Go.RowKit Go.By Gf Go.Maps
def SentG (w : World) (m : Nat) (XS : List (List UInt8)) (e : Ending) (w' : World) : Prop :=
  ∃ q c, e = .returned (.tuple #[.slice q m c, .bool true]) ∧ HdrF 22 5 w.heap.size w' (.slice q m c) m XS ∧ Below w.heap.size w w'
set_option maxRecDepth 100000 in
set_option maxHeartbeats 8000000 in
theorem TopCounts_core (L t k D : Nat) (q0 : Option Addr) (c0 : Nat) (o : List UInt8) (p1 : Option Addr) (n1 c1 : Nat) (srcs : List SrcD) (w : World) (hO : ObjP L t k D) (h0 : Sl B8 w q0 L c0 o) (h1 : SlS w p1 n1 c1 srcs) (hT : HalfT w)
    (hk12 : k ≤ 12) (ht20 : t ≤ 20) (hn1 : n1 ≤ 20) (hsr : ∀ a, a ∈ srcs → a.xs.length ≤ 1000000) (hs64 : ∀ a, a ∈ srcs → a.s < 18446744073709551616) (hof : ofS (L : Int) (t : Int) (D : Int) = .tuple #[PVal L t k D, .int .i64 0]) (hfw : fewT srcs = true) (hsm : small19 L t k = true) :
    Calls Tryz.prog 3 #[.slice q0 L c0, .int .i64 (t : Nat), .int .u32 (D : Nat), .slice p1 n1 c1] w fun e w' => e = .returned (.bool true) ∧ Below w.heap.size w w' := by
  have HT := Lib.hid hT
  have hP := hO.ok
  have hk1 := hO.ok.k1
  have ht1 := hO.ok.t1
  have hl1 := h1.len
  obtain ⟨FX, hFX⟩ : ∃ FX, FX = (List.range k).map (pieceS o t) := ⟨_, rfl⟩
  have hFl : ∀ x, x ∈ FX → x.length = t := by rw [hFX]; exact pieces_len.1
  have hFk : FX.length = k := by rw [hFX]; exact pieces_len.2
  have hR := RelX.all (t := t) (D := D) hFl hFk hk1 hP.d srcs (by omega) hs64
  obtain ⟨XS, hXS⟩ : ∃ XS, XS = sendsS D k FX srcs := ⟨_, rfl⟩
  have hxl : XS.length ≤ 20 := by rw [hXS]; exact Nat.le_trans (sends_len D k FX srcs) (by omega)
  rw [← hXS] at hR
  have hC := cnt_of hR hFl hFk hk1
  generalize (fun i => (tkR k t D (XS.take i)).1.length) = r at hC
  have hA := cntA_of hC (by omega) ht20 ht1
  have HSm : Hid (∀ w, Calls Tryz.prog 11 #[.slice q0 L c0, .int .i64 (t : Nat), .int .u32 (D : Nat)] w fun e w' => e = .returned (.tuple #[PVal L t k D, .bool true]) ∧ Below w.heap.size w w') := fun w => by
    have := TSmall_ok q0 L c0 (t : Int) (k : Int) (D : Int) w h0.bound hof
    rw [hsm] at this; exact this
  have HFw : Hid (∀ W, Below w.heap.size w W → Calls Tryz.prog 12 #[.slice p1 n1 c1] W fun e w' => e = .returned (.bool true) ∧ Below W.heap.size W w') := fun W hb => by
    have := TFew_any p1 n1 c1 srcs W (h1.keep hb)
    rw [hfw] at this; exact this
  obtain ⟨m, hm⟩ : ∃ m, m = XS.length := ⟨_, rfl⟩
  have HSe : Hid (∀ W, Below w.heap.size w W → Calls Tryz.prog 13 #[PVal L t k D, .slice q0 L c0, .slice p1 n1 c1] W (SentG W m XS)) := fun W hb => by
    have := TSent_ok L t k D q0 c0 o p1 n1 c1 srcs W hP hO.fit (h0.keep hb) (h1.keep hb) (hT.keep hb) (by omega) hsr
    rw [← hFX, ← hXS] at this
    rw [hm]; exact this
  have HCn : Hid (∀ i W q n c, i ≤ m → RwS W q n c (tkR k t D (XS.take i)).1 → Calls Tryz.prog 15 #[.int .i64 (k : Nat), .int .i64 (t : Nat), .slice q n c] W (RetN 44 W (256 ^ (t * (k - r i))))) := fun i W q n c hi hw => by
    have hi' : i ≤ XS.length := by omega
    have hln := hw.len
    have hr := hC.le i hi'
    rw [hC.len i hi'] at hln
    refine Count_ok k t q n c (r i) W (by omega) ht20 hr fun W' hb => ?_
    have := Judge_fit k t q n c _ W' (hw.keep hb) hk1 (by omega) (by omega) (by omega) (hC.fit i hi')
    rw [(hC.cal i n hi').1, (hC.cal i n hi').2] at this
    exact this
  have hr0 := hC.r0
  have HLen : Hid (∀ i, i ≤ m → (tkR k t D (XS.take i)).1.length = r i) := fun i hi => hC.len i (by omega)
  have HStt : Hid ((tkR k t D XS).2 = if r m = k then 1 else 0) := by
    have := hC.st m (by omega)
    rw [hm, List.take_length] at this
    rw [hm]; exact this
  have HRd : Hid (∀ x, x ∈ XS → readC k t D x = 0) := hC.rd
  rw [← hm] at hA hxl
  generalize hAA : (fun i => 256 ^ (t * (k - r i))) = A at hA
  have HCa : Hid (∀ i W q n c, i ≤ m → RwS W q n c (tkR k t D (XS.take i)).1 → Calls Tryz.prog 15 #[.int .i64 (k : Nat), .int .i64 (t : Nat), .slice q n c] W (RetN 44 W (A i))) := fun i W q n c hi hw => by
    rw [← hAA]; exact HCn.out i W q n c hi hw
  have HA := Lib.hid hA
  have HM := Lib.hid hm
  have HR0 := Lib.hid hr0
  have HPK := Lib.hid hP
  clear hT hO hP h0 h1 hsr hs64 hof hfw hsm hl1 hFl hFk hR hFX hXS hC hA hm hr0 hAA HCn
  go_enter Tryz.func3, Tryz.ntmps3
  go_wp2_with fail
  refine Calls.mono (awakeT _ HT.out) ?_
  rintro e wa ⟨rfl, hb⟩
  have HBa := Lib.hid hb
  clear hb
  go_wp2_with fail
  refine Calls.mono (HSm.out _) ?_
  rintro e wb ⟨rfl, hb⟩
  have HBb := Lib.hid (bl HBa.out hb HBa.out.size)
  clear hb HBa
  go_wp2_with fail
  obtain ⟨gp, hgp⟩ : ∃ gp, gp = wb.heap.size := ⟨_, rfl⟩
  have ba : Below wb.heap.size wb (wb.alloc (.cells #[.int .i64 (L : Nat), .int .i64 (t : Nat), .int .i64 (k : Nat), .int .u32 (D : Nat)] 27 (0, 0))) := al (Below.refl _ _) (Nat.le_refl _)
  have kp1 : (wb.alloc (.cells #[.int .i64 (L : Nat), .int .i64 (t : Nat), .int .i64 (k : Nat), .int .u32 (D : Nat)] 27 (0, 0))).heap[gp]? = some (.cells #[.int .i64 (L : Nat), .int .i64 (t : Nat), .int .i64 (k : Nat), .int .u32 (D : Nat)] 27 (0, 0)) := hnew hgp
  have hba := bl HBb.out ba HBb.out.size
  refine Calls.mono (HFw.out _ hba) ?_
  rintro e wc ⟨rfl, hb⟩
  have HBc := Lib.hid (bl hba hb hba.size)
  have kp := (hb.block _ (lt_of_block kp1)).trans kp1
  rw [← hgp]
  clear hb ba hba kp1 hgp HBb
  obtain ⟨z0, z1, z2, z3⟩ := cells_four kp
  go_wp2_with fail
  refine Calls.mono (HSe.out _ HBc.out) ?_
  rintro e wd ⟨ql, cl, rfl, hx, hb⟩
  have HBd := Lib.hid (bl HBc.out hb HBc.out.size)
  have HXd := Lib.hid (hdr_mono22 hx HBc.out.size)
  have kd := (hb.block _ (lt_of_block kp)).trans kp
  clear hb hx HBc kp z0 z1 z2 z3
  obtain ⟨z0, z1, z2, z3⟩ := cells_four kd
  go_wp2_with fail
  refine Calls.mono (TNew_ok L t k D wd HPK.out) ?_
  rintro e we ⟨gt, be, v0, rfl, ht, hb⟩
  have HTe := Lib.hid (T1.start HBd.out ht hb)
  have HXe := Lib.hid (HXd.out.keep hb)
  have ke := (hb.block _ (lt_of_block kd)).trans kd
  obtain ⟨base, hbase⟩ : ∃ base, base = wd.heap.size := ⟨_, rfl⟩
  rw [← hbase] at HTe
  clear hb ht HBd HXd kd hbase z0 z1 z2 z3
  obtain ⟨z0, z1, z2, z3⟩ := cells_four ke
  go_wp2_with fail
  refine Calls.mono (HCa.out 0 _ none 0 0 (Nat.zero_le _) (RwS.nil0 _)) ?_
  rintro e wf ⟨qA, nA, cA, rfl, hwA, hb⟩
  have HTf := Lib.hid (HTe.out.keep hb)
  have HXf := Lib.hid (HXe.out.keep hb)
  have kf := (hb.block _ (lt_of_block ke)).trans ke
  clear hb HTe HXe ke z0 z1 z2 z3
  go_wp2
  obtain ⟨gA, hgA⟩ : ∃ gA, gA = wf.heap.size := ⟨_, rfl⟩
  have ba : Below wf.heap.size wf (wf.alloc (.cells #[.slice qA nA cA] 40 (0, 0))) := al (Below.refl _ _) (Nat.le_refl _)
  have HTg := Lib.hid (HTf.out.keep ba)
  have HXg := Lib.hid (HXf.out.keep ba)
  have kg := (ba.block _ (lt_of_block kf)).trans kf
  have hAg := NBox.new (T := 40) hwA
  have HGA : Hid (w.heap.size ≤ gA) := by rw [hgA]; exact HTf.out.bel.size
  rw [← hgA] at hAg ⊢
  generalize wf.alloc (.cells #[.slice qA nA cA] 40 (0, 0)) = wg at *
  have HAg := Lib.hid hAg
  clear ba hAg hgA kf hwA HTf HXf
  obtain ⟨z0, z1, z2, z3⟩ := cells_four kg
  refine wp_region_boxN 40 (fun ix => ([ShN.num 44 (256) (by decide), ShN.val _ _ (.pointer (some ⟨gp, 1, none⟩)), ShN.val _ _ (.int .i64 (t : Nat)), ShN.numT 44 (256 ^ t) (0) (by decide), ShN.numT 44 (256 ^ t) (0) (by decide), ShN.num 44 (256 ^ t) (by decide), ShN.val _ _ (.int .i64 0), ShN.box _ _, ShN.any _ _, ShN.val _ _ (.int .i64 0)][ix]?).getD (ShN.any _ _)) 8 16 (ShN.num 44 (256 ^ t) (by decide)) 133 rfl (by kernel_rfl) (by decide +kernel) (by decide +kernel) (by decide +kernel) ?_ ?_
  · refine ⟨?_, ?_, ?_, ?_, ?_, ?_, ?_, ?_, ?_, ?_, trivial⟩
    · intro a W hb hs hp hi
      refine ite_y rfl (wp_enter 16 #[.int .u64 256] ?_ (Of_k 256 (by decide) W) ?_)
      · simp only [execOp, resolve, List.map_toArray, List.map, eval_tmp, eval_func, eval_const]; simp [go_sem]
      · rintro e W' ⟨q, n, c, rfl, hw, hb'⟩; exact ⟨_, rfl, _, rfl, hb', q, n, c, rfl, hw⟩
    · intro a W hb hs hp hi
      have tx0 : sl a 9 = .pointer (some ⟨gp, 0, none⟩) := hi 9 (by decide)
      refine ite_y rfl (wp_val (.pointer (some ⟨gp, 1, none⟩)) ?_ ?_)
      · simp only [execOp, eval_tmp, tx0]; simp [go_sem]
      · exact ⟨_, rfl, Below.refl _ _, rfl⟩
    · intro a W hb hs hp hi
      have tt : sl a 62 = .pointer (some ⟨gp, 1, none⟩) := hp 1 (by decide)
      have dd := (hb.cell (p := ⟨gp, 1, none⟩) (lt_of_cell z1)).trans z1
      refine ite_y rfl (wp_val (.int .i64 (t : Nat)) ?_ ?_)
      · simp only [execOp, eval_tmp, tt]; simp [go_sem, dd]
      · exact ⟨_, rfl, Below.refl _ _, rfl⟩
    · intro a W hb hs hp hi
      have tx : IsN 44 (256) (sl a 61) W := hp 0 (by decide)
      obtain ⟨q0, n0, c0, tx, h25⟩ := tx
      have ty : sl a 63 = .int .i64 (t : Nat) := hp 2 (by decide)
      refine ite_y rfl (wp_enter 17 #[.agg #[.slice q0 n0 c0], .int .i64 (t : Nat)] ?_ (Pow_ok h25 (by omega) (fun j hj => pow256 (by omega))) ?_)
      · simp only [execOp, resolve, List.map_toArray, List.map, eval_tmp, eval_func, eval_const, tx, ty]; simp [go_sem]
      · rintro e W' ⟨q, n, c, rfl, hw, hb'⟩; exact ⟨_, rfl, _, rfl, hb', q, n, c, rfl, hw⟩
    · intro a W hb hs hp hi
      exact ite_y rfl (wp_val (sl a 64) rfl ⟨_, rfl, Below.refl _ _, hp 3 (by decide)⟩)
    · intro a W hb hs hp hi
      have tx : IsNT 44 (256 ^ t) (0) (sl a 60) W := hp 4 (by decide)
      obtain ⟨q, n, c, tx, wx⟩ := tx
      refine ite_y rfl (wp_val (.agg #[.slice q n c]) ?_ ?_)
      · simp only [execOp, eval_tmp, tx]; rfl
      · exact ⟨_, rfl, Below.refl _ _, q, n, c, rfl, wx⟩
    · intro a W hb hs hp hi
      have tx : IsNT 44 (256 ^ t) (0) (sl a 60) W := hp 4 (by decide)
      obtain ⟨q, n, c, tx, wx⟩ := tx
      refine ite_y rfl (wp_val (.int .i64 0) ?_ ?_)
      · simp only [execOp, eval_tmp, tx]; rfl
      · exact ⟨_, rfl, Below.refl _ _, rfl⟩
    · intro a W hb hs hp hi
      refine ite_y rfl (wp_val' (w' := W.alloc (.cells #[.slice none 0 0] 40)) (.pointer (some ⟨W.heap.size, 0, none⟩)) ?_ ?_)
      · simp only [execOp]; simp [go_sem]
      · exact ⟨_, rfl, al (Below.refl _ _) (Nat.le_refl _), W.heap.size, #[.slice none 0 0], rfl, hb.size, rfl, hnew rfl⟩
    · intro a W hb hs hp hi
      have tu : IsN 44 (256 ^ t) (sl a 65) W := hp 5 (by decide)
      obtain ⟨q, n, c, tu, wu⟩ := tu
      have tb : NBoxS _ _ 1 (sl a 16) W := hp 7 (by decide)
      obtain ⟨b, cs, tb, hB, hc, hh⟩ := tb
      obtain ⟨u0, rfl⟩ := size1 hc
      have d0 : W.cell? ⟨b, 0, none⟩ = some u0 := cell_of_row _ _ 0 _ _ _ hh
      have z0 : W.frozen? ⟨b, 0, none⟩ = false := frozen_of_row _ _ 0 _ _ hh
      refine ite_y rfl (wp_skipX (w' := W.setCell ⟨b, 0, none⟩ (.slice q n c)) ?_ ?_)
      · simp only [execOp, eval_tmp, tu, tb]; simp [go_sem, d0, z0]
      · have hst := stepN_set (v := .slice q n c) hB hh
        exact ⟨_, rfl, hst, b, #[.slice q n c], tb, hB, hss hh, q, n, c, rfl, wu.step hst (by decide)⟩
    · intro a W hb hs hp hi
      exact ite_y rfl (wp_val (sl a 66) rfl ⟨_, rfl, Below.refl _ _, hp 6 (by decide)⟩)
  intro a wx hb hs hd hI ht
  have ha := act_is [61, 62, 63, 64, 60, 65, 66, 16, 17] hs hd ht (by decide)
  have tb : BoxedN _ _ _ _ (sl a) wx := hI 8 (by decide)
  obtain ⟨bx, cs, t3, hBx, hhx, qx, mx, dx, ec, hwx⟩ := tb
  obtain rfl : cs = #[.slice qx mx dx] := by injection ec
  have t4 : sl a 17 = .int .i64 0 := hI 9 (by decide)
  simp only [List.foldl, t3, t4] at ha
  generalize sl a 61 = u61 at ha
  generalize sl a 62 = u62 at ha
  generalize sl a 63 = u63 at ha
  generalize sl a 64 = u64 at ha
  generalize sl a 60 = u60 at ha
  generalize sl a 65 = u65 at ha
  generalize sl a 66 = u66 at ha
  simp only [Act.put, List.setIfInBounds_toArray, List.set_cons_zero, List.set_cons_succ] at ha
  rw [ha]
  clear ha hI ht t3 t4 ec hs hd
  have HWx := Lib.hid hwx
  clear hwx
  have HTx := Lib.hid (HTg.out.keep hb)
  have HXx := Lib.hid (HXg.out.keep hb)
  have HKx := Lib.hid ((hb.block _ (lt_of_block kg)).trans kg)
  have HAx := Lib.hid (HAg.out.keep hb)
  have HPx : Hid (NBox 40 44 wx bx (256 ^ t)) := ⟨qx, mx, dx, hhx, HWx.out⟩
  have HGP : Hid (w.heap.size ≤ bx ∧ bx ≠ gA) := ⟨Nat.le_trans HTg.out.bel.size hBx, fun e => by have := NBox_lt HAg.out; omega⟩
  clear hb hhx hBx HWx HTg HXg kg HAg z0 z1 z2 z3
  generalize 256 ^ t = P at *
  go_wp2
  go_loopw [83] (fun iv wr => ∃ (i : Nat) (v : Value), i ≤ m ∧ iv = .int .i64 (i : Nat) ∧ Hid (T1 w wr gt be base L t k D i v (tkR k t D (XS.take i)).1 (tkR k t D (XS.take i)).2) ∧ Hid (HdrF 22 5 w.heap.size wr (.slice ql m cl) m XS) ∧ Hid (wr.heap[gp]? = some (.cells #[.int .i64 (L : Nat), .int .i64 (t : Nat), .int .i64 (k : Nat), .int .u32 (D : Nat)] 27 (0, 0))) ∧ Hid (NBox 40 44 wr gA (A i)) ∧ Hid (NBox 40 44 wr bx P)) (fun iv _ => m - (intOf iv).toNat)
  case atStart => exact ⟨0, v0, Nat.zero_le _, rfl, HTx.out, HXx.out, HKx.out, HAx.out, HPx.out⟩
  case round =>
    obtain ⟨i, v, hi, rfl, HR, HX, HK, HN, HQ⟩ := hrel
    clear HTx HXx HKx HAx HPx
    by_cases hlt : i < m
    · as_aux_lemma =>
        obtain ⟨bc, oc, q5, n5, c5, xs, rfl, hcl1, hxs, hf⟩ := HX.out.at hlt
        have hlt' : (i : Int) < (m : Int) := by omega
        have hmx := List.mem_of_getElem? hxs.out
        have hrd := HRd.out xs hmx
        have hnr : Room n5 := by rw [← hf.sl.len]; exact read_roomT HPK.out hrd
        have HTK : Hid (tkR k t D (XS.take (i + 1)) = tkF k t D (tkR k t D (XS.take i)) xs) := tkR_snoc hxs.out
        have hfx := hf.sl
        have HLT := Lib.hid hlt
        have HL0 := HLen.out i hi
        have HRk0 := T1_rank HR.out
        rw [HL0] at HRk0
        have HTk := T1_take HR.out HT.out (by omega) hfx hnr
        rw [hrd, show takeK k t D (tkR k t D (XS.take i)).1 (tkR k t D (XS.take i)).2 xs = (tkR k t D (XS.take (i + 1))).1 by rw [HTK.out]; rfl, show takeS k t D (tkR k t D (XS.take i)).1 (tkR k t D (XS.take i)).2 xs = (tkR k t D (XS.take (i + 1))).2 by rw [HTK.out]; rfl] at HTk
        have HRK0 := Lib.hid HRk0
        have HTKE := Lib.hid HTk
        have HL1 := HLen.out (i + 1) (by omega)
        obtain ⟨K, hK⟩ : ∃ K, K = (tkR k t D (XS.take (i + 1))).1 := ⟨_, rfl⟩
        obtain ⟨ss, hss'⟩ : ∃ ss, ss = (tkR k t D (XS.take (i + 1))).2 := ⟨_, rfl⟩
        have HKE := Lib.hid hK
        have HSSE := Lib.hid hss'
        rw [← hK, ← hss'] at HTKE
        rw [← hK] at HL1
        have HCK : Hid (∀ W q n c, RwS W q n c K → Calls Tryz.prog 15 #[.int .i64 (k : Nat), .int .i64 (t : Nat), .slice q n c] W (RetN 44 W (A (i + 1)))) := fun W q n c hw => HCa.out (i + 1) W q n c (by omega) (by rw [← hK]; exact hw)
        have HLL := Lib.hid HL1
        have HST := Lib.hid (HA.out.st i hlt)
        clear hxs hf hlt hmx hrd HTK HL0 HRk0 HTk HL1 hK hss' hfx hnr
        go_wp2_with fail
        refine Calls.mono HRK0.out ?_
        rintro e w1 ⟨rfl, rfl⟩
        go_wp2_with fail
        refine Calls.mono HTKE.out ?_
        rintro e wd ⟨rfl, v', hT', hKp⟩
        have HTd := Lib.hid hT'
        have HXd := Lib.hid (hKp.hdr os_rows os_u8 HX.out)
        have HKd := Lib.hid (hKp.blk os_plan HK.out)
        have HNd := Lib.hid (NBox_keepS HN.out hKp)
        have HQd := Lib.hid (NBox_keepS HQ.out hKp)
        clear hT' hKp HR HX HK HN HQ hcl1 HRK0 HTKE
        obtain ⟨z0, z1, z2, z3⟩ := cells_four HKd.out
        go_wp2
        refine wp_region_slip (fun ix => ([.val (.pointer (some ⟨gp, 2, none⟩)), .val (.int .i64 (k : Nat)), .val (.pointer (some ⟨gp, 1, none⟩)), .val (.int .i64 (t : Nat)), .val (.pointer (some ⟨gt, 0, none⟩)), (ShRws K), (ShNmT (A (i + 1))), (ShNmT (A (i + 1))), (ShNmA (A (i + 1))), (.val (.int .i64 0)), (ShNew 40 wd.heap.size #[.slice none 0 0]), .any, .any][ix]?).getD (.any)) 133 11 9 93 102 (.int .i64 0) rfl (by kernel_rfl) (by decide +kernel) (by decide +kernel) (by decide +kernel) _ rfl rfl rfl (by decide) rfl (fun a x w h => run_extract_two _ rfl h) (by decide) ?_ ?_
        · refine ⟨?_, ?_, ?_, ?_, ?_, ?_, ?_, ?_, ?_, ?_, ?_, trivial⟩
          · intro a W hb0 hs hp hi; have hb := undrew hb0; clear hb0
            have t9 : sl a 9 = .pointer (some ⟨gp, 0, none⟩) := hi 9 (by decide)
            refine ite_y rfl (wp_val (.pointer (some ⟨gp, 2, none⟩)) ?_ ?_)
            · simp only [execOp, eval_tmp, eval_const, t9]; simp [go_sem]
            · exact ⟨_, rfl, Below.refl _ _, rfl⟩
          · intro a W hb0 hs hp hi; have hb := undrew hb0; clear hb0
            have tt : sl a 94 = .pointer (some ⟨gp, 2, none⟩) := hp 0 (by decide)
            have dd := (hb.cell (p := ⟨gp, 2, none⟩) (lt_of_cell z2)).trans z2
            refine ite_y rfl (wp_val (.int .i64 (k : Nat)) ?_ ?_)
            · simp only [execOp, eval_tmp, tt]; simp [go_sem, dd]
            · exact ⟨_, rfl, Below.refl _ _, rfl⟩
          · intro a W hb0 hs hp hi; have hb := undrew hb0; clear hb0
            have t9 : sl a 9 = .pointer (some ⟨gp, 0, none⟩) := hi 9 (by decide)
            refine ite_y rfl (wp_val (.pointer (some ⟨gp, 1, none⟩)) ?_ ?_)
            · simp only [execOp, eval_tmp, eval_const, t9]; simp [go_sem]
            · exact ⟨_, rfl, Below.refl _ _, rfl⟩
          · intro a W hb0 hs hp hi; have hb := undrew hb0; clear hb0
            have tt : sl a 96 = .pointer (some ⟨gp, 1, none⟩) := hp 2 (by decide)
            have dd := (hb.cell (p := ⟨gp, 1, none⟩) (lt_of_cell z1)).trans z1
            refine ite_y rfl (wp_val (.int .i64 (t : Nat)) ?_ ?_)
            · simp only [execOp, eval_tmp, tt]; simp [go_sem, dd]
            · exact ⟨_, rfl, Below.refl _ _, rfl⟩
          · intro a W hb0 hs hp hi; have hb := undrew hb0; clear hb0
            have t12 : sl a 12 = .pointer (some ⟨gt, 0, none⟩) := hi 12 (by decide)
            exact ite_y rfl (wp_val (sl a 12) rfl ⟨_, rfl, Below.refl _ _, t12⟩)
          · intro a W hb0 hs hp hi; have hb := undrew hb0; clear hb0
            have t98 : sl a 98 = .pointer (some ⟨gt, 0, none⟩) := hp 4 (by decide)
            refine ite_y rfl (wp_enter 20 #[.pointer (some ⟨gt, 0, none⟩)] ?_ (T1_rows (HTd.out.keep hb)) ?_)
            · simp only [execOp, resolve, List.map_toArray, List.map, eval_tmp, eval_func, eval_const, t98]; simp [go_sem]
            · rintro e W' ⟨v5, rfl, hL, hw⟩; obtain ⟨q7, c7, rfl⟩ := hL.shape; exact ⟨_, rfl, _, rfl, hw, q7, _, c7, rfl, hL.rwS⟩
          · intro a W hb0 hs hp hi; have hb := undrew hb0; clear hb0
            have t95 : sl a 95 = .int .i64 (k : Nat) := hp 1 (by decide)
            have t97 : sl a 97 = .int .i64 (t : Nat) := hp 3 (by decide)
            have t99 : RwsT K (sl a 99) W := hp 5 (by decide)
            obtain ⟨ya, yb, yc, t99, zz⟩ := t99
            refine ite_y rfl (wp_enter 15 #[.int .i64 (k : Nat), .int .i64 (t : Nat), .slice ya yb yc] ?_ (HCK.out W ya yb yc zz) ?_)
            · simp only [execOp, resolve, List.map_toArray, List.map, eval_tmp, eval_func, eval_const, t95, t97, t99]; simp [go_sem]
            · rintro e W' ⟨q7, n7, c7, rfl, ho, hw⟩; exact ⟨_, rfl, _, rfl, hw, q7, n7, c7, rfl, ho⟩
          · intro a W hb0 hs hp hi; have hb := undrew hb0; clear hb0
            exact ite_y rfl (wp_val (sl a 100) rfl ⟨_, rfl, Below.refl _ _, hp 6 (by decide)⟩)
          · intro a W hb0 hs hp hi; have hb := undrew hb0; clear hb0
            have tt : NmT (A (i + 1)) (sl a 93) W := hp 7 (by decide)
            obtain ⟨q7, n7, c7, tt, s7⟩ := tt
            refine ite_y rfl (wp_val (.agg #[.slice q7 n7 c7]) ?_ ?_)
            · simp only [execOp, eval_tmp, tt]; rfl
            · exact ⟨_, rfl, Below.refl _ _, q7, n7, c7, rfl, s7⟩
          · intro a W hb0 hs hp hi; have hb := undrew hb0; clear hb0
            have tt : NmT (A (i + 1)) (sl a 93) W := hp 7 (by decide)
            obtain ⟨q7, n7, c7, tt, s7⟩ := tt
            refine ite_y rfl (wp_val (.int .i64 0) ?_ ?_)
            · simp only [execOp, eval_tmp, tt]; rfl
            · exact ⟨_, rfl, Below.refl _ _, rfl⟩
          · intro a W hb0 hs hp hi; have hb := undrew hb0; clear hb0
            refine ite_y rfl (wp_val' (w' := W.alloc (.cells #[.slice none 0 0] 40)) (.pointer (some ⟨W.heap.size, 0, none⟩)) ?_ ?_)
            · simp only [execOp]; simp [go_sem]
            · exact ⟨_, rfl, al (Below.refl _ _) (Nat.le_refl _), _, rfl, hb.size, hnew rfl⟩
        intro a w3 o ho hb hs hd hI ht
        simp at ho; subst ho
        have y3 := hI 10 (by decide) (by decide)
        obtain ⟨g3, t21, hg3, hh3⟩ := y3
        have y18 := hI 8 (by decide) (by decide)
        obtain ⟨q8, n8, c8, t101, s18⟩ := y18
        have y9 := hI 7 (by decide) (by decide)
        obtain ⟨_, _, _, t93x, _⟩ := y9
        have d0 : w3.cell? ⟨g3, 0, none⟩ = some (.slice none 0 0) := cell_of_row _ _ 0 _ _ _ hh3
        have f0 : w3.frozen? ⟨g3, 0, none⟩ = false := frozen_of_row _ _ 0 _ _ hh3
        refine ⟨⟨_, t93x⟩, ?_⟩
        refine wp_skipX (w' := w3.setCell ⟨g3, 0, none⟩ (.slice q8 n8 c8)) (by simp only [execOp, eval_tmp, t101, t21]; simp [go_sem, d0, f0]) ?_
        refine ⟨rfl, fun ab hbs hbd hbt hbu => ?_⟩
        have ha := act_is [94, 95, 96, 97, 98, 99, 100, 93, 101, 102, 21, 22] hbs hbd (fun t h => (hbt t (fun e => by subst e; revert h; decide)).trans (ht t h)) (by decide)
        have s21 := (hbt 21 (by decide)).trans t21
        simp only [List.foldl, hbu, s21] at ha
        generalize sl ab 94 = u94 at ha
        generalize sl ab 95 = u95 at ha
        generalize sl ab 96 = u96 at ha
        generalize sl ab 97 = u97 at ha
        generalize sl ab 98 = u98 at ha
        generalize sl ab 99 = u99 at ha
        generalize sl ab 100 = u100 at ha
        generalize sl ab 93 = u93 at ha
        generalize sl ab 101 = u101 at ha
        generalize sl ab 22 = u22 at ha
        simp only [Act.put, List.setIfInBounds_toArray, List.set_cons_zero, List.set_cons_succ] at ha
        rw [ha]; clear ha hbu hbt hbs hbd hI ht hs hd s21
        simp only [List.drop_succ_cons, List.drop_zero]
        have hbw : Below wd.heap.size wd (w3.setCell ⟨g3, 0, none⟩ (.slice q8 n8 c8)) := hb.setCell hg3 _
        have k3 : (w3.setCell ⟨g3, 0, none⟩ (.slice q8 n8 c8)).heap[g3]? = some (.cells #[.slice q8 n8 c8] 40 (0, 0)) := hss hh3
        have s4 : Ws 44 (w3.setCell ⟨g3, 0, none⟩ (.slice q8 n8 c8)) q8 n8 c8 (A (i + 1)) := s18.set hh3 (by decide)
        have HT4 := Lib.hid (HTd.out.keep hbw)
        have HX4 := Lib.hid (HXd.out.keep hbw)
        have HK4 := Lib.hid ((hbw.block _ (lt_of_block HKd.out)).trans HKd.out)
        have HN4 := Lib.hid (HNd.out.keep hbw)
        have HQ4 := Lib.hid (HQd.out.keep hbw)
        have HG3 : Hid (g3 ≠ gA ∧ g3 ≠ bx) := ⟨fun e => by have := NBox_lt HNd.out; omega, fun e => by have := NBox_lt HQd.out; omega⟩
        generalize w3.setCell ⟨g3, 0, none⟩ (.slice q8 n8 c8) = w4 at *
        have HS4 := Lib.hid s4
        have HK3 := Lib.hid k3
        clear hb hbw hh3 s18 hg3 HTd HXd HKd HNd HQd z0 z1 z2 z3 t21 t101 t93x d0 f0 s4
        obtain ⟨_, e1, e2, e3, e4⟩ := One.of k3
        clear k3
        have ba : Below w4.heap.size w4 (w4.alloc (.cells #[.slice q8 n8 c8] 40 (0, 0))) := al (Below.refl _ _) (Nat.le_refl _)
        have h23 : (w4.alloc (.cells #[.slice q8 n8 c8] 40 (0, 0))).heap[w4.heap.size]? = some (.cells #[.slice q8 n8 c8] 40 (0, 0)) := hnew rfl
        have HT5 := Lib.hid (HT4.out.keep ba)
        have HX5 := Lib.hid (HX4.out.keep ba)
        have HK5 := Lib.hid ((ba.block _ (lt_of_block HK4.out)).trans HK4.out)
        have HN5 := Lib.hid (HN4.out.keep ba)
        have HQ5 := Lib.hid (HQ4.out.keep ba)
        have HS5 := Lib.hid (HS4.out.keep ba)
        have h35 := (ba.block _ (lt_of_block HK3.out)).trans HK3.out
        have HG23 : Hid (w4.heap.size ≠ gA ∧ w4.heap.size ≠ bx ∧ w4.heap.size ≠ g3) := ⟨fun e => by have := NBox_lt HN4.out; omega, fun e => by have := NBox_lt HQ4.out; omega, fun e => by have := lt_of_block HK3.out; omega⟩
        obtain ⟨g23, hg23⟩ : ∃ g23, g23 = w4.heap.size := ⟨_, rfl⟩
        rw [← hg23] at h23 HG23
        have HG230 : Hid (w.heap.size ≤ g23) := by rw [hg23]; exact HT4.out.bel.size
        have HRk1 := T1_rank HT5.out
        rw [HLL.out] at HRk1
        have HRK1 := Lib.hid HRk1
        clear HT4 HX4 HK4 HN4 HQ4 HS4 HK3 ba HRk1
        go_wp2_with fail
        rw [← hg23]
        generalize w4.alloc (.cells #[.slice q8 n8 c8] 40 (0, 0)) = w5 at *
        clear e1 e2 e3 e4 hg23
        refine Calls.mono HRK1.out ?_
        rintro e w6 ⟨rfl, rfl⟩
        clear HRK1
        obtain ⟨qa, na, ca, kA, wA⟩ := HN5.out
        obtain ⟨qb, nb, cb, kB, wB⟩ := HQ5.out
        have HWA := Lib.hid wA
        have HWB := Lib.hid wB
        obtain ⟨_, a1, a2, a3, a4⟩ := One.of kA
        obtain ⟨_, b1, b2, b3, b4⟩ := One.of kB
        obtain ⟨_, f1, f2, f3, f4⟩ := One.of h35
        obtain ⟨_, g1, g2, g3', g4⟩ := One.of h23
        clear wA wB
        rcases HST.out with ⟨hr1, hA1⟩ | ⟨hr1, hA1⟩
        · have HA1 := Lib.hid hA1
          have hrr : ¬ (r i : Int) < (r (i + 1) : Int) := by omega
          clear hr1 hA1 HST
          go_wp2_with fail
          have hcm := Cmp_any q8 qa n8 c8 na ca (A (i + 1)) (A i) w5 HS5.out HWA.out
          rw [HA1.out, cmpN_self] at hcm
          refine Calls.mono hcm ?_
          rintro e w6 ⟨rfl, hb⟩
          have HT6 := Lib.hid (HT5.out.keep hb)
          have HX6 := Lib.hid (HX5.out.keep hb)
          have HK6 := Lib.hid ((hb.block _ (lt_of_block HK5.out)).trans HK5.out)
          have HN6 := Lib.hid (HN5.out.keep hb)
          have HQ6 := Lib.hid (HQ5.out.keep hb)
          have HS6 := Lib.hid (HS5.out.keep hb)
          have h36 := (hb.block _ (lt_of_block h35)).trans h35
          clear hcm hb a1 a2 a3 a4 b1 b2 b3 b4 f1 f2 f3 f4 g1 g2 g3' g4 kA kB h35 h23 HT5 HX5 HK5 HN5 HQ5 HS5 HWA HWB
          have HWn : Hid (Ws 44 w6 q8 n8 c8 (A (i + 1))) := HS6.out
          have hset : GChg w6 gA (w6.setCell ⟨gA, 0, none⟩ (.slice q8 n8 c8)) := GChg.one _
          obtain ⟨qa, na, ca, kA, wA⟩ := HN6.out
          have HTZ := Lib.hid (T1.chg HT6.out hset kA HGA.out (by decide) (by decide) (by decide) (by decide))
          have HXZ := Lib.hid (HX6.out.same hset.size (hset.same kA (by decide)) (hset.same kA (by decide)))
          have HKZ := Lib.hid ((hset.same kA (by decide) _ _ _ HK6.out).trans HK6.out)
          have HNZ := Lib.hid (NBox_put kA HWn.out (by decide))
          have HQZ := Lib.hid (NBox_other (i := 0) (v := .slice q8 n8 c8) HQ6.out kA HGP.out.2 (by decide))
          obtain ⟨_, a1, a2, a3, a4⟩ := One.of kA
          obtain ⟨_, f1, f2, f3, f4⟩ := One.of h36
          clear hset wA HWn HT6 HX6 HK6 HN6 HQ6
          go_wp2
          go_roundw
          case rel => exact ⟨i + 1, v', by have := HLT.out; omega, by go_num, by rw [← HKE.out, ← HSSE.out]; exact HTZ.out, HXZ.out, HKZ.out, HNZ.out, HQZ.out⟩
          case measure => simp [intOf]; have := HLT.out; omega
        · have HA1 := Lib.hid hA1
          have hrr : (r i : Int) < (r (i + 1) : Int) := by omega
          have HCp := Lib.hid (HA.out.cap (i + 1))
          have HCi := Lib.hid (HA.out.cap i)
          clear hr1 hA1 HST
          go_wp2_with fail
          have bm : Below w5.heap.size w5 (w5.alloc (.cells #[.slice q8 n8 c8, .slice qb nb cb] 40 (0, 0))) := al (Below.refl _ _) (Nat.le_refl _)
          have hml := Mul2_ok (Nsl.two (hnew (w := w5) (o := (.cells #[.slice q8 n8 c8, .slice qb nb cb] 40 (0, 0))) rfl) (HS5.out.keep bm) (HWB.out.keep bm)) HCp.out (by rw [HA1.out]; exact HCi.out)
          rw [HA1.out] at hml
          refine Calls.mono hml ?_
          rintro e w6 ⟨q7, n7, c7, rfl, hw7, hb7⟩
          have hb := bl bm hb7 bm.size
          have k23 := (hb.block _ (lt_of_block h23)).trans h23
          have hset : GChg w6 g23 (w6.setCell ⟨g23, 0, none⟩ (.slice q7 n7 c7)) := GChg.one _
          have T6 := HT5.out.keep hb
          have X6 := HX5.out.keep hb
          have K6 := (hb.block _ (lt_of_block HK5.out)).trans HK5.out
          have N6 := HN5.out.keep hb
          have Q6 := HQ5.out.keep hb
          have S6 := HS5.out.keep hb
          have h3 := (hb.block _ (lt_of_block h35)).trans h35
          have HT7 := Lib.hid (T1.chg T6 hset k23 HG230.out (by decide) (by decide) (by decide) (by decide))
          have HX7 := Lib.hid (X6.same hset.size (hset.same k23 (by decide)) (hset.same k23 (by decide)))
          have HK7 := Lib.hid ((hset.same k23 (by decide) _ _ _ K6).trans K6)
          have HN7 := Lib.hid (NBox_other (i := 0) (v := .slice q7 n7 c7) N6 k23 (Ne.symm HG23.out.1) (by decide))
          have HQ7 := Lib.hid (NBox_other (i := 0) (v := .slice q7 n7 c7) Q6 k23 (Ne.symm HG23.out.2.1) (by decide))
          have HS7 := Lib.hid (S6.set (v := .slice q7 n7 c7) (i := 0) k23 (by decide))
          have h37 : (w6.setCell ⟨g23, 0, none⟩ (.slice q7 n7 c7)).heap[g3]? = some (.cells #[.slice q8 n8 c8] 40 (0, 0)) := hsc h3 (Ne.symm HG23.out.2.2)
          have k237 : (w6.setCell ⟨g23, 0, none⟩ (.slice q7 n7 c7)).heap[g23]? = some (.cells #[.slice q7 n7 c7] 40 (0, 0)) := hss k23
          have HW7 := Lib.hid (hw7.set (v := .slice q7 n7 c7) (i := 0) k23 (by decide))
          clear hml hb hb7 bm T6 X6 K6 N6 Q6 S6 h3 hset hw7 a1 a2 a3 a4 b1 b2 b3 b4 f1 f2 f3 f4 g1 g2 g3' g4 kA kB h35 h23 HT5 HX5 HK5 HN5 HQ5 HS5 HWA HWB
          obtain ⟨qx2, nx2, cx2, kA, wA⟩ := HN7.out
          have HWA := Lib.hid wA
          obtain ⟨_, e1, e2, e3, e4⟩ := One.of k23
          obtain ⟨_, a1, a2, a3, a4⟩ := One.of kA
          obtain ⟨_, f1, f2, f3, f4⟩ := One.of h37
          obtain ⟨_, g1, g2, g3', g4⟩ := One.of k237
          clear wA
          go_wp2_with fail
          generalize w6.setCell ⟨g23, 0, none⟩ (.slice q7 n7 c7) = w7 at *
          have hcm := Cmp_any q7 qx2 n7 c7 nx2 cx2 (A i) (A i) w7 HW7.out HWA.out
          rw [cmpN_self] at hcm
          refine Calls.mono hcm ?_
          rintro e w8 ⟨rfl, hb⟩
          have HT6 := Lib.hid (HT7.out.keep hb)
          have HX6 := Lib.hid (HX7.out.keep hb)
          have HK6 := Lib.hid ((hb.block _ (lt_of_block HK7.out)).trans HK7.out)
          have HN6 := Lib.hid (HN7.out.keep hb)
          have HQ6 := Lib.hid (HQ7.out.keep hb)
          have HS6 := Lib.hid (HS7.out.keep hb)
          have h36 := (hb.block _ (lt_of_block h37)).trans h37
          clear hcm hb e1 e2 e3 e4 a1 a2 a3 a4 f1 f2 f3 f4 g1 g2 g3' g4 kA h37 k237 k23 HT7 HX7 HK7 HN7 HQ7 HS7 HWA HW7
          have HWn : Hid (Ws 44 w8 q8 n8 c8 (A (i + 1))) := HS6.out
          have hset : GChg w8 gA (w8.setCell ⟨gA, 0, none⟩ (.slice q8 n8 c8)) := GChg.one _
          obtain ⟨qa, na, ca, kA, wA⟩ := HN6.out
          have HTZ := Lib.hid (T1.chg HT6.out hset kA HGA.out (by decide) (by decide) (by decide) (by decide))
          have HXZ := Lib.hid (HX6.out.same hset.size (hset.same kA (by decide)) (hset.same kA (by decide)))
          have HKZ := Lib.hid ((hset.same kA (by decide) _ _ _ HK6.out).trans HK6.out)
          have HNZ := Lib.hid (NBox_put kA HWn.out (by decide))
          have HQZ := Lib.hid (NBox_other (i := 0) (v := .slice q8 n8 c8) HQ6.out kA HGP.out.2 (by decide))
          obtain ⟨_, a1, a2, a3, a4⟩ := One.of kA
          obtain ⟨_, f1, f2, f3, f4⟩ := One.of h36
          clear hset wA HWn HT6 HX6 HK6 HN6 HQ6
          go_wp2
          go_roundw
          case rel => exact ⟨i + 1, v', by have := HLT.out; omega, by go_num, by rw [← HKE.out, ← HSSE.out]; exact HTZ.out, HXZ.out, HKZ.out, HNZ.out, HQZ.out⟩
          case measure => simp [intOf]; have := HLT.out; omega
    · obtain rfl : m = i := by omega
      have HTC : Hid (XS.take m = XS) := by show _ = _; rw [HM.out, List.take_length]
      rw [HTC.out] at HR
      have HB := Lib.hid HR.out.bel
      have hone := HA.out.one
      have hstt := HStt.out
      obtain ⟨qz, nz, cz, kz, wz⟩ := HN.out
      have HWZ := Lib.hid wz
      have HRW := Lib.hid HR.out
      obtain ⟨_, z0, z1, z2, z3⟩ := One.of kz
      clear wz hlt hi HX HK HN HQ HLen HRd HCa
      by_cases hrk : r m = k
      · rw [if_pos hrk] at hstt
        have hc1 : (cmpN (A m) 1 == 0) = true := by rw [hone]; exact decide_eq_true hrk
        have HSS : Hid (∀ W, Below wr.heap.size wr W → Calls Tryz.prog 23 #[.pointer (some ⟨gt, 0, none⟩)] W fun e w' => e = .returned (.int .i64 1) ∧ W = w') := fun W hb => by
          have := T1_status (HRW.out.keep hb)
          rw [hstt] at this; exact this
        clear hone hstt hrk HR HTC
        go_wp2_with fail
        refine wp_region_shapes (fun ix => ([.val (.agg #[.slice qz nz cz]), (ShNmA 1), .val (.int .i64 (cmpN (A m) 1)), .val (.bool true), .val (.pointer (some ⟨gt, 0, none⟩)), .val (.int .i64 1), .val (.bool true), .val (.bool true), .val (.bool true)][ix]?).getD (.any)) 133 rfl (by kernel_rfl) (by decide +kernel) (by decide +kernel) (by decide +kernel) ?_ ?_
        · refine ⟨?_, ?_, ?_, ?_, ?_, ?_, ?_, ?_, ?_, trivial⟩
          · intro a W hb0 hs hp hi; have hb := undrew hb0; clear hb0
            have tt : sl a 14 = .pointer (some ⟨gA, 0, none⟩) := hi 14 (by decide)
            have dd0 := (hb.cell (p := ⟨gA, 0, none⟩) (lt_of_cell z0)).trans z0
            refine ite_y rfl (wp_val (.agg #[.slice qz nz cz]) ?_ ?_)
            · simp only [execOp, eval_tmp, tt]; simp [go_sem, dd0]
            · exact ⟨_, rfl, Below.refl _ _, rfl⟩
          · intro a W hb0 hs hp hi; have hb := undrew hb0; clear hb0
            refine ite_y rfl (wp_enter 16 #[.int .u64 1] ?_ (Of_k 1 (by decide) W) ?_)
            · simp only [execOp, resolve, List.map_toArray, List.map, eval_tmp, eval_func, eval_const]; simp [go_sem]
            · rintro e W' ⟨q, n, c, rfl, hw, hb'⟩; exact ⟨_, rfl, _, rfl, hb', q, n, c, rfl, hw⟩
          · intro a W hb0 hs hp hi; have hb := undrew hb0; clear hb0
            have t125 : sl a 125 = .agg #[.slice qz nz cz] := hp 0 (by decide)
            have t126 : NmA 1 (sl a 126) W := hp 1 (by decide)
            obtain ⟨ya, yb, yc, t126, zz⟩ := t126
            refine ite_y rfl (wp_enter 22 #[.agg #[.slice qz nz cz], .agg #[.slice ya yb yc]] ?_ (Cmp_any qz ya nz cz yb yc (A m) 1 W (HWZ.out.keep hb) zz) ?_)
            · simp only [execOp, resolve, List.map_toArray, List.map, eval_tmp, eval_func, eval_const, t125, t126]; simp [go_sem]
            · rintro e W' ⟨rfl, hw⟩; exact ⟨_, rfl, _, rfl, hw, rfl⟩
          · intro a W hb0 hs hp hi; have hb := undrew hb0; clear hb0
            have t127 : sl a 127 = .int .i64 (cmpN (A m) 1) := hp 2 (by decide)
            refine ite_y rfl (wp_val (.bool true) ?_ ?_)
            · simp only [execOp, eval_tmp, eval_const, t127]; simp [go_sem, hc1]
            · exact ⟨_, rfl, Below.refl _ _, rfl⟩
          · intro a W hb0 hs hp hi; have hb := undrew hb0; clear hb0
            have t12 : sl a 12 = .pointer (some ⟨gt, 0, none⟩) := hi 12 (by decide)
            exact ite_y rfl (wp_val (sl a 12) rfl ⟨_, rfl, Below.refl _ _, t12⟩)
          · intro a W hb0 hs hp hi; have hb := undrew hb0; clear hb0
            have t129 : sl a 129 = .pointer (some ⟨gt, 0, none⟩) := hp 4 (by decide)
            refine ite_y rfl (wp_enter 23 #[.pointer (some ⟨gt, 0, none⟩)] ?_ (HSS.out _ hb) ?_)
            · simp only [execOp, resolve, List.map_toArray, List.map, eval_tmp, eval_func, eval_const, t129]; simp [go_sem]
            · rintro e W' ⟨rfl, rfl⟩; exact ⟨_, rfl, _, rfl, Below.refl _ _, rfl⟩
          · intro a W hb0 hs hp hi; have hb := undrew hb0; clear hb0
            have t130 : sl a 130 = .int .i64 1 := hp 5 (by decide)
            refine ite_y rfl (wp_val (.bool true) ?_ ?_)
            · simp only [execOp, eval_tmp, eval_const, t130]; simp [go_sem]
            · exact ⟨_, rfl, Below.refl _ _, rfl⟩
          · intro a W hb0 hs hp hi; have hb := undrew hb0; clear hb0
            have t128 : sl a 128 = .bool true := hp 3 (by decide)
            have t131 : sl a 131 = .bool true := hp 6 (by decide)
            refine ite_y rfl (wp_val (.bool true) ?_ ?_)
            · simp only [execOp, eval_tmp, eval_const, t128, t131]; simp [go_sem]
            · exact ⟨_, rfl, Below.refl _ _, rfl⟩
          · intro a W hb0 hs hp hi; have hb := undrew hb0; clear hb0
            have t132 : sl a 132 = .bool true := hp 7 (by decide)
            exact ite_y rfl (wp_val (sl a 132) rfl ⟨_, rfl, Below.refl _ _, t132⟩)
        intro a wZ hb hs hd hI ht
        have ha := act_is [125, 126, 127, 128, 129, 130, 131, 132, 8] hs hd ht (by decide)
        have t8 : sl a 8 = .bool true := hI 8 (by decide)
        simp only [List.foldl, t8] at ha
        generalize sl a 125 = u125 at ha
        generalize sl a 126 = u126 at ha
        generalize sl a 127 = u127 at ha
        generalize sl a 128 = u128 at ha
        generalize sl a 129 = u129 at ha
        generalize sl a 130 = u130 at ha
        generalize sl a 131 = u131 at ha
        generalize sl a 132 = u132 at ha
        simp only [Act.put, List.setIfInBounds_toArray, List.set_cons_zero, List.set_cons_succ] at ha
        rw [ha]
        clear ha hI ht
        have HBZ := Lib.hid (bl HB.out hb HB.out.size)
        clear hb
        go_wp2
        go_ret
        exact ⟨rfl, HBZ.out⟩
      · rw [if_neg hrk] at hstt
        have hc1 : (cmpN (A m) 1 == 0) = false := by rw [hone]; exact decide_eq_false hrk
        have HSS : Hid (∀ W, Below wr.heap.size wr W → Calls Tryz.prog 23 #[.pointer (some ⟨gt, 0, none⟩)] W fun e w' => e = .returned (.int .i64 0) ∧ W = w') := fun W hb => by
          have := T1_status (HRW.out.keep hb)
          rw [hstt] at this; exact this
        clear hone hstt hrk HR HTC
        go_wp2_with fail
        refine wp_region_shapes (fun ix => ([.val (.agg #[.slice qz nz cz]), (ShNmA 1), .val (.int .i64 (cmpN (A m) 1)), .val (.bool false), .val (.pointer (some ⟨gt, 0, none⟩)), .val (.int .i64 0), .val (.bool false), .val (.bool true), .val (.bool true)][ix]?).getD (.any)) 133 rfl (by kernel_rfl) (by decide +kernel) (by decide +kernel) (by decide +kernel) ?_ ?_
        · refine ⟨?_, ?_, ?_, ?_, ?_, ?_, ?_, ?_, ?_, trivial⟩
          · intro a W hb0 hs hp hi; have hb := undrew hb0; clear hb0
            have tt : sl a 14 = .pointer (some ⟨gA, 0, none⟩) := hi 14 (by decide)
            have dd0 := (hb.cell (p := ⟨gA, 0, none⟩) (lt_of_cell z0)).trans z0
            refine ite_y rfl (wp_val (.agg #[.slice qz nz cz]) ?_ ?_)
            · simp only [execOp, eval_tmp, tt]; simp [go_sem, dd0]
            · exact ⟨_, rfl, Below.refl _ _, rfl⟩
          · intro a W hb0 hs hp hi; have hb := undrew hb0; clear hb0
            refine ite_y rfl (wp_enter 16 #[.int .u64 1] ?_ (Of_k 1 (by decide) W) ?_)
            · simp only [execOp, resolve, List.map_toArray, List.map, eval_tmp, eval_func, eval_const]; simp [go_sem]
            · rintro e W' ⟨q, n, c, rfl, hw, hb'⟩; exact ⟨_, rfl, _, rfl, hb', q, n, c, rfl, hw⟩
          · intro a W hb0 hs hp hi; have hb := undrew hb0; clear hb0
            have t125 : sl a 125 = .agg #[.slice qz nz cz] := hp 0 (by decide)
            have t126 : NmA 1 (sl a 126) W := hp 1 (by decide)
            obtain ⟨ya, yb, yc, t126, zz⟩ := t126
            refine ite_y rfl (wp_enter 22 #[.agg #[.slice qz nz cz], .agg #[.slice ya yb yc]] ?_ (Cmp_any qz ya nz cz yb yc (A m) 1 W (HWZ.out.keep hb) zz) ?_)
            · simp only [execOp, resolve, List.map_toArray, List.map, eval_tmp, eval_func, eval_const, t125, t126]; simp [go_sem]
            · rintro e W' ⟨rfl, hw⟩; exact ⟨_, rfl, _, rfl, hw, rfl⟩
          · intro a W hb0 hs hp hi; have hb := undrew hb0; clear hb0
            have t127 : sl a 127 = .int .i64 (cmpN (A m) 1) := hp 2 (by decide)
            refine ite_y rfl (wp_val (.bool false) ?_ ?_)
            · simp only [execOp, eval_tmp, eval_const, t127]; simp [go_sem, hc1]
            · exact ⟨_, rfl, Below.refl _ _, rfl⟩
          · intro a W hb0 hs hp hi; have hb := undrew hb0; clear hb0
            have t12 : sl a 12 = .pointer (some ⟨gt, 0, none⟩) := hi 12 (by decide)
            exact ite_y rfl (wp_val (sl a 12) rfl ⟨_, rfl, Below.refl _ _, t12⟩)
          · intro a W hb0 hs hp hi; have hb := undrew hb0; clear hb0
            have t129 : sl a 129 = .pointer (some ⟨gt, 0, none⟩) := hp 4 (by decide)
            refine ite_y rfl (wp_enter 23 #[.pointer (some ⟨gt, 0, none⟩)] ?_ (HSS.out _ hb) ?_)
            · simp only [execOp, resolve, List.map_toArray, List.map, eval_tmp, eval_func, eval_const, t129]; simp [go_sem]
            · rintro e W' ⟨rfl, rfl⟩; exact ⟨_, rfl, _, rfl, Below.refl _ _, rfl⟩
          · intro a W hb0 hs hp hi; have hb := undrew hb0; clear hb0
            have t130 : sl a 130 = .int .i64 0 := hp 5 (by decide)
            refine ite_y rfl (wp_val (.bool false) ?_ ?_)
            · simp only [execOp, eval_tmp, eval_const, t130]; simp [go_sem]
            · exact ⟨_, rfl, Below.refl _ _, rfl⟩
          · intro a W hb0 hs hp hi; have hb := undrew hb0; clear hb0
            have t128 : sl a 128 = .bool false := hp 3 (by decide)
            have t131 : sl a 131 = .bool false := hp 6 (by decide)
            refine ite_y rfl (wp_val (.bool true) ?_ ?_)
            · simp only [execOp, eval_tmp, eval_const, t128, t131]; simp [go_sem]
            · exact ⟨_, rfl, Below.refl _ _, rfl⟩
          · intro a W hb0 hs hp hi; have hb := undrew hb0; clear hb0
            have t132 : sl a 132 = .bool true := hp 7 (by decide)
            exact ite_y rfl (wp_val (sl a 132) rfl ⟨_, rfl, Below.refl _ _, t132⟩)
        intro a wZ hb hs hd hI ht
        have ha := act_is [125, 126, 127, 128, 129, 130, 131, 132, 8] hs hd ht (by decide)
        have t8 : sl a 8 = .bool true := hI 8 (by decide)
        simp only [List.foldl, t8] at ha
        generalize sl a 125 = u125 at ha
        generalize sl a 126 = u126 at ha
        generalize sl a 127 = u127 at ha
        generalize sl a 128 = u128 at ha
        generalize sl a 129 = u129 at ha
        generalize sl a 130 = u130 at ha
        generalize sl a 131 = u131 at ha
        generalize sl a 132 = u132 at ha
        simp only [Act.put, List.setIfInBounds_toArray, List.set_cons_zero, List.set_cons_succ] at ha
        rw [ha]
        clear ha hI ht
        have HBZ := Lib.hid (bl HB.out hb HB.out.size)
        clear hb
        go_wp2
        go_ret
        exact ⟨rfl, HBZ.out⟩
end Go.Proofs.YtfbmdlfkipipfaaGreatDoor
namespace Go.Proofs.YtfbmdlfkipipfaaGreatDoor
open Go.RowKit Go.By Gf Go.Maps
set_option maxRecDepth 100000 in
set_option maxHeartbeats 4000000 in
/-- an object that no plan fits, or a plan that is too large, or too much: nothing is asked -/
theorem TopCounts_out (q0 : Option Addr) (n0 c0 : Nat) (o : List UInt8) (s d : Int) (p1 : Option Addr) (n1 c1 : Nat) (srcs : List SrcD) (w : World) (h0 : Sl B8 w q0 n0 c0 o) (h1 : SlS w p1 n1 c1 srcs) (hT : HalfT w)
    (hx : ¬ (fitS n0 s = 0 ∧ small19 n0 s (needS n0 s) = true ∧ fewT srcs = true)) :
    Calls Tryz.prog 3 #[.slice q0 n0 c0, .int .i64 s, .int .u32 d, .slice p1 n1 c1] w fun e w' => e = .returned (.bool true) ∧ Below w.heap.size w w' := by
  have hn0 := h0.bound
  have HT := Lib.hid hT
  by_cases hf : fitS n0 s = 0
  · have hof : ofS (n0 : Int) s d = .tuple #[.agg #[.int .i64 n0, .int .i64 s, .int .i64 (needS n0 s), .int .u32 d], .int .i64 0] := by unfold ofS; rw [if_pos hf]
    have HSm := Lib.hid (fun w => TSmall_ok q0 n0 c0 s (needS n0 s) d w hn0 hof)
    have HFw : Hid (∀ W, Below w.heap.size w W → Calls Tryz.prog 12 #[.slice p1 n1 c1] W fun e w' => e = .returned (.bool (fewT srcs)) ∧ Below W.heap.size W w') := fun W hb => TFew_any p1 n1 c1 srcs W (h1.keep hb)
    clear hT h0 h1 hof
    generalize small19 n0 s (needS n0 s) = S at *
    generalize fewT srcs = F at *
    generalize needS n0 s = k at *
    cases S with
    | false =>
      clear hx hf HFw
      go_enter Tryz.func3, Tryz.ntmps3
      go_wp2_with fail
      refine Calls.mono (awakeT _ HT.out) ?_
      rintro e wa ⟨rfl, hb⟩
      have HBa := Lib.hid hb
      clear hb
      go_wp2_with fail
      refine Calls.mono (HSm.out _) ?_
      rintro e wb ⟨rfl, hb⟩
      have HBb := Lib.hid (bl HBa.out hb HBa.out.size)
      clear hb HBa
      go_wp2
      go_ret
      exact ⟨rfl, al HBb.out HBb.out.size⟩
    | true =>
      have hc : F = false := by
        cases F with
        | false => rfl
        | true => exact absurd ⟨hf, rfl, rfl⟩ hx
      subst hc
      clear hx hf
      go_enter Tryz.func3, Tryz.ntmps3
      go_wp2_with fail
      refine Calls.mono (awakeT _ HT.out) ?_
      rintro e wa ⟨rfl, hb⟩
      have HBa := Lib.hid hb
      clear hb
      go_wp2_with fail
      refine Calls.mono (HSm.out _) ?_
      rintro e wb ⟨rfl, hb⟩
      have HBb := Lib.hid (bl HBa.out hb HBa.out.size)
      clear hb HBa
      go_wp2_with fail
      refine Calls.mono (HFw.out _ (al HBb.out HBb.out.size)) ?_
      rintro e wc ⟨rfl, hb⟩
      have HBc := Lib.hid (bl (al HBb.out HBb.out.size) hb (al HBb.out HBb.out.size).size)
      clear hb HBb
      go_wp2
      go_ret
      exact ⟨rfl, HBc.out⟩
  · have HSm := Lib.hid (fun w => TSmall_bad q0 n0 c0 s d w hn0 hf)
    clear hx hf hT h0 h1
    go_enter Tryz.func3, Tryz.ntmps3
    go_wp2_with fail
    refine Calls.mono (awakeT _ HT.out) ?_
    rintro e wa ⟨rfl, hb⟩
    have HBa := Lib.hid hb
    clear hb
    go_wp2_with fail
    refine Calls.mono (HSm.out _) ?_
    rintro e wb ⟨rfl, hb⟩
    have HBb := Lib.hid (bl HBa.out hb HBa.out.size)
    clear hb HBa
    go_wp2
    go_ret
    exact ⟨rfl, al HBb.out HBb.out.size⟩
theorem TopCounts_any (q0 : Option Addr) (n0 c0 : Nat) (o : List UInt8) (s d : Int) (p1 : Option Addr) (n1 c1 : Nat) (srcs : List SrcD) (w : World) (h0 : Sl B8 w q0 n0 c0 o) (_w1 : (Lit.int .i64 s).wf = true) (w2 : (Lit.int .u32 d).wf = true) (h1 : SlS w p1 n1 c1 srcs) (hT : HalfT w) :
    Calls Tryz.prog 3 #[.slice q0 n0 c0, .int .i64 s, .int .u32 d, .slice p1 n1 c1] w fun e w' => e = .returned (.bool true) ∧ Below w.heap.size w w' := by
  have hd := Go.bounds_u32 w2
  by_cases hx : fitS n0 s = 0 ∧ small19 n0 s (needS n0 s) = true ∧ fewT srcs = true
  · obtain ⟨hf, hsm, hfw⟩ := hx
    obtain ⟨t, k, D, rfl, rfl, hO, hof⟩ := of_obj (n := n0) hf (by have := h0.bound; omega) hd.1 (by omega)
    have hk : needS (n0 : Int) (t : Int) = (k : Int) := by
      have := hO.ok.chk
      unfold checkS at this
      rw [if_pos hf] at this
      by_cases h : (k : Int) = needS n0 t
      · exact h.symm
      · rw [if_neg h] at this; cases this
    rw [hk] at hsm
    have hk12 : k ≤ 12 ∧ t ≤ 20 := by
      have h := hsm
      unfold small19 at h
      rw [if_pos hO.ok.chk, Bool.and_eq_true] at h
      have h1 := of_decide_eq_true h.1
      have h2 := of_decide_eq_true h.2
      omega
    have hff := hfw
    unfold fewT at hff
    rw [Bool.and_eq_true] at hff
    obtain ⟨f1, f3⟩ := hff
    have hn1 : n1 ≤ 20 := by have := of_decide_eq_true f3; rw [h1.len] at this; exact this
    have hs64 : ∀ a, a ∈ srcs → a.s < 18446744073709551616 := fun a ha => by
      obtain ⟨j, hj, e⟩ := List.getElem_of_mem ha
      obtain ⟨_, _, _, _, _, _, _, _, _, _, h⟩ := h1.rs j a (by rw [List.getElem?_eq_getElem hj, e])
      exact h
    exact TopCounts_core n0 t k D q0 c0 o p1 n1 c1 srcs w hO h0 h1 hT hk12.1 hk12.2 hn1 (fun a ha => by have := of_decide_eq_true (List.all_eq_true.1 f1 a ha); omega) hs64 hof hfw hsm
  · exact TopCounts_out q0 n0 c0 o s d p1 n1 c1 srcs w h0 h1 hT hx
end Go.Proofs.YtfbmdlfkipipfaaGreatDoor
namespace Go.By
open Go.RowKit
end Go.By
namespace Go.Proofs.YtfbmdlfkipipfaaGreatDoor
open Go.RowKit Go.By
theorem halves_of {rest : List (String × DataW Unit)} {W : World} (h : laidMet Tryz.prog (("wellspring/sum.halves", Rows.laid_wellspring_sum_halves) :: rest) W) : HalfT W := by
  obtain ⟨zs, hz, hzl, hzc⟩ : ∃ zs : List Int, (Rows.laid_wellspring_sum_halves : DataW Unit) = Lib.tabData .u32 zs ∧ zs.length = 16 ∧ ∀ i, i < 16 → zs.getD i 0 = ((crcTab.getD i 0 : Nat) : Int) := ⟨[0, 498536548, 997073096, 651767980, 1994146192, 1802195444, 1303535960, 1342533948, 3988292384, 4027552580, 3604390888, 3412177804, 2607071920, 2262029012, 2685067896, 3183342108], rfl, rfl, by decide⟩
  rw [hz] at h
  have h3 := Lib.tabIs_of_head (g := 0) (t := 291) (e := 23) (n := 16) (by kernel_rfl) (by kernel_rfl) (by kernel_rfl) (by kernel_rfl) (by kernel_rfl) (by kernel_rfl) h
  intro i hi
  have := h3.cell (g := 0) (by kernel_rfl) i (by omega)
  rw [hzc i hi] at this
  exact this
end Go.Proofs.YtfbmdlfkipipfaaGreatDoor
