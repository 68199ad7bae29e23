/- Texts as lists of bytes; builders. Numbers: plus. Numbers: times. Numbers: Add of any. Numbers: Mul of any; Pow. Numbers: Text. The library: ParseUint of base 16, of texts that are numbers of at most sixteen letters. Numbers: Parse. The reference's numbers: Trim, Text. Numbers: Pow, Sub. Numbers: Sub. The laws' small parts on numbers: To, Is, awake. The laws of numbers: what they carry along. A region that draws its order, with one store into a box of one cell of its own (a number): each operation has a shape that lasts. Counts of grids by rank: plain laws. Counts of grids: what their functions carry along. What equations say together: Judge. What equations say together: Judge, where one doesn't fit. Counts of grids: power, Spare, All, without. Counts of grids: Full, Fails. How many solutions there are: Count. The reference's Vectors. The reference's Wide. The reference's Judge. A region that draws its order, op by op: what holds of the world is told by which operations have run. A region with two appends of rows: what stays. -/
import Derived.Test.YtbfmdfbnhakolaaGreatDoorZq7
import Derived.Lib.Strings
import Derived.Lib.UnsafeStr
import Derived.Lib.AppendStr
import Derived.Lib.Builder
import Derived.OwnWalk
import Derived.Lib.AtoiAllMem
import Derived.Lib.ConvBytes
import Derived.Lib.Walk
import Derived.Laws.Strings3
import Derived.Laws.Closers25
import Derived.Laws.Closers25b
import Derived.BigCall
import Derived.BigGuard
import Derived.Laws.Concat
import Derived.WalkKit
import Derived.IntWalk
namespace Go.By
open Go.RowKit
/-- bytes as a text -/
def strB (l : List UInt8) : ByteArray := ⟨l.toArray⟩
theorem strB_size (l : List UInt8) : (strB l).size = l.length := by simp [strB, ByteArray.size]
theorem strB_data (l : List UInt8) : (strB l).data.toList = l := by simp [strB]
theorem strB_cells (l : List UInt8) : Lib.strCells (strB l) = Lib.byteCells l := by rw [Lib.strCells_eq, strB_data]
theorem strB_inj {a b : List UInt8} (h : strB a = strB b) : a = b := by rw [← strB_data a, h, strB_data]
theorem strB_of (s : ByteArray) : s = strB s.data.toList := by cases s; simp [strB]
theorem BuilderAt.keep {T e : TypeId} {B b : Nat} {p : Value} {bs : List Value} {w w' : World} (h : Lib.BuilderAt T e B b p bs w) (hb : Below w.heap.size w w') : Lib.BuilderAt T e B b p bs w' := by
  obtain ⟨h1, v, h2, h3, h4⟩ := h
  obtain ⟨q, c, rfl⟩ := owns_shape h3
  exact ⟨h1, _, (hb.block _ (lt_of_block h2)).trans h2, owns_keep h3 hb, h4⟩
theorem bytes_append (a b : List UInt8) : Lib.byteCells a ++ Lib.byteCells b = Lib.byteCells (a ++ b) := by simp [Lib.byteCells]
theorem txt_app (a b : List UInt8) : strB a ++ strB b = strB (a ++ b) := by
  rw [strB_of (strB a ++ strB b)]
  congr 1
theorem txt_ext (l : List UInt8) (i j : Nat) : (strB l).extract i j = strB ((l.take j).drop i) := by
  rw [strB_of ((strB l).extract _ _)]
  rw [Lib.extract_data, strB_data]
  simp [List.extract_eq_take_drop, List.drop_take]
theorem txt_idx {P : Program} (t : TypeId) (ht : P.underlying t = some .string) {l : List UInt8} {k : Nat} {c : UInt8} (h : l[k]? = some c) (K : IntKind) (z : Int) (hz : z = (k : Int)) (w : World) :
    (Instr.index t (.string (strB l)) (.int K z)).run P w = .ok (B8 c) w := by
  subst hz
  have hk : k < l.length := (List.getElem?_eq_some_iff.1 h).1
  rw [run_index_string w t (strB l) _ _ ht, dif_pos ⟨by omega, by rw [strB_size]; omega⟩]
  have e : ((k : Int)).toNat = k := by omega
  simp only [e]
  have hsz : k < (strB l).size := by rw [strB_size]; exact hk
  have h2 : (strB l)[k]'hsz = c := by
    have h3 : (strB l).data[k]? = some ((strB l)[k]'hsz) := Array.getElem?_eq_getElem hsz
    have h4 : (strB l).data[k]? = some c := by rw [← Array.getElem?_toList, strB_data]; exact h
    rw [h3] at h4; exact Option.some.inj h4
  rw [h2]
theorem txt_emp (l : List UInt8) : (strB l).toList.isEmpty = decide (l = []) := by
  rw [← decide_eq_emptyBytes]
  by_cases h : l = []
  · subst h; rfl
  · have : ¬ strB l = ByteArray.empty := fun e => h (by have := congrArg (fun s : ByteArray => s.data.toList) e; simpa [strB_data] using this)
    rw [decide_eq_false h]; exact decide_eq_false this
end Go.By
namespace Go.By
open Go.RowKit
theorem valW_take {xs : List UInt64} {k : Nat} {x : UInt64} (h : xs[k]? = some x) : valW (xs.take (k + 1)) = valW (xs.take k) + 18446744073709551616 ^ k * x.toNat := by
  unfold valW
  rw [List.map_take, List.map_take]
  exact valD_take (by rw [List.getElem?_map, h]; rfl)
theorem valW_take_none {xs : List UInt64} {k : Nat} (h : xs.length ≤ k) : valW (xs.take (k + 1)) = valW (xs.take k) := by
  rw [List.take_of_length_le (by omega), List.take_of_length_le h]
theorem valW_take_all {xs : List UInt64} {k : Nat} (h : xs.length ≤ k) : valW (xs.take k) = valW xs := by rw [List.take_of_length_le h]
theorem valW_set_take {S : List UInt64} {k : Nat} {s : UInt64} (h : k < S.length) : valW ((S.set k s).take (k + 1)) = valW (S.take k) + 18446744073709551616 ^ k * s.toNat := by
  rw [valW_take (k := k) (x := s) (by rw [List.getElem?_set, if_pos rfl, if_pos h])]
  rw [List.take_set_of_le (Nat.le_refl k)]
theorem valW_zeros (k : Nat) : valW (List.replicate k 0) = 0 := by
  unfold valW
  rw [List.map_replicate]
  exact valD_zeros _ k
/-- words in new memory -/
def RetWs (T : TypeId) (w : World) (n N : Nat) (e : Ending) (w' : World) : Prop :=
  ∃ S : List UInt64, e = .returned (.slice (some ⟨w.heap.size, 0, none⟩) n n) ∧ w'.ownsRow w.heap.size T 1 (.slice (some ⟨w.heap.size, 0, none⟩) n n) n (S.map W64) ∧ valW S = N ∧ Below w.heap.size w w'
theorem lies_of_owns {w : World} {base T n c : Nat} {q : Option Addr} {ys : List Value} (h : w.ownsRow base T 1 (.slice q n c) n ys) : Lies T w q := by
  intro a ha
  rcases h.2 with ⟨h2, _⟩ | ⟨g, cap, cur, hv, hb, hg, _⟩
  · rw [ha] at h2; cases h2
  · obtain ⟨rfl, rfl⟩ : q = some ⟨g, 0, none⟩ ∧ c = cap := by simpa using hv
    obtain rfl := Option.some.inj ha
    exact ⟨_, _, hg⟩
end Go.By
namespace Go.Proofs.YtbfmdfbnhakolaaGreatDoor
open Go.RowKit Go.By
end Go.Proofs.YtbfmdfbnhakolaaGreatDoor
namespace Go.By
open Go.RowKit
theorem valW_set {S : List UInt64} {k : Nat} {s p : UInt64} (h : S[k]? = some p) : valW (S.set k s) + 18446744073709551616 ^ k * p.toNat = valW S + 18446744073709551616 ^ k * s.toNat := by
  unfold valW
  rw [List.map_set]
  exact valD_set _ _ _ _ (by rw [List.getElem?_map, h]; rfl)
theorem mul_parts {a y p c hi lo l1 c1 l2 c2 : Nat} (h0 : hi * 18446744073709551616 + lo = a * y) (h1 : l1 = (lo + p + 0) % 18446744073709551616) (g1 : c1 = (lo + p + 0) / 18446744073709551616) (h2 : l2 = (l1 + c + 0) % 18446744073709551616) (g2 : c2 = (l1 + c + 0) / 18446744073709551616) :
    l2 = (a * y + p + c) % 18446744073709551616 ∧ hi + c1 + c2 = (a * y + p + c) / 18446744073709551616 := by
  rw [← h0]; omega
end Go.By
namespace Go.Proofs.YtbfmdfbnhakolaaGreatDoor
open Go.RowKit Go.By
theorem mul64_ex (x y : UInt64) : ∃ hi lo : UInt64, (∀ w, Calls Tryz.prog 88 #[W64 x, W64 y] w fun e w' => e = .returned (.tuple #[W64 hi, W64 lo]) ∧ w' = w) ∧ Hid (hi.toNat * 18446744073709551616 + lo.toNat = x.toNat * y.toNat) := by
  have hx := x.toNat_lt; have hy := y.toNat_lt
  have hxy : x.toNat * y.toNat < 18446744073709551616 * 18446744073709551616 := Nat.mul_lt_mul'' hx hy
  obtain ⟨z, hz⟩ : ∃ z, z = x.toNat * y.toNat := ⟨_, rfl⟩
  rw [← hz] at hxy ⊢
  have e1 : (UInt64.ofNat (z / 18446744073709551616)).toNat = z / 18446744073709551616 := by simp; omega
  have e2 : (UInt64.ofNat (z % 18446744073709551616)).toNat = z % 18446744073709551616 := by simp
  refine ⟨UInt64.ofNat (z / 18446744073709551616), UInt64.ofNat (z % 18446744073709551616), fun w => ?_, ?_⟩
  · refine (Tryz.bits_Mul64 x.toNat y.toNat hx hy w).mono ?_
    rintro e w' ⟨rfl, rfl⟩
    rw [← hz]
    exact ⟨by rw [← W64_eq (congrArg Int.ofNat e1.symm), ← W64_eq (congrArg Int.ofNat e2.symm)]; rfl, rfl⟩
  · show _ = z
    rw [e1, e2]; omega
set_option maxRecDepth 100000 in
set_option maxHeartbeats 2000000 in
theorem timesN_any (p q : Option Addr) (n c m d : Nat) (xs ys : List UInt64) (w : World) (h1 : Sl W64 w p n c xs) (h2 : Sl W64 w q m d ys) (hn : n ≤ 1000000) (hm : m ≤ 1000000) :
    Calls Tryz.prog 81 #[.slice p n c, .slice q m d] w (RetWs 69 w (n + m) (valW xs * valW ys)) := by
  obtain ⟨i0, hi, hz0, hz1, hz2⟩ := info_parts info_u64
  have HM1 : Hid (n + m ≤ maxLen) := by show n + m ≤ maxLen; unfold maxLen; omega
  have HM2 : Hid (8 * (n + m) ≤ 281474976710656) := by show 8 * (n + m) ≤ _; omega
  have HL : Hid (xs.length = n ∧ ys.length = m) := ⟨h1.len, h2.len⟩
  have H1 := Lib.hid h1; have H2 := Lib.hid h2
  clear h1 h2
  go_enter Tryz.func81, Tryz.ntmps81
  go_wp2_with (at_make; refine wpList_make_full _ rfl _ _ 38 rfl w.heap.size 69 i0 (.int .u64 0) 1 Tryz.underlying38 hi hz0 hz1 .i64 .i64 _ _ (n + m) rfl rfl (by simp) (by simp) (by rw [hz2]; exact HM2.out) HM1.out (Nat.le_refl _) ?_)
  intro w1 ho hg
  have HO : Hid (w1.ownsRow w.heap.size 69 1 (.slice (some ⟨w.heap.size, 0, none⟩) (n + m) (n + m)) (n + m) ((List.replicate (n + m) (0 : UInt64)).map W64)) := by
    have e : (madeCells #[Value.int .u64 0] (n + m)).toList = (List.replicate (n + m) (0 : UInt64)).map W64 := by rw [List.map_replicate]; exact toList_madeCells_one _ _
    show World.ownsRow _ _ _ _ _ _ _
    rw [← e]; simpa using ho
  have HB : Hid (Below w.heap.size w w1) := (Below.refl _ _).grown hg (Nat.le_refl _) (by simp)
  clear ho hg
  go_wp2
  go_loopw [20] (fun i wr => ∃ (k : Nat) (S : List UInt64), k ≤ n ∧ i = .int .i64 k ∧ Hid (S.length = n + m) ∧ Hid (wr.ownsRow w.heap.size 69 1 (.slice (some ⟨w.heap.size, 0, none⟩) (n + m) (n + m)) (n + m) (S.map W64)) ∧ Hid (valW S = valW (xs.take k) * valW ys) ∧ Hid (∀ j, k + m ≤ j → j < n + m → S[j]? = some 0) ∧ Hid (Below w.heap.size w wr)) (fun i _ => n - (intOf i).toNat)
  case atStart => exact ⟨0, _, Nat.zero_le _, rfl, by simp [Hid], HO.out, by show valW _ = valW (xs.take 0) * _; rw [valW_zeros, List.take_zero, show valW [] = 0 from rfl, Nat.zero_mul], fun j _ hj => List.getElem?_replicate_of_lt hj, HB.out⟩
  case round =>
    clear HO HB
    obtain ⟨k, S, hk, rfl, hSl, hO, hV, hZ, hB⟩ := hrel
    by_cases hlt : k < n
    · obtain ⟨b, o, x, rfl, hc, hx⟩ := H1.out.at k hlt
      have HC := Lib.hid hc
      obtain ⟨wo, hwo⟩ : ∃ wo : World, wo = wr := ⟨_, rfl⟩
      have hlt' : (k : Int) < (n : Int) := by omega
      have ST : Hid (S.length = n + m ∧ wr.ownsRow w.heap.size 69 1 (.slice (some ⟨w.heap.size, 0, none⟩) (n + m) (n + m)) (n + m) (S.map W64) ∧ valW S + 18446744073709551616 ^ (k + 0) * 0 = valW S + 18446744073709551616 ^ k * (x.toNat * valW (ys.take 0)) ∧ Below w.heap.size w wr) := ⟨hSl.out, hO.out, by rw [List.take_zero, show valW [] = 0 from rfl]; simp, hB.out⟩
      obtain ⟨V0, hV0⟩ : ∃ V0, V0 = valW S := ⟨_, rfl⟩
      have HV0 : Hid (V0 = valW (xs.take k) * valW ys) := hV0.trans hV.out
      have ST2 : Hid (∃ S' : List UInt64, S'.length = n + m ∧ wr.ownsRow w.heap.size 69 1 (.slice (some ⟨w.heap.size, 0, none⟩) (n + m) (n + m)) (n + m) (S'.map W64) ∧ valW S' + 18446744073709551616 ^ (k + 0) * 0 = V0 + 18446744073709551616 ^ k * (x.toNat * valW (ys.take 0)) ∧ (∀ j, k + m ≤ j → j < n + m → S'[j]? = some 0) ∧ Below w.heap.size w wr) := ⟨S, ST.out.1, ST.out.2.1, by rw [hV0]; exact ST.out.2.2.1, hZ.out, hB.out⟩
      clear hc hO hSl hB hV hZ ST hV0
      clear S
      go_wp2
      go_loopw [25, 7] (fun i cv wr => ∃ (j cy : Nat) (S : List UInt64), j ≤ m ∧ i = .int .i64 j ∧ cv = .int .u64 cy ∧ cy < 18446744073709551616 ∧ Hid (S.length = n + m) ∧ Hid (wr.ownsRow w.heap.size 69 1 (.slice (some ⟨w.heap.size, 0, none⟩) (n + m) (n + m)) (n + m) (S.map W64)) ∧ Hid (valW S + 18446744073709551616 ^ (k + j) * cy = V0 + 18446744073709551616 ^ k * (x.toNat * valW (ys.take j))) ∧ Hid (∀ j, k + m ≤ j → j < n + m → S[j]? = some 0) ∧ Hid (Below w.heap.size w wr)) (fun i _ _ => m - (intOf i).toNat)
      case atStart =>
        obtain ⟨S, g1, g2, g3, g4, g5⟩ := ST2.out
        exact ⟨0, 0, S, Nat.zero_le _, rfl, rfl, by decide, g1, g2, g3, g4, g5⟩
      case round =>
        clear ST2
        obtain ⟨j, cy, S, hj, rfl, rfl, hcy, hSl, hO, hV, hZ, hB⟩ := hrel
        by_cases hjm : j < m
        · obtain ⟨b', o', y, rfl, hcy2, hy⟩ := H2.out.at j hjm
          have cX := (hB.out.cell (p := ⟨b, o + k, none⟩) (lt_of_cell HC.out)).trans HC.out
          have cY := (hB.out.cell (p := ⟨b', o' + j, none⟩) (lt_of_cell hcy2)).trans hcy2
          obtain ⟨pr, hpr⟩ : ∃ pr, S[k + j]? = some pr := ⟨S[k + j]'(by rw [hSl.out]; omega), List.getElem?_eq_getElem _⟩
          have cP : wr.cell? ⟨w.heap.size, k + j, none⟩ = some (W64 pr) := by
            rw [hO.out.cellAt _ (by omega), List.getElem?_map, hpr]; rfl
          have zP : wr.frozen? ⟨w.heap.size, k + j, none⟩ = false := hO.out.frozenAt _
          obtain ⟨hi', lo, hmul, hml⟩ := mul64_ex x y
          obtain ⟨l1, c1, hr1, hc1, hs1⟩ := add64_ex lo.toNat pr.toNat 0 (by decide) lo.toNat_lt pr.toNat_lt
          obtain ⟨l2, c2, hr2, hc2, hs2⟩ := add64_ex l1.toNat cy 0 (by decide) l1.toNat_lt hcy
          obtain ⟨e1, e2⟩ := mul_parts hml.out hs1.out.1 hs1.out.2 hs2.out.1 hs2.out.2
          have hfit : hi'.toNat + c1 + c2 < 18446744073709551616 := by
            rw [e2]; exact mul_fits x.toNat_lt y.toNat_lt pr.toNat_lt hcy
          have hf1 : (hi'.toNat : Int) + (c1 : Int) < 18446744073709551616 := by omega
          have hf2 : (hi'.toNat : Int) + (c1 : Int) + (c2 : Int) < 18446744073709551616 := by omega
          have r1 : ∀ w, (callFunc 97 #[W64 lo, W64 pr, .int .u64 0]).run Tryz.prog w = .ok (.value (.tuple #[W64 l1, .int .u64 c1])) w := hr1
          have r2 : ∀ w, (callFunc 97 #[W64 l1, .int .u64 cy, .int .u64 0]).run Tryz.prog w = .ok (.value (.tuple #[W64 l2, .int .u64 c2])) w := hr2
          have F : Hid ((S.set (k + j) l2).length = n + m ∧ (∀ u, ((wr.drewN u).setCell ⟨w.heap.size, k + j, none⟩ (W64 l2)).ownsRow w.heap.size 69 1 (.slice (some ⟨w.heap.size, 0, none⟩) (n + m) (n + m)) (n + m) ((S.set (k + j) l2).map W64)) ∧ valW (S.set (k + j) l2) + 18446744073709551616 ^ (k + (j + 1)) * (hi'.toNat + c1 + c2) = V0 + 18446744073709551616 ^ k * (x.toNat * valW (ys.take (j + 1))) ∧ (∀ t, k + m ≤ t → t < n + m → (S.set (k + j) l2)[t]? = some 0) ∧ ∀ u, Below w.heap.size w ((wr.drewN u).setCell ⟨w.heap.size, k + j, none⟩ (W64 l2))) := by
            refine ⟨by rw [List.length_set]; exact hSl.out, fun u => ?_, ?_, fun t ht1 ht2 => by rw [List.getElem?_set, if_neg (by omega)]; exact hZ.out t ht1 ht2, fun u => (bdn hB.out).setCell (Nat.le_refl _) _⟩
            · rw [List.map_set]
              exact (World.ownsRow.stored (w := wr.drewN u) hO.out _ _).1
            · rw [valW_take hy.out]
              exact mul_step (b := 18446744073709551616) hV.out e1 e2 (valW_set hpr)
          have hjm' : (j : Int) < (m : Int) := by omega
          have hkj : (k : Int) + (j : Int) < (n : Int) + (m : Int) := by omega
          clear hcy2 hjm hlt hr1 hr2 e1 e2 hfit hml hs1 hs2 hpr hO hSl hV hZ hB
          go_wp2
          go_quiet ((go_at_call 88; exact Calls.quiet_of_same (hmul _)))
          go_wp2_with (first | simp only [r1] | simp only [r2])
          go_roundw
          case rel => exact ⟨j + 1, hi'.toNat + c1 + c2, _, by omega, by go_num, by go_num, by omega, F.out.1, F.out.2.1 _, F.out.2.2.1, F.out.2.2.2.1, F.out.2.2.2.2 _⟩
          case measure => simp [intOf]; omega
        · obtain rfl : j = m := by omega
          have hz0 := hZ.out (k + j) (by omega) (by omega)
          have cP : wr.cell? ⟨w.heap.size, k + j, none⟩ = some (W64 0) := by
            rw [hO.out.cellAt _ (by omega), List.getElem?_map, hz0]; rfl
          have zP : wr.frozen? ⟨w.heap.size, k + j, none⟩ = false := hO.out.frozenAt _
          have e : (UInt64.ofNat cy).toNat = cy := by simp; omega
          have e2 : Value.int .u64 (cy : Int) = W64 (UInt64.ofNat cy) := W64_eq (by rw [e])
          have F : Hid ((S.set (k + j) (UInt64.ofNat cy)).length = n + j ∧ (wr.setCell ⟨w.heap.size, k + j, none⟩ (.int .u64 (cy : Int))).ownsRow w.heap.size 69 1 (.slice (some ⟨w.heap.size, 0, none⟩) (n + j) (n + j)) (n + j) ((S.set (k + j) (UInt64.ofNat cy)).map W64) ∧ valW (S.set (k + j) (UInt64.ofNat cy)) = valW (xs.take (k + 1)) * valW ys ∧ (∀ t, k + 1 + j ≤ t → t < n + j → (S.set (k + j) (UInt64.ofNat cy))[t]? = some 0) ∧ Below w.heap.size w (wr.setCell ⟨w.heap.size, k + j, none⟩ (.int .u64 (cy : Int)))) := by
            refine ⟨by rw [List.length_set]; exact hSl.out, ?_, ?_, fun t ht1 ht2 => by rw [List.getElem?_set, if_neg (by omega)]; exact hZ.out t (by omega) ht2, hB.out.setCell (Nat.le_refl _) _⟩
            · rw [List.map_set, e2]
              exact (hO.out.stored _ _).1
            · rw [valW_take hx.out]
              have h1 := hV.out
              rw [valW_take_all (by have := HL.out.2; omega)] at h1
              have h2 := mul_row h1 (by have := valW_set (s := UInt64.ofNat cy) hz0; rw [e] at this; exact this)
              rw [h2, HV0.out]
              exact mul_next rfl
          have hkj : (k : Int) + (j : Int) < (n : Int) + (j : Int) := by omega
          clear hjm hlt hz0 e e2 hO hSl hV hZ hB
          go_wp2
          go_roundw
          case rel => exact ⟨k + 1, _, by omega, by go_num, F.out.1, F.out.2.1, F.out.2.2.1, F.out.2.2.2.1, F.out.2.2.2.2⟩
          case measure => simp [intOf]; omega
    · obtain rfl : k = n := by omega
      have F : Hid (wr.ownsRow w.heap.size 69 1 (.slice (some ⟨w.heap.size, 0, none⟩) (k + m) (k + m)) (k + m) (S.map W64) ∧ valW S = valW xs * valW ys ∧ Below w.heap.size w wr) := ⟨hO.out, by rw [hV.out, valW_take_all (by have := HL.out.1; omega)], hB.out⟩
      clear hO hSl hV hZ hB hlt
      go_wp2
      go_ret
      exact ⟨_, rfl, F.out.1, F.out.2.1, F.out.2.2⟩
end Go.Proofs.YtbfmdfbnhakolaaGreatDoor
namespace Go.By
open Go.RowKit
/-- a slice of numbers -/
structure Nsl (T : TypeId) (w : World) (p : Option Addr) (n c : Nat) (Ns : List Nat) : Prop where
  len : Ns.length = n
  max : n ≤ 9223372036854775807
  elt : ∀ i N, Ns[i]? = some N → ∃ b o q m d, p = some ⟨b, o, none⟩ ∧ w.cell? ⟨b, o + i, none⟩ = some (.slice q m d) ∧ Ws T w q m d N
theorem Nsl.keep {T : TypeId} {w w' : World} {p : Option Addr} {n c : Nat} {Ns : List Nat} (h : Nsl T w p n c Ns) (hb : Below w.heap.size w w') : Nsl T w' p n c Ns :=
  ⟨h.len, h.max, fun i N hi => by
    obtain ⟨b, o, q, m, d, hp, hc, hw⟩ := h.elt i N hi
    exact ⟨b, o, q, m, d, hp, (hb.cell (p := ⟨b, o + i, none⟩) (lt_of_cell hc)).trans hc, hw.keep hb⟩⟩
theorem Nsl.two {T T' : TypeId} {w : World} {g : Nat} {fr : Nat × Nat} {q1 q2 : Option Addr} {n1 c1 n2 c2 M N : Nat} (hg : w.heap[g]? = some (.cells #[.slice q1 n1 c1, .slice q2 n2 c2] T' fr)) (h1 : Ws T w q1 n1 c1 M) (h2 : Ws T w q2 n2 c2 N) : Nsl T w (some ⟨g, 0, none⟩) 2 2 [M, N] :=
  ⟨rfl, by omega, fun i N' hi => by
    match i, hi with
    | 0, hi => simp at hi; subst hi; exact ⟨g, 0, q1, n1, c1, rfl, cell_of_row _ _ 0 _ _ _ hg, h1⟩
    | 1, hi => simp at hi; subst hi; exact ⟨g, 0, q2, n2, c2, rfl, cell_of_row _ _ 1 _ _ _ hg, h2⟩
    | j + 2, hi => simp at hi⟩
theorem Nsl.three {T T' : TypeId} {w : World} {g : Nat} {fr : Nat × Nat} {q1 q2 q3 : Option Addr} {n1 c1 n2 c2 n3 c3 M N K : Nat} (hg : w.heap[g]? = some (.cells #[.slice q1 n1 c1, .slice q2 n2 c2, .slice q3 n3 c3] T' fr)) (h1 : Ws T w q1 n1 c1 M) (h2 : Ws T w q2 n2 c2 N) (h3 : Ws T w q3 n3 c3 K) : Nsl T w (some ⟨g, 0, none⟩) 3 3 [M, N, K] :=
  ⟨rfl, by omega, fun i N' hi => by
    match i, hi with
    | 0, hi => simp at hi; subst hi; exact ⟨g, 0, q1, n1, c1, rfl, cell_of_row _ _ 0 _ _ _ hg, h1⟩
    | 1, hi => simp at hi; subst hi; exact ⟨g, 0, q2, n2, c2, rfl, cell_of_row _ _ 1 _ _ _ hg, h2⟩
    | 2, hi => simp at hi; subst hi; exact ⟨g, 0, q3, n3, c3, rfl, cell_of_row _ _ 2 _ _ _ hg, h3⟩
    | j + 3, hi => simp at hi⟩
theorem sum_take_succ {Ns : List Nat} {k N : Nat} (h : Ns[k]? = some N) : (Ns.take (k + 1)).sum = (Ns.take k).sum + N := by
  rw [List.take_add_one, h]; simp
theorem sum_take_le (Ns : List Nat) (k : Nat) : (Ns.take k).sum ≤ Ns.sum := by
  conv => rhs; rw [← List.take_append_drop k Ns]
  rw [List.sum_append]; omega
theorem One.later {w : World} {g : Nat} {v : Value} {T : TypeId} (h : w.heap[g]? = some (.cells #[v] T (0, 0))) (g' i : Nat) (u : Value) (hne : g ≠ g' := by simp) : (w.setCell ⟨g', i, none⟩ u).cell? ⟨g, 0, none⟩ = some v ∧ (w.setCell ⟨g', i, none⟩ u).frozen? ⟨g, 0, none⟩ = false :=
  ⟨cell_of_row _ _ 0 _ _ _ (hsc h hne), frozen_of_row _ _ _ _ _ (hsc h hne)⟩
/-- two calls: a sum (or product) of words, and what is made of it -/
theorem RetWs.sl {T : TypeId} {w w' : World} {n N : Nat} {e : Ending} (h : RetWs T w n N e w') : ∃ S : List UInt64, e = .returned (.slice (some ⟨w.heap.size, 0, none⟩) n n) ∧ Sl W64 w' (some ⟨w.heap.size, 0, none⟩) n n S ∧ Lies T w' (some ⟨w.heap.size, 0, none⟩) ∧ valW S = N ∧ Below w.heap.size w w' := by
  obtain ⟨S, he, ho, hv, hb⟩ := h
  exact ⟨S, he, Sl.of_owns ho, lies_of_owns ho, hv, hb⟩
end Go.By
namespace Go.Proofs.YtbfmdfbnhakolaaGreatDoor
open Go.RowKit Go.By
/-- words, of which a number is made next -/
def RetThen (w : World) (N : Nat) (e : Ending) (w1 : World) : Prop :=
  ∃ g n, e = .returned (.slice (some ⟨g, 0, none⟩) n n) ∧ Below w.heap.size w w1 ∧ Hid (Calls Tryz.prog 56 #[.slice (some ⟨g, 0, none⟩) n n] w1 (RetMn 69 w1 N))
theorem times_then (p q : Option Addr) (n c m d M N : Nat) (w : World) (h1 : Ws 69 w p n c M) (h2 : Ws 69 w q m d N) :
    Calls Tryz.prog 81 #[.slice p n c, .slice q m d] w (RetThen w (M * N)) := by
  obtain ⟨xs, s1, n1, v1⟩ := h1.ex
  obtain ⟨ys, s2, n2, v2⟩ := h2.ex
  refine (timesN_any p q n c m d xs ys w s1 s2 (by have := h1.le; omega) (by have := h2.le; omega)).mono ?_
  rintro e w1 hr
  obtain ⟨S, rfl, hs, hl, hv, hb⟩ := hr.sl
  refine ⟨_, _, rfl, hb, ?_⟩
  have := made_any _ _ _ S w1 hs hl
  rw [hv, v1, v2] at this
  exact this
end Go.Proofs.YtbfmdfbnhakolaaGreatDoor
namespace Go.By
open Go.RowKit
def mulL : List Nat → Nat
  | [] => 1
  | x :: xs => x * mulL xs
theorem mulL_snoc : ∀ (xs : List Nat) (x : Nat), mulL (xs ++ [x]) = mulL xs * x
  | [], x => by simp [mulL]
  | y :: ys, x => by show y * mulL (ys ++ [x]) = y * mulL ys * x; rw [mulL_snoc ys x, Nat.mul_assoc]
theorem mulL_take {Ns : List Nat} {k N : Nat} (h : Ns[k]? = some N) : mulL (Ns.take (k + 1)) = mulL (Ns.take k) * N := by
  rw [List.take_add_one, h]; exact mulL_snoc _ _
/-- a product, or that one on the way is too great -/
def RetP (T : TypeId) (w : World) (Ns : List Nat) (e : Ending) (w' : World) : Prop := ((∀ j, mulL (Ns.take j) < capN) ∧ RetN T w (mulL Ns) e w') ∨ ((∃ j, capN ≤ mulL (Ns.take j)) ∧ Ret0 w 16 e w')
end Go.By
namespace Go.Proofs.YtbfmdfbnhakolaaGreatDoor
open Go.RowKit Go.By
theorem Of_one (W : World) : Calls Tryz.prog 27 #[.int .u64 1] W (RetN1 69 W 1) := OfN_any 1 W
set_option maxRecDepth 100000 in
set_option maxHeartbeats 2000000 in
theorem Mul_nat (p : Option Addr) (k c : Nat) (Ns : List Nat) (w : World) (h : Nsl 69 w p k c Ns) :
    Calls Tryz.prog 57 #[.slice p k c] w (RetP 69 w Ns) := by
  have hinfo := info_nat
  have hkm := h.max
  have H := Lib.hid h; clear h
  go_enter Tryz.func57, Tryz.ntmps57
  go_wp2_with fail
  refine Calls.mono (Of_one _) ?_
  rintro e w1 ⟨q1, n1, c1, rfl, hw1, hb1⟩
  have k0 : w1.heap[w.heap.size]? = some (.cells #[.slice none 0 0] 40 (0, 0)) := (hb1.block _ (by simp)).trans (hnew rfl)
  have HB : Hid (Below w.heap.size w w1) := bl (al (Below.refl _ _) (Nat.le_refl _)) hb1 (by simp)
  have K0 : Hid (∀ o, (w1.alloc o).heap[w.heap.size]? = some (.cells #[.slice none 0 0] 40 (0, 0))) := fun o => hal k0
  have HW1 : Hid (∀ o, Ws 69 (w1.alloc o) q1 n1 c1 1) := fun o => hw1.keep (al (Below.refl _ _) (Nat.le_refl _))
  have HG : Hid (w.heap.size ≠ w1.heap.size ∧ w.heap.size ≤ w1.heap.size) := ⟨by have := blk_lt k0; omega, by have := blk_lt k0; omega⟩
  clear k0 hw1 hb1
  go_wp2
  go_loopw [11] (fun i wr => ∃ (j : Nat) (q : Option Addr) (n d : Nat), j ≤ k ∧ i = .int .i64 j ∧ Hid (wr.heap[w.heap.size]? = some (.cells #[.slice none 0 0] 40 (0, 0))) ∧ Hid (wr.heap[w1.heap.size]? = some (.cells #[.slice q n d] 40 (0, 0))) ∧ Hid (Ws 69 wr q n d (mulL (Ns.take j))) ∧ Hid (∀ i, i ≤ j → mulL (Ns.take i) < capN) ∧ Hid (Below w.heap.size w wr)) (fun i _ => k - (intOf i).toNat)
  case atStart =>
    refine ⟨0, q1, n1, c1, Nat.zero_le _, rfl, K0.out _, hnew rfl, ?_, ?_, al HB.out HG.out.2⟩
    · show Ws _ _ _ _ _ (mulL (Ns.take 0))
      rw [List.take_zero]; exact HW1.out _
    · intro i hi
      obtain rfl : i = 0 := by omega
      rw [List.take_zero]; exact (HW1.out (.cells #[] 0)).lt
  case round =>
    obtain ⟨j, q, n, d, hj, rfl, h0, h1, hw, hcaps, hB⟩ := hrel
    obtain ⟨_, a1, a2, a3, a4⟩ := One.of h0.out
    obtain ⟨_, b1, b2, b3, b4⟩ := One.of h1.out
    have hsz := hB.out.size
    by_cases hlt : j < k
    · obtain ⟨N, hN⟩ : ∃ N, Ns[j]? = some N := ⟨Ns[j]'(by rw [H.out.len]; exact hlt), List.getElem?_eq_getElem _⟩
      obtain ⟨b, o, q2, m, d2, rfl, hc, hw2⟩ := H.out.elt j N hN
      have hcw := (hB.out.cell (p := ⟨b, o + j, none⟩) (lt_of_cell hc)).trans hc
      have hw2' : Hid (Ws 69 wr q2 m d2 N) := hw2.keep hB.out
      have hjk : (j : Int) < (k : Int) := by omega
      have HN := Lib.hid hN
      clear hc hw2 hN hlt
      go_wp2_with fail
      refine Calls.mono (times_then _ _ _ _ _ _ _ _ _ (hw.out.keep (al (Below.refl _ _) (Nat.le_refl _))) (hw2'.out.keep (al (Below.refl _ _) (Nat.le_refl _)))) ?_
      rintro e w4 ⟨g, nn, rfl, hb4, hmade⟩
      go_wp2_with fail
      refine Calls.mono hmade.out ?_
      rintro e w5 hr
      have hb45 : Below wr.heap.size w4 w5 → Below wr.heap.size wr w5 := fun h => (bl (al (Below.refl _ _) (Nat.le_refl _)) hb4 (by simp)).trans h
      have hsz4 := hb4.size
      simp at hsz4
      rcases hr with ⟨hcap, q5, n5, c5, rfl, hw5, hb5⟩ | ⟨hcap, rfl, hb5⟩
      · have hb6 := hb45 (hb5.mono (by omega))
        have k0 : w5.heap[w.heap.size]? = some (.cells #[.slice none 0 0] 40 (0, 0)) := (hb6.block _ (blk_lt h0.out)).trans h0.out
        have k1 : w5.heap[w1.heap.size]? = some (.cells #[.slice q n d] 40 (0, 0)) := (hb6.block _ (blk_lt h1.out)).trans h1.out
        obtain ⟨_, x1, x2, x3, x4⟩ := One.of k1
        have F : Hid ((w5.setCell ⟨w1.heap.size, 0, none⟩ (.slice q5 n5 c5)).heap[w.heap.size]? = some (.cells #[.slice none 0 0] 40 (0, 0)) ∧ (w5.setCell ⟨w1.heap.size, 0, none⟩ (.slice q5 n5 c5)).heap[w1.heap.size]? = some (.cells #[.slice q5 n5 c5] 40 (0, 0)) ∧ Ws 69 (w5.setCell ⟨w1.heap.size, 0, none⟩ (.slice q5 n5 c5)) q5 n5 c5 (mulL (Ns.take (j + 1))) ∧ (∀ i, i ≤ j + 1 → mulL (Ns.take i) < capN) ∧ Below w.heap.size w (w5.setCell ⟨w1.heap.size, 0, none⟩ (.slice q5 n5 c5))) :=
          ⟨hsc k0 HG.out.1, hss k1, by rw [mulL_take HN.out]; exact hw5.set k1 (by decide), fun i hi => by
            rcases Nat.lt_or_ge i (j + 1) with h | h
            · exact hcaps.out i (by omega)
            · obtain rfl : i = j + 1 := by omega
              rw [mulL_take HN.out]; exact hcap, ((hB.out.trans (hb6.mono (by omega)))).setCell HG.out.2 _⟩
        clear hb6 hb5 hb4 hw5 k0 k1 hb45 hcap hmade
        go_wp2
        go_roundw
        case rel => exact ⟨j + 1, _, _, _, by omega, by go_num, F.out.1, F.out.2.1, F.out.2.2.1, F.out.2.2.2.1, F.out.2.2.2.2⟩
        case measure => simp [intOf]; omega
      · have hb6 := hb45 (hb5.mono (by omega))
        have k0 : w5.heap[w.heap.size]? = some (.cells #[.slice none 0 0] 40 (0, 0)) := (hb6.block _ (blk_lt h0.out)).trans h0.out
        have k1 : w5.heap[w1.heap.size]? = some (.cells #[.slice q n d] 40 (0, 0)) := (hb6.block _ (blk_lt h1.out)).trans h1.out
        obtain ⟨_, x1, x2, x3, x4⟩ := One.of k1
        obtain ⟨y1, y2⟩ := One.later k0 w1.heap.size 0 (.slice none 0 0) HG.out.1
        have K0 := Lib.hid (hsc k0 (show w.heap.size ≠ (⟨w1.heap.size, 0, none⟩ : Addr).block from HG.out.1) (v := .slice none 0 0))
        have F : Hid (capN ≤ mulL (Ns.take (j + 1)) ∧ Below w.heap.size w ((w5.setCell ⟨w1.heap.size, 0, none⟩ (.slice none 0 0)).setCell ⟨w.heap.size, 0, none⟩ (.slice none 0 0))) :=
          ⟨by rw [mulL_take HN.out]; exact hcap, ((hB.out.trans (hb6.mono (by omega))).setCell HG.out.2 _).setCell (Nat.le_refl _) _⟩
        clear hb6 hb5 hb4 k0 k1 hb45 hcap hmade
        go_wp2
        exact bodyPost_ret (res_cell_tmp rfl _ _ _ 40 #[.slice none 0 0] (0, 0) _ (.int .i64 16) rfl (hss K0.out) rfl Tryz.underlying40 rfl hinfo) rfl (Or.inr ⟨⟨_, F.out.1⟩, rfl, F.out.2⟩)
    · obtain rfl : j = k := by omega
      have F : Hid (mulL (Ns.take j) = mulL Ns ∧ ∀ i, mulL (Ns.take i) < capN) := by
        have e : Ns.take j = Ns := List.take_of_length_le (by have := H.out.len; omega)
        refine ⟨by rw [e], fun i => ?_⟩
        rcases Nat.lt_or_ge i (j + 1) with h | h
        · exact hcaps.out i (by omega)
        · rw [List.take_of_length_le (by have := H.out.len; omega), ← e]; exact hcaps.out j (Nat.le_refl _)
      rw [F.out.1] at hw
      have HWE : Hid (Ws 69 (wr.setCell ⟨w.heap.size, 0, none⟩ (.slice q n d)) q n d (mulL Ns) ∧ (∀ i, mulL (Ns.take i) < capN) ∧ Below w.heap.size w (wr.setCell ⟨w.heap.size, 0, none⟩ (.slice q n d))) := ⟨hw.out.set h0.out (by decide), F.out.2, hB.out.setCell (Nat.le_refl _) _⟩
      clear hw hlt
      go_wp2
      exact bodyPost_ret (res_cell_tmp rfl _ _ _ 40 #[.slice q n d] (0, 0) _ (.int .i64 0) rfl (hss h0.out) rfl Tryz.underlying40 rfl hinfo) rfl (Or.inl ⟨HWE.out.2.1, _, _, _, rfl, HWE.out.1, HWE.out.2.2⟩)
end Go.Proofs.YtbfmdfbnhakolaaGreatDoor
namespace Go.By
open Go.RowKit
theorem repeat48 : ∀ c, Lib.repeatL [48] c = List.replicate c 48
  | 0 => rfl
  | c + 1 => by rw [List.replicate_succ, ← repeat48 c]; rfl
theorem tLen {n k : Nat} (h : n < 16 ^ k) : (hexText n).length ≤ k + 1 := by
  rcases Nat.eq_zero_or_pos k with h0 | h0
  · subst h0
    have : n = 0 := by simpa using h
    subst this; simp [hexText]
  · have := hexText_len h0 h; omega
theorem wordsText {ws : List UInt64} : (hexText (valW ws)).length ≤ 16 * ws.length + 1 := by
  refine tLen ?_
  have := valW_lt ws
  rw [show (18446744073709551616 : Nat) = 16 ^ 16 from rfl, ← Nat.pow_mul] at this
  exact this
end Go.By
namespace Go.Proofs.YtbfmdfbnhakolaaGreatDoor
open Go.RowKit Go.By
theorem FormatUint_s (n : UInt64) (w : World) (hT : Tab w) : Calls Tryz.prog 32 #[W64 n, .int .i64 16] w fun e w' => e = .returned (.string (strB (hexText n.toNat))) ∧ Below w.heap.size w w' := FormatUint_16 n w hT
theorem Write_s (B b : Nat) (t s : List UInt8) (w : World) (h : Lib.IsBuilder 75 5 B b (Lib.byteCells t) w) (hlen : t.length + s.length ≤ 100000000) (hBw : B ≤ w.heap.size) :
    Calls Tryz.prog 31 #[.pointer (some ⟨b, 0, none⟩), .string (strB s)] w fun e w' => e = .returned (.tuple #[.int .i64 s.length, .nilIface]) ∧ Lib.BuilderAt 75 5 B b (.pointer (some ⟨b, 0, none⟩)) (Lib.byteCells (t ++ s)) w' ∧ Below B w w' := by
  have := Any.Builder_WriteString (ρ := Tryz.lays105_ren) { Tryz.lays105 with } Tryz.Builder_Extra_105 B b (Lib.byteCells t) (strB s) w h (by rw [Lib.byteCells_length, strB_size]; omega) hBw
  refine Calls.mono this ?_
  rintro e w' ⟨rfl, h1, h2⟩
  rw [strB_cells, bytes_append] at h1
  rw [strB_size]
  exact ⟨rfl, h1, h2⟩
theorem String_s (B b : Nat) (t : List UInt8) (w : World) (h : Lib.IsBuilder 75 5 B b (Lib.byteCells t) w) (hBw : B ≤ w.heap.size) :
    Calls Tryz.prog 34 #[.pointer (some ⟨b, 0, none⟩)] w fun e w' => e = .returned (.string (strB t)) ∧ Below B w w' := Tryz.Builder_String_any B b t w h hBw
theorem Repeat_s (c : Nat) (w : World) (hc : c ≤ 1000) : Calls Tryz.prog 33 #[.string ⟨#[48]⟩, .int .i64 c] w fun e w' => e = .returned (.string (strB (List.replicate c 48))) ∧ Below w.heap.size w w' := by
  have := Tryz.strings_Repeat ⟨#[48]⟩ c w (by omega) (by show 1 * c ≤ _; omega)
  refine this.mono ?_
  rintro e w' ⟨rfl, h⟩
  exact ⟨by rw [show (⟨#[48]⟩ : ByteArray).data.toList = [48] from rfl, repeat48]; rfl, h⟩
set_option maxRecDepth 100000 in
set_option maxHeartbeats 2000000 in
theorem Text_nat (p : Option Addr) (n c N : Nat) (w : World) (h : Ws 69 w p n c N) (hT : Tab w) :
    Calls Tryz.prog 13 #[.agg #[.slice p n c]] w fun e w' => e = .returned (.string (strB (hexText N))) ∧ Below w.heap.size w w' := by
  obtain ⟨ws, hs, hnorm, rfl⟩ := h.ex
  have hle := h.le
  have hnc := hs.le
  have HB : Hid (∀ o, Below w.heap.size w (w.alloc o)) := fun o => al (Below.refl _ _) (Nat.le_refl _)
  rcases Nat.eq_zero_or_pos n with h0 | h0
  · subst h0
    have : ws = [] := List.eq_nil_of_length_eq_zero hs.len
    subst this
    clear h hs hnorm
    go_enter Tryz.func13, Tryz.ntmps13
    go_wp2
    go_ret
    exact ⟨by rw [show hexText (valW []) = [48] from rfl]; rfl, HB.out _⟩
  · obtain ⟨k, rfl⟩ : ∃ k, n = k + 1 := ⟨n - 1, by omega⟩
    obtain ⟨b, o, x, rfl, hc, hx⟩ := hs.at k (by omega)
    have hc2 : ∀ o1 o2, ((w.alloc o1).alloc o2).cell? ⟨b, o + k, none⟩ = some (W64 x) := fun o1 o2 => ((al (al (Below.refl _ _) (Nat.le_refl _)) (by simp) : Below w.heap.size w ((w.alloc o1).alloc o2)).cell (p := ⟨b, o + k, none⟩) (lt_of_cell hc)).trans hc
    obtain ⟨W, hW⟩ : ∃ W, W = (w.alloc (.cells #[.slice (some ⟨b, o, none⟩) (k + 1) c] 40)).alloc (.cells #[.pointer none, .slice none 0 0] 75) := ⟨_, rfl⟩
    have hbW : Below w.heap.size w W := by rw [hW]; exact al (al (Below.refl _ _) (Nat.le_refl _)) (by simp)
    have hszW : W.heap.size = w.heap.size + 2 := by rw [hW]; simp
    have t0 : W.heap[w.heap.size]? = some (.cells #[.slice (some ⟨b, o, none⟩) (k + 1) c] 40 (0, 0)) := by rw [hW]; exact hal (hnew rfl)
    have t1 : W.heap[w.heap.size + 1]? = some (.cells #[.pointer none, .slice none 0 0] 75 (0, 0)) := by rw [hW]; exact hnew (by simp)
    have hcW := (hbW.cell (p := ⟨b, o + k, none⟩) (lt_of_cell hc)).trans hc
    obtain ⟨_, a1, a2, a3, a4⟩ := One.of t0
    have HBd : Hid (Lib.IsBuilder 75 5 (w.heap.size + 1) (w.heap.size + 1) (Lib.byteCells []) W) := Or.inl ⟨Nat.le_refl _, _, t1, World.ownsRow_nil _ _ _ _, by simp [Value.ownBlock]⟩
    have HBW := Lib.hid hbW
    have HT : Hid (Tab W) := hT.keep hbW
    have HT0 := Lib.hid hT
    have HS := Lib.hid hs; have HN := Lib.hid hnorm
    have T0 := Lib.hid t0
    have HX := Lib.hid hx
    have hx16 : (hexText x.toNat).length ≤ 16 := (hex_pad (k := 16) (by decide) (by have := x.toNat_lt; simpa using this)).2
    have HX16 := Lib.hid hx16
    clear h hs hnorm hc hbW t0 t1 hT hx hx16
    go_enter Tryz.func13, Tryz.ntmps13
    go_wp2_with fail
    rw [← hW]
    clear hW
    refine Calls.mono (FormatUint_s x W HT.out) ?_
    rintro e w1 ⟨rfl, hb1⟩
    have hsz1 := hb1.size
    have HB1 := Lib.hid hb1
    clear hb1
    go_wp2_with fail
    refine Calls.mono (Write_s (w.heap.size + 1) (w.heap.size + 1) [] (hexText x.toNat) w1 (HBd.out.imp (fun h => BuilderAt.keep h HB1.out) (fun h => BuilderAt.keep h HB1.out)) (by have := HX16.out; simp; omega) (by omega)) ?_
    rintro e w2 ⟨rfl, hbd2, hb2⟩
    have HW2 : Hid (Lib.BuilderAt 75 5 (w.heap.size + 1) (w.heap.size + 1) (.pointer (some ⟨w.heap.size + 1, 0, none⟩)) (Lib.byteCells (hexText (valW (ws.drop k)))) w2) := by
      have e : valW (ws.drop k) = x.toNat := by
        rw [drop_cons HX.out, List.drop_of_length_le (by have := HS.out.len; omega), valW_one]
      show Lib.BuilderAt _ _ _ _ _ _ _
      rw [e]; exact hbd2
    have k0 : w2.heap[w.heap.size]? = some (.cells #[.slice (some ⟨b, o, none⟩) (k + 1) c] 40 (0, 0)) := (hb2.block _ (by omega)).trans ((HB1.out.block _ (blk_lt T0.out)).trans T0.out)
    have HB2 : Hid (Below w.heap.size w w2) := (HBW.out.trans (HB1.out.mono (by omega))).trans (hb2.mono (by omega))
    have hsz2 := hb2.size
    have K0 := Lib.hid k0
    clear hbd2 hb2 k0
    go_wp2
    go_loopw [22] (fun i wr => ∃ j : Nat, j ≤ k ∧ i = .int .i64 j ∧ Hid (Lib.BuilderAt 75 5 (w.heap.size + 1) (w.heap.size + 1) (.pointer (some ⟨w.heap.size + 1, 0, none⟩)) (Lib.byteCells (hexText (valW (ws.drop (k - j))))) wr) ∧ Hid (wr.heap[w.heap.size]? = some (.cells #[.slice (some ⟨b, o, none⟩) (k + 1) c] 40 (0, 0))) ∧ w.heap.size + 2 ≤ wr.heap.size ∧ Hid (Below w.heap.size w wr)) (fun i _ => k - (intOf i).toNat)
    case atStart => exact ⟨0, Nat.zero_le _, rfl, HW2.out, K0.out, by omega, HB2.out⟩
    case round =>
      clear HW2 K0 HB2
      obtain ⟨i, hik, rfl, hbd, h0, hszr, hB⟩ := hrel
      obtain ⟨_, a1, a2, a3, a4⟩ := One.of h0.out
      by_cases hlt : i < k
      · obtain ⟨j, hj⟩ : ∃ j, k = i + j + 1 := ⟨k - i - 1, by omega⟩
        obtain ⟨b', o', y, hp, hc, hy⟩ := HS.out.at j (by omega)
        cases hp
        have hcy := (hB.out.cell (p := ⟨b, o + j, none⟩) (lt_of_cell hc)).trans hc
        have hidx : (k : Int) + 1 - 2 - (i : Int) = (j : Int) := by omega
        have hik' : (i : Int) < (k : Int) := by omega
        have HJ := Lib.hid hj
        have hy16 : (hexText y.toNat).length ≤ 16 := (hex_pad (k := 16) (by decide) (by have := y.toNat_lt; simpa using this)).2
        obtain ⟨m, hm⟩ : ∃ m, (hexText y.toNat).length = m := ⟨_, rfl⟩
        have hsm : (strB (hexText y.toNat)).size = m := by rw [strB_size, hm]
        rw [hm] at hy16
        obtain ⟨r, hr⟩ : ∃ r, 16 - m = r := ⟨_, rfl⟩
        have hr16 : (16 : Int) - (m : Int) = (r : Int) := by omega
        have HR : Hid (r + m = 16) := by show _ = _; omega
        have HM := Lib.hid hm
        have HY := Lib.hid hy
        have hstep : Hid (hexText (valW (ws.drop j)) = hexText (valW (ws.drop (k - i))) ++ List.replicate r 48 ++ hexText y.toNat ∧ (hexText (valW (ws.drop (k - i)))).length ≤ 16 * 513) := by
          have e1 : k - i = j + 1 := by omega
          rw [e1]
          refine ⟨?_, ?_⟩
          · rw [valW_drop hy.out]
            have := (text_step (w := y.toNat) (n := valW (ws.drop (j + 1))) y.toNat_lt (HN.out.drop_pos (by have := HS.out.len; omega))).1
            rw [this, hm, hr, List.append_assoc]
          · have := wordsText (ws := ws.drop (j + 1))
            have h2 := HS.out.len
            rw [List.length_drop] at this
            omega
        have HTr : Hid (Tab wr) := HT0.out.keep hB.out
        obtain ⟨Z, hZ⟩ : ∃ Z, Z = hexText (valW (ws.drop (k - i))) := ⟨_, rfl⟩
        rw [← hZ] at hbd hstep
        obtain ⟨Y, hY⟩ : ∃ Y, Y = hexText y.toNat := ⟨_, rfl⟩
        rw [← hY] at hsm hstep HM
        have HF : Hid (Calls Tryz.prog 32 #[W64 y, .int .i64 16] wr fun e w' => e = .returned (.string (strB Y)) ∧ Below wr.heap.size wr w') := by rw [hY]; exact FormatUint_s y wr HTr.out
        have H0 := Lib.hid h0.out
        clear hc hlt hm hj hy hY hZ h0 hr
        go_wp2_with fail
        refine Calls.mono HF.out ?_
        rintro e w3 ⟨rfl, hb3⟩
        have B3 := Lib.hid hb3
        have hsz3 := hb3.size
        clear hb3
        go_wp2_with fail
        refine Calls.mono (Repeat_s r w3 (by have := HR.out; omega)) ?_
        rintro e w4 ⟨rfl, hb4⟩
        have B4 : Hid (Below wr.heap.size wr w4) := B3.out.trans (hb4.mono hsz3)
        have hsz4 := hb4.size
        clear hb4
        go_wp2_with fail
        refine Calls.mono (Write_s (w.heap.size + 1) (w.heap.size + 1) Z (List.replicate r 48) w4 (Or.inr (BuilderAt.keep hbd.out B4.out)) (by have := hstep.out.2; have := HR.out; rw [List.length_replicate]; omega) (by omega)) ?_
        rintro e w5 ⟨rfl, hbd5, hb5⟩
        have H5 := Lib.hid hbd5
        have B5 := Lib.hid hb5
        have hsz5 := hb5.size
        clear hbd5 hb5
        go_wp2_with fail
        refine Calls.mono (Write_s (w.heap.size + 1) (w.heap.size + 1) (Z ++ List.replicate r 48) Y w5 (Or.inr H5.out) (by have := hstep.out.2; have := HM.out; have := HR.out; rw [List.length_append, List.length_replicate]; omega) (by omega)) ?_
        rintro e w6 ⟨rfl, hbd6, hb6⟩
        have hsz6 := hb6.size
        have F : Hid (Lib.BuilderAt 75 5 (w.heap.size + 1) (w.heap.size + 1) (.pointer (some ⟨w.heap.size + 1, 0, none⟩)) (Lib.byteCells (hexText (valW (ws.drop (k - (i + 1)))))) w6 ∧ w6.heap[w.heap.size]? = some (.cells #[.slice (some ⟨b, o, none⟩) (k + 1) c] 40 (0, 0)) ∧ Below w.heap.size w w6) := by
          refine ⟨?_, ?_, ?_⟩
          · rw [show k - (i + 1) = j by have := HJ.out; omega, hstep.out.1]; exact hbd6
          · exact (hb6.block _ (by omega)).trans ((B5.out.block _ (by omega)).trans ((B4.out.block _ (by omega)).trans H0.out))
          · exact (((hB.out.trans (B4.out.mono (by omega))).trans (B5.out.mono (by omega))).trans (hb6.mono (by omega)))
        clear hbd6 hb6
        go_wp2
        go_roundw
        case rel => exact ⟨i + 1, by have := HJ.out; omega, by go_num, F.out.1, F.out.2.1, by omega, F.out.2.2⟩
        case measure => simp [intOf]; have := HJ.out; omega
      · obtain rfl : i = k := by omega
        have F : Hid (Lib.BuilderAt 75 5 (w.heap.size + 1) (w.heap.size + 1) (.pointer (some ⟨w.heap.size + 1, 0, none⟩)) (Lib.byteCells (hexText (valW ws))) wr) := by
          have := hbd.out
          rw [Nat.sub_self, List.drop_zero] at this
          exact this
        clear hlt hbd
        go_wp2_with fail
        refine Calls.mono (String_s (w.heap.size + 1) (w.heap.size + 1) (hexText (valW ws)) wr (Or.inr F.out) (by omega)) ?_
        rintro e w6 ⟨rfl, hb6⟩
        have F2 : Hid (Below w.heap.size w w6) := hB.out.trans (hb6.mono (by omega))
        clear hb6
        go_wp2
        go_ret
        exact ⟨rfl, F2.out⟩
end Go.Proofs.YtbfmdfbnhakolaaGreatDoor
namespace Go.By
open Go.RowKit
theorem low_or : ∀ x : Fin 256, 97 ≤ x.val → x.val ≤ 102 → bits .or .u8 (x.val : Int) 32 = (x.val : Int) := by decide +kernel
theorem valT_take {l : List UInt8} {k : Nat} {c : UInt8} (h : l[k]? = some c) : valT (l.take (k + 1)) = hexd c + 16 * valT (l.take k) := by
  rw [List.take_add_one, h]; exact valT_snoc _ _
theorem isHex_iff {c : UInt8} : isHex c = true ↔ (48 ≤ c.toNat ∧ c.toNat ≤ 57) ∨ (97 ≤ c.toNat ∧ c.toNat ≤ 102) := by
  unfold isHex; rw [Bool.or_eq_true, decide_eq_true_eq, decide_eq_true_eq]
end Go.By
namespace Go.Proofs.YtbfmdfbnhakolaaGreatDoor
open Go.RowKit Go.By
end Go.Proofs.YtbfmdfbnhakolaaGreatDoor
namespace Go.By
open Go.RowKit
theorem idx_strB {P : Program} (t : TypeId) (ht : P.underlying t = some .string) {l : List UInt8} {k : Nat} {c : UInt8} (h : l[k]? = some c) (K : IntKind) (z : Int) (hz : z = (k : Int)) (w : World) :
    (Instr.index t (.string (strB l)) (.int K z)).run P w = .ok (B8 c) w := by
  subst hz
  obtain ⟨hk, e⟩ := List.getElem?_eq_some_iff.1 h
  rw [run_index_string w t (strB l) _ _ ht, dif_pos ⟨by omega, by rw [strB_size]; omega⟩]
  have e1 : ((k : Int)).toNat = k := by omega
  simp only [e1]
  have hsz : k < (strB l).size := by rw [strB_size]; exact hk
  have h2 : (strB l).data[k]? = some ((strB l)[k]'hsz) := Array.getElem?_eq_getElem hsz
  rw [← Array.getElem?_toList, strB_data, h] at h2
  rw [← Option.some.inj h2]
theorem extract_strB (l : List UInt8) (i j : Nat) : (strB l).extract i j = strB ((l.take j).drop i) := by
  rw [strB_of ((strB l).extract _ _)]
  congr 1
  rw [Lib.extract_data, strB_data]
  simp [List.extract_eq_take_drop, List.drop_take]
theorem empty_strB {l : List UInt8} : (strB l).toList.isEmpty = l.isEmpty := by
  rw [← decide_eq_emptyBytes]
  cases l with
  | nil => exact decide_eq_true rfl
  | cons c r => exact decide_eq_false (fun h => by have := congrArg (fun s : ByteArray => s.data.toList) h; rw [show (strB (c :: r)).data.toList = c :: r from strB_data _] at this; cases this)
/-- is a text a number's? -/
def goodT (l : List UInt8) : Bool := match l with
  | [] => false
  | c :: r => (decide (c ≠ 48) || r.isEmpty) && (c :: r).all isHex
theorem one_cell {w : World} {v : Value} {T g : Nat} (hg : g = w.heap.size) : ∀ (j : Nat) (u : Value), [v][j]? = some u → (w.alloc (.cells #[v] T)).cell? ((⟨g, 0, none⟩ : Addr).add j) = some u := by
  intro j u hj
  rw [Addr.add_lit, Nat.zero_add, cell_of_row _ _ j _ _ _ (hnew hg)]
  match j with
  | 0 => simpa using hj
  | j + 1 => simp at hj
end Go.By
namespace Go.Proofs.YtbfmdfbnhakolaaGreatDoor
open Go.RowKit Go.By
/-- what Parse says of a text whose beginning is in order -/
def RetT (w : World) (l : List UInt8) (e : Ending) (w' : World) : Prop := (l.all isHex = true ∧ RetN 69 w (valT l) e w') ∨ (l.all isHex = false ∧ Ret0 w 14 e w')
/-- what Parse says of any text that isn't too long -/
def RetParse (w : World) (l : List UInt8) (e : Ending) (w' : World) : Prop := (goodT l = true ∧ RetN 69 w (valT l) e w') ∨ (goodT l = false ∧ Ret0 w 14 e w')
theorem goodT_hexText (n : Nat) : goodT (hexText n) = true := by
  cases h : hexText n with
  | nil => exact absurd h (hexText_ne n)
  | cons c r =>
    show ((decide (c ≠ 48) || r.isEmpty) && (c :: r).all isHex) = true
    have h1 : (c :: r).all isHex = true := by rw [← h, List.all_eq_true]; exact hexText_hex n
    rw [h1, Bool.and_true]
    rcases hexText_head h with hc | hr
    · rw [decide_eq_true hc]; rfl
    · rw [hr]; simp
end Go.Proofs.YtbfmdfbnhakolaaGreatDoor
namespace Go.By
open Go.RowKit
theorem strB_append (a b : List UInt8) : strB a ++ strB b = strB (a ++ b) := by
  rw [strB_of (strB a ++ strB b)]
  congr 1
/-- bytes that read as a list, where they were, or a part of them -/
def RetTr (w : World) (xs : List UInt8) (e : Ending) (w' : World) : Prop := ∃ q n c, e = .returned (.slice q n c) ∧ Sl B8 w q n c xs ∧ w = w'
theorem nibs_snoc : ∀ (ys : List Nat) (y : Nat), nibs (ys ++ [y]) = nibs ys ++ [y % 16, y / 16]
  | [], y => rfl
  | z :: zs, y => by show z % 16 :: z / 16 :: nibs (zs ++ [y]) = _; rw [nibs_snoc zs y]; rfl
/-- the letters of bytes, the highest first -/
def nibT (xs : List UInt8) : List UInt8 := (nibs (xs.map UInt8.toNat)).reverse.map hexc
theorem nibT_take {xs : List UInt8} {k : Nat} {x : UInt8} (h : xs[k]? = some x) : nibT (xs.take (k + 1)) = hexc (x.toNat / 16) :: hexc (x.toNat % 16) :: nibT (xs.take k) := by
  unfold nibT
  rw [List.take_add_one, h, List.map_append, show List.map UInt8.toNat (some x).toList = [x.toNat] from rfl, nibs_snoc, List.reverse_append, List.map_append]; rfl
theorem nibs_len : ∀ (ys : List Nat), (nibs ys).length = 2 * ys.length
  | [] => rfl
  | z :: zs => by show (nibs zs).length + 1 + 1 = 2 * (zs.length + 1); rw [nibs_len zs]; omega
theorem nibT_len (xs : List UInt8) : (nibT xs).length = 2 * xs.length := by unfold nibT; rw [List.length_map, List.length_reverse, nibs_len, List.length_map]
theorem nibT_text (xs : List UInt8) : (if strip0 (nibT xs) = [] then [48] else strip0 (nibT xs)) = hexText (valB xs) := by
  have := strip_hex (xs := nibs (xs.map UInt8.toNat)) (nibs_lt (bytes_lt xs))
  rw [valD_nibs] at this
  exact this
theorem hexc_lo {d : Nat} (h : d < 10) : (hexc d).toNat = 48 + d := by
  have : ∀ d : Fin 10, (hexc d.val).toNat = 48 + d.val := by decide
  exact this ⟨d, h⟩
theorem hexc_hi {d : Nat} (h : 10 ≤ d) (h2 : d < 16) : (hexc d).toNat = 87 + d := by
  have : ∀ d : Fin 16, 10 ≤ d.val → (hexc d.val).toNat = 87 + d.val := by decide
  exact this ⟨d, h2⟩ h
theorem strip0_step {c : UInt8} {r : List UInt8} (h : r ≠ []) (hc : c = 48) : strip0 (c :: r) = strip0 r := by
  cases r with
  | nil => exact absurd rfl h
  | cons y l => show (if c = 48 then strip0 (y :: l) else _) = _; rw [if_pos hc]
theorem strip0_stop {l : List UInt8} (h : l = [] ∨ (∃ c, l = [c]) ∨ ∃ c r, l = c :: r ∧ c ≠ 48) : strip0 l = l := by
  rcases h with rfl | ⟨c, rfl⟩ | ⟨c, r, rfl, h⟩
  · rfl
  · rfl
  · exact strip0_head h
end Go.By
namespace Go.Proofs.YtbfmdfbnhakolaaGreatDoor
open Go.RowKit Go.By
end Go.Proofs.YtbfmdfbnhakolaaGreatDoor
namespace Go.By
open Go.RowKit
theorem one_cap : 1 < capN := Nat.lt_of_lt_of_le (show 1 < powW 1 by decide) (powW_mono (show 1 ≤ 512 by decide))
theorem RetP.two {T : TypeId} {w w' : World} {M N : Nat} {e : Ending} (h : RetP T w [M, N] e w') (hM : M < capN) : RetMn T w (M * N) e w' := by
  have e2 : mulL [M, N] = M * N := by simp [mulL]
  rcases h with ⟨h1, h2⟩ | ⟨⟨j, hj⟩, h2⟩
  · have := h1 2
    rw [show [M, N].take 2 = [M, N] from rfl, e2] at this
    rw [e2] at h2
    exact Or.inl ⟨this, h2⟩
  · refine Or.inr ⟨?_, h2⟩
    match j, hj with
    | 0, hj => have := one_cap; rw [show mulL ([M, N].take 0) = 1 from rfl] at hj; omega
    | 1, hj => rw [show mulL ([M, N].take 1) = M * 1 from rfl] at hj; omega
    | j + 2, hj => rw [List.take_of_length_le (by simp), e2] at hj; exact hj
theorem RetP.three {T : TypeId} {w w' : World} {M N K : Nat} {e : Ending} (h : RetP T w [M, N, K] e w') (hM : M < capN) (h2 : M * N < capN) (h3 : M * N * K < capN) : RetN T w (M * N * K) e w' := by
  have e3 : mulL [M, N, K] = M * N * K := by simp [mulL, Nat.mul_assoc]
  rcases h with ⟨_, h⟩ | ⟨⟨j, hj⟩, _⟩
  · rwa [e3] at h
  · exfalso
    match j, hj with
    | 0, hj => have := one_cap; rw [show mulL ([M, N, K].take 0) = 1 from rfl] at hj; omega
    | 1, hj => rw [show mulL ([M, N, K].take 1) = M * 1 from rfl] at hj; omega
    | 2, hj => rw [show mulL ([M, N, K].take 2) = M * (N * 1) from rfl, Nat.mul_one] at hj; omega
    | j + 3, hj => rw [List.take_of_length_le (by simp), e3] at hj; omega
/-- a power, or that one on the way is too great -/
def RetW (T : TypeId) (w : World) (N k : Nat) (e : Ending) (w' : World) : Prop := ((∀ j, j ≤ k → N ^ j < capN) ∧ RetN T w (N ^ k) e w') ∨ ((∃ j, j ≤ k ∧ capN ≤ N ^ j) ∧ Ret0 w 16 e w')
end Go.By
namespace Go.Proofs.YtbfmdfbnhakolaaGreatDoor
open Go.RowKit Go.By
set_option maxRecDepth 100000 in
set_option maxHeartbeats 1000000 in
theorem Pow_bad (q : Option Addr) (n c : Nat) (k : Int) (w : World) (hk : k < 0 ∨ 65536 < k) :
    Calls Tryz.prog 28 #[.agg #[.slice q n c], .int .i64 k] w (Ret0 w 2) := by
  have hinfo := info_nat
  have HB : Hid (∀ o o2, Below w.heap.size w ((w.alloc o).alloc o2)) := fun o o2 => al (al (Below.refl _ _) (Nat.le_refl _)) (by simp)
  have HX : Hid (∀ o o2, ((w.alloc o).alloc o2).heap[w.heap.size + 1]? = some o2) := fun o o2 => hnew (by simp)
  rcases hk with h | h
  · go_enter Tryz.func28, Tryz.ntmps28
    go_wp2
    exact bodyPost_ret (res_cell_tmp rfl _ _ _ 40 #[.slice none 0 0] (0, 0) _ (.int .i64 2) rfl (HX.out _ _) rfl Tryz.underlying40 rfl hinfo) rfl ⟨rfl, HB.out _ _⟩
  · have h0 : ¬ k < 0 := by omega
    go_enter Tryz.func28, Tryz.ntmps28
    go_wp2
    exact bodyPost_ret (res_cell_tmp rfl _ _ _ 40 #[.slice none 0 0] (0, 0) _ (.int .i64 2) rfl (HX.out _ _) rfl Tryz.underlying40 rfl hinfo) rfl ⟨rfl, HB.out _ _⟩
set_option maxRecDepth 100000 in
set_option maxHeartbeats 2000000 in
theorem Pow_any (p : Option Addr) (m c N k : Nat) (w : World) (h : Ws 69 w p m c N) (hk : k ≤ 65536) :
    Calls Tryz.prog 28 #[.agg #[.slice p m c], .int .i64 k] w (RetW 69 w N k) := by
  have hinfo := info_nat
  have H := Lib.hid h; clear h
  have hk1 : ¬ (k : Int) < 0 := by omega
  have hk2 : ¬ (65536 : Int) < (k : Int) := by omega
  go_enter Tryz.func28, Tryz.ntmps28
  go_wp2_with fail
  refine Calls.mono (Of_one _) ?_
  rintro e w1 ⟨q1, n1, c1, rfl, hw1, hb1⟩
  have k0 : w1.heap[w.heap.size + 1]? = some (.cells #[.slice none 0 0] 40 (0, 0)) := (hb1.block _ (by simp)).trans (hnew (by simp))
  have k2 : w1.heap[w.heap.size]? = some (.cells #[.slice p m c] 40 (0, 0)) := (hb1.block _ (by simp <;> omega)).trans (hal (hnew rfl))
  have HB : Hid (Below w.heap.size w w1) := bl (al (al (Below.refl _ _) (Nat.le_refl _)) (by simp)) hb1 (by simp <;> omega)
  have K0 : Hid (∀ o, (w1.alloc o).heap[w.heap.size + 1]? = some (.cells #[.slice none 0 0] 40 (0, 0)) ∧ (w1.alloc o).heap[w.heap.size]? = some (.cells #[.slice p m c] 40 (0, 0))) := fun o => ⟨hal k0, hal k2⟩
  have HW1 : Hid (∀ o, Ws 69 (w1.alloc o) q1 n1 c1 1) := fun o => hw1.keep (al (Below.refl _ _) (Nat.le_refl _))
  have HG : Hid (w.heap.size + 1 < w1.heap.size) := by have := blk_lt k0; exact this
  clear k0 k2 hw1 hb1
  go_wp2
  go_loopw [17] (fun i wr => ∃ (j : Nat) (q : Option Addr) (n d : Nat), j ≤ k ∧ i = .int .i64 j ∧ Hid (wr.heap[w.heap.size + 1]? = some (.cells #[.slice none 0 0] 40 (0, 0)) ∧ wr.heap[w.heap.size]? = some (.cells #[.slice p m c] 40 (0, 0))) ∧ Hid (wr.heap[w1.heap.size]? = some (.cells #[.slice q n d] 40 (0, 0))) ∧ Hid (Ws 69 wr q n d (N ^ j)) ∧ Hid (∀ i, i ≤ j → N ^ i < capN) ∧ Hid (Below w.heap.size w wr)) (fun i _ => k - (intOf i).toNat)
  case atStart =>
    refine ⟨0, q1, n1, c1, Nat.zero_le _, rfl, K0.out _, hnew rfl, ?_, ?_, al HB.out (by have := HG.out; omega)⟩
    · show Ws _ _ _ _ _ (N ^ 0)
      exact HW1.out _
    · intro i hi
      obtain rfl : i = 0 := by omega
      exact one_cap
  case round =>
    obtain ⟨j, q, n, d, hj, rfl, h0, h1, hw, hcaps, hB⟩ := hrel
    obtain ⟨_, a1, a2, a3, a4⟩ := One.of h0.out.1
    obtain ⟨_, d1, d2, d3, d4⟩ := One.of h0.out.2
    obtain ⟨_, b1, b2, b3, b4⟩ := One.of h1.out
    have hsz := hB.out.size
    by_cases hlt : j < k
    · have hjk : (j : Int) < (k : Int) := by omega
      clear hlt
      go_wp2_with fail
      refine Calls.mono (Mul_nat _ _ _ _ _ (Nsl.two (hnew rfl) (hw.out.keep (al (Below.refl _ _) (Nat.le_refl _))) ((H.out.keep hB.out).keep (al (Below.refl _ _) (Nat.le_refl _))))) ?_
      rintro e w5 hr0
      have hr := hr0.two (hcaps.out j (Nat.le_refl _))
      have hpow : N ^ j * N = N ^ (j + 1) := (Nat.pow_succ N j).symm
      rw [hpow] at hr
      have hb45 : ∀ {a}, Below (wr.alloc a).heap.size (wr.alloc a) w5 → Below wr.heap.size wr w5 := fun h => (al (Below.refl _ _) (Nat.le_refl _)).trans (h.mono (by simp))
      clear hr0 hpow
      rcases hr with ⟨hcap, q5, n5, c5, rfl, hw5, hb5⟩ | ⟨hcap, rfl, hb5⟩
      · have hb6 := hb45 hb5
        have k0 : w5.heap[w.heap.size + 1]? = some (.cells #[.slice none 0 0] 40 (0, 0)) := (hb6.block _ (blk_lt h0.out.1)).trans h0.out.1
        have k2 : w5.heap[w.heap.size]? = some (.cells #[.slice p m c] 40 (0, 0)) := (hb6.block _ (blk_lt h0.out.2)).trans h0.out.2
        have k1 : w5.heap[w1.heap.size]? = some (.cells #[.slice q n d] 40 (0, 0)) := (hb6.block _ (blk_lt h1.out)).trans h1.out
        obtain ⟨_, x1, x2, x3, x4⟩ := One.of k1
        have hg := HG.out
        have F : Hid (((w5.setCell ⟨w1.heap.size, 0, none⟩ (.slice q5 n5 c5)).heap[w.heap.size + 1]? = some (.cells #[.slice none 0 0] 40 (0, 0)) ∧ (w5.setCell ⟨w1.heap.size, 0, none⟩ (.slice q5 n5 c5)).heap[w.heap.size]? = some (.cells #[.slice p m c] 40 (0, 0))) ∧ (w5.setCell ⟨w1.heap.size, 0, none⟩ (.slice q5 n5 c5)).heap[w1.heap.size]? = some (.cells #[.slice q5 n5 c5] 40 (0, 0)) ∧ Ws 69 (w5.setCell ⟨w1.heap.size, 0, none⟩ (.slice q5 n5 c5)) q5 n5 c5 (N ^ (j + 1)) ∧ (∀ i, i ≤ j + 1 → N ^ i < capN) ∧ Below w.heap.size w (w5.setCell ⟨w1.heap.size, 0, none⟩ (.slice q5 n5 c5))) :=
          ⟨⟨hsc k0 (show w.heap.size + 1 ≠ w1.heap.size by omega), hsc k2 (show w.heap.size ≠ w1.heap.size by omega)⟩, hss k1, hw5.set k1 (by decide), fun i hi => by
            rcases Nat.lt_or_ge i (j + 1) with h | h
            · exact hcaps.out i (by omega)
            · obtain rfl : i = j + 1 := by omega
              exact hcap, ((hB.out.trans (hb6.mono (by omega)))).setCell (show w.heap.size ≤ w1.heap.size by omega) _⟩
        clear hb6 hb5 hw5 k0 k1 k2 hb45 hcap hg
        go_wp2
        go_roundw
        case rel => exact ⟨j + 1, _, _, _, by omega, by go_num, F.out.1, F.out.2.1, F.out.2.2.1, F.out.2.2.2.1, F.out.2.2.2.2⟩
        case measure => simp [intOf]; omega
      · have hb6 := hb45 hb5
        have k0 : w5.heap[w.heap.size + 1]? = some (.cells #[.slice none 0 0] 40 (0, 0)) := (hb6.block _ (blk_lt h0.out.1)).trans h0.out.1
        have k1 : w5.heap[w1.heap.size]? = some (.cells #[.slice q n d] 40 (0, 0)) := (hb6.block _ (blk_lt h1.out)).trans h1.out
        obtain ⟨_, x1, x2, x3, x4⟩ := One.of k1
        have hg := HG.out
        obtain ⟨y1, y2⟩ := One.later k0 w1.heap.size 0 (.slice none 0 0) (by omega)
        have K0 := Lib.hid (hsc k0 (show w.heap.size + 1 ≠ (⟨w1.heap.size, 0, none⟩ : Addr).block from (by show w.heap.size + 1 ≠ w1.heap.size; omega)) (v := .slice none 0 0))
        have F : Hid (capN ≤ N ^ (j + 1) ∧ j + 1 ≤ k ∧ Below w.heap.size w ((w5.setCell ⟨w1.heap.size, 0, none⟩ (.slice none 0 0)).setCell ⟨w.heap.size + 1, 0, none⟩ (.slice none 0 0))) :=
          ⟨hcap, by omega, ((hB.out.trans (hb6.mono (by omega))).setCell (show w.heap.size ≤ w1.heap.size by omega) _).setCell (show w.heap.size ≤ w.heap.size + 1 by omega) _⟩
        clear hb6 hb5 k0 k1 hb45 hcap hg
        go_wp2
        exact bodyPost_ret (res_cell_tmp rfl _ _ _ 40 #[.slice none 0 0] (0, 0) _ (.int .i64 16) rfl (hss K0.out) rfl Tryz.underlying40 rfl hinfo) rfl (Or.inr ⟨⟨_, F.out.2.1, F.out.1⟩, rfl, F.out.2.2⟩)
    · obtain rfl : j = k := by omega
      have HWE : Hid (Ws 69 (wr.setCell ⟨w.heap.size + 1, 0, none⟩ (.slice q n d)) q n d (N ^ j) ∧ (∀ i, i ≤ j → N ^ i < capN) ∧ Below w.heap.size w (wr.setCell ⟨w.heap.size + 1, 0, none⟩ (.slice q n d))) := ⟨hw.out.set h0.out.1 (by decide), hcaps.out, hB.out.setCell (show w.heap.size ≤ w.heap.size + 1 by omega) _⟩
      clear hw hlt
      go_wp2
      exact bodyPost_ret (res_cell_tmp rfl _ _ _ 40 #[.slice q n d] (0, 0) _ (.int .i64 0) rfl (hss h0.out.1) rfl Tryz.underlying40 rfl hinfo) rfl (Or.inl ⟨HWE.out.2.1, _, _, _, rfl, HWE.out.1, HWE.out.2.2⟩)
end Go.Proofs.YtbfmdfbnhakolaaGreatDoor
namespace Go.By
open Go.RowKit
/-- a difference, or that there is none -/
def RetD (T : TypeId) (w : World) (M N : Nat) (e : Ending) (w' : World) : Prop := (N ≤ M ∧ RetN T w (M - N) e w') ∨ (M < N ∧ Ret0 w 2 e w')
theorem sub_end {S A B n c : Nat} (h : S + B = A + 18446744073709551616 ^ n * c) (hS : S < 18446744073709551616 ^ n) (hle : B ≤ A) : S = A - B := by
  rcases Nat.eq_zero_or_pos c with h0 | h0
  · subst h0; rw [Nat.mul_zero] at h; omega
  · have : 18446744073709551616 ^ n * 1 ≤ 18446744073709551616 ^ n * c := Nat.mul_le_mul_left _ h0
    omega
end Go.By
namespace Go.Proofs.YtbfmdfbnhakolaaGreatDoor
open Go.RowKit Go.By
end Go.Proofs.YtbfmdfbnhakolaaGreatDoor
namespace Go.By
open Go.RowKit
theorem hexText_bound (xs : List UInt8) : (hexText (valB xs)).length ≤ 2 * xs.length + 1 := by
  refine tLen ?_
  have := valB_lt xs
  rwa [show (256 : Nat) = 16 ^ 2 from rfl, ← Nat.pow_mul] at this
theorem strB_toList (l : List UInt8) : (strB l).toList = l := by rw [ByteArray.toList_eq, strB_data]
theorem strB_beq (a b : List UInt8) : ((strB a).toList == (strB b).toList) = decide (a = b) := by
  rw [strB_toList, strB_toList]
  by_cases h : a = b
  · subst h; simp
  · rw [decide_eq_false h]; simpa using h
theorem hex_beq (M N : Nat) : ((strB (hexText M)).toList == (strB (hexText N)).toList) = decide (M = N) := by
  rw [strB_beq]
  by_cases h : M = N
  · rw [h]; simp
  · rw [decide_eq_false h, decide_eq_false (fun e => h (hexText_inj e))]
theorem hex255 : hexText 255 = [102, 102] := by
  rw [hexText_big (by decide), show 255 / 16 = 15 from rfl, hexText_small (by decide)]; rfl
theorem hex65025 : hexText 65025 = [102, 101, 48, 49] := by
  rw [hexText_big (by decide), show 65025 / 16 = 4064 from rfl, hexText_big (by decide), show 4064 / 16 = 254 from rfl, hexText_big (by decide), show 254 / 16 = 15 from rfl, hexText_small (by decide)]; rfl
theorem bytesN_len_le (xs : List UInt8) : (bytesN (valB xs)).length ≤ xs.length := by
  rw [bytesN_len]
  exact (lowD_pad (b := 256) (by decide) xs.length (valB xs) (valB_lt xs)).2
end Go.By
namespace Go.Proofs.YtbfmdfbnhakolaaGreatDoor
open Go.RowKit Go.By
end Go.Proofs.YtbfmdfbnhakolaaGreatDoor
namespace Go.By
open Go.RowKit
theorem powW_eq (k : Nat) : powW k = 256 ^ (8 * k) := by
  unfold powW
  rw [show (18446744073709551616 : Nat) = 256 ^ 8 from rfl, ← Nat.pow_mul]
theorem capN_eq {j k : Nat} (hj : j = 512) (hk : k = 8 * j) : capN = 256 ^ k := by
  show powW 512 = _
  rw [← hj, powW_eq, hk]
theorem lt_cap {N k : Nat} (h : N < 256 ^ k) (hk : k ≤ 4096) : N < capN := by
  obtain ⟨j, hj⟩ : ∃ j, j = 512 := ⟨_, rfl⟩
  obtain ⟨i, hi⟩ : ∃ i, i = 8 * j := ⟨_, rfl⟩
  rw [capN_eq hj hi]
  exact Nat.lt_of_lt_of_le h (Nat.pow_le_pow_right (by decide) (by omega))
theorem add_lt256 {M N k : Nat} (h1 : M < 256 ^ k) (h2 : N < 256 ^ k) : M + N < 256 ^ (k + 1) := by
  rw [Nat.pow_succ]; omega
theorem mul_lt256 {M N j k : Nat} (h1 : M < 256 ^ j) (h2 : N < 256 ^ k) : M * N < 256 ^ (j + k) := by
  rw [Nat.pow_add]
  exact Nat.mul_lt_mul'' h1 h2
theorem up256 {N j k : Nat} (h : N < 256 ^ j) (hk : j ≤ k) : N < 256 ^ k := Nat.lt_of_lt_of_le h (Nat.pow_le_pow_right (by decide) hk)
theorem pow_lt256 {N j : Nat} (h : N < 256 ^ j) : ∀ k, N ^ k < 256 ^ (j * k + 1)
  | 0 => by simp
  | k + 1 => by
    have h1 := pow_lt256 h k
    rw [Nat.pow_succ, show j * (k + 1) + 1 = (j * k + 1) + j by rw [Nat.mul_add]; omega]
    exact mul_lt256 h1 h
theorem RetW.ok {T : TypeId} {w w' : World} {N k : Nat} {e : Ending} (h : RetW T w N k e w') (hN : ∀ j, j ≤ k → N ^ j < capN) : RetN T w (N ^ k) e w' := by
  rcases h with h | ⟨⟨j, hj, hc⟩, _⟩
  · exact h.2
  · have := hN j hj; omega
theorem RetD.ok {T : TypeId} {w w' : World} {M N : Nat} {e : Ending} (h : RetD T w M N e w') (hN : N ≤ M) : RetN T w (M - N) e w' := by
  rcases h with h | h
  · exact h.2
  · omega
theorem RetD.less {T : TypeId} {w w' : World} {M N : Nat} {e : Ending} (h : RetD T w M N e w') (hN : M < N) : Ret0 w 2 e w' := by
  rcases h with h | h
  · omega
  · exact h.2
theorem ba1 (w : World) (o : Obj) : Below w.heap.size w (w.alloc o) := al (Below.refl _ _) (Nat.le_refl _)
theorem ba2 (w : World) (o o2 : Obj) : Below w.heap.size w ((w.alloc o).alloc o2) := bl (ba1 w o) (ba1 _ o2) (ba1 w o).size
/-- a box that holds a number -/
def NBox (T U : TypeId) (W : World) (b N : Nat) : Prop := ∃ q n c, W.heap[b]? = some (.cells #[.slice q n c] T (0, 0)) ∧ Ws U W q n c N
theorem NBox.keep {T U : TypeId} {w w' : World} {b N : Nat} (h : NBox T U w b N) (hb : Below w.heap.size w w') : NBox T U w' b N := by
  obtain ⟨q, n, c, k, hw⟩ := h
  exact ⟨q, n, c, (hb.block _ (blk_lt k)).trans k, hw.keep hb⟩
theorem NBox.new {T U : TypeId} {w : World} {q : Option Addr} {n c N : Nat} (h : Ws U w q n c N) : NBox T U (w.alloc (.cells #[.slice q n c] T)) w.heap.size N :=
  ⟨q, n, c, hnew rfl, h.keep (al (Below.refl _ _) (Nat.le_refl _))⟩
/-- what the laws carry along: the numbers' boxes -/
structure NS (T U : TypeId) (w0 : World) (L : List (Nat × Nat)) (W : World) : Prop where
  bel : Below w0.heap.size w0 W
  box : ∀ b N, (b, N) ∈ L → NBox T U W b N
theorem NS.keep {T U : TypeId} {w0 W W' : World} {L : List (Nat × Nat)} (h : NS T U w0 L W) (hb : Below W.heap.size W W') : NS T U w0 L W' := ⟨bl h.bel hb h.bel.size, fun b N hm => (h.box b N hm).keep hb⟩
theorem NS.more {T U : TypeId} {w0 W W' : World} {L : List (Nat × Nat)} {b N : Nat} (h : NS T U w0 L W) (hb : Below W.heap.size W W') (hn : NBox T U W' b N) : NS T U w0 ((b, N) :: L) W' :=
  ⟨bl h.bel hb h.bel.size, fun b' N' hm => by
    rcases List.mem_cons.1 hm with e | hm
    · cases e; exact hn
    · exact (h.box b' N' hm).keep hb⟩
theorem NS.new {T U : TypeId} {w0 w : World} {L : List (Nat × Nat)} {q : Option Addr} {n c N : Nat} (h : NS T U w0 L w) (hw : Ws U w q n c N) : NS T U w0 ((w.heap.size, N) :: L) (w.alloc (.cells #[.slice q n c] T)) :=
  h.more (al (Below.refl _ _) (Nat.le_refl _)) (NBox.new hw)
/-- a call behind a new box and a new block -/
theorem NS.on {T U : TypeId} {w0 w w' : World} {L : List (Nat × Nat)} {q : Option Addr} {n c N : Nat} {o : Obj} (h : NS T U w0 L w) (hw : Ws U w q n c N) (hb : Below ((w.alloc (.cells #[.slice q n c] T)).alloc o).heap.size ((w.alloc (.cells #[.slice q n c] T)).alloc o) w') : NS T U w0 ((w.heap.size, N) :: L) w' :=
  ((h.new hw).keep (al (Below.refl _ _) (Nat.le_refl _))).keep hb
theorem NS.on1 {T U : TypeId} {w0 w w' : World} {L : List (Nat × Nat)} {q : Option Addr} {n c N : Nat} (h : NS T U w0 L w) (hw : Ws U w q n c N) (hb : Below (w.alloc (.cells #[.slice q n c] T)).heap.size (w.alloc (.cells #[.slice q n c] T)) w') : NS T U w0 ((w.heap.size, N) :: L) w' :=
  (h.new hw).keep hb
theorem Ws.on {T : TypeId} {w : World} {q : Option Addr} {n c N : Nat} (h : Ws T w q n c N) {o o2 : Obj} : Ws T ((w.alloc o).alloc o2) q n c N := (h.keep (al (Below.refl _ _) (Nat.le_refl _))).keep (al (Below.refl _ _) (Nat.le_refl _))
theorem Ws.on1 {T : TypeId} {w : World} {q : Option Addr} {n c N : Nat} (h : Ws T w q n c N) {o : Obj} : Ws T (w.alloc o) q n c N := h.keep (al (Below.refl _ _) (Nat.le_refl _))
theorem NS.three {T U : TypeId} {w0 w w' : World} {q1 q2 q3 : Option Addr} {n1 c1 n2 c2 n3 c3 A B C : Nat} {o : Obj} (h : Below w0.heap.size w0 w) (h1 : Ws U w q1 n1 c1 A) (h2 : Ws U w q2 n2 c2 B) (h3 : Ws U w q3 n3 c3 C)
    (hb : Below ((((w.alloc (.cells #[.slice q1 n1 c1] T)).alloc (.cells #[.slice q2 n2 c2] T)).alloc (.cells #[.slice q3 n3 c3] T)).alloc o).heap.size ((((w.alloc (.cells #[.slice q1 n1 c1] T)).alloc (.cells #[.slice q2 n2 c2] T)).alloc (.cells #[.slice q3 n3 c3] T)).alloc o) w') :
    NS T U w0 [(w.heap.size + 1 + 1, C), (w.heap.size + 1, B), (w.heap.size, A)] w' := by
  have s0 : NS T U w0 [] w := ⟨h, fun b N hm => by cases hm⟩
  have s1 := s0.new h1
  have s2 := s1.new h2.on1
  have s3 := s2.on h3.on hb
  simpa using s3
theorem use_wn {P : Program} {f : FuncId} {args : Array Value} {W : World} {Q : Ending → World → Prop} (I : World → Prop) (h : I W) (k : ∀ W', I W' → Calls P f args W' Q) : Calls P f args W Q := k W h
theorem cmpN_self (N : Nat) : cmpN N N = 0 := cmpN_eq rfl
end Go.By
namespace Go.Proofs.YtbfmdfbnhakolaaGreatDoor
open Go.RowKit Go.By
theorem Mul2_ok {p : Option Addr} {c M N : Nat} {w : World} (h : Nsl 69 w p 2 c [M, N]) (h1 : M < capN) (hc : M * N < capN) : Calls Tryz.prog 57 #[.slice p 2 c] w (RetN 69 w (M * N)) :=
  (Mul_nat p 2 c _ w h).mono fun e w' hr => (hr.two h1).ok hc
theorem Mul3_ok {p : Option Addr} {c M N K : Nat} {w : World} (h : Nsl 69 w p 3 c [M, N, K]) (h1 : M < capN) (h2 : M * N < capN) (hc : M * N * K < capN) : Calls Tryz.prog 57 #[.slice p 3 c] w (RetN 69 w (M * N * K)) :=
  (Mul_nat p 3 c _ w h).mono fun e w' hr => hr.three h1 h2 hc
theorem Pow_ok {p : Option Addr} {m c N k : Nat} {w : World} (h : Ws 69 w p m c N) (hk : k ≤ 65536) (hN : ∀ j, j ≤ k → N ^ j < capN) : Calls Tryz.prog 28 #[.agg #[.slice p m c], .int .i64 k] w (RetN 69 w (N ^ k)) :=
  (Pow_any p m c N k w h hk).mono fun e w' hr => hr.ok hN
end Go.Proofs.YtbfmdfbnhakolaaGreatDoor
namespace Go.By
open Go.RowKit
/-- a store into a block of one cell, of element type X, numbered B or more -/
structure StepN (B X : Nat) (w w' : World) : Prop where
  os : w'.os = w.os
  tape : w'.tape = w.tape
  output : w'.output = w.output
  size : w.heap.size ≤ w'.heap.size
  keep : ∀ k, k < w.heap.size → (k < B ∨ ∀ (cs : Array Value) fr, w.heap[k]? = some (Obj.cells cs X fr) → cs.size ≠ 1) → w'.heap[k]? = w.heap[k]?
  cells : ∀ (k : Nat) (cs : Array Value), w.heap[k]? = some (Obj.cells cs X (0, 0)) → ∃ cs' : Array Value, cs'.size = cs.size ∧ w'.heap[k]? = some (Obj.cells cs' X (0, 0))
structure ShN (B X : Nat) where
  ok : Value → World → Prop
  keep : ∀ (v : Value) (w w' : World), ok v w → Below w.heap.size w w' → ok v w'
  step : ∀ (v : Value) (w w' : World), ok v w → StepN B X w w' → ok v w'
def NBoxS (B X size : Nat) (v : Value) (w : World) : Prop := ∃ b cs, v = .pointer (some ⟨b, 0, none⟩) ∧ B ≤ b ∧ cs.size = size ∧ w.heap[b]? = some (.cells cs X (0, 0))
section
variable (B X : Nat)
def ShN.val (u : Value) : ShN B X := ⟨fun v _ => v = u, fun _ _ _ h _ => h, fun _ _ _ h _ => h⟩
def ShN.any : ShN B X := ⟨fun _ _ => True, fun _ _ _ h _ => h, fun _ _ _ h _ => h⟩
def ShN.box : ShN B X := ⟨NBoxS B X 1, fun _ _ _ ⟨b, cs, e, hb, hs, hh⟩ hw => ⟨b, cs, e, hb, hs, (hw.block b (lt_of_block hh)).trans hh⟩,
  fun _ _ _ ⟨b, cs, e, hb, hs, hh⟩ hw => by
    obtain ⟨cs', h1, h2⟩ := hw.cells b cs hh
    exact ⟨b, cs', e, hb, h1.trans hs, h2⟩⟩
end
/-- behind the store: the box in slot t holds a value that reads so -/
def BoxedN (B X t : Nat) (s : ShN B X) (σ : Nat → Value) (w : World) : Prop := ∃ b cs, σ t = .pointer (some ⟨b, 0, none⟩) ∧ B ≤ b ∧ w.heap[b]? = some (.cells cs X (0, 0)) ∧ s.ok (.agg cs) w
def InvN (ops : Array Oper) (B X : Nat) (sh : Nat → ShN B X) (st t : Nat) (s : ShN B X) (i : Nat) (σ : Nat → Value) (w : World) : Prop :=
  if i = st then BoxedN B X t s σ w else match dstOf ops i with
  | some d => (sh i).ok (σ d) w
  | none => True
def RelN (B X st : Nat) (i : Nat) (w w' : World) : Prop := if i = st then StepN B X w w' else Below w.heap.size w w'
/-- all that was there stays -/
def ExN (B : Nat) (W w : World) : Prop := Below B W w ∧ W.heap.size ≤ w.heap.size
def StepNS (P : Program) (ops : Array Oper) (Q : Exit → Act → World → Prop) (a0 : Act) (W0 : World) (B X : Nat) (sh : Nat → ShN B X) (st t : Nat) (s : ShN B X) (i : Nat) (o : Oper) : Prop :=
  ∀ (a : Act) (w : World), Below B W0 w → a.tmps.size = a0.tmps.size → (∀ k, k ∈ preds o → InvN ops B X sh st t s k (sl a) w) → (∀ u, initAt ops i u = true → sl a u = sl a0 u) →
    if Region.wanted o (yielded ops a.tmps) = true then o.wp P a w (fun a' w' => ∃ v, a' = a.put o.dst v ∧ RelN B X st i w w' ∧ (if i = st then BoxedN B X t s (sl a) w' else (sh i).ok v w')) Q
    else i ≠ st ∧ (sh i).ok undef w
def EachN (P : Program) (ops : Array Oper) (Q : Exit → Act → World → Prop) (a0 : Act) (W0 : World) (B X : Nat) (sh : Nat → ShN B X) (st t : Nat) (s : ShN B X) : List Oper → Nat → Prop
  | [], _ => True
  | o :: rest, i => StepNS P ops Q a0 W0 B X sh st t s i o ∧ EachN P ops Q a0 W0 B X sh st t s rest (i + 1)
/-- the store writes no slot, all others do; the box's slot is written by one that the store waits for -/
def dstsN (ops : Array Oper) (n st t : Nat) : Bool := (List.range ops.size).all fun i => match ops[i]? with
  | some o => (match o.dst with
    | some d => decide (d < n) && i != st && (d != t || (match ops[st]? with
      | some os => (preds os).contains i
      | none => false))
    | none => i == st)
  | none => true
theorem eachN_of {P : Program} {ops : Array Oper} {Q : Exit → Act → World → Prop} {a0 : Act} {W0 : World} {B X : Nat} {sh : Nat → ShN B X} {st t : Nat} {s : ShN B X} {n : Nat} (hn : a0.tmps.size = n) (hd : dstsN ops n st t = true) : ∀ (l : List Oper) (k : Nat), (∀ j o, l[j]? = some o → ops[k + j]? = some o) →
    EachN P ops Q a0 W0 B X sh st t s l k → Each P ops Q a0 W0.drew (fun W w => Below B W w) (RelN B X st) (InvN ops B X sh st t s) l k := by
  intro l
  induction l with
  | nil => intro k _ _; trivial
  | cons o l ih =>
    intro k hk h
    refine ⟨?_, ih (k + 1) (fun j o' hj => by have := hk (j + 1) o' (by simpa using hj); rwa [show k + (j + 1) = k + 1 + j by omega] at this) h.2⟩
    intro a w hE hs hp hi
    have ho : ops[k]? = some o := by have := hk 0 o (by simp); simpa using this
    have hks : k < ops.size := (Array.getElem?_eq_some_iff.1 ho).1
    have hdk := List.all_eq_true.1 hd k (List.mem_range.2 hks)
    rw [ho] at hdk
    dsimp only at hdk
    have hs1 := h.1 a w ⟨hE.os, hE.tape, hE.output, hE.size, hE.block⟩ hs hp hi
    cases hdo : o.dst with
    | none =>
      rw [hdo] at hdk
      dsimp only at hdk
      have hkst : k = st := by simpa using hdk
      split
      · rename_i hw
        rw [if_pos hw] at hs1
        refine Oper.wp_mono ?_ hs1
        rintro a' w' ⟨v, e, hb, hok⟩
        rw [if_pos hkst] at hok
        refine ⟨v, e.trans (by rw [hdo]), hb, ?_⟩
        unfold InvN
        rw [if_pos hkst, e, hdo]; exact hok
      · rename_i hw
        rw [if_neg hw] at hs1
        exact absurd hkst hs1.1
    | some d =>
      rw [hdo] at hdk
      dsimp only at hdk
      simp only [Bool.and_eq_true, decide_eq_true_eq, bne_iff_ne] at hdk
      have hkst : k ≠ st := hdk.1.2
      have hdn : d < a.tmps.size := by rw [hs, hn]; exact hdk.1.1
      have hdst : dstOf ops k = some d := by simp [dstOf, ho, hdo]
      split
      · rename_i hw
        rw [if_pos hw] at hs1
        refine Oper.wp_mono ?_ hs1
        rintro a' w' ⟨v, e, hb, hok⟩
        rw [if_neg hkst] at hok
        refine ⟨v, e.trans (by rw [hdo]), hb, ?_⟩
        unfold InvN
        rw [if_neg hkst, hdst]
        show (sh k).ok (sl a' d) w'
        rw [e, hdo, put_same _ _ _ hdn]; exact hok
      · rename_i hw
        rw [if_neg hw] at hs1
        refine ⟨?_, ?_⟩
        · unfold RelN; rw [if_neg hkst]; exact Below.refl _ _
        · unfold InvN
          rw [if_neg hkst, hdst]
          show (sh k).ok (sl (a.put (some d) undef) d) w
          rw [put_same _ _ _ hdn]; exact hs1.2
theorem stepN_below {B X : Nat} {W w w' : World} (hE : Below B W w) (h : StepN B X w w') (hB : B ≤ W.heap.size) : Below B W w' :=
  hE.trans ⟨h.os, h.tape, h.output, h.size, fun k hk => h.keep k (by have := hE.size; omega) (.inl hk)⟩
theorem wp_region_boxN {P : Program} {ops : Array Oper} {Q : Exit → Act → World → Prop} {id : Nat} {a0 : Act} {w0 : World} (X : Nat) (sh : Nat → ShN w0.heap.size X) (st t : Nat) (s : ShN w0.heap.size X) (n : Nat) (hn : a0.tmps.size = n) (hm : P.follows .mixedOrders = true) (hback : backB ops = true) (hdist : distB ops = true) (hdsts : dstsN ops n st t = true)
    (each : EachN P ops Q a0 w0 w0.heap.size X sh st t s ops.toList 0)
    (fin : ∀ a w, Below w0.heap.size w0 w → a.tmps.size = a0.tmps.size → a.defers = a0.defers → (∀ j, j < ops.size → InvN ops w0.heap.size X sh st t s j (sl a) w) → (∀ u, (ops.toList.all fun o => o.dst != some u) = true → sl a u = sl a0 u) → Q .normal a w) :
    (Code.region id ops true).wp P Q a0 w0 := by
  refine wp_region_each hm hback (fun W w => Below w0.heap.size W w) (RelN w0.heap.size X st) (InvN ops w0.heap.size X sh st t s) (Below.refl _ _) ?_ ?_ (eachN_of (W0 := w0) hn hdsts ops.toList 0 (fun j o hj => by simpa using hj) each) (fun a w hE hs hd hI ht => fin a w ⟨hE.os, hE.tape, hE.output, hE.size, hE.block⟩ hs hd hI ht)
  · intro i w w' h hR
    unfold RelN at hR
    split at hR
    · exact stepN_below h hR (Nat.le_refl _)
    · exact h.trans (hR.mono h.size)
  intro i j oi oj σ σ' w w' hij hoi hoj _ hI hR hσ _ hord
  have hi' : i < ops.size := (Array.getElem?_eq_some_iff.1 hoi).1
  have hj' : j < ops.size := (Array.getElem?_eq_some_iff.1 hoj).1
  have hdi := List.all_eq_true.1 hdsts i (List.mem_range.2 hi')
  rw [hoi] at hdi
  dsimp only at hdi
  unfold InvN at hI ⊢
  by_cases hjs : j = st
  · rw [if_pos hjs] at hI ⊢
    obtain ⟨b, cs, hb, hBb, hh, hok⟩ := hI
    have his : i ≠ st := fun e => hij (e.trans hjs.symm)
    unfold RelN at hR
    rw [if_neg his] at hR
    have hne : oi.dst ≠ some t := by
      intro e
      rw [e] at hdi
      dsimp only at hdi
      simp only [Bool.and_eq_true, decide_eq_true_eq, bne_self_eq_false, Bool.false_or] at hdi
      have h2 := hdi.2
      rw [← hjs, hoj] at h2
      exact hord t e (by simpa using h2)
    exact ⟨b, cs, by rw [hσ t hne]; exact hb, hBb, (hR.block b (lt_of_block hh)).trans hh, s.keep _ _ _ hok hR⟩
  · rw [if_neg hjs] at hI ⊢
    cases hdj : dstOf ops j with
    | none => trivial
    | some d =>
      rw [hdj] at hI
      show (sh j).ok (σ' d) w'
      have hne : oi.dst ≠ some d := by
        intro e
        have := List.all_eq_true.1 (List.all_eq_true.1 hdist i (List.mem_range.2 hi')) j (List.mem_range.2 hj')
        rw [hoi, hoj] at this
        have hdj' : oj.dst = some d := by simpa [dstOf, hoj] using hdj
        simp [e, hdj', hij] at this
      rw [hσ d hne]
      unfold RelN at hR
      by_cases his : i = st
      · rw [if_pos his] at hR; exact (sh j).step _ _ _ hI hR
      · rw [if_neg his] at hR; exact (sh j).keep _ _ _ hI hR
/-- a store of a whole value into a box is such a step -/
theorem stepN_setRow {B X b : Nat} {w : World} {cs cs' : Array Value} (hb : B ≤ b) (h : w.heap[b]? = some (.cells cs X (0, 0))) (h1 : cs.size = 1) (hs : cs'.size = cs.size) : StepN B X w (w.setRow b cs') := by
  refine ⟨rfl, rfl, rfl, by simp, ?_, ?_⟩
  · intro k hk hp
    simp only [World.setRow, Array.getElem?_modify]
    have : b ≠ k := by
      rintro rfl
      rcases hp with hp | hp
      · omega
      · exact hp _ _ h h1
    rw [if_neg this]
  · intro k cs1 h2
    by_cases e : k = b
    · subst e
      rw [h] at h2; cases h2
      exact ⟨cs', hs, hrs h⟩
    · exact ⟨cs1, rfl, hro h2 e⟩
section
variable {B X : Nat}
theorem Ws.step {T : TypeId} {w w' : World} {q : Option Addr} {n c N : Nat} (h : Ws T w q n c N) (hb : StepN B X w w') (hne : T ≠ X) : Ws T w' q n c N := by
  obtain ⟨ws, hs, hn, hv⟩ := h.ex
  have key : ∀ a, q = some a → w'.heap[a.block]? = w.heap[a.block]? := fun a ha => by
    obtain ⟨cs, fr, hc⟩ := h.lies a ha
    exact hb.keep _ (lt_of_block hc) (.inr fun cs' fr' hc' => by rw [hc] at hc'; cases hc'; exact absurd rfl hne)
  refine ⟨⟨ws, ⟨hs.len, hs.le, hs.max, hs.nil, fun i hi => ?_⟩, hn, hv⟩, h.le, fun a ha => ?_⟩
  · obtain ⟨b, o, hp, hc⟩ := hs.rs i hi
    exact ⟨b, o, hp, (World.cell?_of_block (a := ⟨b, o + i, none⟩) (key ⟨b, o, none⟩ hp)).trans hc⟩
  · obtain ⟨cs, fr, hc⟩ := h.lies a ha
    exact ⟨cs, fr, (key a ha).trans hc⟩
theorem stepN_set {b : Nat} {w : World} {u v : Value} (hb : B ≤ b) (h : w.heap[b]? = some (.cells #[u] X (0, 0))) : StepN B X w (w.setCell ⟨b, 0, none⟩ v) := by
  have hs : (w.setCell ⟨b, 0, none⟩ v).heap[b]? = some (.cells #[v] X (0, 0)) := hss h
  refine ⟨rfl, rfl, rfl, by simp, ?_, ?_⟩
  · intro k hk hp
    have : k ≠ b := by
      rintro rfl
      rcases hp with hp | hp
      · omega
      · exact hp _ _ h rfl
    rw [Below.heap_setCell _ _ _ _ this]
  · intro k cs1 h2
    by_cases e : k = b
    · subst e
      rw [h] at h2; cases h2
      exact ⟨#[v], rfl, hs⟩
    · exact ⟨cs1, rfl, hsc h2 e⟩
theorem size1 {cs : Array Value} (h : cs.size = 1) : ∃ u, cs = #[u] := ⟨cs[0], by
  apply Array.ext
  · simp [h]
  · intro i h1 h2
    have : i = 0 := by omega
    subst this; rfl⟩
/-- a number, by value -/
def IsN (T : TypeId) (N : Nat) (v : Value) (w : World) : Prop := ∃ q n c, v = .agg #[.slice q n c] ∧ Ws T w q n c N
def ShN.num (T : TypeId) (N : Nat) (hne : T ≠ X) : ShN B X := ⟨IsN T N, fun _ _ _ ⟨q, n, c, e, h⟩ hb => ⟨q, n, c, e, h.keep hb⟩, fun _ _ _ ⟨q, n, c, e, h⟩ hb => ⟨q, n, c, e, h.step hb hne⟩⟩
def ShpN (T : TypeId) (N : Nat) : Shp := ⟨IsN T N, fun _ _ _ ⟨q, n, c, e, h⟩ hb => ⟨q, n, c, e, h.keep hb⟩⟩
/-- a number, and a code -/
def IsNT (T : TypeId) (N : Nat) (code : Int) (v : Value) (w : World) : Prop := ∃ q n c, v = .tuple #[.agg #[.slice q n c], .int .i64 code] ∧ Ws T w q n c N
def ShN.numT (T : TypeId) (N : Nat) (code : Int) (hne : T ≠ X) : ShN B X := ⟨IsNT T N code, fun _ _ _ ⟨q, n, c, e, h⟩ hb => ⟨q, n, c, e, h.keep hb⟩, fun _ _ _ ⟨q, n, c, e, h⟩ hb => ⟨q, n, c, e, h.step hb hne⟩⟩
/-- a slice of two numbers -/
def IsN2 (X T : TypeId) (M N : Nat) (v : Value) (w : World) : Prop := ∃ g q1 n1 c1 q2 n2 c2, v = .slice (some ⟨g, 0, none⟩) 2 2 ∧ w.heap[g]? = some (.cells #[.slice q1 n1 c1, .slice q2 n2 c2] X (0, 0)) ∧ Ws T w q1 n1 c1 M ∧ Ws T w q2 n2 c2 N
theorem IsN2.sl {T : TypeId} {M N : Nat} {v : Value} {w : World} (h : IsN2 X T M N v w) : ∃ p, v = .slice p 2 2 ∧ Nsl T w p 2 2 [M, N] := by
  obtain ⟨g, q1, n1, c1, q2, n2, c2, e, hg, h1, h2⟩ := h
  exact ⟨_, e, Nsl.two hg h1 h2⟩
def ShN.num2 (T : TypeId) (M N : Nat) (hne : T ≠ X) : ShN B X := ⟨IsN2 X T M N,
  fun _ _ _ ⟨g, q1, n1, c1, q2, n2, c2, e, hg, h1, h2⟩ hb => ⟨g, q1, n1, c1, q2, n2, c2, e, (hb.block _ (lt_of_block hg)).trans hg, h1.keep hb, h2.keep hb⟩,
  fun _ _ _ ⟨g, q1, n1, c1, q2, n2, c2, e, hg, h1, h2⟩ hb => ⟨g, q1, n1, c1, q2, n2, c2, e, (hb.keep _ (lt_of_block hg) (.inr fun cs fr hc => by rw [hg] at hc; cases hc; simp)).trans hg, h1.step hb hne, h2.step hb hne⟩⟩
end
end Go.By
namespace Go.By
/-- of grids of n rows of k bytes, how many have rank r: row by row -/
def cntR (k : Nat) : Nat → Nat → Nat
  | 0, 0 => 1
  | 0, _ + 1 => 0
  | n + 1, 0 => cntR k n 0
  | n + 1, r + 1 => cntR k n (r + 1) * 256 ^ (r + 1) + cntR k n r * (256 ^ k - 256 ^ r)
theorem cnt_zero (k : Nat) : ∀ n, cntR k n 0 = 1
  | 0 => rfl
  | n + 1 => cnt_zero k n
theorem cnt_more (k : Nat) : ∀ n r, n < r → cntR k n r = 0
  | 0, r + 1, _ => rfl
  | n + 1, r + 1, h => by
    show cntR k n (r + 1) * _ + cntR k n r * _ = 0
    rw [cnt_more k n (r + 1) (by omega), cnt_more k n r (by omega), Nat.zero_mul, Nat.zero_mul]
/-- the first m of a sequence, added -/
def sumF (f : Nat → Nat) : Nat → Nat
  | 0 => 0
  | m + 1 => sumF f m + f m
theorem sumF_le {f : Nat → Nat} {m r : Nat} (h : r < m) : f r ≤ sumF f m := by
  induction m with
  | zero => omega
  | succ m ih =>
    show f r ≤ sumF f m + f m
    by_cases e : r = m
    · subst e; omega
    · have := ih (by omega); omega
theorem sumF_mono {f : Nat → Nat} {m j : Nat} (h : m ≤ j) : sumF f m ≤ sumF f j := by
  induction j with
  | zero => have : m = 0 := by omega
            subst this; exact Nat.le_refl _
  | succ j ih =>
    by_cases e : m = j + 1
    · subst e; exact Nat.le_refl _
    · have := ih (by omega)
      show _ ≤ sumF f j + f j
      omega
theorem cnt_part (k n : Nat) : ∀ m, m ≤ k → sumF (cntR k (n + 1)) (m + 1) = sumF (cntR k n) m * 256 ^ k + cntR k n m * 256 ^ m
  | 0, _ => by
    show 0 + cntR k n 0 = 0 * _ + cntR k n 0 * 1
    omega
  | m + 1, h => by
    show sumF (cntR k (n + 1)) (m + 1) + (cntR k n (m + 1) * 256 ^ (m + 1) + cntR k n m * (256 ^ k - 256 ^ m)) = (sumF (cntR k n) m + cntR k n m) * 256 ^ k + _
    rw [cnt_part k n m (by omega)]
    have hp : (256 : Nat) ^ m ≤ 256 ^ k := Nat.pow_le_pow_right (by decide) (by omega)
    obtain ⟨d, hd⟩ : ∃ d, (256 : Nat) ^ k = 256 ^ m + d := ⟨256 ^ k - 256 ^ m, by omega⟩
    rw [hd, Nat.add_sub_cancel_left]
    generalize (256 : Nat) ^ m = q
    generalize (256 : Nat) ^ (m + 1) = q2
    grind
/-- grids of all ranks are all -/
theorem cnt_sum (k : Nat) : ∀ n, sumF (cntR k n) (k + 1) = 256 ^ (n * k)
  | 0 => by
    have : ∀ m, sumF (cntR k 0) (m + 1) = 1 := by
      intro m
      induction m with
      | zero => rfl
      | succ m ih => show sumF (cntR k 0) (m + 1) + 0 = 1; rw [ih]
    rw [this, Nat.zero_mul, Nat.pow_zero]
  | n + 1 => by
    rw [cnt_part k n k (Nat.le_refl _), Nat.succ_mul, Nat.pow_add, ← cnt_sum k n]
    show _ = (sumF (cntR k n) k + cntR k n k) * _
    rw [Nat.add_mul]
theorem cntR_le {k n r : Nat} (h : r ≤ k) : cntR k n r ≤ 256 ^ (n * k) := by
  rw [← cnt_sum k n]; exact sumF_le (by omega)
/-- the product of 256^m - 256^i, for the first r -/
def prI (m : Nat) : Nat → Int
  | 0 => 1
  | r + 1 => prI m r * ((256 : Int) ^ m - 256 ^ r)
theorem prI_zero {m : Nat} : ∀ {r}, m < r → prI m r = 0
  | r + 1, h => by
    show prI m r * _ = 0
    by_cases e : m = r
    · subst e; rw [Int.sub_self, Int.mul_zero]
    · rw [prI_zero (show m < r by omega), Int.zero_mul]
theorem prI_up (m : Nat) : ∀ r, prI (m + 1) (r + 1) = ((256 : Int) ^ (m + 1) - 1) * 256 ^ r * prI m r
  | 0 => by
    show 1 * ((256 : Int) ^ (m + 1) - 256 ^ 0) = (256 ^ (m + 1) - 1) * 256 ^ 0 * 1
    grind
  | r + 1 => by
    have ih := prI_up m r
    show prI (m + 1) (r + 1) * ((256 : Int) ^ (m + 1) - 256 ^ (r + 1)) = _ * _ * (prI m r * ((256 : Int) ^ m - 256 ^ r))
    rw [ih, Int.pow_succ, Int.pow_succ]
    grind
theorem prI_pos {m : Nat} : ∀ {r}, r ≤ m → 0 < prI m r
  | 0, _ => by show (0 : Int) < 1; decide
  | r + 1, h => by
    refine Int.mul_pos (prI_pos (by omega)) ?_
    have h2 : ((256 ^ r : Nat) : Int) < ((256 ^ m : Nat) : Int) := Int.ofNat_lt.2 (Nat.pow_lt_pow_right (by decide) (show r < m by omega))
    rw [Int.natCast_pow, Int.natCast_pow] at h2
    have h3 : (256 : Int) ^ r < 256 ^ m := h2
    generalize (256 : Int) ^ r = a at *
    generalize (256 : Int) ^ m = b at *
    omega
theorem cnt_pr (k : Nat) : ∀ n r, r ≤ k → (cntR k n r : Int) * prI r r = prI n r * prI k r
  | 0, 0, _ => rfl
  | 0, r + 1, _ => by rw [prI_zero (show 0 < r + 1 by omega)]; show ((0 : Nat) : Int) * _ = _; simp
  | n + 1, 0, _ => by rw [cnt_zero]; rfl
  | n + 1, r + 1, h => by
    have i1 := cnt_pr k n (r + 1) h
    have i2 := cnt_pr k n r (by omega)
    have hp : (256 : Nat) ^ r ≤ 256 ^ k := Nat.pow_le_pow_right (by decide) (by omega)
    have e : ((cntR k (n + 1) (r + 1) : Nat) : Int) = (cntR k n (r + 1) : Int) * 256 ^ (r + 1) + (cntR k n r : Int) * ((256 : Int) ^ k - 256 ^ r) := by
      show ((cntR k n (r + 1) * 256 ^ (r + 1) + cntR k n r * (256 ^ k - 256 ^ r) : Nat) : Int) = _
      rw [Int.natCast_add, Int.natCast_mul, Int.natCast_mul, Int.ofNat_sub hp, Int.natCast_pow, Int.natCast_pow, Int.natCast_pow]; rfl
    have u1 : prI (r + 1) (r + 1) = ((256 : Int) ^ (r + 1) - 1) * 256 ^ r * prI r r := prI_up r r
    have u2 : prI (n + 1) (r + 1) = ((256 : Int) ^ (n + 1) - 1) * 256 ^ r * prI n r := prI_up n r
    have u3 : prI n (r + 1) = prI n r * ((256 : Int) ^ n - 256 ^ r) := rfl
    have u4 : prI k (r + 1) = prI k r * ((256 : Int) ^ k - 256 ^ r) := rfl
    rw [e, u2, u4]
    rw [u3, u4] at i1
    rw [u1] at i1 ⊢
    rw [Int.pow_succ] at i1 ⊢
    rw [Int.pow_succ]
    generalize prI r r = A at *
    generalize prI n r = B at *
    generalize prI k r = D at *
    generalize (256 : Int) ^ r = q at *
    generalize (256 : Int) ^ n = N at *
    generalize (256 : Int) ^ k = Kq at *
    generalize (cntR k n (r + 1) : Int) = c1 at *
    generalize (cntR k n r : Int) = c0 at *
    have h2 : c0 * A * ((Kq - q) * ((q * 256 - 1) * q)) = B * D * ((Kq - q) * ((q * 256 - 1) * q)) := by rw [i2]
    grind
/-- full ones: 256^n - 256^i, for each column -/
def fullN (n : Nat) : Nat → Nat
  | 0 => 1
  | r + 1 => fullN n r * (256 ^ n - 256 ^ r)
theorem fullN_pr {n : Nat} : ∀ {r}, r ≤ n → (fullN n r : Int) = prI n r
  | 0, _ => rfl
  | r + 1, h => by
    have hp : (256 : Nat) ^ r ≤ 256 ^ n := Nat.pow_le_pow_right (by decide) (by omega)
    show ((fullN n r * (256 ^ n - 256 ^ r) : Nat) : Int) = prI n r * _
    rw [Int.natCast_mul, fullN_pr (show r ≤ n by omega), Int.ofNat_sub hp, Int.natCast_pow, Int.natCast_pow]; rfl
theorem cnt_full {n k : Nat} (h : k ≤ n) : cntR k n k = fullN n k := by
  have e := cnt_pr k n k (Nat.le_refl _)
  rw [← fullN_pr h] at e
  have hp := prI_pos (Nat.le_refl k)
  have := Int.eq_of_mul_eq_mul_right (by omega) e
  exact_mod_cast this
/-- those that fail -/
theorem cnt_fails {n k : Nat} : sumF (cntR k n) k = 256 ^ (n * k) - (if k ≤ n then fullN n k else 0) := by
  have h := cnt_sum k n
  have h : sumF (cntR k n) k + cntR k n k = 256 ^ (n * k) := h
  by_cases hk : k ≤ n
  · rw [if_pos hk, ← cnt_full hk]; omega
  · rw [if_neg hk]; rw [cnt_more k n k (by omega)] at h; omega
/-- those that a further row leaves as they are -/
theorem cnt_stay (k n : Nat) : ∀ r, cntR k n r * 256 ^ r ≤ cntR k (n + 1) r
  | 0 => by rw [cnt_zero, cnt_zero]; decide
  | r + 1 => Nat.le_add_right _ _
end Go.By
namespace Go.By
open Go.RowKit
/-- a block holds this -/
def BlkIs (b : Nat) (o : Obj) (W : World) : Prop := W.heap[b]? = some o
theorem BlkIs.keep {b : Nat} {o : Obj} {W W' : World} (h : BlkIs b o W) (hb : Below W.heap.size W W') : BlkIs b o W' := (hb.block _ (blk_lt h)).trans h
structure Bel (w0 W : World) : Prop where
  out : Below w0.heap.size w0 W
theorem Bel.keep {w0 W W' : World} (h : Bel w0 W) (hb : Below W.heap.size W W') : Bel w0 W' := ⟨bl h.out hb h.out.size⟩
/-- a number is what a function gives: its cell is written last -/
theorem ret_num {T U : TypeId} {w0 w : World} {q : Option Addr} {n c N g : Nat} {u : Value} (K : w.heap[g]? = some (.cells #[u] T (0, 0))) (hg : w0.heap.size ≤ g) (hB : Below w0.heap.size w0 w) (hw : Ws U w q n c N) (hne : T ≠ U) :
    Ws U (w.setCell ⟨g, 0, none⟩ (.slice q n c)) q n c N ∧ Below w0.heap.size w0 (w.setCell ⟨g, 0, none⟩ (.slice q n c)) ∧ (w.setCell ⟨g, 0, none⟩ (.slice q n c)).heap[g]? = some (.cells #[.slice q n c] T (0, 0)) :=
  ⟨hw.set K hne, hB.setCell hg _, hss K⟩
end Go.By
namespace Go.Proofs.YtbfmdfbnhakolaaGreatDoor
open Go.RowKit Go.By
theorem Of_k (k : Nat) (hk : k < 18446744073709551616) (W : World) : Calls Tryz.prog 27 #[.int .u64 k] W (RetN1 69 W k) := by
  have := OfN_any (UInt64.ofNat k) W
  have e : (UInt64.ofNat k).toNat = k := by simp; omega
  rwa [e, show W64 (UInt64.ofNat k) = .int .u64 k by unfold W64; rw [e]] at this
theorem pow256 {j : Nat} (h : j ≤ 4095) : 256 ^ j < capN := lt_cap (k := j + 1) (Nat.pow_lt_pow_right (by decide) (by omega)) (by omega)
end Go.Proofs.YtbfmdfbnhakolaaGreatDoor
namespace Go.Proofs.YtbfmdfbnhakolaaGreatDoor
open Go.RowKit Go.By
/-- where the first i rows first clash -/
def clashI (D : List Rw) : Nat → Int
  | 0 => -1
  | i + 1 => match D[i]? with
    | some x => if clashB (kD (D.take i)) x = true ∧ clashI D i < 0 then (i : Int) else clashI D i
    | none => clashI D i
theorem clashI_step {D : List Rw} {i : Nat} {x : Rw} (h : D[i]? = some x) : clashI D (i + 1) = if clashB (kD (D.take i)) x = true ∧ clashI D i < 0 then (i : Int) else clashI D i := by
  show (match D[i]? with | some x => _ | none => _) = _
  rw [h]
theorem clashI_range (D : List Rw) : ∀ i, -1 ≤ clashI D i ∧ clashI D i < i
  | 0 => by show -1 ≤ (-1 : Int) ∧ (-1 : Int) < _; omega
  | i + 1 => by
    have ih := clashI_range D i
    show -1 ≤ (match D[i]? with | some x => _ | none => _) ∧ (match D[i]? with | some x => _ | none => _) < _
    split
    · split <;> omega
    · omega
/-- a verdict, and a code -/
def RetVd (w : World) (r c code : Int) (e : Ending) (w' : World) : Prop := e = .returned (.tuple #[.agg #[.int .i64 r, .int .i64 c], .int .i64 code]) ∧ Below w.heap.size w w'
theorem info_verdict : (Tryz.prog.info? 65).map (·.size) = some 2 := by kernel_rfl
set_option maxRecDepth 100000 in
set_option maxHeartbeats 1000000 in
theorem Judge_bad (k t : Int) (p : Option Addr) (m c : Nat) (w : World) (h : k < 1 ∨ 4096 < k ∨ t < 0 ∨ 65535 < t) : Calls Tryz.prog 26 #[.int .i64 k, .int .i64 t, .slice p m c] w (RetVd w 0 0 2) := by
  have hinfo := info_verdict
  have hN : Hid (∀ W, Calls Tryz.prog 53 #[.int .i64 k, .int .i64 t] W fun e w' => e = .returned (.tuple #[.pointer none, .int .i64 2]) ∧ W = w') := fun W => New_bad k t W h
  clear h
  go_enter Tryz.func26, Tryz.ntmps26
  go_wp2_with fail
  refine Calls.mono (hN.out _) ?_
  rintro e w' ⟨rfl, rfl⟩
  go_wp2
  exact bodyPost_ret (res_cell_tmp rfl _ _ _ 65 #[.int .i64 0, .int .i64 0] (0, 0) _ (.int .i64 2) rfl (hnew rfl) rfl Tryz.underlying65 rfl hinfo) rfl ⟨rfl, ba1 _ _⟩
theorem sys_len {k t : Nat} {X K : List Rw} (h : Sys k t (kD X) K) : K.length = (kD X).length := (sys_rank h).trans (vecs_rank X)
theorem sys_clash {k t : Nat} {X K : List Rw} {x : Rw} (h : Sys k t (kD X) K) (hx : Fit k t x) : clashB (kD X) x = clashB K x := by
  unfold clashB; rw [h.rest hx]
set_option maxRecDepth 100000 in
set_option maxHeartbeats 2000000 in
theorem Judge_fit (k t : Nat) (p : Option Addr) (m c : Nat) (D : List Rw) (w : World) (h : RwS w p m c D) (hk1 : 1 ≤ k) (hk : k ≤ 4096) (ht : t ≤ 65535) (hm : m ≤ 4096) (hD : ∀ x, x ∈ D → Fit k t x) : Calls Tryz.prog 26 #[.int .i64 k, .int .i64 t, .slice p m c] w (RetVd w (kD D).length (clashI D m) 0) := by
  have hinfo := info_verdict
  have H := Lib.hid h; have HL := Lib.hid h.len; have HD := Lib.hid hD
  have hN : Hid (∀ W, Calls Tryz.prog 53 #[.int .i64 k, .int .i64 t] W fun e w' => ∃ be, e = .returned (.tuple #[.pointer (some ⟨be, 0, none⟩), .int .i64 0]) ∧ Elm w' W.heap.size be k t (.slice none 0 0) 0 [] ∧ Below W.heap.size W w') := fun W => New_good k t W hk1 hk ht
  clear h hD
  go_enter Tryz.func26, Tryz.ntmps26
  go_wp2_with fail
  refine Calls.mono (hN.out _) ?_
  rintro e w1 ⟨be, rfl, hE, hb⟩
  obtain ⟨B, hBe⟩ : ∃ B, B = w.heap.size + 1 := ⟨_, rfl⟩
  have E1 : Hid (Elm w1 B be k t (.slice none 0 0) 0 []) := by have := hE; rw [show (w.alloc (.cells #[.int .i64 0, .int .i64 0] 65)).heap.size = B by rw [hBe]; simp] at this; exact this
  have BB1 : Hid (Below B (w.alloc (.cells #[.int .i64 0, .int .i64 0] 65)) w1) := by have := hb; rw [show (w.alloc (.cells #[.int .i64 0, .int .i64 0] 65)).heap.size = B by rw [hBe]; simp] at this; exact this
  have HB := Lib.hid hBe
  clear hE hb hBe hN
  go_wp2
  go_loopw [10, 27] (fun cv iv wr => ∃ (i n : Nat) (v : Value) (K : List Rw), i ≤ m ∧ iv = .int .i64 i ∧ cv = .int .i64 (clashI D i) ∧ Hid (Elm wr B be k t v n K) ∧ Hid (Sys k t (kD (D.take i)) K) ∧ Hid (Below B (w.alloc (.cells #[.int .i64 0, .int .i64 0] 65)) wr)) (fun _ iv _ => m - (intOf iv).toNat)
  case atStart => exact ⟨0, 0, _, [], Nat.zero_le _, rfl, rfl, E1.out, by show Sys k t (kD (D.take 0)) []; rw [List.take_zero]; exact Sys.nil k t, BB1.out⟩
  case round =>
    clear E1 BB1
    obtain ⟨i, n, v, K, hi, rfl, rfl, hE, hS, hB⟩ := hrel
    have hBs : B ≤ wr.heap.size := by have h1 := hB.out.size; have h2 := HB.out; simp at h1; omega
    have hKn : n ≤ i := by
      have h1 := hE.out.rows.len
      have h2 := sys_len hS.out
      have h3 := kD_len D i
      omega
    have hcr := clashI_range D i
    by_cases hlt : i < m
    · have hlt' : (i : Int) < (m : Int) := by omega
      have hW : Below w.heap.size w wr := (ba1 w _).trans (hB.out.mono (by have := HB.out; omega))
      obtain ⟨x, hx⟩ : ∃ x, D[i]? = some x := ⟨_, List.getElem?_eq_getElem (by rw [HL.out]; exact hlt)⟩
      have hfit := HD.out x (List.mem_of_getElem? hx)
      obtain ⟨b, o, q1, m1, c1, q2, m2, c2, rfl, D1, D2, s1, s2⟩ := (H.out.keep hW).row i x hx
      obtain rfl : k = m1 := by rw [← s1.len]; exact hfit.1.symm
      obtain rfl : t = m2 := by rw [← s2.len]; exact hfit.2.symm
      have S1 := Lib.hid s1; have S2 := Lib.hid s2
      have HX := Lib.hid hx; have HFT := Lib.hid hfit; have HLT := Lib.hid hlt
      obtain ⟨cz, hcz⟩ : ∃ cz, cz = clashI D i := ⟨_, rfl⟩
      rw [← hcz] at hcr ⊢
      have HCZ := Lib.hid hcz
      have hcode := @clashB_code K x
      rw [← sys_clash hS.out hfit] at hcode
      have HCD := Lib.hid hcode
      clear s1 s2 hx hfit hlt hW hcz hcode
      go_wp2_with fail
      refine Calls.mono (EPut_fit B be k t n v K q1 q2 c1 c2 x _ (hE.out.keep (ba1 _ _)) (S1.out.keep (ba1 _ _)) (S2.out.keep (ba1 _ _)) hS.out.red hk ht (by omega)) ?_
      rintro e w4 ⟨rfl, v', n', hE', hC, _⟩
      have hold := chg_old hC (hE.out.keep (ba1 _ _)).rows (Nat.le_refl B) hE.out.old (Nat.le_trans hBs (ba1 wr _).size)
      have B4 := Lib.hid ((hB.out.trans ((ba1 wr _).mono hBs)).trans hold)
      have E4 := Lib.hid hE'
      have Y4 : Hid (Sys k t (kD (D.take (i + 1))) (putK K x)) := by
        show Sys _ _ _ _
        rw [List.take_add_one, HX.out]
        exact hS.out.putX HFT.out
      clear hE' hC hold hE hS hB S1 S2 D1 D2
      have ST := clashI_step HX.out
      rw [← HCZ.out] at ST
      by_cases hcc : clashB (kD (D.take i)) x = true
      · rw [HCD.out.1 hcc]
        by_cases hng : cz < 0
        · rw [if_pos ⟨hcc, hng⟩] at ST
          have HST := Lib.hid ST
          clear ST hcc HCD
          go_wp2
          go_roundw
          case rel => exact ⟨i + 1, n', v', putK K x, by have := HLT.out; omega, by go_num, by rw [HST.out], E4.out, Y4.out, B4.out⟩
          case measure => simp [intOf]; have := HLT.out; omega
        · rw [if_neg (fun h => hng h.2)] at ST
          have HST := Lib.hid ST
          have hng' : 0 ≤ cz := by omega
          clear ST hcc HCD hng
          go_wp2
          go_roundw
          case rel => exact ⟨i + 1, n', v', putK K x, by have := HLT.out; omega, by go_num, by rw [HST.out], E4.out, Y4.out, B4.out⟩
          case measure => simp [intOf]; have := HLT.out; omega
      · rw [if_neg (fun h => hcc h.1)] at ST
        have HST := Lib.hid ST
        obtain ⟨cd, hcd⟩ : ∃ cd, cd = codeF K x := ⟨_, rfl⟩
        have hc2 : ¬ cd = 2 := fun e => hcc (HCD.out.2 (by rw [← hcd]; exact e))
        have hc3 : (cd == 2) = false := by simpa using hc2
        rw [← hcd]
        clear ST hcc HCD hcd
        go_wp2
        go_roundw
        case rel => exact ⟨i + 1, n', v', putK K x, by have := HLT.out; omega, by go_num, by rw [HST.out], E4.out, Y4.out, B4.out⟩
        case measure => simp [intOf]; have := HLT.out; omega
    · obtain rfl : i = m := by omega
      have hn : Hid (n = (kD D).length) := by
        show _ = _
        rw [← hE.out.rows.len, sys_len hS.out, List.take_of_length_le (by rw [HL.out]; exact Nat.le_refl _)]
      go_wp2_with fail
      refine Calls.mono (Rank_any' B be k t n v K _ hE.out) ?_
      rintro e w' ⟨rfl, rfl⟩
      have R1 : wr.heap[w.heap.size]? = some (.cells #[.int .i64 0, .int .i64 0] 65 (0, 0)) := (hB.out.block _ (by have := HB.out; omega)).trans (hnew rfl)
      have d1 := cell_of_row _ _ 0 _ _ _ R1
      have d2 := cell_of_row _ _ 1 _ _ _ R1
      have z1 := frozen_of_row _ _ 0 _ _ R1
      have z2 := frozen_of_row _ _ 1 _ _ R1
      have hW : Hid (Below w.heap.size w wr) := (ba1 w _).trans (hB.out.mono (by have := HB.out; omega))
      have HR1 := Lib.hid R1
      clear R1 hE hS hB hlt
      go_wp2
      exact bodyPost_ret (res_cell_tmp rfl _ _ _ 65 #[.int .i64 n, .int .i64 (clashI D i)] (0, 0) _ (.int .i64 0) rfl (hss (hss HR1.out)) rfl Tryz.underlying65 rfl hinfo) rfl ⟨by rw [hn.out], (hW.out.setCell (Nat.le_refl _) _).setCell (Nat.le_refl _) _⟩
end Go.Proofs.YtbfmdfbnhakolaaGreatDoor
namespace Go.Proofs.YtbfmdfbnhakolaaGreatDoor
open Go.RowKit Go.By
set_option maxRecDepth 100000 in
set_option maxHeartbeats 2000000 in
theorem Judge_size (k t : Nat) (p : Option Addr) (m c : Nat) (D : List Rw) (w : World) (h : RwS w p m c D) (hk1 : 1 ≤ k) (hk : k ≤ 4096) (ht : t ≤ 65535) (hm : m ≤ 4096) (hD : ¬ ∀ x, x ∈ D → Fit k t x) : Calls Tryz.prog 26 #[.int .i64 k, .int .i64 t, .slice p m c] w (RetVd w 0 0 4) := by
  have hinfo := info_verdict
  have H := Lib.hid h; have HL := Lib.hid h.len; have HD := Lib.hid hD
  have hN : Hid (∀ W, Calls Tryz.prog 53 #[.int .i64 k, .int .i64 t] W fun e w' => ∃ be, e = .returned (.tuple #[.pointer (some ⟨be, 0, none⟩), .int .i64 0]) ∧ Elm w' W.heap.size be k t (.slice none 0 0) 0 [] ∧ Below W.heap.size W w') := fun W => New_good k t W hk1 hk ht
  clear h hD
  go_enter Tryz.func26, Tryz.ntmps26
  go_wp2_with fail
  refine Calls.mono (hN.out _) ?_
  rintro e w1 ⟨be, rfl, hE, hb⟩
  obtain ⟨B, hBe⟩ : ∃ B, B = w.heap.size + 1 := ⟨_, rfl⟩
  have E1 : Hid (Elm w1 B be k t (.slice none 0 0) 0 []) := by have := hE; rw [show (w.alloc (.cells #[.int .i64 0, .int .i64 0] 65)).heap.size = B by rw [hBe]; simp] at this; exact this
  have BB1 : Hid (Below B (w.alloc (.cells #[.int .i64 0, .int .i64 0] 65)) w1) := by have := hb; rw [show (w.alloc (.cells #[.int .i64 0, .int .i64 0] 65)).heap.size = B by rw [hBe]; simp] at this; exact this
  have HB := Lib.hid hBe
  clear hE hb hBe hN
  go_wp2
  go_loopw [10, 27] (fun cv iv wr => ∃ (i n : Nat) (v : Value) (K : List Rw) (cz : Int), i ≤ m ∧ iv = .int .i64 i ∧ cv = .int .i64 cz ∧ (-1 ≤ cz ∧ cz < i) ∧ Hid (∀ j x, j < i → D[j]? = some x → Fit k t x) ∧ Hid (Elm wr B be k t v n K) ∧ Hid (Sys k t (kD (D.take i)) K) ∧ Hid (Below B (w.alloc (.cells #[.int .i64 0, .int .i64 0] 65)) wr)) (fun _ iv _ => m - (intOf iv).toNat)
  case atStart => exact ⟨0, 0, _, [], -1, Nat.zero_le _, rfl, rfl, by omega, fun j x hj => by omega, E1.out, by show Sys k t (kD (D.take 0)) []; rw [List.take_zero]; exact Sys.nil k t, BB1.out⟩
  case round =>
    clear E1 BB1
    obtain ⟨i, n, v, K, cz, hi, rfl, rfl, hcr, hA, hE, hS, hB⟩ := hrel
    have hBs : B ≤ wr.heap.size := by have h1 := hB.out.size; have h2 := HB.out; simp at h1; omega
    have hKn : n ≤ i := by
      have h1 := hE.out.rows.len
      have h2 := sys_len hS.out
      have h3 := kD_len D i
      omega
    by_cases hlt : i < m
    · have hlt' : (i : Int) < (m : Int) := by omega
      have hW : Below w.heap.size w wr := (ba1 w _).trans (hB.out.mono (by have := HB.out; omega))
      obtain ⟨x, hx⟩ : ∃ x, D[i]? = some x := ⟨_, List.getElem?_eq_getElem (by rw [HL.out]; exact hlt)⟩
      obtain ⟨b, o, q1, m1, c1, q2, m2, c2, rfl, D1, D2, s1, s2⟩ := (H.out.keep hW).row i x hx
      have R1 : wr.heap[w.heap.size]? = some (.cells #[.int .i64 0, .int .i64 0] 65 (0, 0)) := (hB.out.block _ (by have := HB.out; omega)).trans (hnew rfl)
      by_cases hfit : Fit k t x
      · obtain rfl : k = m1 := by rw [← s1.len]; exact hfit.1.symm
        obtain rfl : t = m2 := by rw [← s2.len]; exact hfit.2.symm
        have S1 := Lib.hid s1; have S2 := Lib.hid s2
        have HX := Lib.hid hx; have HFT := Lib.hid hfit; have HLT := Lib.hid hlt
        have HA2 : Hid (∀ j y, j < i + 1 → D[j]? = some y → Fit k t y) := fun j y hj hy => by
          by_cases e : j = i
          · subst e; rw [HX.out] at hy; cases hy; exact HFT.out
          · exact hA.out j y (by omega) hy
        clear s1 s2 hx hfit hlt hW R1 hA
        go_wp2_with fail
        refine Calls.mono (EPut_fit B be k t n v K q1 q2 c1 c2 x _ (hE.out.keep (ba1 _ _)) (S1.out.keep (ba1 _ _)) (S2.out.keep (ba1 _ _)) hS.out.red hk ht (by omega)) ?_
        rintro e w4 ⟨rfl, v', n', hE', hC, _⟩
        have hold := chg_old hC (hE.out.keep (ba1 _ _)).rows (Nat.le_refl B) hE.out.old (Nat.le_trans hBs (ba1 wr _).size)
        have B4 := Lib.hid ((hB.out.trans ((ba1 wr _).mono hBs)).trans hold)
        have E4 := Lib.hid hE'
        have Y4 : Hid (Sys k t (kD (D.take (i + 1))) (putK K x)) := by
          show Sys _ _ _ _
          rw [List.take_add_one, HX.out]
          exact hS.out.putX HFT.out
        clear hE' hC hold hE hS hB S1 S2 D1 D2
        by_cases hcc : codeF K x = 2
        · rw [hcc]
          clear hcc
          by_cases hng : cz < 0
          · go_wp2
            go_roundw
            case rel => exact ⟨i + 1, n', v', putK K x, i, by have := HLT.out; omega, by go_num, rfl, by omega, HA2.out, E4.out, Y4.out, B4.out⟩
            case measure => simp [intOf]; have := HLT.out; omega
          · have hng' : 0 ≤ cz := by omega
            clear hng
            go_wp2
            go_roundw
            case rel => exact ⟨i + 1, n', v', putK K x, cz, by have := HLT.out; omega, by go_num, rfl, by omega, HA2.out, E4.out, Y4.out, B4.out⟩
            case measure => simp [intOf]; have := HLT.out; omega
        · obtain ⟨cd, hcd⟩ : ∃ cd, cd = codeF K x := ⟨_, rfl⟩
          rw [← hcd] at hcc ⊢
          have hc3 : (cd == 2) = false := by simpa using hcc
          clear hcd
          go_wp2
          go_roundw
          case rel => exact ⟨i + 1, n', v', putK K x, cz, by have := HLT.out; omega, by go_num, rfl, by omega, HA2.out, E4.out, Y4.out, B4.out⟩
          case measure => simp [intOf]; have := HLT.out; omega
      · have hne : m1 ≠ k ∨ m2 ≠ t := by
          by_cases e1 : m1 = k
          · right; intro e2; exact hfit ⟨by rw [s1.len]; exact e1, by rw [s2.len]; exact e2⟩
          · exact .inl e1
        have HNE := Lib.hid hne
        have hWs := Lib.hid hW; have HR1 := Lib.hid R1
        clear s1 s2 hx hfit hlt hne hW R1 hA
        go_wp2_with fail
        refine Calls.mono (EPut_size B be k t n m1 m2 v K q1 q2 c1 c2 _ (hE.out.keep (ba1 _ _)) HNE.out) ?_
        rintro e w4 ⟨rfl, hb⟩
        have hbb := bl (ba1 wr _) hb (ba1 wr _).size
        have R4 := (hbb.block _ (blk_lt HR1.out)).trans HR1.out
        have d1 := cell_of_row _ _ 0 _ _ _ R4
        have d2 := cell_of_row _ _ 1 _ _ _ R4
        have z1 := frozen_of_row _ _ 0 _ _ R4
        have z2 := frozen_of_row _ _ 1 _ _ R4
        have HR4 := Lib.hid R4
        have W4 := Lib.hid (bl hWs.out hbb hWs.out.size)
        clear hb hbb R4 hE hS hB D1 D2
        go_wp2
        exact bodyPost_ret (res_cell_tmp rfl _ _ _ 65 #[.int .i64 0, .int .i64 0] (0, 0) _ (.int .i64 4) rfl (hss (hss HR4.out)) rfl Tryz.underlying65 rfl hinfo) rfl ⟨rfl, (W4.out.setCell (Nat.le_refl _) _).setCell (Nat.le_refl _) _⟩
    · exfalso
      refine HD.out fun x hx => ?_
      obtain ⟨j, hj, rfl⟩ := List.mem_iff_getElem.1 hx
      exact hA.out j _ (by have := HL.out; omega) (List.getElem?_eq_getElem hj)
end Go.Proofs.YtbfmdfbnhakolaaGreatDoor
namespace Go.Proofs.YtbfmdfbnhakolaaGreatDoor
open Go.RowKit Go.By
/-- two boxes: the first is read behind the second -/
theorem box_keep {w : World} {b : Nat} {o o2 : Obj} (h : w.heap[b]? = some o) : (w.alloc o2).heap[b]? = some o := hal h
end Go.Proofs.YtbfmdfbnhakolaaGreatDoor
namespace Go.By
open Go.RowKit
theorem fullN_le (n : Nat) : ∀ r, fullN n r ≤ 256 ^ (n * r)
  | 0 => by rw [Nat.mul_zero]; exact Nat.le_refl _
  | r + 1 => by
    rw [Nat.mul_succ, Nat.pow_add]
    exact Nat.mul_le_mul (fullN_le n r) (Nat.sub_le _ _)
/-- how many are full -/
def fullC (n k : Nat) : Nat := if k ≤ n then fullN n k else 0
theorem fullC_le (n k : Nat) : fullC n k ≤ 256 ^ (n * k) := by
  unfold fullC
  split
  · exact fullN_le n k
  · exact Nat.zero_le _
/-- a box's number is turned -/
theorem NBox.set {T U : TypeId} {w : World} {b M N : Nat} {q : Option Addr} {n c : Nat} (h : NBox T U w b M) (hw : Ws U w q n c N) (hne : T ≠ U) : NBox T U (w.setCell ⟨b, 0, none⟩ (.slice q n c)) b N := by
  obtain ⟨q1, n1, c1, k, _⟩ := h
  exact ⟨q, n, c, hss k, hw.set k hne⟩
theorem NBox.other {T U : TypeId} {w : World} {b b2 N : Nat} {v u : Value} (h : NBox T U w b N) (k2 : w.heap[b2]? = some (.cells #[u] T (0, 0))) (hb : b ≠ b2) (hne : T ≠ U) : NBox T U (w.setCell ⟨b2, 0, none⟩ v) b N := by
  obtain ⟨q1, n1, c1, k, hw⟩ := h
  exact ⟨q1, n1, c1, hsc k hb, hw.set k2 hne⟩
end Go.By
namespace Go.Proofs.YtbfmdfbnhakolaaGreatDoor
open Go.RowKit Go.By
end Go.Proofs.YtbfmdfbnhakolaaGreatDoor
namespace Go.Proofs.YtbfmdfbnhakolaaGreatDoor
open Go.RowKit Go.By
set_option maxRecDepth 100000 in
set_option maxHeartbeats 1000000 in
theorem Count_err (k t : Int) (p : Option Addr) (m c : Nat) (code : Int) (w : World) (hc : 0 < code) (hJ : ∀ W, Below w.heap.size w W → Calls Tryz.prog 26 #[.int .i64 k, .int .i64 t, .slice p m c] W (RetVd W 0 0 code)) : Calls Tryz.prog 11 #[.int .i64 k, .int .i64 t, .slice p m c] w (Ret0 w code) := by
  have hinfo := info_nat
  have HJ := Lib.hid hJ
  have hc2 : (code != 0) = true := by simp; omega
  have hc3 : ¬ code = 0 := by omega
  clear hJ hc
  go_enter Tryz.func11, Tryz.ntmps11
  go_wp2_with fail
  refine Calls.mono (HJ.out _ (ba1 w _)) ?_
  rintro e w1 ⟨rfl, hb⟩
  have K1 := BlkIs.keep (hnew (w := w) (o := .cells #[.slice none 0 0] 40) rfl) hb
  have B1 := Lib.hid (bl (ba1 w _) hb (ba1 w _).size)
  have HK := Lib.hid K1
  obtain ⟨_, a1, a2, a3, a4⟩ := One.of K1
  clear hb K1
  go_wp2
  exact bodyPost_ret (res_cell_tmp rfl _ _ _ 40 #[.slice none 0 0] (0, 0) _ (.int .i64 code) rfl (hss (hal HK.out)) rfl Tryz.underlying40 rfl hinfo) rfl ⟨rfl, (al B1.out B1.out.size).setCell (Nat.le_refl _) _⟩
set_option maxRecDepth 100000 in
set_option maxHeartbeats 1000000 in
theorem Count_clash (k t : Int) (p : Option Addr) (m c : Nat) (r : Nat) (cl : Int) (w : World) (hc : 0 ≤ cl) (hJ : ∀ W, Below w.heap.size w W → Calls Tryz.prog 26 #[.int .i64 k, .int .i64 t, .slice p m c] W (RetVd W r cl 0)) : Calls Tryz.prog 11 #[.int .i64 k, .int .i64 t, .slice p m c] w (RetN 69 w 0) := by
  have hinfo := info_nat
  have HJ := Lib.hid hJ
  clear hJ
  go_enter Tryz.func11, Tryz.ntmps11
  go_wp2_with fail
  refine Calls.mono (HJ.out _ (ba1 w _)) ?_
  rintro e w1 ⟨rfl, hb⟩
  have K1 := BlkIs.keep (hnew (w := w) (o := .cells #[.slice none 0 0] 40) rfl) hb
  have B1 := Lib.hid (bl (ba1 w _) hb (ba1 w _).size)
  have HK := Lib.hid K1
  obtain ⟨_, a1, a2, a3, a4⟩ := One.of K1
  clear hb K1
  go_wp2
  exact bodyPost_ret (res_cell_tmp rfl _ _ _ 40 #[.slice none 0 0] (0, 0) _ (.int .i64 0) rfl (hss (hal HK.out)) rfl Tryz.underlying40 rfl hinfo) rfl ⟨_, _, _, rfl, Ws.zero _ _, (al B1.out B1.out.size).setCell (Nat.le_refl _) _⟩
set_option maxRecDepth 100000 in
set_option maxHeartbeats 2000000 in
theorem Count_ok (k t : Nat) (p : Option Addr) (m c : Nat) (r : Nat) (w : World) (hk : k ≤ 20) (ht : t ≤ 20) (hr : r ≤ k) (hJ : ∀ W, Below w.heap.size w W → Calls Tryz.prog 26 #[.int .i64 k, .int .i64 t, .slice p m c] W (RetVd W r (-1) 0)) : Calls Tryz.prog 11 #[.int .i64 k, .int .i64 t, .slice p m c] w (RetN 69 w (256 ^ (t * (k - r)))) := by
  have hinfo := info_nat
  have HJ := Lib.hid hJ
  obtain ⟨d, hd⟩ : ∃ d, d = k - r := ⟨_, rfl⟩
  obtain ⟨P, hP⟩ : ∃ P, P = t * d := ⟨_, rfl⟩
  rw [← hd, ← hP]
  have hPb : P ≤ 20 * 20 := by rw [hP]; exact Nat.mul_le_mul ht (by omega)
  have A1 : Hid (IntKind.i64.wrap ((k : Int) - (r : Int)) = (d : Int)) := (Go.IntWalk.i64_in _ ⟨by omega, by omega⟩).trans (by omega)
  have A2 : Hid (IntKind.i64.wrap ((t : Int) * (d : Int)) = (P : Int)) := by
    show _ = _
    rw [hP, ← Int.natCast_mul]; exact Go.IntWalk.i64_in _ (by rw [← hP]; omega)
  clear hJ hd hP hr
  go_enter Tryz.func11, Tryz.ntmps11
  go_wp2_with fail
  refine Calls.mono (HJ.out _ (ba1 w _)) ?_
  rintro e w1 ⟨rfl, hb⟩
  have K1 := BlkIs.keep (hnew (w := w) (o := .cells #[.slice none 0 0] 40) rfl) hb
  have B1 : Hid (Bel w w1) := (Bel.mk (ba1 w _)).keep hb
  have hl1 : w.heap.size < w1.heap.size := by have := hb.size; simp at this; omega
  have KA := Lib.hid (K1.keep (ba1 w1 (.cells #[.int .i64 (r : Int), .int .i64 (-1)] 65)))
  have BA := Lib.hid (B1.out.keep (ba1 w1 (.cells #[.int .i64 (r : Int), .int .i64 (-1)] 65)))
  have v0 : (w1.alloc (.cells #[.int .i64 (r : Int), .int .i64 (-1)] 65)).cell? ⟨w1.heap.size, 0, none⟩ = some (.int .i64 r) := cell_of_row _ _ 0 _ _ _ (hnew rfl)
  have V0 := Lib.hid v0
  clear hb K1 B1 v0
  go_wp2
  have v0 := V0.out
  generalize w1.alloc (.cells #[.int .i64 (r : Int), .int .i64 (-1)] 65) = wa at *
  generalize w1.heap.size = bv at *
  have a1 := A1.out; have a2 := A2.out
  refine wp_region_boxN 40 (fun ix => ([ShN.num 69 (256) (by decide), ShN.val _ _ (.int .i64 t), ShN.val _ _ (.int .i64 k), ShN.val _ _ (.pointer (some ⟨bv, 0, none⟩)), ShN.val _ _ (.int .i64 r), ShN.val _ _ (.int .i64 d), ShN.val _ _ (.int .i64 P), ShN.numT 69 (256 ^ P) (0) (by decide), ShN.numT 69 (256 ^ P) (0) (by decide), ShN.num 69 (256 ^ P) (by decide), ShN.val _ _ (.int .i64 0), ShN.box _ _, ShN.any _ _, ShN.val _ _ (.int .i64 0)][ix]?).getD (ShN.any _ _)) 12 10 (ShN.num 69 (256 ^ P) (by decide)) 41 rfl (by kernel_rfl) (by decide) (by decide) (by decide) ?_ ?_
  · refine ⟨?_, ?_, ?_, ?_, ?_, ?_, ?_, ?_, ?_, ?_, ?_, ?_, ?_, ?_, trivial⟩
    · intro a W hb hs hp hi
      refine ite_y rfl (wp_enter 27 #[.int .u64 256] ?_ (Of_k 256 (by decide) W) ?_)
      · simp only [execOp, resolve, List.map_toArray, List.map, eval_tmp, eval_func, eval_const]; simp [go_sem]
      · rintro e W' ⟨q, n, c, rfl, hw, hb'⟩; exact ⟨_, rfl, _, rfl, hb', q, n, c, rfl, hw⟩
    · intro a W hb hs hp hi
      exact ite_y rfl (wp_val (sl a 1) rfl ⟨_, rfl, Below.refl _ _, hi 1 (by decide)⟩)
    · intro a W hb hs hp hi
      exact ite_y rfl (wp_val (sl a 0) rfl ⟨_, rfl, Below.refl _ _, hi 0 (by decide)⟩)
    · intro a W hb hs hp hi
      have tx0 : sl a 8 = .pointer (some ⟨bv, 0, none⟩) := hi 8 (by decide)
      refine ite_y rfl (wp_val (.pointer (some ⟨bv, 0, none⟩)) ?_ ?_)
      · simp only [execOp, eval_tmp, tx0]; simp [go_sem]
      · exact ⟨_, rfl, Below.refl _ _, rfl⟩
    · intro a W hb hs hp hi
      have tt : sl a 30 = .pointer (some ⟨bv, 0, none⟩) := hp 3 (by decide)
      have dd := (hb.cell (p := ⟨bv, 0, none⟩) (lt_of_cell v0)).trans v0
      refine ite_y rfl (wp_val (.int .i64 r) ?_ ?_)
      · simp only [execOp, eval_tmp, tt]; simp [go_sem, dd]
      · exact ⟨_, rfl, Below.refl _ _, rfl⟩
    · intro a W hb hs hp hi
      have tx0 : sl a 29 = .int .i64 k := hp 2 (by decide)
      have tx1 : sl a 31 = .int .i64 r := hp 4 (by decide)
      refine ite_y rfl (wp_val (.int .i64 d) ?_ ?_)
      · simp only [execOp, eval_tmp, eval_const, tx0, tx1]; simp [go_sem, a1]
      · exact ⟨_, rfl, Below.refl _ _, rfl⟩
    · intro a W hb hs hp hi
      have tx0 : sl a 28 = .int .i64 t := hp 1 (by decide)
      have tx1 : sl a 32 = .int .i64 d := hp 5 (by decide)
      refine ite_y rfl (wp_val (.int .i64 P) ?_ ?_)
      · simp only [execOp, eval_tmp, eval_const, tx0, tx1]; simp [go_sem, a2]
      · exact ⟨_, rfl, Below.refl _ _, rfl⟩
    · intro a W hb hs hp hi
      have tx : IsN 69 (256) (sl a 27) W := hp 0 (by decide)
      obtain ⟨q0, n0, c0, tx, h25⟩ := tx
      have ty : sl a 33 = .int .i64 P := hp 6 (by decide)
      refine ite_y rfl (wp_enter 28 #[.agg #[.slice q0 n0 c0], .int .i64 P] ?_ (Pow_ok h25 (by omega) (fun j hj => pow256 (by omega))) ?_)
      · simp only [execOp, resolve, List.map_toArray, List.map, eval_tmp, eval_func, eval_const, tx, ty]; simp [go_sem]
      · rintro e W' ⟨q, n, c, rfl, hw, hb'⟩; exact ⟨_, rfl, _, rfl, hb', q, n, c, rfl, hw⟩
    · intro a W hb hs hp hi
      exact ite_y rfl (wp_val (sl a 34) rfl ⟨_, rfl, Below.refl _ _, hp 7 (by decide)⟩)
    · intro a W hb hs hp hi
      have tx : IsNT 69 (256 ^ P) (0) (sl a 26) W := hp 8 (by decide)
      obtain ⟨q, n, c, tx, wx⟩ := tx
      refine ite_y rfl (wp_val (.agg #[.slice q n c]) ?_ ?_)
      · simp only [execOp, eval_tmp, tx]; rfl
      · exact ⟨_, rfl, Below.refl _ _, q, n, c, rfl, wx⟩
    · intro a W hb hs hp hi
      have tx : IsNT 69 (256 ^ P) (0) (sl a 26) W := hp 8 (by decide)
      obtain ⟨q, n, c, tx, wx⟩ := tx
      refine ite_y rfl (wp_val (.int .i64 0) ?_ ?_)
      · simp only [execOp, eval_tmp, tx]; rfl
      · exact ⟨_, rfl, Below.refl _ _, rfl⟩
    · intro a W hb hs hp hi
      refine ite_y rfl (wp_val' (w' := W.alloc (.cells #[.slice none 0 0] 40)) (.pointer (some ⟨W.heap.size, 0, none⟩)) ?_ ?_)
      · simp only [execOp]; simp [go_sem]
      · exact ⟨_, rfl, al (Below.refl _ _) (Nat.le_refl _), W.heap.size, #[.slice none 0 0], rfl, hb.size, rfl, hnew rfl⟩
    · intro a W hb hs hp hi
      have tu : IsN 69 (256 ^ P) (sl a 35) W := hp 9 (by decide)
      obtain ⟨q, n, c, tu, wu⟩ := tu
      have tb : NBoxS _ _ 1 (sl a 10) W := hp 11 (by decide)
      obtain ⟨b, cs, tb, hB, hc, hh⟩ := tb
      obtain ⟨u0, rfl⟩ := size1 hc
      have d0 : W.cell? ⟨b, 0, none⟩ = some u0 := cell_of_row _ _ 0 _ _ _ hh
      have z0 : W.frozen? ⟨b, 0, none⟩ = false := frozen_of_row _ _ 0 _ _ hh
      refine ite_y rfl (wp_skipX (w' := W.setCell ⟨b, 0, none⟩ (.slice q n c)) ?_ ?_)
      · simp only [execOp, eval_tmp, tu, tb]; simp [go_sem, d0, z0]
      · have hst := stepN_set (v := .slice q n c) hB hh
        exact ⟨_, rfl, hst, b, #[.slice q n c], tb, hB, hss hh, q, n, c, rfl, wu.step hst (by decide)⟩
    · intro a W hb hs hp hi
      exact ite_y rfl (wp_val (sl a 36) rfl ⟨_, rfl, Below.refl _ _, hp 10 (by decide)⟩)
  intro a wx hb hs hd hI ht
  have ha := act_is [27, 28, 29, 30, 31, 32, 33, 34, 26, 35, 36, 10, 9] hs hd ht (by decide)
  have tb : BoxedN _ _ _ _ (sl a) wx := hI 12 (by decide)
  obtain ⟨bx, cs, t3, hBx, hhx, qx, mx, dx, ec, hwx⟩ := tb
  obtain rfl : cs = #[.slice qx mx dx] := by injection ec
  have t4 : sl a 9 = .int .i64 0 := hI 13 (by decide)
  simp only [List.foldl, t3, t4] at ha
  generalize sl a 27 = u27 at ha
  generalize sl a 28 = u28 at ha
  generalize sl a 29 = u29 at ha
  generalize sl a 30 = u30 at ha
  generalize sl a 31 = u31 at ha
  generalize sl a 32 = u32 at ha
  generalize sl a 33 = u33 at ha
  generalize sl a 34 = u34 at ha
  generalize sl a 26 = u26 at ha
  generalize sl a 35 = u35 at ha
  generalize sl a 36 = u36 at ha
  simp only [Act.put, List.setIfInBounds_toArray, List.set_cons_zero, List.set_cons_succ] at ha
  rw [ha]
  clear ha hI ht t3 t4 ec hs hd
  have HWx := Lib.hid hwx
  clear hwx
  have KB := Lib.hid (KA.out.keep hb); have BB := Lib.hid (BA.out.keep hb)
  have hlb : w.heap.size < bx := by have := KA.out; have := blk_lt this; omega
  obtain ⟨_, e1, e2, e3, e4⟩ := One.of hhx
  have R := Lib.hid (ret_num KB.out (Nat.le_refl _) BB.out.out HWx.out (by decide))
  obtain ⟨_, f1, f2, f3, f4⟩ := One.of KB.out
  clear hb hhx HWx KA BA KB BB v0 V0 a1 a2 hBx
  go_wp2
  exact bodyPost_ret (res_cell_tmp rfl _ _ _ 40 #[.slice qx mx dx] (0, 0) _ (.int .i64 0) rfl R.out.2.2 rfl Tryz.underlying40 rfl hinfo) rfl ⟨_, _, _, rfl, R.out.1, R.out.2.1⟩
end Go.Proofs.YtbfmdfbnhakolaaGreatDoor
namespace Go.By
open Go.RowKit
/-- a slice value that owns a row of byte slices, which read in an older world -/
def OwnH (T2 : TypeId) (w0 w : World) (base : Nat) (v : Value) (n : Nat) (xss : List (List UInt8)) : Prop :=
  ∃ vs : List Value, w.ownsRow base T2 1 v n vs ∧ xss.length = n ∧ ∀ (j : Nat) (val : Value), vs[j]? = some val → ∃ xs q c', xss[j]? = some xs ∧ val = Value.slice q xs.length c' ∧ Sl B8 w0 q xs.length c' xs
theorem OwnH.nil (T2 : TypeId) (w0 w : World) (base : Nat) : OwnH T2 w0 w base (.slice none 0 0) 0 [] := ⟨[], World.ownsRow_nil _ _ _ _, rfl, fun j val h => by simp at h⟩
theorem OwnH.sl2 {T2 : TypeId} {w0 w : World} {base n c : Nat} {p : Option Addr} {xss : List (List UInt8)} (h : OwnH T2 w0 w base (.slice p n c) n xss) (hb : Below w0.heap.size w0 w) : Sl2 w p n c xss := by
  obtain ⟨vs, h1, h2, h3⟩ := h
  have hs : Sl id w p n c vs := Sl.of_owns (by rw [List.map_id]; exact h1)
  refine ⟨h2, hs.le, hs.max, hs.nil, ?_⟩
  intro i xs hi
  have hlt : i < vs.length := by
    have := (List.getElem?_eq_some_iff.1 hi).1
    rw [hs.len]; omega
  obtain ⟨b, o, hp, hc⟩ := hs.rs i hlt
  obtain ⟨xs', q, c', a1, a2, a3⟩ := h3 i _ (List.getElem?_eq_getElem hlt)
  have e := hi.symm.trans a1
  cases e
  exact ⟨b, o, q, c', hp, by rw [hc, id, a2], a3.keep hb⟩
theorem OwnH.push {T2 : TypeId} {w0 w' : World} {base n : Nat} {vs : List Value} {v' : Value} {q : Option Addr} {m c : Nat} {xs : List UInt8} {xss : List (List UInt8)} (hvl : vs.length = n) (h2 : xss.length = n)
    (h3 : ∀ (j : Nat) (val : Value), vs[j]? = some val → ∃ xs q c', xss[j]? = some xs ∧ val = Value.slice q xs.length c' ∧ Sl B8 w0 q xs.length c' xs)
    (hr : Sl B8 w0 q m c xs) (ho : w'.ownsRow base T2 1 v' (n + 1) (vs ++ [.slice q m c])) : OwnH T2 w0 w' base v' (n + 1) (xss ++ [xs]) := by
  have hml : m = xs.length := hr.len.symm
  refine ⟨_, ho, by simp [h2], ?_⟩
  intro j val hj
  by_cases hjn : j < n
  · rw [List.getElem?_append_left (by omega)] at hj
    obtain ⟨ys, q', c', a, b, d⟩ := h3 j val hj
    exact ⟨ys, q', c', by rw [List.getElem?_append_left (by omega)]; exact a, b, d⟩
  · rw [List.getElem?_append_right (by omega)] at hj
    have hj0 : j = n := by
      have := (List.getElem?_eq_some_iff.1 hj).1
      simp at this; omega
    subst hj0
    rw [hvl] at hj
    simp at hj
    subst hj
    exact ⟨xs, q, c, by rw [List.getElem?_append_right (by omega), h2]; simp, by rw [hml], by rw [← hml]; exact hr⟩
end Go.By
namespace Go.Proofs.YtbfmdfbnhakolaaGreatDoor
open Go.RowKit Go.By
theorem vecsL_take {D : List Rw} {j : Nat} {x : Rw} (h : D[j]? = some x) : vecsL (D.take (j + 1)) = vecsL (D.take j) ++ [x.1] := by
  unfold vecsL; rw [List.take_add_one, h, List.map_append]; rfl
end Go.Proofs.YtbfmdfbnhakolaaGreatDoor
namespace Go.Proofs.YtbfmdfbnhakolaaGreatDoor
open Go.RowKit Go.By
theorem widesL_take {D : List Rw} {j : Nat} {x : Rw} (h : D[j]? = some x) : widesL (D.take (j + 1)) = widesL (D.take j) ++ [cat x] := by
  unfold widesL; rw [List.take_add_one, h, List.map_append]; rfl
end Go.Proofs.YtbfmdfbnhakolaaGreatDoor
namespace Go.By
open Go.RowKit
theorem RwS.take {w : World} {p : Option Addr} {n c j : Nat} {K : List (List UInt8 × List UInt8)} (h : RwS w p n c K) (hj : j ≤ n) : RwS w p j c (K.take j) :=
  ⟨by rw [List.length_take, h.len]; omega, Nat.le_trans hj h.le, h.max, fun e => ⟨by have := h.nil e; omega, (h.nil e).2⟩, fun i k hi => by
    rw [List.getElem?_take] at hi
    split at hi
    · exact h.row i k hi
    · cases hi⟩
/-- so many rows -/
def Shp.vecN (n : Nat) (xss : List (List UInt8)) : Shp := ⟨fun v w => ∃ p c, v = .slice p n c ∧ Sl2 w p n c xss, fun _ _ _ ⟨p, c, e, h⟩ hb => ⟨p, c, e, h.keep hb⟩⟩
end Go.By
namespace Go.Proofs.YtbfmdfbnhakolaaGreatDoor
open Go.RowKit Go.By
theorem clashI_keep {D : List Rw} {i : Nat} (h : 0 ≤ clashI D i) : ∀ d, clashI D (i + d) = clashI D i
  | 0 => rfl
  | d + 1 => by
    have ih := clashI_keep h d
    show (match D[i + d]? with | some x => _ | none => _) = _
    split
    · rw [if_neg (fun g => by have g2 : clashI D (i + d) < 0 := g.2; rw [ih] at g2; omega)]; exact ih
    · exact ih
theorem calm_clashI {D : List Rw} : ∀ i, calm D i → clashI D i = -1
  | 0, _ => rfl
  | i + 1, h => by
    have ih := calm_clashI i (fun j x hj hx => h j x (by omega) hx)
    show (match D[i]? with | some x => _ | none => _) = _
    split
    · rename_i x hx
      rw [if_neg (fun g => by rw [h i x (by omega) hx] at g; cases g.1)]; exact ih
    · exact ih
theorem first_clashI {D : List Rw} {i m : Nat} {x : Rw} (h : calm D i) (hx : D[i]? = some x) (hc : clashB (kD (D.take i)) x = true) (hm : i < m) : clashI D m = i := by
  have e : clashI D (i + 1) = i := by rw [clashI_step hx, if_pos ⟨hc, by rw [calm_clashI i h]; decide⟩]
  have := clashI_keep (i := i + 1) (D := D) (by rw [e]; omega) (m - (i + 1))
  rw [show i + 1 + (m - (i + 1)) = m by omega, e] at this
  exact this
theorem vecs_len {k t : Nat} {X : List Rw} (h : ∀ x, x ∈ X → Fit k t x) : ∀ r, r ∈ vecsL X → r.length = k := fun r hr => by
  obtain ⟨x, hx, rfl⟩ := List.mem_map.1 hr; exact (h x hx).1
theorem wides_len {k t : Nat} {X : List Rw} (h : ∀ x, x ∈ X → Fit k t x) : ∀ r, r ∈ widesL X → r.length = k + t := fun r hr => by
  obtain ⟨x, hx, rfl⟩ := List.mem_map.1 hr; exact (h x hx).cat
end Go.Proofs.YtbfmdfbnhakolaaGreatDoor
namespace Go.By
open Go.RowKit
section
variable {P : Program} {ops : Array Oper} {Q : Exit → Act → World → Prop}
/-- what is to be shown of one operation -/
def StepDn (P : Program) (ops : Array Oper) (Q : Exit → Act → World → Prop) (a0 : Act) (E : (Nat → Bool) → World → Prop) (R : Nat → World → World → Prop) (Inv : Nat → (Nat → Value) → World → Prop) (i : Nat) (o : Oper) : Prop :=
  ∀ (a : Act) (w : World) (dn : Nat → Bool), dn i = false → E dn w → a.tmps.size = a0.tmps.size → (∀ k, k ∈ preds o → Inv k (sl a) w) → (∀ t, initAt ops i t = true → sl a t = sl a0 t) →
    if Region.wanted o (yielded ops a.tmps) = true then o.wp P a w (fun a' w' => ∃ v, a' = a.put o.dst v ∧ R i w w' ∧ Inv i (sl a') w') Q
    else R i w w ∧ Inv i (sl (a.put o.dst undef)) w
def EachDn (P : Program) (ops : Array Oper) (Q : Exit → Act → World → Prop) (a0 : Act) (E : (Nat → Bool) → World → Prop) (R : Nat → World → World → Prop) (Inv : Nat → (Nat → Value) → World → Prop) : List Oper → Nat → Prop
  | [], _ => True
  | o :: rest, i => StepDn P ops Q a0 E R Inv i o ∧ EachDn P ops Q a0 E R Inv rest (i + 1)
theorem EachDn.get {a0 : Act} {E : (Nat → Bool) → World → Prop} {R : Nat → World → World → Prop} {Inv : Nat → (Nat → Value) → World → Prop} : ∀ (l : List Oper) (k : Nat), EachDn P ops Q a0 E R Inv l k → ∀ j o, l[j]? = some o → StepDn P ops Q a0 E R Inv (k + j) o := by
  intro l
  induction l with
  | nil => intro k _ j o h; simp at h
  | cons x l ih =>
    intro k h j o hj
    cases j with
    | zero => simp at hj; subst hj; exact h.1
    | succ j =>
      have := ih (k + 1) h.2 j o (by simpa using hj)
      rwa [show k + 1 + j = k + (j + 1) by omega] at this
/-- A REGION THAT DRAWS, by an invariant of each operation -/
theorem wp_region_done {id : Nat} {a0 : Act} {w0 : World} (hm : P.follows .mixedOrders = true) (hback : backB ops = true)
    (E : (Nat → Bool) → World → Prop) (R : Nat → World → World → Prop) (Inv : Nat → (Nat → Value) → World → Prop)
    (E0 : E (fun _ => false) w0.drew) (ER : ∀ dn i w w', dn i = false → E dn w → R i w w' → E (fun j => if i = j then true else dn j) w')
    (stable : ∀ i j oi oj (σ σ' : Nat → Value) w w', i ≠ j → ops[i]? = some oi → ops[j]? = some oj → i ∉ preds oj ∨ True → Inv j σ w → R i w w' → (∀ t, oi.dst ≠ some t → σ' t = σ t) → (j ∉ preds oi → True) → (∀ d, oi.dst = some d → i ∈ preds oj → False) → Inv j σ' w')
    (each : EachDn P ops Q a0 E R Inv ops.toList 0)
    (fin : ∀ a w dn, E dn w → a.tmps.size = a0.tmps.size → a.defers = a0.defers → (∀ j, j < ops.size → Inv j (sl a) w) → (∀ t, (ops.toList.all fun o => o.dst != some t) = true → sl a t = sl a0 t) → Q .normal a w) :
    (Code.region id ops true).wp P Q a0 w0 := by
  refine wp_region_any hm ?_
  show wpAny P .any ops Q ops.size (Array.replicate ops.size false) a0 w0.drew
  have main : ∀ (fuel : Nat) (listed : Array Bool) (a : Act) (w : World), unl ops.size listed ≤ fuel → E (fun j => listed.getD j false) w → a.tmps.size = a0.tmps.size → a.defers = a0.defers →
      (∀ j o, listed.getD j false = true → ops[j]? = some o → ∀ k, k ∈ preds o → listed.getD k false = true) →
      (∀ j, j < ops.size → listed.getD j true = true → listed.getD j false = true) →
      (∀ j, j < ops.size → listed.getD j false = true → Inv j (sl a) w) →
      (∀ t, (∀ j o, j < ops.size → listed.getD j false = true → ops[j]? = some o → o.dst ≠ some t) → sl a t = sl a0 t) → wpAny P .any ops Q fuel listed a w := by
    intro fuel
    induction fuel with
    | zero =>
      intro listed a w hu hE hs hd hcl hlt hI ht
      have hall : ∀ j, j < ops.size → listed.getD j false = true := by
        intro j hj
        refine hlt j hj ?_
        have h0 : unl ops.size listed = 0 := by omega
        unfold unl at h0
        have := List.countP_eq_zero.1 h0 j (List.mem_range.2 hj)
        simpa using this
      refine ⟨?_, fin a w _ hE hs hd (fun j hj => hI j hj (hall j hj)) (fun t htt => ht t (fun j o _ _ ho => ?_))⟩
      · rw [List.eq_nil_iff_forall_not_mem]
        intro i hi
        obtain ⟨h1, h2, _⟩ := mem_ready.1 hi
        have hx := hall i h1
        rcases Nat.lt_or_ge i listed.size with h | h
        · simp [Array.getD_eq_getD_getElem?, h] at h2 hx; rw [h2] at hx; cases hx
        · simp [Array.getD_eq_getD_getElem?, Array.getElem?_eq_none h] at hx
      · have := List.all_eq_true.1 htt o (by rw [Array.mem_toList_iff]; exact Array.mem_of_getElem? ho)
        simpa using this
    | succ fuel ih =>
      intro listed a w hu hE hs hd hcl hlt hI ht
      refine ⟨fun hr => ?_, fun i hi => ?_⟩
      · have hall : ∀ n j, j < n → j < ops.size → listed.getD j false = true := by
          intro n
          induction n with
          | zero => intro j hj; omega
          | succ n ihn =>
            intro j hj hjs
            refine hlt j hjs ?_
            cases hb : listed.getD j true with
            | true => rfl
            | false =>
              exfalso
              have ho : ops[j]? = some ops[j] := Array.getElem?_eq_getElem hjs
              have : j ∈ Region.ready .any ops listed := mem_ready.2 ⟨hjs, hb, _, ho, fun k hk => by
                have hbk := List.all_eq_true.1 hback j (List.mem_range.2 hjs)
                rw [ho] at hbk
                have hkj := of_decide_eq_true (List.all_eq_true.1 hbk k hk)
                exact ihn k (by omega) (by omega)⟩
              rw [hr] at this; cases this
        exact fin a w _ hE hs hd (fun j hj => hI j hj (hall (j + 1) j (by omega) hj)) (fun t htt => ht t (fun j o _ _ ho => by
          have := List.all_eq_true.1 htt o (by rw [Array.mem_toList_iff]; exact Array.mem_of_getElem? ho)
          simpa using this))
      · obtain ⟨h1, h2, o, ho, h3⟩ := mem_ready.1 hi
        have hst := EachDn.get ops.toList 0 each i o (by simpa using ho)
        rw [Nat.zero_add] at hst
        have hnl : listed.getD i false ≠ true := by
          intro hx
          rcases Nat.lt_or_ge i listed.size with h | h
          · simp [Array.getD_eq_getD_getElem?, h] at h2 hx; rw [h2] at hx; cases hx
          · simp [Array.getD_eq_getD_getElem?, Array.getElem?_eq_none h] at hx
        have his : i < listed.size := by
          rcases Nat.lt_or_ge i listed.size with h | h
          · exact h
          · simp [Array.getD_eq_getD_getElem?, Array.getElem?_eq_none h] at h2
        have gset : ∀ j (d : Bool), (listed.setIfInBounds i true).getD j d = if i = j then true else listed.getD j d := by
          intro j d
          simp only [Array.getD_eq_getD_getElem?, Array.getElem?_setIfInBounds]
          by_cases e : i = j
          · subst e; simp [his]
          · simp [e]
        have hst' := hst a w _ (by simpa using hnl) hE hs (fun k hk => hI k (by
            have hbk := List.all_eq_true.1 hback i (List.mem_range.2 h1)
            rw [ho] at hbk
            have := of_decide_eq_true (List.all_eq_true.1 hbk k hk); omega) (h3 k hk)) (fun t hti => by
          refine ht t (fun j oj hj hlj hoj hdj => ?_)
          have := List.all_eq_true.1 hti j (List.mem_range.2 hj)
          rw [hoj] at this
          by_cases e : j = i
          · subst e; exact hnl hlj
          · simp [e, hdj] at this
            exact hnl (hcl j oj hlj hoj i this))
        have next : ∀ (v : Value) (w' : World), R i w w' → Inv i (sl (a.put o.dst v)) w' → wpAny P .any ops Q fuel (listed.setIfInBounds i true) (a.put o.dst v) w' := by
          intro v w' hR hIi
          refine ih _ _ _ (by have := unl_set (n := ops.size) h1 h2; omega) (by have h := ER _ i w w' (by simpa using hnl) hE hR; have e : (fun j => if i = j then true else listed.getD j false) = fun j => (listed.setIfInBounds i true).getD j false := funext fun j => (gset j false).symm; rw [e] at h; exact h) ((put_size _ _ _).trans hs) ((put_defers _ _ _).trans hd) ?_ ?_ ?_ ?_
          · intro j oj hj hoj k hk
            rw [gset] at hj ⊢
            by_cases e : i = k
            · rw [if_pos e]
            · rw [if_neg e]
              by_cases e' : i = j
              · subst e'; rw [ho] at hoj; cases hoj; exact h3 k hk
              · rw [if_neg e'] at hj; exact hcl j oj hj hoj k hk
          · intro j hj hl
            rw [gset] at hl ⊢
            by_cases e : i = j
            · rw [if_pos e]
            · rw [if_neg e] at hl ⊢; exact hlt j hj hl
          · intro j hj hl
            rw [gset] at hl
            by_cases e : i = j
            · subst e; exact hIi
            · rw [if_neg e] at hl
              have hoj : ops[j]? = some ops[j] := Array.getElem?_eq_getElem hj
              exact stable i j o _ (sl a) _ w w' e ho hoj (.inr trivial) (hI j hj hl) hR (fun t h => put_sl _ _ _ _ h) (fun _ => trivial) (fun d hdd hp => hnl (hcl j _ hl hoj i hp))
          · intro t htt
            have hdt : o.dst ≠ some t := htt i o h1 (by rw [gset, if_pos rfl]) ho
            rw [put_sl _ _ _ _ hdt]
            exact ht t (fun j oj hj hl hoj => htt j oj hj (by rw [gset]; split <;> simp [hl]) hoj)
        unfold wpOp
        rw [ho]
        show if Region.wanted o (yielded ops a.tmps) = true then _ else _
        split
        · rename_i hw
          rw [if_pos hw] at hst'
          exact .inl (Oper.wp_mono (fun a' w' ⟨v, e, hR, hIi⟩ => by rw [e] at hIi ⊢; exact next v w' hR hIi) hst')
        · rename_i hw
          rw [if_neg hw] at hst'
          exact next undef w hst'.1 hst'.2
  refine main ops.size _ a0 w0.drew ?_ (by have e : (fun j => (Array.replicate ops.size false).getD j false) = fun _ => false := funext fun j => (by simp [Array.getD_eq_getD_getElem?, Array.getElem?_replicate]; split <;> rfl); rw [e]; exact E0) rfl rfl ?_ ?_ ?_ ?_
  · unfold unl; exact Nat.le_trans List.countP_le_length (by simp)
  · intro j o hj; simp [Array.getD_eq_getD_getElem?, Array.getElem?_replicate] at hj
    split at hj <;> simp at hj
  · intro j hj hl; simp [Array.getD_eq_getD_getElem?, Array.getElem?_replicate, hj] at hl
  · intro j hj hl; simp [Array.getD_eq_getD_getElem?, Array.getElem?_replicate, hj] at hl
  · intro t _; rfl
def InvD (ops : Array Oper) (sh : Nat → Value → World → Prop) (i : Nat) (σ : Nat → Value) (w : World) : Prop := match dstOf ops i with
  | some d => sh i (σ d) w
  | none => True
/-- what is to be shown of one operation -/
def StepE (P : Program) (ops : Array Oper) (Q : Exit → Act → World → Prop) (a0 : Act) (E : (Nat → Bool) → World → Prop) (R : Nat → World → World → Prop) (sh : Nat → Value → World → Prop) (i : Nat) (o : Oper) : Prop :=
  ∀ (a : Act) (w : World) (dn : Nat → Bool), dn i = false → E dn w → a.tmps.size = a0.tmps.size → (∀ k, k ∈ preds o → InvD ops sh k (sl a) w) → (∀ t, initAt ops i t = true → sl a t = sl a0 t) →
    if Region.wanted o (yielded ops a.tmps) = true then o.wp P a w (fun a' w' => ∃ v, a' = a.put o.dst v ∧ R i w w' ∧ sh i v w') Q
    else R i w w ∧ sh i undef w
def EachE (P : Program) (ops : Array Oper) (Q : Exit → Act → World → Prop) (a0 : Act) (E : (Nat → Bool) → World → Prop) (R : Nat → World → World → Prop) (sh : Nat → Value → World → Prop) : List Oper → Nat → Prop
  | [], _ => True
  | o :: rest, i => StepE P ops Q a0 E R sh i o ∧ EachE P ops Q a0 E R sh rest (i + 1)
theorem eachE_of {a0 : Act} {E : (Nat → Bool) → World → Prop} {R : Nat → World → World → Prop} {sh : Nat → Value → World → Prop} {n : Nat} (hn : a0.tmps.size = n) : ∀ (l : List Oper) (k : Nat), (∀ j o, l[j]? = some o → ops[k + j]? = some o) → (l.all fun o => match o.dst with
    | some d => decide (d < n)
    | none => false) = true →
    EachE P ops Q a0 E R sh l k → EachDn P ops Q a0 E R (InvD ops sh) l k := by
  intro l
  induction l with
  | nil => intro k _ _ _; trivial
  | cons o l ih =>
    intro k hk hd h
    simp only [List.all_cons, Bool.and_eq_true] at hd
    refine ⟨?_, ih (k + 1) (fun j o' hj => by have := hk (j + 1) o' (by simpa using hj); rwa [show k + (j + 1) = k + 1 + j by omega] at this) hd.2 h.2⟩
    intro a w dn hdn hE hs hp hi
    have ho : ops[k]? = some o := by have := hk 0 o (by simp); simpa using this
    have hs1 := h.1 a w dn hdn hE hs hp hi
    cases hdo : o.dst with
    | none => rw [hdo] at hd; simp at hd
    | some d =>
      rw [hdo] at hd
      have hd1 : d < n := of_decide_eq_true hd.1
      have hdn : d < a.tmps.size := by rw [hs, hn]; exact hd1
      have hdst : dstOf ops k = some d := by simp [dstOf, ho, hdo]
      split
      · rename_i hw
        rw [if_pos hw] at hs1
        refine Oper.wp_mono ?_ hs1
        rintro a' w' ⟨v, e, hb, hok⟩
        refine ⟨v, e.trans (by rw [hdo]), hb, ?_⟩
        unfold InvD
        rw [hdst]
        show sh k (sl a' d) w'
        rw [e, hdo, put_same _ _ _ hdn]; exact hok
      · rename_i hw
        rw [if_neg hw] at hs1
        refine ⟨hs1.1, ?_⟩
        unfold InvD
        rw [hdst]
        show sh k (sl (a.put (some d) undef) d) w
        rw [put_same _ _ _ hdn]; exact hs1.2
/-- operation j waits for operation i -/
def predB (ops : Array Oper) (i j : Nat) : Bool := match ops[j]? with
  | some o => (preds o).contains i
  | none => false
/-- a drawn region by shapes, and by what holds of the world as operations run -/
theorem wp_region_dones {id : Nat} {a0 : Act} {w0 : World} (E : (Nat → Bool) → World → Prop) (R : Nat → World → World → Prop) (sh : Nat → Value → World → Prop) (n : Nat) (hn : a0.tmps.size = n) (hm : P.follows .mixedOrders = true) (hback : backB ops = true) (hdist : distB ops = true) (hdsts : dstsB ops n = true)
    (E0 : E (fun _ => false) w0.drew) (ER : ∀ dn i w w', dn i = false → E dn w → R i w w' → E (fun j => if i = j then true else dn j) w') (keep : ∀ i j v w w', i ≠ j → predB ops i j = false → sh j v w → R i w w' → sh j v w')
    (each : EachE P ops Q a0 E R sh ops.toList 0)
    (fin : ∀ a w dn, E dn w → a.tmps.size = a0.tmps.size → a.defers = a0.defers → (∀ j, j < ops.size → InvD ops sh j (sl a) w) → (∀ t, (ops.toList.all fun o => o.dst != some t) = true → sl a t = sl a0 t) → Q .normal a w) :
    (Code.region id ops true).wp P Q a0 w0 := by
  refine wp_region_done hm hback E R (InvD ops sh) E0 ER ?_ (eachE_of hn _ 0 (fun j o hj => by simpa using hj) hdsts each) fin
  intro i j oi oj σ σ' w w' hij hoi hoj _ hI hR hσ _ hnp
  unfold InvD at hI ⊢
  cases hdj : dstOf ops j with
  | none => trivial
  | some d =>
    rw [hdj] at hI
    show sh j (σ' d) w'
    have hne : oi.dst ≠ some d := by
      intro e
      have hi' : i < ops.size := (Array.getElem?_eq_some_iff.1 hoi).1
      have hj' : j < ops.size := (Array.getElem?_eq_some_iff.1 hoj).1
      have := List.all_eq_true.1 (List.all_eq_true.1 hdist i (List.mem_range.2 hi')) j (List.mem_range.2 hj')
      rw [hoi, hoj] at this
      have hdj' : oj.dst = some d := by simpa [dstOf, hoj] using hdj
      simp [e, hdj', hij] at this
    rw [hσ d hne]
    refine keep i j _ _ _ hij ?_ hI hR
    unfold predB
    rw [hoj]
    show (preds oj).contains i = false
    cases hc : (preds oj).contains i with
    | false => rfl
    | true =>
      have hdo := List.all_eq_true.1 hdsts oi (by rw [Array.mem_toList_iff]; exact Array.mem_of_getElem? hoi)
      cases hd : oi.dst with
      | none => rw [hd] at hdo; simp at hdo
      | some d => exact (hnp d hd (by simpa using hc)).elim
end
end Go.By
namespace Go.By
open Go.RowKit
/-- a slice value that owns rows' headers, which read in an older world -/
def OwnP (T2 : TypeId) (wz w : World) (base : Nat) (v : Value) (n : Nat) (K : List (List UInt8 × List UInt8)) : Prop :=
  ∃ vs : List (Value × Value), vs.length = n ∧ K.length = n ∧ w.ownsRow base T2 2 v n (fl2 vs) ∧ ∀ (j : Nat) (u : Value × Value), vs[j]? = some u → ∃ k, K[j]? = some k ∧ RwP wz u k
theorem OwnP.nil (T2 : TypeId) (wz w : World) (base : Nat) : OwnP T2 wz w base (.slice none 0 0) 0 [] := ⟨[], rfl, rfl, World.ownsRow_nil _ _ _ _, fun j u h => by simp at h⟩
theorem OwnP.push {T2 : TypeId} {wz w1 : World} {base n : Nat} {v' u1 u2 : Value} {k : List UInt8 × List UInt8} {K : List (List UInt8 × List UInt8)} {vs : List (Value × Value)} (a : vs.length = n) (b : K.length = n)
    (r : ∀ (j : Nat) (u : Value × Value), vs[j]? = some u → ∃ k, K[j]? = some k ∧ RwP wz u k) (h : RwP wz (u1, u2) k) (ho : w1.ownsRow base T2 2 v' (n + 1) (fl2 vs ++ [u1, u2])) : OwnP T2 wz w1 base v' (n + 1) (K ++ [k]) := by
  refine ⟨vs ++ [(u1, u2)], by simp [a], by simp [b], by rw [fl2_append]; exact ho, ?_⟩
  intro j u hj
  by_cases hjn : j < vs.length
  · rw [List.getElem?_append_left hjn] at hj
    obtain ⟨k', hk, g1⟩ := r j u hj
    exact ⟨k', by rw [List.getElem?_append_left (by omega)]; exact hk, g1⟩
  · have hj2 := (List.getElem?_eq_some_iff.1 hj).1
    rw [List.length_append, List.length_singleton] at hj2
    obtain rfl : j = vs.length := by omega
    rw [List.getElem?_append_right (Nat.le_refl _), Nat.sub_self] at hj
    have hu : (u1, u2) = u := by simpa using hj
    subst hu
    exact ⟨k, by rw [a, ← b, List.getElem?_append_right (Nat.le_refl _), Nat.sub_self]; rfl, h⟩
theorem OwnP.keep {T2 : TypeId} {wz w w' : World} {base n : Nat} {v : Value} {K : List (List UInt8 × List UInt8)} (h : OwnP T2 wz w base v n K) (hb : Below w.heap.size w w') : OwnP T2 wz w' base v n K := by
  obtain ⟨vs, a, b, o, r⟩ := h; exact ⟨vs, a, b, owns_keepv o hb, r⟩
theorem OwnP.shape {T2 : TypeId} {wz w : World} {base n : Nat} {v : Value} {K : List (List UInt8 × List UInt8)} (h : OwnP T2 wz w base v n K) : ∃ q c, v = .slice q n c := by obtain ⟨vs, a, b, o, r⟩ := h; exact owns_shape o
theorem OwnP.rwS {T2 : TypeId} {wz w : World} {base n c : Nat} {q : Option Addr} {K : List (List UInt8 × List UInt8)} (h : OwnP T2 wz w base (.slice q n c) n K) (hb : Below wz.heap.size wz w) : RwS w q n c K := by
  obtain ⟨vs, a, b, o, r⟩ := h
  have hs : n ≤ c ∧ c ≤ maxLen ∧ (q = none → n = 0 ∧ c = 0) := by
    rcases o.2 with ⟨hv, hn⟩ | ⟨g, cap, cur, hv, _, _, h1, h2, _⟩
    · simp at hv; exact ⟨by omega, by unfold maxLen; omega, fun _ => ⟨by omega, by omega⟩⟩
    · simp at hv; exact ⟨by omega, by omega, fun e => by rw [hv.1] at e; cases e⟩
  refine ⟨b, hs.1, hs.2.1, hs.2.2, fun j k hj => ?_⟩
  have hjn : j < n := by rw [← b]; exact (List.getElem?_eq_some_iff.1 hj).1
  obtain ⟨u, hu⟩ : ∃ u, vs[j]? = some u := ⟨_, List.getElem?_eq_getElem (by omega)⟩
  obtain ⟨k', hk, q1, m1, c1, q2, m2, c2, e, s1, s2⟩ := r j u hu
  rw [hj] at hk; cases hk
  subst e
  rcases o.2 with ⟨hv, _⟩ | ⟨g, cap, cur, hv, _⟩
  · simp at hv; omega
  · obtain ⟨rfl, rfl⟩ : q = some ⟨g, 0, none⟩ ∧ c = cap := by simpa using hv
    obtain ⟨f1, f2⟩ := fl2_at hu
    refine ⟨g, 0, q1, m1, c1, q2, m2, c2, rfl, ?_, ?_, s1.keep hb, s2.keep hb⟩
    · rw [Nat.zero_add, o.cellAt _ (by omega), f1]
    · rw [Nat.zero_add, o.cellAt _ (by omega), f2]
/-- one row appended -/
theorem wp_append_row {P : Program} {o : Oper} {a : Act} {w : World} {K : Act → World → Prop} {Q : Exit → Act → World → Prop} (s x : Operand) (t : TypeId) (ho : o.op = .call { callee := .builtin .append, args := #[s, x], argTypes := #[t, t] })
    (base : Nat) (e : TypeId) (i : TypeInfo) (z : Value) (bytes : Nat) (ht : P.underlying t = some (.slice e)) (hi : P.info? e = some i) (hz : i.zero = some z) (hsize : i.size = 2) (hby : i.bytes = bytes) (hzs : z.cells.size = 2)
    (v : Value) (n : Nat) (vs : List (Value × Value)) (hs : a.eval s = v) (hown : w.ownsRow base e 2 v n (fl2 vs)) (g c : Nat) (u1 u2 : Value) (T : TypeId) (fr : Nat × Nat) (hx : a.eval x = .slice (some ⟨g, 0, none⟩) 1 c) (hg : w.heap[g]? = some (.cells #[u1, u2] T fr))
    (h1 : u1.oneCell' = true) (h2 : u2.oneCell' = true) (h63 : n + 1 ≤ maxLen) (hb : (n + 1) * bytes ≤ 140737488355328) (hbase : base ≤ w.heap.size)
    (h : ∀ v' w', w'.ownsRow base e 2 v' (n + 1) (fl2 vs ++ [u1, u2]) → w.grownBy w' v.ownBlock → K (a.put o.dst v') w') : o.wp P a w K Q := by
  obtain ⟨v', w', hrun, r1, r2, _⟩ := run_append_own (P := P) w base t o.type e i z 2 bytes ht hi hz hsize hby hzs (by decide) v n (fl2 vs) hown ⟨g, 0, none⟩ 1 c [u1, u2] rfl (fun j u hj => by
      rw [Addr.add_lit, Nat.zero_add, cell_of_row _ _ j _ _ _ hg]
      simpa using hj) (fun u hu => by
      simp at hu
      rcases hu with rfl | rfl
      · exact h1
      · exact h2) h63 hb hbase
  unfold Oper.wp
  simp [execOp, ho, resolve, invoke, builtin, hs, hx, hrun, Result.andThen]
  exact h v' w' r1 r2
/-- the blocks of a value's row are of one type -/
def tyS (T : TypeId) (w : World) (v : Value) : Prop := ∀ b, v.ownBlock = some b → ∀ (cs : Array Value) (T' : TypeId) fr, w.heap[b]? = some (.cells cs T' fr) → T' = T
theorem tyS_of {w : World} {base T s n : Nat} {v : Value} {L : List Value} (ho : w.ownsRow base T s v n L) : tyS T w v := fun b hs cs T' fr hh => by
  rcases ho.2 with ⟨e1, _⟩ | ⟨g', cap, cur, e1, _, hc, _⟩
  · rw [e1] at hs; cases hs
  · rw [e1] at hs; cases hs
    rw [hc] at hh; injection hh with hh; injection hh with _ hh _; exact hh.symm
/-- what an append leaves: old memory but for the row of v, which was of type T -/
def App (T : TypeId) (v : Value) (w w' : World) : Prop := w.grownBy w' v.ownBlock ∧ tyS T w v
section
variable {T T1 T2 : TypeId} {v : Value} {w w' : World}
theorem App.owns {base s n : Nat} {u : Value} {L : List Value} (h : App T v w w') (ho : w.ownsRow base T2 s u n L) (hT : T2 ≠ T) : w'.ownsRow base T2 s u n L :=
  owns_kept ho h.1 (fun k hk e => by
    rcases ho.2 with ⟨e1, _⟩ | ⟨g', cap, cur, e1, _, hc, _⟩
    · rw [e1] at hk; cases hk
    · rw [e1] at hk; cases hk
      exact hT (h.2 _ e.symm _ _ _ hc))
theorem App.bw {base : Nat} {u : Value} {xs : List UInt8} (h : App T v w w') (hb : Bw T1 w base u xs) (hT : T1 ≠ T) : Bw T1 w' base u xs := by
  obtain ⟨q, m, c, e, l, o⟩ := hb; exact ⟨q, m, c, e, l, h.owns o hT⟩
theorem App.rwL {base n : Nat} {u : Value} {K : List (List UInt8 × List UInt8)} (h : App T v w w') (hr : RwL T2 T1 w base u n K) (h2 : T2 ≠ T) (h1 : T1 ≠ T) : RwL T2 T1 w' base u n K := by
  obtain ⟨vs, a, b, o, r⟩ := hr
  exact ⟨vs, a, b, h.owns o h2, fun j x hj => by obtain ⟨k, hk, g1, g2⟩ := r j x hj; exact ⟨k, hk, h.bw g1 h1, h.bw g2 h1⟩⟩
theorem App.ownP {base n : Nat} {wz : World} {u : Value} {K : List (List UInt8 × List UInt8)} (h : App T v w w') (hr : OwnP T2 wz w base u n K) (h2 : T2 ≠ T) : OwnP T2 wz w' base u n K := by
  obtain ⟨vs, a, b, o, r⟩ := hr; exact ⟨vs, a, b, h.owns o h2, r⟩
theorem App.block {b : Nat} (h : App T v w w') (hb : b < w.heap.size) (hv : v.ownBlock ≠ some b) : w'.heap[b]? = w.heap[b]? := h.1.block b hb (fun e => hv e.symm)
theorem App.blockT {b : Nat} {cs : Array Value} {T' : TypeId} {fr : Nat × Nat} (h : App T v w w') (hb : w.heap[b]? = some (.cells cs T' fr)) (hT : T' ≠ T) : w'.heap[b]? = some (.cells cs T' fr) :=
  (h.block (blk_lt hb) (fun e => hT (h.2 _ e _ _ _ hb))).trans hb
end
end Go.By
