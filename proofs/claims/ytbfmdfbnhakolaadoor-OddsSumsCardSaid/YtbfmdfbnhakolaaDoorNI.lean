/- Numbers: plus. -/
import Derived.Test.YtbfmdfbnhakolaaDoorNH
import Derived.OwnWalk
namespace Go.By
open Go.RowKit
theorem valW_take {xs : List UInt64} {k : Nat} {x : UInt64} (h : xs[k]? = some x) : valW (xs.take (k + 1)) = valW (xs.take k) + 18446744073709551616 ^ k * x.toNat := by
  unfold valW
  rw [List.map_take, List.map_take]
  exact valD_take (by rw [List.getElem?_map, h]; rfl)
theorem valW_take_none {xs : List UInt64} {k : Nat} (h : xs.length ≤ k) : valW (xs.take (k + 1)) = valW (xs.take k) := by
  rw [List.take_of_length_le (by omega), List.take_of_length_le h]
theorem valW_take_all {xs : List UInt64} {k : Nat} (h : xs.length ≤ k) : valW (xs.take k) = valW xs := by rw [List.take_of_length_le h]
theorem valW_set_take {S : List UInt64} {k : Nat} {s : UInt64} (h : k < S.length) : valW ((S.set k s).take (k + 1)) = valW (S.take k) + 18446744073709551616 ^ k * s.toNat := by
  rw [valW_take (k := k) (x := s) (by rw [List.getElem?_set, if_pos rfl, if_pos h])]
  rw [List.take_set_of_le (Nat.le_refl k)]
theorem valW_zeros (k : Nat) : valW (List.replicate k 0) = 0 := by
  unfold valW
  rw [List.map_replicate]
  exact valD_zeros _ k
/-- words in new memory -/
def RetWs (T : TypeId) (w : World) (n N : Nat) (e : Ending) (w' : World) : Prop :=
  ∃ S : List UInt64, e = .returned (.slice (some ⟨w.heap.size, 0, none⟩) n n) ∧ w'.ownsRow w.heap.size T 1 (.slice (some ⟨w.heap.size, 0, none⟩) n n) n (S.map W64) ∧ valW S = N ∧ Below w.heap.size w w'
theorem lies_of_owns {w : World} {base T n c : Nat} {q : Option Addr} {ys : List Value} (h : w.ownsRow base T 1 (.slice q n c) n ys) : Lies T w q := by
  intro a ha
  rcases h.2 with ⟨h2, _⟩ | ⟨g, cap, cur, hv, hb, hg, _⟩
  · rw [ha] at h2; cases h2
  · obtain ⟨rfl, rfl⟩ : q = some ⟨g, 0, none⟩ ∧ c = cap := by simpa using hv
    obtain rfl := Option.some.inj ha
    exact ⟨_, _, hg⟩
end Go.By
namespace Go.Proofs.YtbfmdfbnhakolaaDoor
open Go.RowKit Go.By
set_option maxRecDepth 100000 in
set_option maxHeartbeats 1000000 in
theorem plus_any (p q : Option Addr) (n c m d : Nat) (xs ys : List UInt64) (w : World) (h1 : Sl W64 w p n c xs) (h2 : Sl W64 w q m d ys) (hm : m ≤ n) (hn : n ≤ 1000000) :
    Calls Tryd.prog 36 #[.slice p n c, .slice q m d] w (RetWs 34 w (n + 1) (valW xs + valW ys)) := by
  obtain ⟨i0, hi, hz0, hz1, hz2⟩ := info_parts info_u64
  have HM1 : Hid (n + 1 ≤ maxLen) := by show n + 1 ≤ maxLen; unfold maxLen; omega
  have HM2 : Hid (8 * (n + 1) ≤ 281474976710656) := by show 8 * (n + 1) ≤ _; omega
  have HL : Hid (xs.length = n ∧ ys.length = m) := ⟨h1.len, h2.len⟩
  have H1 := Lib.hid h1; have H2 := Lib.hid h2
  clear h1 h2
  go_enter Tryd.func36, Tryd.ntmps36
  go_wp2_with (at_make; refine wpList_make_full _ rfl _ _ 27 rfl w.heap.size 34 i0 (.int .u64 0) 1 Tryd.underlying27 hi hz0 hz1 .i64 .i64 _ _ (n + 1) rfl rfl (by simp) (by simp) (by rw [hz2]; exact HM2.out) HM1.out (Nat.le_refl _) ?_)
  intro w1 ho hg
  have HO : Hid (w1.ownsRow w.heap.size 34 1 (.slice (some ⟨w.heap.size, 0, none⟩) (n + 1) (n + 1)) (n + 1) ((List.replicate (n + 1) (0 : UInt64)).map W64)) := by
    have e : (madeCells #[Value.int .u64 0] (n + 1)).toList = (List.replicate (n + 1) (0 : UInt64)).map W64 := by rw [List.map_replicate]; exact toList_madeCells_one _ _
    show World.ownsRow _ _ _ _ _ _ _
    rw [← e]; simpa using ho
  have HB : Hid (Below w.heap.size w w1) := (Below.refl _ _).grown hg (Nat.le_refl _) (by simp)
  clear ho hg
  go_wp2
  go_loopw [6, 15] (fun cv i wr => ∃ (k cy : Nat) (S : List UInt64), k ≤ n ∧ cy ≤ 1 ∧ cv = .int .u64 cy ∧ i = .int .i64 k ∧ Hid (S.length = n + 1) ∧ Hid (wr.ownsRow w.heap.size 34 1 (.slice (some ⟨w.heap.size, 0, none⟩) (n + 1) (n + 1)) (n + 1) (S.map W64)) ∧ Hid (valW (S.take k) + 18446744073709551616 ^ k * cy = valW (xs.take k) + valW (ys.take k)) ∧ Hid (Below w.heap.size w wr)) (fun _ i _ => n - (intOf i).toNat)
  case atStart => exact ⟨0, 0, _, Nat.zero_le _, Nat.zero_le _, rfl, rfl, by simp [Hid], HO.out, by simp [Hid, valW, valD], HB.out⟩
  case round =>
    clear HO HB
    obtain ⟨k, cy, S, hk, hcy, rfl, rfl, hSl, hO, hV, hB⟩ := hrel
    by_cases hlt : k < n
    · obtain ⟨b, o, x, rfl, hc, hx⟩ := H1.out.at k hlt
      have hcx := (hB.out.cell (p := ⟨b, o + k, none⟩) (lt_of_cell hc)).trans hc
      have fin : Hid (∀ (s : UInt64) (c' : Nat), valW (S.take k) + 18446744073709551616 ^ k * s.toNat + 18446744073709551616 ^ (k + 1) * c' = valW (xs.take (k + 1)) + valW (ys.take (k + 1)) →
          (S.set k s).length = n + 1 ∧ (wr.setCell ⟨w.heap.size, k, none⟩ (W64 s)).ownsRow w.heap.size 34 1 (.slice (some ⟨w.heap.size, 0, none⟩) (n + 1) (n + 1)) (n + 1) ((S.set k s).map W64) ∧ valW ((S.set k s).take (k + 1)) + 18446744073709551616 ^ (k + 1) * c' = valW (xs.take (k + 1)) + valW (ys.take (k + 1)) ∧ Below w.heap.size w (wr.setCell ⟨w.heap.size, k, none⟩ (W64 s))) := fun s c' he => by
        refine ⟨by rw [List.length_set]; exact hSl.out, ?_, by rw [valW_set_take (by have := hSl.out; omega)]; exact he, hB.out.setCell (Nat.le_refl _) _⟩
        rw [List.map_set]
        exact (hO.out.stored k (W64 s)).1
      have z0 : ∃ v, wr.cell? ⟨w.heap.size, k, none⟩ = some v := ⟨_, by rw [hO.out.cellAt k (by omega), List.getElem?_eq_getElem (by rw [List.length_map, hSl.out]; omega)]⟩
      obtain ⟨z, hz⟩ := z0
      have hzf : wr.frozen? ⟨w.heap.size, k, none⟩ = false := hO.out.frozenAt _
      have hlt' : (k : Int) < (n : Int) := by omega
      have hltn : (k : Int) < (n : Int) + 1 := by omega
      have HB' := Lib.hid hB.out
      clear hc hO hSl hB
      by_cases hlm : k < m
      · obtain ⟨b', o', y, rfl, hcy', hy⟩ := H2.out.at k hlm
        have hcY := (HB'.out.cell (p := ⟨b', o' + k, none⟩) (lt_of_cell hcy')).trans hcy'
        obtain ⟨s, c', hrun, hc1, hsum⟩ := add64_ex x.toNat y.toNat cy hcy x.toNat_lt y.toNat_lt
        have F := Lib.hid (fin.out s c' (by
          rw [valW_take hx.out, valW_take hy.out]
          exact add_step hV.out hsum.out.1 hsum.out.2))
        have hlm' : (k : Int) < (m : Int) := by omega
        clear hcy' hlm hlt
        go_wp2_with (simp only [hrun])
        go_roundw
        case rel => exact ⟨k + 1, c', _, by omega, hc1, rfl, by go_num, F.out.1, F.out.2.1, F.out.2.2.1, F.out.2.2.2⟩
        case measure => simp [intOf]; omega
      · obtain ⟨s, c', hrun, hc1, hsum⟩ := add64_ex x.toNat 0 cy hcy x.toNat_lt (by decide)
        have F := Lib.hid (fin.out s c' (by
          rw [valW_take hx.out, valW_take_none (by have := HL.out.2; omega)]
          have := add_step (B := valW (ys.take k)) hV.out hsum.out.1 hsum.out.2
          rwa [Nat.mul_zero, Nat.add_zero] at this))
        have hlm' : ¬ (k : Int) < (m : Int) := by omega
        have hrun' : ∀ w, (callFunc 64 #[.int .u64 x.toNat, .int .u64 0, .int .u64 cy]).run Tryd.prog w = .ok (.value (.tuple #[W64 s, .int .u64 c'])) w := hrun
        clear hlm hlt hrun
        go_wp2_with (simp only [hrun'])
        go_roundw
        case rel => exact ⟨k + 1, c', _, by omega, hc1, rfl, by go_num, F.out.1, F.out.2.1, F.out.2.2.1, F.out.2.2.2⟩
        case measure => simp [intOf]; omega
    · obtain rfl : k = n := by omega
      have z0 : ∃ v, wr.cell? ⟨w.heap.size, k, none⟩ = some v := ⟨_, by rw [hO.out.cellAt k (by omega), List.getElem?_eq_getElem (by rw [List.length_map, hSl.out]; omega)]⟩
      obtain ⟨z, hz⟩ := z0
      have hzf : wr.frozen? ⟨w.heap.size, k, none⟩ = false := hO.out.frozenAt _
      have e : Hid (Value.int .u64 (cy : Int) = W64 (UInt64.ofNat cy) ∧ (UInt64.ofNat cy).toNat = cy) := by
        have : (UInt64.ofNat cy).toNat = cy := by simp; omega
        exact ⟨W64_eq (by rw [this]), this⟩
      have F : Hid ((wr.setCell ⟨w.heap.size, k, none⟩ (.int .u64 (cy : Int))).ownsRow w.heap.size 34 1 (.slice (some ⟨w.heap.size, 0, none⟩) (k + 1) (k + 1)) (k + 1) ((S.set k (UInt64.ofNat cy)).map W64) ∧ valW (S.set k (UInt64.ofNat cy)) = valW xs + valW ys ∧ Below w.heap.size w (wr.setCell ⟨w.heap.size, k, none⟩ (.int .u64 (cy : Int)))) := by
        refine ⟨?_, ?_, hB.out.setCell (Nat.le_refl _) _⟩
        · rw [List.map_set, ← e.out.1]
          exact (hO.out.stored k _).1
        · have h1 := valW_set_take (S := S) (k := k) (s := UInt64.ofNat cy) (by have := hSl.out; omega)
          rw [valW_take_all (by rw [List.length_set]; have := hSl.out; omega), e.out.2] at h1
          rw [h1, hV.out, valW_take_all (by have := HL.out.1; omega), valW_take_all (by have := HL.out.2; omega)]
      have hkn : (k : Int) < (k : Int) + 1 := by omega
      clear hO hSl hB hV e hlt
      go_wp2
      go_ret
      exact ⟨_, rfl, F.out.1, F.out.2.1, F.out.2.2⟩
end Go.Proofs.YtbfmdfbnhakolaaDoor
