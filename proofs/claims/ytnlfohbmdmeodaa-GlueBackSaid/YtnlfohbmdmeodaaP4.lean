/- The contracts of the whole of the symbols, Join and Clean. -/
import Derived.Test.YtnlfohbmdmeodaaP3
namespace Go.Proofs.Ytnlfohbmdmeodaa
open Go.RowKit Go.By
def wholeS (l s n : Int) (xss : List (List UInt8)) : List UInt8 × Int :=
  if checkS l s n = 0 then (if (xss.length : Int) = n then (if xss.all (fun y => decide (y.length = s.toNat)) then (xss.flatten, 0) else ([], 4)) else ([], 5)) else ([], checkS l s n)
theorem checkS_ok {l s n : Int} (h : checkS l s n = 0) : 0 ≤ l ∧ 1 ≤ s ∧ s ≤ 65535 ∧ n = needS l s ∧ n ≤ 4096 := by
  unfold checkS at h
  rcases fitS_cases l s with ⟨h0, h1⟩ | ⟨h0, h1, h2, h3, h4⟩
  · rw [if_neg h0] at h; exact absurd h h0
  · rw [if_pos h0] at h
    split at h
    · omega
    · omega
theorem flat_len {xss : List (List UInt8)} {s : Nat} (h : ∀ x, x ∈ xss → x.length = s) : xss.flatten.length = xss.length * s := by
  induction xss with
  | nil => simp
  | cons x l ih =>
    rw [List.flatten_cons, List.length_append, ih (fun y hy => h y (List.mem_cons_of_mem _ hy)), h x List.mem_cons_self, List.length_cons, Nat.add_mul]
    omega
theorem wholeS_cases (l s n : Int) (xss : List (List UInt8)) : ((wholeS l s n xss).2 ≠ 0 ∧ (wholeS l s n xss).1 = []) ∨ ((wholeS l s n xss).2 = 0 ∧ checkS l s n = 0 ∧ (wholeS l s n xss).1 = xss.flatten ∧ 0 ≤ l ∧ l ≤ xss.flatten.length) := by
  by_cases h0 : checkS l s n = 0
  · unfold wholeS; rw [if_pos h0]
    by_cases h1 : (xss.length : Int) = n
    · rw [if_pos h1]
      by_cases h2 : xss.all (fun y => decide (y.length = s.toNat)) = true
      · rw [if_pos h2]
        right
        obtain ⟨g1, g2, g3, g4, g5⟩ := checkS_ok h0
        refine ⟨rfl, h0, rfl, g1, ?_⟩
        have hl := flat_len (s := s.toNat) (fun x hx => by simpa using List.all_eq_true.1 h2 x hx)
        by_cases hz : l = 0
        · omega
        · obtain ⟨q1, q2⟩ := needS_spec (l := l) (s := s) (by omega) g2
          rw [hl, Int.natCast_mul, h1, g4, Int.toNat_of_nonneg (by omega)]
          exact q2
      · rw [if_neg h2]; left; exact ⟨by simp, rfl⟩
    · rw [if_neg h1]; left; exact ⟨by simp, rfl⟩
  · left; unfold wholeS; rw [if_neg h0]; exact ⟨h0, rfl⟩
theorem enters_whole : Enters Try.prog 27 := enters_of Try.func27 (by kernel_rfl) rfl
set_option maxHeartbeats 400000 in
theorem whole1_any (q : Option Addr) (m c B s : Nat) (w : World) (hB : w.cell? ⟨B, 1, none⟩ = some (.int .i64 s)) :
    Calls Try.prog 27 #[.slice q m c, .pointer (some ⟨B, 0, none⟩)] w fun e w' => e = .returned (.bool ((m : Int) != s)) ∧ w = w' := by
  go_enter Try.func27, Try.ntmps27
  go_wp2
  go_ret
  exact ⟨rfl, rfl⟩
set_option maxRecDepth 100000 in
set_option maxHeartbeats 1000000 in
theorem whole_any (l s n d : Int) (p : Option Addr) (m c : Nat) (xss : List (List UInt8)) (w : World) (h : Sl2 w p m c xss) (hl2 : l ≤ 9223372036854775807) :
    Calls Try.prog 17 #[.agg #[.int .i64 l, .int .i64 s, .int .i64 n, .int .u32 d], .slice p m c] w (RetB 5 w (wholeS l s n xss).1 (wholeS l s n xss).2) := by
  have HC := Lib.hid (fun w => Check_any l s n d w hl2)
  have hB := fun o => al (o := o) (Below.refl w.heap.size w) (Nat.le_refl _)
  by_cases h0 : checkS l s n = 0
  · rw [h0] at HC
    obtain ⟨g1, g2, g3, g4, g5⟩ := checkS_ok h0
    obtain ⟨s0, rfl⟩ := Int.eq_ofNat_of_zero_le (show 0 ≤ s by omega)
    have HW : Hid (wholeS l s0 n xss = if (m : Int) = n then (if xss.all (fun y => decide (y.length = s0)) then (xss.flatten, 0) else ([], 4)) else ([], 5)) := by
      unfold wholeS; rw [Hid, if_pos h0, h.len, Int.toNat_natCast]
    have hmb := h.bound
    by_cases h1 : (m : Int) = n
    · have hb : ((m : Int) != n) = false := by simpa using h1
      rw [if_pos h1] at HW
      obtain ⟨vs, hvs, hvv⟩ := h.vals
      have hax := any_vals (n := s0) (hvs.len.trans h.len.symm) hvv
      have H := Lib.hid h; have HV := Lib.hid hvs; have HVV := Lib.hid hvv; have HA := Lib.hid hax
      have HR : Hid (xss.all (fun y => decide (y.length = s0)) = true → Room xss.flatten.length) := fun ha => by
        have hl := flat_len (s := s0) (fun x hx => by simpa using List.all_eq_true.1 ha x hx)
        have h5 : xss.length * s0 ≤ 4096 * 65535 := Nat.mul_le_mul (by have := h.len; omega) (by omega)
        unfold Room; omega
      clear h hvs hvv hax h0 g4 h1
      go_enter Try.func17, Try.ntmps17
      go_wp2_with fail
      refine (HC.out _).mono ?_; rintro e w1 ⟨rfl, hb1⟩
      have k1 : Below w.heap.size w w1 := bl (hB _) hb1 (by simp)
      have e1 : w1.heap[w.heap.size]? = some (.cells #[.int .i64 l, .int .i64 s0, .int .i64 n, .int .u32 d] 24 (0, 0)) := by
        rw [hb1.block _ (by simp)]; exact hnew rfl
      have c2 : w1.cell? ⟨w.heap.size, 2, none⟩ = some (.int .i64 n) := cell_of_row _ _ 2 _ _ _ e1
      have c1 : w1.cell? ⟨w.heap.size, 1, none⟩ = some (.int .i64 s0) := cell_of_row _ _ 1 _ _ _ e1
      clear e1
      go_wp2_with fail
      refine (ContainsFuncBB_any id (lenNe s0) 27 _ enters_whole p m c vs w1 (HV.out.keep k1) ?_).mono ?_
      · intro v hv
        obtain ⟨i, hi, e⟩ := List.getElem_of_mem hv
        obtain ⟨xs, q, c', hx, rfl, hs⟩ := HVV.out i v (by rw [List.getElem?_eq_getElem hi, e])
        exact whole1_any q _ c' _ s0 w1 c1
      rintro e w' ⟨rfl, rfl⟩
      rw [HA.out]
      by_cases h2 : xss.all (fun y => decide (y.length = s0)) = true
      · have HR := Lib.hid (HR.out h2)
        rw [h2] at HW ⊢
        have HW' := Lib.hid HW.out
        clear HA h2
        go_wp2_with fail
        refine (Concat_any p m c xss w1 (H.out.keep k1) HR.out).mono ?_; rintro e w2 ⟨q, m', c', hm, rfl, ho, hb2⟩
        have HO := Lib.hid ho; clear ho
        go_wp2
        go_ret2
        rw [HW.out]
        exact ⟨q, m', c', hm, rfl, owns_mono HO.out k1.size, bl k1 hb2 k1.size⟩
      · have h2' := eq_false_of_ne_true h2
        rw [h2'] at HW ⊢
        clear HA h2 h2'
        go_wp2
        go_ret2
        rw [HW.out]
        exact RetB.nil _ _ _ _ k1
    · have hb : ((m : Int) != n) = true := by simpa using h1
      rw [if_neg h1] at HW
      clear h h0 g4 h1
      go_enter Try.func17, Try.ntmps17
      go_wp2_with fail
      refine (HC.out _).mono ?_; rintro e w1 ⟨rfl, hb1⟩
      have k1 : Below w.heap.size w w1 := bl (hB _) hb1 (by simp)
      have e1 : w1.heap[w.heap.size]? = some (.cells #[.int .i64 l, .int .i64 s0, .int .i64 n, .int .u32 d] 24 (0, 0)) := by
        rw [hb1.block _ (by simp)]; exact hnew rfl
      have c2 : w1.cell? ⟨w.heap.size, 2, none⟩ = some (.int .i64 n) := cell_of_row _ _ 2 _ _ _ e1
      clear e1
      go_wp2
      go_ret2
      rw [HW.out]
      exact RetB.nil _ _ _ _ k1
  · have HW : Hid (wholeS l s n xss = ([], checkS l s n)) := by unfold wholeS; rw [Hid, if_neg h0]
    have hb : (checkS l s n != 0) = true := by simpa using h0
    generalize checkS l s n = k at *
    clear h h0
    go_enter Try.func17, Try.ntmps17
    go_wp2_with fail
    refine (HC.out _).mono ?_; rintro e w1 ⟨rfl, hb1⟩
    have k1 : Below w.heap.size w w1 := bl (hB _) hb1 (by simp)
    go_wp2
    go_ret2
    rw [HW.out]
    exact RetB.nil _ _ _ _ k1
end Go.Proofs.Ytnlfohbmdmeodaa
