/- The contracts of Join and Clean. -/
import Derived.Test.YtnlfohbmdmeodaaP4
namespace Go.Proofs.Ytnlfohbmdmeodaa
open Go.RowKit Go.By
theorem Sl.take {α : Type} {enc : α → Value} {w : World} {p : Option Addr} {n c k c2 : Nat} {xs : List α} (h : Sl enc w p n c xs) (hk : k ≤ n) (h1 : k ≤ c2) (h2 : c2 ≤ c) : Sl enc w p k c2 (xs.take k) := by
  refine ⟨by rw [List.length_take, h.len]; omega, h1, Nat.le_trans h2 h.max, fun e => ?_, ?_⟩
  · have := h.nil e; omega
  · intro i hi
    have hi' : i < xs.length := by rw [List.length_take] at hi; omega
    obtain ⟨b, o, hp, hc⟩ := h.rs i hi'
    exact ⟨b, o, hp, by rw [hc]; simp⟩
theorem Sl.drop_at {α : Type} {enc : α → Value} {w : World} {ad : Addr} {n c k : Nat} {xs : List α} (h : Sl enc w (some ad) n c xs) (hk : k ≤ n) : Sl enc w (some (ad.add k)) (n - k) (c - k) (xs.drop k) := by
  refine ⟨by rw [List.length_drop, h.len], by have := h.le; omega, by have := h.max; omega, fun e => (by cases e), ?_⟩
  intro i hi
  have hi' : k + i < xs.length := by rw [List.length_drop] at hi; omega
  obtain ⟨b, o, hp, hc⟩ := h.rs (k + i) hi'
  cases hp
  exact ⟨b, o + k, by rw [Addr.add_lit], by rw [show o + k + i = o + (k + i) by omega, hc]; simp⟩
/-- a result that reads so, and a code -/
def RetL (w : World) (ys : List UInt8) (code : Int) (e : Ending) (w' : World) : Prop :=
  ∃ q m c', e = .returned (.tuple #[.slice q m c', .int .i64 code]) ∧ Sl B8 w' q m c' ys ∧ Below w.heap.size w w'
def joinS (l s n : Int) (xss : List (List UInt8)) : List UInt8 × Int := ((wholeS l s n xss).1.take l.toNat, (wholeS l s n xss).2)
set_option maxRecDepth 100000 in
set_option maxHeartbeats 1000000 in
theorem Join_any (l s n d : Int) (p : Option Addr) (m c : Nat) (xss : List (List UInt8)) (w : World) (h : Sl2 w p m c xss) (hl2 : l ≤ 9223372036854775807) :
    Calls Try.prog 7 #[.agg #[.int .i64 l, .int .i64 s, .int .i64 n, .int .u32 d], .slice p m c] w (RetL w (joinS l s n xss).1 (joinS l s n xss).2) := by
  have HC := Lib.hid (fun w h => whole_any l s n d p m c xss w h hl2)
  have hB := fun o => al (o := o) (Below.refl w.heap.size w) (Nat.le_refl _)
  have H := Lib.hid h
  clear h
  have HJ : Hid (joinS l s n xss = ((wholeS l s n xss).1.take l.toNat, (wholeS l s n xss).2)) := rfl
  rcases wholeS_cases l s n xss with ⟨g1, g2⟩ | ⟨g1, g2, g3, g4, g5⟩
  · have hb : ((wholeS l s n xss).2 != 0) = true := by simpa using g1
    generalize wholeS l s n xss = X at *
    obtain ⟨X1, k⟩ := X
    simp only at g2 hb g1 HC HJ
    subst g2
    have HG := Lib.hid g1; clear g1
    go_enter Try.func7, Try.ntmps7
    go_wp2_with fail
    refine (HC.out _ (H.out.keep (hB _))).mono ?_; rintro e w1 ⟨q, m', c', hm, rfl, ho, hb1⟩
    have HO := Lib.hid ho; clear ho
    have k1 : Below w.heap.size w w1 := bl (hB _) hb1 (by simp)
    go_wp2
    go_ret2
    rw [HJ.out]
    exact ⟨none, 0, 0, rfl, by simpa using Sl.nil0 B8 w1, k1⟩
  · obtain ⟨l0, rfl⟩ := Int.eq_ofNat_of_zero_le g4
    have g5' : l0 ≤ xss.flatten.length := by omega
    generalize wholeS l0 s n xss = X at *
    obtain ⟨X1, k⟩ := X
    simp only at g3 g1 HC HJ
    subst g1
    subst g3
    clear g2 g4 g5
    have HJ2 := Lib.hid g5'; clear g5'
    generalize xss.flatten = Y at *
    go_enter Try.func7, Try.ntmps7
    go_wp2_with fail
    refine (HC.out _ (H.out.keep (hB _))).mono ?_; rintro e w1 ⟨q, m', c', hm, rfl, ho, hb1⟩
    have hcc := owns_cap ho
    have hs := Sl.of_owns ho
    have k1 : Below w.heap.size w w1 := bl (hB _) hb1 (by simp)
    have e1 : w1.heap[w.heap.size]? = some (.cells #[.int .i64 l0, .int .i64 s, .int .i64 n, .int .u32 d] 24 (0, 0)) := by
      rw [hb1.block _ (by simp)]; exact hnew rfl
    have c0 : w1.cell? ⟨w.heap.size, 0, none⟩ = some (.int .i64 l0) := cell_of_row _ _ 0 _ _ _ e1
    have b1 : l0 ≤ m' := by have := HJ2.out; have := hm.out; omega
    have b2 : m' ≤ c' := hcc.1
    have b3 : c' ≤ 9223372036854775807 := by have := hcc.2; unfold maxLen at this; omega
    have HS := Lib.hid (Sl.take hs b1 (Nat.le_refl _) (by omega))
    clear e1 ho hs hcc
    cases hq : q with
    | none =>
      subst hq
      obtain ⟨z1, z2⟩ := HS.out.nil rfl
      subst z1
      go_wp2
      go_ret2
      rw [HJ.out]
      exact ⟨_, _, _, rfl, by simpa using HS.out, k1⟩
    | some ad =>
      subst hq
      go_wp2
      go_ret2
      rw [HJ.out]
      exact ⟨_, _, _, rfl, by simpa using HS.out, k1⟩
set_option maxRecDepth 100000 in
set_option maxHeartbeats 1000000 in
theorem Clean_any (l s n d : Int) (p : Option Addr) (m c : Nat) (xss : List (List UInt8)) (w : World) (h : Sl2 w p m c xss) (hl2 : l ≤ 9223372036854775807) :
    Calls Try.prog 9 #[.agg #[.int .i64 l, .int .i64 s, .int .i64 n, .int .u32 d], .slice p m c] w fun e w' => e = .returned (.bool (decide ((wholeS l s n xss).2 = 0) && zeroS ((wholeS l s n xss).1.drop l.toNat))) ∧ Below w.heap.size w w' := by
  have HC := Lib.hid (fun w h => whole_any l s n d p m c xss w h hl2)
  have hB := fun o => al (o := o) (Below.refl w.heap.size w) (Nat.le_refl _)
  have H := Lib.hid h
  clear h
  rcases wholeS_cases l s n xss with ⟨g1, g2⟩ | ⟨g1, g2, g3, g4, g5⟩
  · have HR := Lib.hid (decide_eq_false g1)
    have hb : ((wholeS l s n xss).2 == 0) = false := by simpa using g1
    generalize wholeS l s n xss = X at *
    obtain ⟨X1, k⟩ := X
    simp only at g2 hb g1 HC HR ⊢
    subst g2
    rw [HR.out, Bool.false_and]
    have HG := Lib.hid g1; clear g1
    go_enter Try.func9, Try.ntmps9
    go_wp2_with fail
    refine (HC.out _ (H.out.keep (hB _))).mono ?_; rintro e w1 ⟨q, m', c', hm, rfl, ho, hb1⟩
    have HO := Lib.hid ho; clear ho
    have k1 : Below w.heap.size w w1 := bl (hB _) hb1 (by simp)
    go_wp2
    go_ret
    exact ⟨rfl, k1⟩
  · obtain ⟨l0, rfl⟩ := Int.eq_ofNat_of_zero_le g4
    have g5' : l0 ≤ xss.flatten.length := by omega
    rw [decide_eq_true g1, Bool.true_and, g3, Int.toNat_natCast]
    generalize wholeS l0 s n xss = X at *
    obtain ⟨X1, k⟩ := X
    simp only at g3 g1 HC
    subst g1
    subst g3
    clear g2 g4 g5
    have HJ2 := Lib.hid g5'; clear g5'
    generalize xss.flatten = Y at *
    go_enter Try.func9, Try.ntmps9
    go_wp2_with fail
    refine (HC.out _ (H.out.keep (hB _))).mono ?_; rintro e w1 ⟨q, m', c', hm, rfl, ho, hb1⟩
    have hcc := owns_cap ho
    have hs := Sl.of_owns ho
    have k1 : Below w.heap.size w w1 := bl (hB _) hb1 (by simp)
    have e1 : w1.heap[w.heap.size]? = some (.cells #[.int .i64 l0, .int .i64 s, .int .i64 n, .int .u32 d] 24 (0, 0)) := by
      rw [hb1.block _ (by simp)]; exact hnew rfl
    have c0 : w1.cell? ⟨w.heap.size, 0, none⟩ = some (.int .i64 l0) := cell_of_row _ _ 0 _ _ _ e1
    have b1 : l0 ≤ m' := by have := HJ2.out; have := hm.out; omega
    have b2 : m' ≤ c' := hcc.1
    have b3 : c' ≤ 9223372036854775807 := by have := hcc.2; unfold maxLen at this; omega
    have HS := Lib.hid hs
    clear e1 ho hs hcc
    cases hq : q with
    | none =>
      subst hq
      obtain ⟨z1, z2⟩ := HS.out.nil rfl
      subst z1; subst z2
      have : l0 = 0 := by omega
      subst this
      go_wp2_with fail
      refine (VZero_any _ _ _ Y w1 HS.out).mono ?_; rintro e w' ⟨rfl, rfl⟩
      go_wp2
      go_ret
      exact ⟨by simp, k1⟩
    | some ad =>
      subst hq
      by_cases hz : c' = l0
      · subst hz
        have : m' = c' := by omega
        subst this
        have e : Hid (Y.drop m' = []) := List.drop_eq_nil_of_le (by rw [HS.out.len]; omega)
        go_wp2_with fail
        refine Calls.mono (VZero_any _ _ _ [] w1 ⟨by simp, by simp, by simp [maxLen], fun h => (by cases h), fun i hi => absurd hi (by simp)⟩) ?_; rintro e w' ⟨rfl, rfl⟩
        go_wp2
        go_ret
        exact ⟨by rw [e.out]; rfl, k1⟩
      · go_wp2_with fail
        refine Calls.mono (VZero_any _ _ _ (Y.drop l0) w1 (Sl.drop_at HS.out b1)) ?_; rintro e w' ⟨rfl, rfl⟩
        go_wp2
        go_ret
        exact ⟨by simp, k1⟩
end Go.Proofs.Ytnlfohbmdmeodaa
