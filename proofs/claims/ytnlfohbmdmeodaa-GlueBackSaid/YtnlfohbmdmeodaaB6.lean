/- Arguments that came in: slices of byte slices. -/
import Derived.Test.YtnlfohbmdmeodaaB5
import Derived.Deep.Matrix
namespace Go.By
open Go.RowKit
theorem spot_none {w : World} {x : Addr} {v : Value} (h : w.cell? (x.add 0) = some v) : ∃ b o, x = ⟨b, o, none⟩ := by
  obtain ⟨b, off, spot⟩ := x
  have hspot : spot = none := by simpa [Addr.add] using World.cell?_spot h
  subst hspot
  exact ⟨b, off, rfl⟩
theorem sl2_of_rows {w : World} {a : Option Addr} {len cap : Nat} (hl : len ≤ cap) (hm : cap ≤ maxLen) (hn : a = none → len = 0 ∧ cap = 0) (A : Nat → Option Addr) (L C : Nat → Nat) (Z : Nat → List Int)
    (h : ∀ x, a = some x → ∀ r, r < cap → w.cell? (x.add r) = some (.slice (A r) (L r) (C r)) ∧ L r ≤ C r ∧ C r ≤ maxLen ∧ (Z r).length = C r ∧ (∀ n ∈ Z r, (Lit.int .u8 n).wf = true) ∧ (A r = none → C r = 0) ∧
        ∀ a', A r = some a' → ∀ c, c < C r → w.cell? (a'.add c) = some (.int .u8 ((Z r).getD c 0))) : ∃ xss, Sl2 w a len cap xss := by
  have each : ∀ r, ∃ xs, r < len → Sl B8 w (A r) (L r) (C r) xs := by
    intro r
    by_cases hr : r < len
    · cases ha : a with
      | none => have := hn ha; omega
      | some x =>
        obtain ⟨_, h1, h2, h3, h4, h5, h6⟩ := h x ha r (by omega)
        cases hA : A r with
        | none =>
          have := h5 hA
          have hL : L r = 0 := by omega
          exact ⟨[], fun _ => by rw [hL, this]; exact Sl.nil0 _ _⟩
        | some a' =>
          obtain ⟨xs, hx⟩ := sl_of_row (w := w) (a := some a') (len := L r) (cap := C r) (zs := Z r) (.inr ⟨a', rfl, h1, h2, h3, fun i hi => h6 a' hA i (by omega), h4⟩)
          exact ⟨xs, fun _ => hx⟩
    · exact ⟨[], fun h => absurd h hr⟩
  refine ⟨(List.range len).map fun r => Classical.choose (each r), ⟨by simp, hl, hm, hn, ?_⟩⟩
  intro i xs hi
  obtain ⟨hi', e⟩ := List.getElem?_eq_some_iff.1 hi
  simp at hi' e
  have hs := Classical.choose_spec (each i) hi'
  rw [e] at hs
  cases ha : a with
  | none => have := hn ha; omega
  | some x =>
    obtain ⟨hc, _⟩ := h x ha i (by omega)
    obtain ⟨b, o, rfl⟩ := spot_none (h x ha 0 (by omega)).1
    rw [Addr.add_lit] at hc
    exact ⟨b, o, A i, C i, rfl, by rw [hs.len]; exact hc, by rw [hs.len]; exact hs⟩
end Go.By
