/- A guard that never ran says no. -/
import Derived.Test.YtnlfohbmdmeodaaR4
namespace Go.By
open Go.RowKit
theorem wanted_undef {ops : Array Oper} {o : Oper} {a : Act} {j : Nat} {b : Bool} {d : Nat} (hg : o.guard = some (j, b)) (hd : dstOf ops j = some d) (hs : d < a.tmps.size) (hv : sl a d = undef) : ¬ Region.wanted o (yielded ops a.tmps) = true := by
  have h1 : a.tmps[d]? = some undef := by
    have := hv
    simp only [sl, Array.getD_eq_getD_getElem?, Array.getElem?_eq_getElem hs, Option.getD_some] at this
    rw [Array.getElem?_eq_getElem hs, this]
  unfold dstOf at hd
  simp [Region.wanted, hg, yielded, hd, h1, undef]
theorem cells5 {w : World} {b T : Nat} {u v x y z : Value} (h : w.heap[b]? = some (.cells #[u, v, x, y, z] T (0, 0))) : w.cell? ⟨b, 0, none⟩ = some u ∧ w.cell? ⟨b, 1, none⟩ = some v ∧ w.cell? ⟨b, 2, none⟩ = some x ∧ w.cell? ⟨b, 3, none⟩ = some y ∧ w.cell? ⟨b, 4, none⟩ = some z :=
  ⟨cell_of_row _ _ 0 _ _ _ h, cell_of_row _ _ 1 _ _ _ h, cell_of_row _ _ 2 _ _ _ h, cell_of_row _ _ 3 _ _ _ h, cell_of_row _ _ 4 _ _ _ h⟩
theorem blk_lt {w : World} {b : Nat} {o : Obj} (h : w.heap[b]? = some o) : b < w.heap.size := (Array.getElem?_eq_some_iff.1 h).1
theorem Sl2.at0 {W : World} {g n c : Nat} {xss : List (List UInt8)} (h : Sl2 W (some ⟨g, 0, none⟩) n c xss) (i : Nat) (hi : i < n) : ∃ q m c' xs, W.cell? ⟨g, i, none⟩ = some (.slice q m c') ∧ Sl B8 W q m c' xs ∧ Hid (xss[i]? = some xs) := by
  obtain ⟨b, o, q, m, c', xs, hp, hc, hs, hx⟩ := h.at i hi
  obtain ⟨rfl, rfl⟩ : b = g ∧ o = 0 := by simp at hp; omega
  exact ⟨q, m, c', xs, by simpa using hc, hs, hx⟩
end Go.By
