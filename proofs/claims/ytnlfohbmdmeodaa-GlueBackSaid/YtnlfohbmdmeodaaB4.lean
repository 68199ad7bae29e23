/- Small laws: literal slices. -/
import Derived.Test.YtnlfohbmdmeodaaB3
namespace Go.By
open Go.RowKit
theorem sl_block {α : Type} {enc : α → Value} {W : World} {g T : Nat} {cs : Array Value} {fr : Nat × Nat} (xs : List α) (n : Nat) (hW : W.heap[g]? = some (.cells cs T fr)) (hcs : cs = (xs.map enc).toArray) (hn : xs.length = n) (hm : n ≤ maxLen) : Sl enc W (some ⟨g, 0, none⟩) n n xs := by
  subst hcs
  refine ⟨hn, Nat.le_refl _, hm, fun h => by simp at h, ?_⟩
  intro i hi
  refine ⟨g, 0, rfl, ?_⟩
  rw [Nat.zero_add, cell_of_row _ _ i _ T fr hW]
  simp [hi]
theorem sl2_block {W : World} {g T : Nat} {cs : Array Value} {fr : Nat × Nat} (xss : List (List UInt8)) (n : Nat) (hW : W.heap[g]? = some (.cells cs T fr)) (hs : cs.size = n) (hn : xss.length = n) (hm : n ≤ maxLen)
    (h : ∀ (i : Nat) (xs : List UInt8), xss[i]? = some xs → ∃ q m c', cs[i]? = some (Value.slice q m c') ∧ Sl B8 W q m c' xs) : Sl2 W (some ⟨g, 0, none⟩) n n xss := by
  refine ⟨hn, Nat.le_refl _, hm, fun h => by simp at h, ?_⟩
  intro i xs hi
  obtain ⟨q, m, c', hc, hsl⟩ := h i xs hi
  refine ⟨g, 0, q, c', rfl, ?_, by rw [hsl.len]; exact hsl⟩
  rw [Nat.zero_add, cell_of_row _ _ i _ T fr hW, hc, hsl.len]
theorem sl2_pair {W : World} {g T : Nat} {fr : Nat × Nat} {p1 p2 : Option Addr} {n1 n2 c1 c2 : Nat} {xs ys : List UInt8} (hW : W.heap[g]? = some (.cells #[.slice p1 n1 c1, .slice p2 n2 c2] T fr)) (h1 : Sl B8 W p1 n1 c1 xs) (h2 : Sl B8 W p2 n2 c2 ys) :
    Sl2 W (some ⟨g, 0, none⟩) 2 2 [xs, ys] := by
  refine sl2_block [xs, ys] 2 hW rfl rfl (by simp [maxLen]) ?_
  intro i zs hi
  match i, hi with
  | 0, hi => simp at hi; subst hi; exact ⟨p1, n1, c1, rfl, h1⟩
  | 1, hi => simp at hi; subst hi; exact ⟨p2, n2, c2, rfl, h2⟩
/-- a cell of an older block is written -/
theorem owns_set {w : World} {base e size n c B i : Nat} {p : Option Addr} {ys : List Value} {u : Value} (h : w.ownsRow base e size (.slice p n c) n ys) (hB : B < base) : (w.setCell ⟨B, i, none⟩ u).ownsRow base e size (.slice p n c) n ys :=
  ownsRow_setCell_below h hB u
theorem stp {B C : Nat} {W a b : World} (h1 : Below B W a) (h2 : Below C a b) (hC : a.heap.size = C) (h3 : B ≤ W.heap.size) : Below B W b := h1.trans (h2.mono (hC ▸ Nat.le_trans h3 h1.size))
/-- one call more -/
theorem bl {B : Nat} {w0 w1 w2 : World} (h : Below B w0 w1) (h2 : Below w1.heap.size w1 w2) (hB : B ≤ w1.heap.size) : Below B w0 w2 := h.trans (h2.mono hB)
theorem al {B : Nat} {w0 w1 : World} {o : Obj} (h : Below B w0 w1) (hB : B ≤ w1.heap.size) : Below B w0 (w1.alloc o) := h.alloc hB o
end Go.By
