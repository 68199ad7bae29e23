/- Small laws on slices of byte slices; what a function that makes a row hands back. -/
import Derived.Test.YtnlfohbmdmeodaaB2
namespace Go.By
open Go.RowKit
/-- a slice value '.slice p n c' of byte slices that reads as the list xss -/
structure Sl2 (w : World) (p : Option Addr) (n c : Nat) (xss : List (List UInt8)) : Prop where
  len : xss.length = n
  le : n ≤ c
  max : c ≤ maxLen
  nil : p = none → n = 0 ∧ c = 0
  rs : ∀ i xs, xss[i]? = some xs → ∃ b o q c', p = some ⟨b, o, none⟩ ∧ w.cell? ⟨b, o + i, none⟩ = some (.slice q xs.length c') ∧ Sl B8 w q xs.length c' xs
section
variable {w w' : World} {p : Option Addr} {n c : Nat} {xss : List (List UInt8)}
theorem Sl2.keep (h : Sl2 w p n c xss) (hb : Below w.heap.size w w') : Sl2 w' p n c xss :=
  ⟨h.len, h.le, h.max, h.nil, fun i xs hi => by
    obtain ⟨b, o, q, c', hp, hc, hs⟩ := h.rs i xs hi
    exact ⟨b, o, q, c', hp, (hb.cell (p := ⟨b, o + i, none⟩) (lt_of_cell hc)).trans hc, hs.keep hb⟩⟩
theorem Sl2.bound (h : Sl2 w p n c xss) : n ≤ 9223372036854775807 := by have := h.le; have := h.max; unfold maxLen at this; omega
theorem Sl2.nil0 (w : World) : Sl2 w none 0 0 [] := ⟨rfl, Nat.le_refl _, by simp [maxLen], fun _ => ⟨rfl, rfl⟩, fun i xs hi => by simp at hi⟩
theorem Sl2.at (h : Sl2 w p n c xss) (i : Nat) (hi : i < n) : ∃ b o q m c' xs, p = some ⟨b, o, none⟩ ∧ w.cell? ⟨b, o + i, none⟩ = some (.slice q m c') ∧ Sl B8 w q m c' xs ∧ Hid (xss[i]? = some xs) := by
  have hi' : i < xss.length := by rw [h.len]; exact hi
  obtain ⟨b, o, q, c', hp, hc, hs⟩ := h.rs i _ (List.getElem?_eq_getElem hi')
  exact ⟨b, o, q, _, c', _, hp, hc, hs, List.getElem?_eq_getElem hi'⟩
/-- the values of the elements -/
theorem Sl2.vals (h : Sl2 w p n c xss) : ∃ vs : List Value, Sl id w p n c vs ∧ ∀ (i : Nat) (v : Value), vs[i]? = some v → ∃ xs q c', xss[i]? = some xs ∧ v = Value.slice q xs.length c' ∧ Sl B8 w q xs.length c' xs := by
  refine ⟨List.ofFn (fun i : Fin n => (p.bind fun a => w.cell? (a.add i.val)).getD undef), ⟨by simp, h.le, h.max, h.nil, ?_⟩, ?_⟩
  · intro i hi
    have hi' : i < xss.length := by rw [h.len]; simpa using hi
    obtain ⟨b, o, q, c', hp, hc, hs⟩ := h.rs i _ (List.getElem?_eq_getElem hi')
    refine ⟨b, o, hp, ?_⟩
    simp [hp, Addr.add_lit, hc]
  · intro i v hv
    obtain ⟨hi, hv⟩ := List.getElem?_eq_some_iff.1 hv
    have hi' : i < xss.length := by rw [h.len]; simpa using hi
    obtain ⟨b, o, q, c', hp, hc, hs⟩ := h.rs i _ (List.getElem?_eq_getElem hi')
    refine ⟨_, q, c', List.getElem?_eq_getElem hi', ?_, hs⟩
    rw [← hv]
    simp [hp, Addr.add_lit, hc]
end
theorem calloc {w : World} {a : Addr} {v : Value} {o : Obj} (h : w.cell? a = some v) : (w.alloc o).cell? a = some v := by
  refine (World.cell?_of_block (a := a) ?_).trans h
  have := World.block_lt_of_cell? w _ h
  rw [heap_alloc, if_neg (by omega)]
theorem sl_one {α : Type} {enc : α → Value} {w : World} {g : Nat} {v : Value} {T : TypeId} {x : α} (hg : g = w.heap.size) (hv : v = enc x) : Sl enc (w.alloc (.cells #[v] T)) (some ⟨g, 0, none⟩) 1 1 [x] := by
  refine ⟨rfl, Nat.le_refl _, by simp [maxLen], fun h => by simp at h, ?_⟩
  intro i hi
  refine ⟨g, 0, rfl, ?_⟩
  have : i = 0 := by simp at hi; exact hi
  subst this
  rw [Nat.zero_add, cell_of_row _ _ 0 #[v] T (0, 0) (hnew hg)]
  simp [hv]
/-- two results: a new row, and a code -/
def RetB (T : TypeId) (w : World) (ys : List UInt8) (code : Int) (e : Ending) (w' : World) : Prop :=
  ∃ q m c', Hid (ys.length = m) ∧ e = .returned (.tuple #[.slice q m c', .int .i64 code]) ∧ w'.ownsRow w.heap.size T 1 (.slice q m c') m (ys.map B8) ∧ Below w.heap.size w w'
/-- one result: a new row -/
def RetB1 (T : TypeId) (w : World) (ys : List UInt8) (e : Ending) (w' : World) : Prop :=
  ∃ q m c', Hid (ys.length = m) ∧ e = .returned (.slice q m c') ∧ w'.ownsRow w.heap.size T 1 (.slice q m c') m (ys.map B8) ∧ Below w.heap.size w w'
theorem RetB.nil (T : TypeId) (w w' : World) (code : Int) (hb : Below w.heap.size w w') : RetB T w [] code (.returned (.tuple #[.slice none 0 0, .int .i64 code])) w' :=
  ⟨none, 0, 0, rfl, rfl, World.ownsRow_nil _ _ _ _, hb⟩
/-- a block of other memory does not meet what is new -/
theorem ne_of_new {w w' : World} {base e size n c : Nat} {q : Option Addr} {ys : List Value} (h : w'.ownsRow base e size (.slice q n c) n ys) {b : Nat} (hb : b < base) : ∀ a, q = some a → some b ≠ some a.block := by
  intro a ha e
  have := (owns_new h a ha).1
  simp at e; omega
end Go.By
