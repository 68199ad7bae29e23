/- Small laws on bytes as the walk spells them. Small laws on slices: a slice that reads as a list; append of such a one. Texts as lists of bytes; builders. Plain mathematics: the field of 256 elements, as polynomials over two bits modulo x^8+x^4+x^3+x^2+1. Nothing of the program. The contracts of the field's functions. The contracts of the kernel's functions: halves. The contracts of the kernel's functions: put. The contracts of slices.Clone, IndexFunc, ContainsFunc at bytes and rows. Small laws on slices of byte slices; what a function that makes a row hands back. The contracts of the kernel's functions: Scale, Axpy, Dot, Zero. The contracts of the kernel's functions: nought, Sum, Comb. The contracts of the kernel's functions: Sum, Comb. Small laws: literal slices. The contracts of the vectors' functions: Lead, At, Zero, Unit, Of, Clone. Plain mathematics: the reference's product of two bytes is the field's. The contract of the reference's product. The contracts of the reference's functions of layer 2. The contracts of the rows' functions: Clone, Norm, Less. The contracts of the rows' functions: Less. The contracts of slices.Equal and of the rows' Same. What the packet layers and the plan share with the rows: IndexFunc and ContainsFunc of bytes and rows, Same and Zero of the reference, Zero of the kernel and of vectors. A region that draws its order, op by op: an invariant in place of the orders. Any program. Slices of byte slices that the call itself makes. A region that draws its order and stores nothing: each operation has a shape that lasts. A region that draws its order, with one store into a block of its own: each operation has a shape that lasts. The frame behind a region that draws its order; one operation with its operands known. A guard that never ran says no. A region that draws its order, whose last operation waits for all others (a store): shapes for the others, then the last one. A region that draws its order, whose first m operations are shapes, and whose others wait each for the one ahead of it: these are walked in their order. Plain: the sum of 32 bits, half a byte at a time and bit by bit. Plain: numbers of 32 bits as four bytes; sums of parts. Chapter 4: sum.Put, Start, Sum (under way). Chapter 4: sum.Start, With, Sum, Of, Get. Chapter 4: sum.Of, Get. Small laws for packets: parts of slices, literal slices of slices, results that read. Plain: words between blanks, decimal numbers. No program in sight. Plain: bytes as digits of base 16, and back. No program in sight. Chapter 24, the reference: a digit. Chapter 24, the reference: Hex. Chapter 24, the reference: value, Unhex. Plain: commands of a script, their lines, and what lines say. No program in sight. Plain: the ways in which a text is gone through, sign by sign. No program in sight. Chapter 26: the forms of words; find. Chapter 26: the closure of find; slices.IndexFunc of forms; find. Chapter 26, the reference: Shape. The contracts of the plan's functions: needed, fits, Check, Of; and of the reference's Needs and Check. The reference's word and Number. Chapter 26, the reference: Tens, number. Chapter 26, the reference: number. -/
import Derived.WalkKit
import Derived.Laws.CopyOwn
import Derived.Laws.AppendOwnNone
import Derived.Lib.Strings
import Derived.Lib.UnsafeStr
import Derived.Lib.AppendStr
import Derived.Lib.Builder
import Derived.Test.YtccaiiigdfieoaaDoorProg
import Derived.WalkLawsBesides
import Derived.WalkSpells
import Derived.Lib.Hide
import Derived.BigRegion
import Derived.Shelf.Abstract
import Derived.Deep.QuietTactic
import Derived.BigQuiet
import Derived.Deep.RegionHeld3
import Derived.Deep.RegionWith
import Derived.RegionTactic
import Derived.Lib.AppendZeros
import Derived.BigFrame
import Derived.Lib.SplitLaws
import Derived.Lib.ItoaNum
import Derived.Lib.Join
import Derived.Deep.DeepCutAuto
import Derived.Outline
import Derived.Lib.Walk
import Derived.OwnWalk
import Derived.Laws.Strings3
import Derived.Lib.ItoaLen
namespace Go.By
open Go.RowKit
/-- a byte as a value -/
abbrev B8 (x : UInt8) : Value := .int .u8 x.toNat
/-- a slice's cells, read as a list -/
def Rs {α : Type} (enc : α → Value) (w : World) (p : Option Addr) (xs : List α) : Prop :=
  ∀ i (hi : i < xs.length), ∃ b o, p = some ⟨b, o, none⟩ ∧ w.cell? ⟨b, o + i, none⟩ = some (enc xs[i])
theorem lt_of_cell {w : World} {b o : Nat} {v : Value} (h : w.cell? ⟨b, o, none⟩ = some v) : b < w.heap.size := by
  rcases Nat.lt_or_ge b w.heap.size with h' | h'
  · exact h'
  · simp [World.cell?, Array.getElem?_eq_none h'] at h
section
variable {α : Type} {enc : α → Value} {w w' : World} {p : Option Addr} {xs : List α}
theorem Rs.nil : Rs enc w p ([] : List α) := fun i hi => absurd hi (Nat.not_lt_zero i)
theorem Rs.lt (h : Rs enc w p xs) (h0 : 0 < xs.length) : ∃ b o, p = some ⟨b, o, none⟩ ∧ b < w.heap.size := by
  obtain ⟨b, o, hp, hc⟩ := h 0 h0
  exact ⟨b, o, hp, lt_of_cell hc⟩
theorem Rs.keep (h : Rs enc w p xs) (hb : Below w.heap.size w w') : Rs enc w' p xs := by
  intro i hi
  obtain ⟨b, o, hp, hc⟩ := h i hi
  exact ⟨b, o, hp, (hb.cell (p := ⟨b, o + i, none⟩) (lt_of_cell hc)).trans hc⟩
theorem Rs.grown {row : Option Nat} (h : Rs enc w p xs) (hg : w.grownBy w' row) (hne : ∀ a, p = some a → some a.block ≠ row) : Rs enc w' p xs := by
  intro i hi
  obtain ⟨b, o, hp, hc⟩ := h i hi
  exact ⟨b, o, hp, (World.cell?_of_block (a := ⟨b, o + i, none⟩) (hg.block b (lt_of_cell hc) (hne _ hp))).trans hc⟩
theorem Rs.alloc (h : Rs enc w p xs) (o : Obj) : Rs enc (w.alloc o) p xs := h.keep ((Below.refl _ _).alloc (Nat.le_refl _) _)
theorem Rs.at (h : Rs enc w p xs) (i : Nat) (hi : i < xs.length) : ∃ b o x, p = some ⟨b, o, none⟩ ∧ w.cell? ⟨b, o + i, none⟩ = some (enc x) ∧ Hid (x = xs[i]) := by
  obtain ⟨b, o, hp, hc⟩ := h i hi
  exact ⟨b, o, _, hp, hc, rfl⟩
theorem Rs.of_owns {base e n c : Nat} (h : w.ownsRow base e 1 (.slice p n c) n (xs.map enc)) : Rs enc w p xs := by
  intro i hi
  rcases h.2 with h2 | ⟨g, cap, cur, hv, _⟩
  · have := h.1; simp [h2.2] at this; subst this; exact absurd hi (Nat.not_lt_zero i)
  · obtain ⟨rfl, rfl⟩ : p = some ⟨g, 0, none⟩ ∧ c = cap := by simpa using hv
    refine ⟨g, 0, rfl, ?_⟩
    have hn : n = xs.length := by have := h.1; simp at this; exact this.symm
    rw [Nat.zero_add, h.cellAt i (by omega), List.getElem?_eq_getElem (by simpa using hi)]
    simp
theorem owns_len {base e n c : Nat} {ys : List Value} (h : w.ownsRow base e 1 (.slice p n c) n ys) : ys.length = n := by simpa using h.1
theorem owns_cap {base e n c : Nat} {ys : List Value} (h : w.ownsRow base e 1 (.slice p n c) n ys) : n ≤ c ∧ c ≤ maxLen := by
  rcases h.2 with h2 | ⟨g, cap, cur, hv, _, _, h3, h4, _⟩
  · obtain ⟨h2, rfl⟩ := h2; simp at h2; simp [h2, maxLen]
  · obtain ⟨_, rfl⟩ : p = some ⟨g, 0, none⟩ ∧ c = cap := by simpa using hv
    exact ⟨h3, h4⟩
end
theorem heap_alloc (w : World) (o : Obj) (i : Nat) : (w.alloc o).heap[i]? = if i = w.heap.size then some o else w.heap[i]? := by
  show (w.heap.push o)[i]? = _
  rw [Array.getElem?_push]
theorem hnew {w : World} {o : Obj} {i : Nat} (h : i = w.heap.size) : (w.alloc o).heap[i]? = some o := by rw [heap_alloc, if_pos h]
theorem hal {w : World} {o x : Obj} {i : Nat} (h : w.heap[i]? = some x) : (w.alloc o).heap[i]? = some x := by
  rw [heap_alloc, if_neg (by have := lt_of_block h; omega)]; exact h
theorem hsc {w : World} {a : Addr} {v : Value} {x : Obj} {i : Nat} (h : w.heap[i]? = some x) (hne : i ≠ a.block) : (w.setCell a v).heap[i]? = some x := by
  rw [Below.heap_setCell _ _ _ _ hne]; exact h
theorem hss {w : World} {g i : Nat} {cs : Array Value} {t : TypeId} {v : Value} (h : w.heap[g]? = some (.cells cs t (0, 0))) : (w.setCell ⟨g, i, none⟩ v).heap[g]? = some (.cells (cs.setIfInBounds i v) t (0, 0)) := heap_setCell_same w g i cs t v h
theorem hro {w : World} {g i : Nat} {cs : Array Value} {x : Obj} (h : w.heap[i]? = some x) (hne : i ≠ g) : (w.setRow g cs).heap[i]? = some x := by
  simp only [World.setRow, Array.getElem?_modify]
  rw [if_neg (by omega)]; exact h
theorem hrs {w : World} {g : Nat} {cs old : Array Value} {t : TypeId} {fr : Nat × Nat} (h : w.heap[g]? = some (.cells old t fr)) : (w.setRow g cs).heap[g]? = some (.cells cs t fr) := by
  simp only [World.setRow, Array.getElem?_modify]
  simp [h]
theorem wpList_store_row {P : Program} {ops : Array Oper} {rest : List Oper} {o : Oper} {a : Act} {w : World} {Q : Exit → Act → World → Prop} (hgd : o.guard = none) (ty : TypeId) (x y : Operand) (ho : o.op = .store ty x y)
    (g : Nat) (cells : Array Value) (hx : a.eval x = .pointer (some ⟨g, 0, none⟩)) (hy : a.eval y = .agg cells)
    (t : TypeId) (old : Array Value) (hg : w.heap[g]? = some (.cells old t (0, 0))) (hi : (P.info? ty).map (·.size) = some cells.size)
    (hold : old.size = cells.size) (h1 : cells.all (·.oneCell') = true)
    (h : wpList P ops Q rest (a.put o.dst undef) (w.setRow g cells)) : wpList P ops Q (o :: rest) a w :=
  wpList_plain hgd fun _ hK => wp_store_row ty x y ho g cells hx hy t old hg hi hold h1 (hK _ _ h)
/-- the first k of Z, then S -/
def prog {α : Type} (Z S : List α) (k : Nat) : List α := Z.take k ++ S.drop k
end Go.By
namespace Go.By
open Go.RowKit
/-- a slice value '.slice p n c' that reads as the list xs -/
structure Sl {α : Type} (enc : α → Value) (w : World) (p : Option Addr) (n c : Nat) (xs : List α) : Prop where
  len : xs.length = n
  le : n ≤ c
  max : c ≤ maxLen
  nil : p = none → n = 0 ∧ c = 0
  rs : Rs enc w p xs
section
variable {α : Type} {enc : α → Value} {w w' : World} {p : Option Addr} {n c : Nat} {xs : List α}
theorem Sl.keep (h : Sl enc w p n c xs) (hb : Below w.heap.size w w') : Sl enc w' p n c xs := ⟨h.len, h.le, h.max, h.nil, h.rs.keep hb⟩
theorem Sl.grown {row : Option Nat} (h : Sl enc w p n c xs) (hg : w.grownBy w' row) (hne : ∀ a, p = some a → some a.block ≠ row) : Sl enc w' p n c xs := ⟨h.len, h.le, h.max, h.nil, h.rs.grown hg hne⟩
theorem Sl.bound (h : Sl enc w p n c xs) : n ≤ 9223372036854775807 := by have := h.le; have := h.max; unfold maxLen at this; omega
theorem Sl.nil0 (enc : α → Value) (w : World) : Sl enc w none 0 0 ([] : List α) := ⟨rfl, Nat.le_refl _, by simp [maxLen], fun _ => ⟨rfl, rfl⟩, Rs.nil⟩
theorem Sl.of_owns {base e : Nat} (h : w.ownsRow base e 1 (.slice p n c) n (xs.map enc)) : Sl enc w p n c xs := by
  have hc := owns_cap h
  refine ⟨by simpa using owns_len h, hc.1, hc.2, fun hp => ?_, Rs.of_owns h⟩
  rcases h.2 with h2 | ⟨g, cap, cur, hv, _⟩
  · obtain ⟨h2, rfl⟩ := h2; simp at h2; simp [h2]
  · simp [hp] at hv
theorem Sl.at (h : Sl enc w p n c xs) (i : Nat) (hi : i < n) : ∃ b o x, p = some ⟨b, o, none⟩ ∧ w.cell? ⟨b, o + i, none⟩ = some (enc x) ∧ Hid (xs[i]? = some x) := by
  have hi' : i < xs.length := by rw [h.len]; exact hi
  obtain ⟨b, o, hp, hc⟩ := h.rs i hi'
  exact ⟨b, o, _, hp, hc, List.getElem?_eq_getElem hi'⟩
theorem owns_shape {base e size n : Nat} {v : Value} {ys : List Value} (h : w.ownsRow base e size v n ys) : ∃ q c, v = .slice q n c := by
  rcases h.2 with h2 | ⟨g, cap, cur, hv, _⟩
  · obtain ⟨h2, rfl⟩ := h2; exact ⟨none, 0, h2⟩
  · exact ⟨_, _, hv⟩
theorem owns_new {base e size n c : Nat} {ys : List Value} (h : w.ownsRow base e size (.slice p n c) n ys) : ∀ a, p = some a → base ≤ a.block ∧ a.block < w.heap.size := by
  intro a ha
  exact h.lt a.block (by simp [Value.ownBlock, ha])
/-- what is owned stays owned where only old blocks, or another's, may have been written -/
theorem owns_below {base B e size n c : Nat} {ys : List Value} (h : w.ownsRow base e size (.slice p n c) n ys) (hb : Below B w w') (hB : ∀ a, p = some a → a.block < B) : w'.ownsRow base e size (.slice p n c) n ys := by
  refine ⟨h.1, ?_⟩
  rcases h.2 with h2 | ⟨g, cap, cur, hv, hg, hh, r⟩
  · exact Or.inl h2
  · obtain ⟨rfl, rfl⟩ : p = some ⟨g, 0, none⟩ ∧ c = cap := by simpa using hv
    exact Or.inr ⟨g, c, cur, rfl, hg, (hb.block g (hB ⟨g, 0, none⟩ rfl)).trans hh, r⟩
theorem owns_keep {base e size n c : Nat} {ys : List Value} (h : w.ownsRow base e size (.slice p n c) n ys) (hb : Below w.heap.size w w') : w'.ownsRow base e size (.slice p n c) n ys :=
  owns_below h hb (fun a ha => (owns_new h a ha).2)
theorem owns_mono {base base' e size n : Nat} {v : Value} {ys : List Value} (h : w.ownsRow base e size v n ys) (hb : base' ≤ base) : w.ownsRow base' e size v n ys := by
  refine ⟨h.1, ?_⟩
  rcases h.2 with h2 | ⟨g, cap, cur, hv, hg, hh, r⟩
  · exact Or.inl h2
  · exact Or.inr ⟨g, cap, cur, hv, Nat.le_trans hb hg, hh, r⟩
end
/-- where the first is of which f holds; -1 -/
def idxf {α : Type} (f : α → Bool) (xs : List α) : Int := match xs.findIdx? f with
  | some i => i
  | none => -1
theorem idxf_found {α : Type} {f : α → Bool} {xs : List α} {k : Nat} {x : α} (hx : xs[k]? = some x) (hf : f x = true) (hb : ∀ j y, j < k → xs[j]? = some y → f y = false) : idxf f xs = k := by
  obtain ⟨hk, hx⟩ := List.getElem?_eq_some_iff.1 hx
  have : xs.findIdx? f = some k := by
    rw [List.findIdx?_eq_some_iff_getElem]
    exact ⟨hk, by rw [hx]; exact hf, fun j hj => by simp [hb j xs[j] hj (List.getElem?_eq_getElem (by omega))]⟩
  simp [idxf, this]
theorem idxf_none {α : Type} {f : α → Bool} {xs : List α} {k : Nat} (hk : k = xs.length) (hb : ∀ j y, j < k → xs[j]? = some y → f y = false) : idxf f xs = -1 := by
  have : xs.findIdx? f = none := by
    rw [List.findIdx?_eq_none_iff]
    intro x hx
    obtain ⟨j, hj, rfl⟩ := List.getElem_of_mem hx
    exact hb j _ (by omega) (List.getElem?_eq_getElem hj)
  simp [idxf, this]
end Go.By
namespace Go.By
open Go.RowKit
/-- bytes as a text -/
def strB (l : List UInt8) : ByteArray := ⟨l.toArray⟩
theorem strB_size (l : List UInt8) : (strB l).size = l.length := by simp [strB, ByteArray.size]
theorem strB_data (l : List UInt8) : (strB l).data.toList = l := by simp [strB]
theorem strB_cells (l : List UInt8) : Lib.strCells (strB l) = Lib.byteCells l := by rw [Lib.strCells_eq, strB_data]
theorem strB_of (s : ByteArray) : s = strB s.data.toList := by cases s; simp [strB]
theorem BuilderAt.keep {T e : TypeId} {B b : Nat} {p : Value} {bs : List Value} {w w' : World} (h : Lib.BuilderAt T e B b p bs w) (hb : Below w.heap.size w w') : Lib.BuilderAt T e B b p bs w' := by
  obtain ⟨h1, v, h2, h3, h4⟩ := h
  obtain ⟨q, c, rfl⟩ := owns_shape h3
  exact ⟨h1, _, (hb.block _ (lt_of_block h2)).trans h2, owns_keep h3 hb, h4⟩
theorem bytes_append (a b : List UInt8) : Lib.byteCells a ++ Lib.byteCells b = Lib.byteCells (a ++ b) := by simp [Lib.byteCells]
theorem txt_app (a b : List UInt8) : strB a ++ strB b = strB (a ++ b) := by
  rw [strB_of (strB a ++ strB b)]
  congr 1
theorem txt_idx {P : Program} (t : TypeId) (ht : P.underlying t = some .string) {l : List UInt8} {k : Nat} {c : UInt8} (h : l[k]? = some c) (K : IntKind) (z : Int) (hz : z = (k : Int)) (w : World) :
    (Instr.index t (.string (strB l)) (.int K z)).run P w = .ok (B8 c) w := by
  subst hz
  have hk : k < l.length := (List.getElem?_eq_some_iff.1 h).1
  rw [run_index_string w t (strB l) _ _ ht, dif_pos ⟨by omega, by rw [strB_size]; omega⟩]
  have e : ((k : Int)).toNat = k := by omega
  simp only [e]
  have hsz : k < (strB l).size := by rw [strB_size]; exact hk
  have h2 : (strB l)[k]'hsz = c := by
    have h3 : (strB l).data[k]? = some ((strB l)[k]'hsz) := Array.getElem?_eq_getElem hsz
    have h4 : (strB l).data[k]? = some c := by rw [← Array.getElem?_toList, strB_data]; exact h
    rw [h3] at h4; exact Option.some.inj h4
  rw [h2]
theorem txt_emp (l : List UInt8) : (strB l).toList.isEmpty = decide (l = []) := by
  rw [← decide_eq_emptyBytes]
  by_cases h : l = []
  · subst h; rfl
  · have : ¬ strB l = ByteArray.empty := fun e => h (by have := congrArg (fun s : ByteArray => s.data.toList) e; simpa [strB_data] using this)
    rw [decide_eq_false h]; exact decide_eq_false this
end Go.By
namespace Gf
theorem toNat_lt (x : UInt8) : x.toNat < 256 := x.toNat_lt

end Gf
namespace Go.Proofs.YtccaiiigdfieoaaDoor
open Go.RowKit Go.By
end Go.Proofs.YtccaiiigdfieoaaDoor
namespace Go.Proofs.YtccaiiigdfieoaaDoor
open Go.RowKit Go.By
end Go.Proofs.YtccaiiigdfieoaaDoor
namespace Go.Proofs.YtccaiiigdfieoaaDoor
open Go.RowKit Go.By
end Go.Proofs.YtccaiiigdfieoaaDoor
namespace Go.Proofs.YtccaiiigdfieoaaDoor
open Go.RowKit Go.By
theorem info_u8 : (Tryd.prog.info? 5).map (fun i => (i.zero, i.size, i.bytes)) = some (some (.int .u8 0), 1, 1) := by kernel_rfl
end Go.Proofs.YtccaiiigdfieoaaDoor
namespace Go.By
open Go.RowKit
section
variable {w w' : World} {p : Option Addr} {n c : Nat} {xss : List (List UInt8)}
end
theorem calloc {w : World} {a : Addr} {v : Value} {o : Obj} (h : w.cell? a = some v) : (w.alloc o).cell? a = some v := by
  refine (World.cell?_of_block (a := a) ?_).trans h
  have := World.block_lt_of_cell? w _ h
  rw [heap_alloc, if_neg (by omega)]
end Go.By
namespace Go.Proofs.YtccaiiigdfieoaaDoor
open Go.RowKit Go.By
end Go.Proofs.YtccaiiigdfieoaaDoor
namespace Go.Proofs.YtccaiiigdfieoaaDoor
open Go.RowKit Go.By
end Go.Proofs.YtccaiiigdfieoaaDoor
namespace Go.Proofs.YtccaiiigdfieoaaDoor
open Go.RowKit Go.By
end Go.Proofs.YtccaiiigdfieoaaDoor
namespace Go.By
open Go.RowKit
theorem sl_block {α : Type} {enc : α → Value} {W : World} {g T : Nat} {cs : Array Value} {fr : Nat × Nat} (xs : List α) (n : Nat) (hW : W.heap[g]? = some (.cells cs T fr)) (hcs : cs = (xs.map enc).toArray) (hn : xs.length = n) (hm : n ≤ maxLen) : Sl enc W (some ⟨g, 0, none⟩) n n xs := by
  subst hcs
  refine ⟨hn, Nat.le_refl _, hm, fun h => by simp at h, ?_⟩
  intro i hi
  refine ⟨g, 0, rfl, ?_⟩
  rw [Nat.zero_add, cell_of_row _ _ i _ T fr hW]
  simp [hi]
/-- one call more -/
theorem bl {B : Nat} {w0 w1 w2 : World} (h : Below B w0 w1) (h2 : Below w1.heap.size w1 w2) (hB : B ≤ w1.heap.size) : Below B w0 w2 := h.trans (h2.mono hB)
theorem al {B : Nat} {w0 w1 : World} {o : Obj} (h : Below B w0 w1) (hB : B ≤ w1.heap.size) : Below B w0 (w1.alloc o) := h.alloc hB o
end Go.By
namespace Go.Proofs.YtccaiiigdfieoaaDoor
open Go.RowKit Go.By
end Go.Proofs.YtccaiiigdfieoaaDoor
namespace Gf
end Gf
namespace Go.Proofs.YtccaiiigdfieoaaDoor
open Go.RowKit Go.By
end Go.Proofs.YtccaiiigdfieoaaDoor
namespace Go.Proofs.YtccaiiigdfieoaaDoor
open Go.RowKit Go.By
theorem eq_of_pref {xs ys : List UInt8} {k : Nat} (h1 : xs.length = k) (h2 : ys.length = k) (h : ∀ j : Nat, j < k → xs[j]? = ys[j]?) : xs = ys := by
  apply List.ext_getElem?
  intro j
  by_cases hj : j < k
  · exact h j hj
  · rw [List.getElem?_eq_none (by omega), List.getElem?_eq_none (by omega)]
theorem u8_ne {x y : UInt8} (h : x ≠ y) : (((x.toNat : Int) != (y.toNat : Int)) = true) := by
  rw [bne_iff_ne]; intro e; exact h (UInt8.toNat_inj.1 (by omega))
theorem u8_eq (x : UInt8) : (((x.toNat : Int) != (x.toNat : Int)) = false) := by simp
set_option maxHeartbeats 400000 in
theorem Same_d (p1 p2 : Option Addr) (n1 n2 c1 c2 : Nat) (xs ys : List UInt8) (w : World) (h1 : Sl B8 w p1 n1 c1 xs) (h2 : Sl B8 w p2 n2 c2 ys) :
    Calls Tryd.prog 16 #[.slice p1 n1 c1, .slice p2 n2 c2] w fun e w' => e = .returned (.bool (decide (xs = ys))) ∧ ∃ q, w' = w.drewN q := by
  have b1 := h1.bound; have b2 := h2.bound
  by_cases he : n1 = n2
  · obtain rfl := he
    have H1 := Lib.hid h1; have H2 := Lib.hid h2; clear h1 h2
    go_enter Tryd.func16, Tryd.ntmps16
    go_wp2
    go_loopw [5] (fun i wr => ∃ k q : Nat, k ≤ n1 ∧ i = .int .i64 k ∧ wr = w.drewN q ∧ Hid (∀ j : Nat, j < k → xs[j]? = ys[j]?)) (fun i _ => n1 - (intOf i).toNat)
    case atStart => exact ⟨0, 0, Nat.zero_le _, rfl, rfl, fun j hj => by omega⟩
    case round =>
      obtain ⟨k, q, hk, rfl, rfl, hj⟩ := hrel
      by_cases hlt : k < n1
      · obtain ⟨b, o, x, rfl, hc, hx⟩ := H1.out.at k hlt
        obtain ⟨b', o', y, rfl, hc', hy⟩ := H2.out.at k hlt
        have i1 : (k : Int) < (n1 : Int) := by omega
        by_cases hxy : x = y
        · subst hxy
          have ht := u8_eq x
          go_wp2
          go_quiet (fail)
          go_wp2
          go_roundw
          case rel => exact ⟨k + 1, _, by omega, by go_num, rfl, fun j hj' => by
            by_cases e : j = k
            · subst e; exact hx.out.trans hy.out.symm
            · exact hj.out j (by omega)⟩
          case measure => simp [intOf]; omega
        · have ht := u8_ne hxy
          have HN := Lib.hid hxy; clear hxy
          go_wp2
          go_quiet (fail)
          go_wp2
          go_ret
          refine ⟨?_, _, by rw [World.drewN_drewN]⟩
          have : ¬ xs = ys := by rintro rfl; exact HN.out (Option.some.inj (hx.out.symm.trans hy.out))
          simp [this]
      · go_wp2
        go_ret
        refine ⟨?_, q, rfl⟩
        have : xs = ys := eq_of_pref (k := k) (by have := H1.out.len; omega) (by have := H2.out.len; omega) hj.out
        simp [this]
  · have hne : ((n1 : Int) != (n2 : Int)) = true := by simp; omega
    have HN : Hid (decide (xs = ys) = false) := by
      simp only [Hid, decide_eq_false_iff_not]; rintro rfl; exact he (h1.len.symm.trans h2.len)
    clear h1 h2
    go_enter Tryd.func16, Tryd.ntmps16
    go_wp2
    go_ret
    exact ⟨by rw [HN.out]; rfl, 0, rfl⟩
theorem below_drewN (w : World) (q : Nat) : Below w.heap.size w (w.drewN q) := ⟨rfl, rfl, rfl, Nat.le_refl _, fun _ _ => rfl⟩
end Go.Proofs.YtccaiiigdfieoaaDoor
namespace Go.Proofs.YtccaiiigdfieoaaDoor
open Go.RowKit Go.By
end Go.Proofs.YtccaiiigdfieoaaDoor
namespace Go.Proofs.YtccaiiigdfieoaaDoor
open Go.RowKit Go.By
end Go.Proofs.YtccaiiigdfieoaaDoor
namespace Go.Proofs.YtccaiiigdfieoaaDoor
open Go.RowKit Go.By
theorem bdn {B : Nat} {a w : World} (h : Below B a w) {n : Nat} : Below B a (w.drewN n) := ⟨h.os, h.tape, h.output, h.size, h.block⟩
end Go.Proofs.YtccaiiigdfieoaaDoor
namespace Go.Proofs.YtccaiiigdfieoaaDoor
end Go.Proofs.YtccaiiigdfieoaaDoor
namespace Go.By
open Go.RowKit
/-- the operations that must come ahead of this one -/
def preds (o : Oper) : List Nat := (o.after.toList.filter (fun e => Region.binds .any e)).map (·.on)
/-- a slot of the frame -/
def sl (a : Act) (t : Nat) : Value := a.tmps.getD t undef
/-- at operation i the slot t holds what it held at first -/
def initAt (ops : Array Oper) (i t : Nat) : Bool := (List.range ops.size).all fun j => j == i || match ops[j]? with
  | some o => (o.dst != some t) || (preds o).contains i
  | none => true
/-- the edges lead backwards -/
def backB (ops : Array Oper) : Bool := (List.range ops.size).all fun i => match ops[i]? with
  | some o => (preds o).all (fun k => decide (k < i))
  | none => true
theorem mem_ready {ops : Array Oper} {listed : Array Bool} {i : Nat} : i ∈ Region.ready .any ops listed ↔ i < ops.size ∧ listed.getD i true = false ∧ ∃ o, ops[i]? = some o ∧ ∀ k, k ∈ preds o → listed.getD k false = true := by
  simp only [Region.ready, List.mem_filter, List.mem_range, Bool.and_eq_true, Bool.not_eq_true', preds]
  constructor
  · rintro ⟨h1, h2, h3⟩
    refine ⟨h1, h2, ?_⟩
    have ho : ops[i]? = some ops[i] := Array.getElem?_eq_getElem h1
    refine ⟨_, ho, ?_⟩
    rw [ho] at h3
    simp only [Option.map_some, Option.getD_some, Array.all_eq_true_iff_forall_mem, Bool.or_eq_true, Bool.not_eq_true'] at h3
    intro k hk
    obtain ⟨e, he, rfl⟩ := List.mem_map.1 hk
    obtain ⟨he1, he2⟩ := List.mem_filter.1 he
    rcases h3 e (by simpa using he1) with h | h
    · rw [h] at he2; cases he2
    · exact h
  · rintro ⟨h1, h2, o, ho, h3⟩
    refine ⟨h1, h2, ?_⟩
    rw [ho]
    simp only [Option.map_some, Option.getD_some, Array.all_eq_true_iff_forall_mem, Bool.or_eq_true, Bool.not_eq_true']
    intro e he
    by_cases hb : Region.binds .any e = true
    · right
      exact h3 e.on (List.mem_map.2 ⟨e, List.mem_filter.2 ⟨by simpa using he, hb⟩, rfl⟩)
    · left; simpa using hb
/-- how many are not listed yet -/
def unl (n : Nat) (listed : Array Bool) : Nat := (List.range n).countP (fun i => !listed.getD i true)
theorem countP_lt {l : List Nat} {p q : Nat → Bool} (h : ∀ x, x ∈ l → q x = true → p x = true) {i : Nat} (hi : i ∈ l) (hp : p i = true) (hq : q i = false) : l.countP q < l.countP p := by
  induction l with
  | nil => simp at hi
  | cons x l ih =>
    have hmono : l.countP q ≤ l.countP p := List.countP_mono_left (fun y hy hqy => h y (List.mem_cons_of_mem _ hy) hqy)
    rw [List.countP_cons, List.countP_cons]
    rcases List.mem_cons.1 hi with rfl | hi'
    · simp [hp, hq]; omega
    · have := ih (fun y hy => h y (List.mem_cons_of_mem _ hy)) hi'
      have hx := h x List.mem_cons_self
      by_cases hqx : q x = true
      · simp [hqx, hx hqx]; omega
      · simp [hqx]; split <;> omega
theorem unl_set {n : Nat} {listed : Array Bool} {i : Nat} (hi : i < n) (hl : listed.getD i true = false) : unl n (listed.setIfInBounds i true) < unl n listed := by
  refine countP_lt (i := i) ?_ (List.mem_range.2 hi) (by simpa using hl) ?_
  · intro x _ hx
    by_cases e : i = x
    · subst e; simpa using hl
    · simp only [Array.getD_eq_getD_getElem?, Array.getElem?_setIfInBounds, if_neg e] at hx ⊢
      exact hx
  · have hs : i < listed.size := by
      rcases Nat.lt_or_ge i listed.size with h | h
      · exact h
      · simp [Array.getD_eq_getD_getElem?, Array.getElem?_eq_none h] at hl
    simp [Array.getD_eq_getD_getElem?, Array.getElem?_setIfInBounds, hs]
section
variable {P : Program} {ops : Array Oper} {Q : Exit → Act → World → Prop}
/-- what is to be shown of one operation -/
def StepOf (P : Program) (ops : Array Oper) (Q : Exit → Act → World → Prop) (a0 : Act) (w0 : World) (E : World → World → Prop) (R : Nat → World → World → Prop) (Inv : Nat → (Nat → Value) → World → Prop) (i : Nat) (o : Oper) : Prop :=
  ∀ (a : Act) (w : World), E w0 w → a.tmps.size = a0.tmps.size → (∀ k, k ∈ preds o → Inv k (sl a) w) → (∀ t, initAt ops i t = true → sl a t = sl a0 t) →
    if Region.wanted o (yielded ops a.tmps) = true then o.wp P a w (fun a' w' => ∃ v, a' = a.put o.dst v ∧ R i w w' ∧ Inv i (sl a') w') Q
    else R i w w ∧ Inv i (sl (a.put o.dst undef)) w
def Each (P : Program) (ops : Array Oper) (Q : Exit → Act → World → Prop) (a0 : Act) (w0 : World) (E : World → World → Prop) (R : Nat → World → World → Prop) (Inv : Nat → (Nat → Value) → World → Prop) : List Oper → Nat → Prop
  | [], _ => True
  | o :: rest, i => StepOf P ops Q a0 w0 E R Inv i o ∧ Each P ops Q a0 w0 E R Inv rest (i + 1)
theorem Each.get {a0 : Act} {w0 : World} {E : World → World → Prop} {R : Nat → World → World → Prop} {Inv : Nat → (Nat → Value) → World → Prop} : ∀ (l : List Oper) (k : Nat), Each P ops Q a0 w0 E R Inv l k → ∀ j o, l[j]? = some o → StepOf P ops Q a0 w0 E R Inv (k + j) o := by
  intro l
  induction l with
  | nil => intro k _ j o h; simp at h
  | cons x l ih =>
    intro k h j o hj
    cases j with
    | zero => simp at hj; subst hj; exact h.1
    | succ j =>
      have := ih (k + 1) h.2 j o (by simpa using hj)
      rwa [show k + 1 + j = k + (j + 1) by omega] at this
theorem put_sl (a : Act) (d : Option Nat) (v : Value) (t : Nat) (h : d ≠ some t) : sl (a.put d v) t = sl a t := by
  cases d with
  | none => rfl
  | some x =>
    have : x ≠ t := fun e => h (by rw [e])
    simp [sl, Act.put, Array.getD_eq_getD_getElem?, Array.getElem?_setIfInBounds, this]
theorem put_size (a : Act) (d : Option Nat) (v : Value) : (a.put d v).tmps.size = a.tmps.size := by
  cases d <;> simp [Act.put]
theorem put_defers (a : Act) (d : Option Nat) (v : Value) : (a.put d v).defers = a.defers := by
  cases d <;> simp [Act.put]
theorem put_same (a : Act) (x : Nat) (v : Value) (h : x < a.tmps.size) : sl (a.put (some x) v) x = v := by
  simp [sl, Act.put, Array.getD_eq_getD_getElem?, Array.getElem?_setIfInBounds, h]
/-- A REGION THAT DRAWS, by an invariant of each operation -/
theorem wp_region_each {id : Nat} {a0 : Act} {w0 : World} (hm : P.follows .mixedOrders = true) (hback : backB ops = true)
    (E : World → World → Prop) (R : Nat → World → World → Prop) (Inv : Nat → (Nat → Value) → World → Prop)
    (E0 : E w0.drew w0.drew) (ER : ∀ i w w', E w0.drew w → R i w w' → E w0.drew w')
    (stable : ∀ i j oi oj (σ σ' : Nat → Value) w w', i ≠ j → ops[i]? = some oi → ops[j]? = some oj → i ∉ preds oj ∨ True → Inv j σ w → R i w w' → (∀ t, oi.dst ≠ some t → σ' t = σ t) → (j ∉ preds oi → True) → (∀ d, oi.dst = some d → i ∈ preds oj → False) → Inv j σ' w')
    (each : Each P ops Q a0 w0.drew E R Inv ops.toList 0)
    (fin : ∀ a w, E w0.drew w → a.tmps.size = a0.tmps.size → a.defers = a0.defers → (∀ j, j < ops.size → Inv j (sl a) w) → (∀ t, (ops.toList.all fun o => o.dst != some t) = true → sl a t = sl a0 t) → Q .normal a w) :
    (Code.region id ops true).wp P Q a0 w0 := by
  refine wp_region_any hm ?_
  show wpAny P .any ops Q ops.size (Array.replicate ops.size false) a0 w0.drew
  have main : ∀ (fuel : Nat) (listed : Array Bool) (a : Act) (w : World), unl ops.size listed ≤ fuel → E w0.drew w → a.tmps.size = a0.tmps.size → a.defers = a0.defers →
      (∀ j o, listed.getD j false = true → ops[j]? = some o → ∀ k, k ∈ preds o → listed.getD k false = true) →
      (∀ j, j < ops.size → listed.getD j true = true → listed.getD j false = true) →
      (∀ j, j < ops.size → listed.getD j false = true → Inv j (sl a) w) →
      (∀ t, (∀ j o, j < ops.size → listed.getD j false = true → ops[j]? = some o → o.dst ≠ some t) → sl a t = sl a0 t) → wpAny P .any ops Q fuel listed a w := by
    intro fuel
    induction fuel with
    | zero =>
      intro listed a w hu hE hs hd hcl hlt hI ht
      have hall : ∀ j, j < ops.size → listed.getD j false = true := by
        intro j hj
        refine hlt j hj ?_
        have h0 : unl ops.size listed = 0 := by omega
        unfold unl at h0
        have := List.countP_eq_zero.1 h0 j (List.mem_range.2 hj)
        simpa using this
      refine ⟨?_, fin a w hE hs hd (fun j hj => hI j hj (hall j hj)) (fun t htt => ht t (fun j o _ _ ho => ?_))⟩
      · rw [List.eq_nil_iff_forall_not_mem]
        intro i hi
        obtain ⟨h1, h2, _⟩ := mem_ready.1 hi
        have hx := hall i h1
        rcases Nat.lt_or_ge i listed.size with h | h
        · simp [Array.getD_eq_getD_getElem?, h] at h2 hx; rw [h2] at hx; cases hx
        · simp [Array.getD_eq_getD_getElem?, Array.getElem?_eq_none h] at hx
      · have := List.all_eq_true.1 htt o (by rw [Array.mem_toList_iff]; exact Array.mem_of_getElem? ho)
        simpa using this
    | succ fuel ih =>
      intro listed a w hu hE hs hd hcl hlt hI ht
      refine ⟨fun hr => ?_, fun i hi => ?_⟩
      · have hall : ∀ n j, j < n → j < ops.size → listed.getD j false = true := by
          intro n
          induction n with
          | zero => intro j hj; omega
          | succ n ihn =>
            intro j hj hjs
            refine hlt j hjs ?_
            cases hb : listed.getD j true with
            | true => rfl
            | false =>
              exfalso
              have ho : ops[j]? = some ops[j] := Array.getElem?_eq_getElem hjs
              have : j ∈ Region.ready .any ops listed := mem_ready.2 ⟨hjs, hb, _, ho, fun k hk => by
                have hbk := List.all_eq_true.1 hback j (List.mem_range.2 hjs)
                rw [ho] at hbk
                have hkj := of_decide_eq_true (List.all_eq_true.1 hbk k hk)
                exact ihn k (by omega) (by omega)⟩
              rw [hr] at this; cases this
        exact fin a w hE hs hd (fun j hj => hI j hj (hall (j + 1) j (by omega) hj)) (fun t htt => ht t (fun j o _ _ ho => by
          have := List.all_eq_true.1 htt o (by rw [Array.mem_toList_iff]; exact Array.mem_of_getElem? ho)
          simpa using this))
      · obtain ⟨h1, h2, o, ho, h3⟩ := mem_ready.1 hi
        have hst := Each.get ops.toList 0 each i o (by simpa using ho)
        rw [Nat.zero_add] at hst
        have hnl : listed.getD i false ≠ true := by
          intro hx
          rcases Nat.lt_or_ge i listed.size with h | h
          · simp [Array.getD_eq_getD_getElem?, h] at h2 hx; rw [h2] at hx; cases hx
          · simp [Array.getD_eq_getD_getElem?, Array.getElem?_eq_none h] at hx
        have his : i < listed.size := by
          rcases Nat.lt_or_ge i listed.size with h | h
          · exact h
          · simp [Array.getD_eq_getD_getElem?, Array.getElem?_eq_none h] at h2
        have gset : ∀ j (d : Bool), (listed.setIfInBounds i true).getD j d = if i = j then true else listed.getD j d := by
          intro j d
          simp only [Array.getD_eq_getD_getElem?, Array.getElem?_setIfInBounds]
          by_cases e : i = j
          · subst e; simp [his]
          · simp [e]
        have hst' := hst a w hE hs (fun k hk => hI k (by
            have hbk := List.all_eq_true.1 hback i (List.mem_range.2 h1)
            rw [ho] at hbk
            have := of_decide_eq_true (List.all_eq_true.1 hbk k hk); omega) (h3 k hk)) (fun t hti => by
          refine ht t (fun j oj hj hlj hoj hdj => ?_)
          have := List.all_eq_true.1 hti j (List.mem_range.2 hj)
          rw [hoj] at this
          by_cases e : j = i
          · subst e; exact hnl hlj
          · simp [e, hdj] at this
            exact hnl (hcl j oj hlj hoj i this))
        have next : ∀ (v : Value) (w' : World), R i w w' → Inv i (sl (a.put o.dst v)) w' → wpAny P .any ops Q fuel (listed.setIfInBounds i true) (a.put o.dst v) w' := by
          intro v w' hR hIi
          refine ih _ _ _ (by have := unl_set (n := ops.size) h1 h2; omega) (ER i w w' hE hR) ((put_size _ _ _).trans hs) ((put_defers _ _ _).trans hd) ?_ ?_ ?_ ?_
          · intro j oj hj hoj k hk
            rw [gset] at hj ⊢
            by_cases e : i = k
            · rw [if_pos e]
            · rw [if_neg e]
              by_cases e' : i = j
              · subst e'; rw [ho] at hoj; cases hoj; exact h3 k hk
              · rw [if_neg e'] at hj; exact hcl j oj hj hoj k hk
          · intro j hj hl
            rw [gset] at hl ⊢
            by_cases e : i = j
            · rw [if_pos e]
            · rw [if_neg e] at hl ⊢; exact hlt j hj hl
          · intro j hj hl
            rw [gset] at hl
            by_cases e : i = j
            · subst e; exact hIi
            · rw [if_neg e] at hl
              have hoj : ops[j]? = some ops[j] := Array.getElem?_eq_getElem hj
              exact stable i j o _ (sl a) _ w w' e ho hoj (.inr trivial) (hI j hj hl) hR (fun t h => put_sl _ _ _ _ h) (fun _ => trivial) (fun d hdd hp => hnl (hcl j _ hl hoj i hp))
          · intro t htt
            have hdt : o.dst ≠ some t := htt i o h1 (by rw [gset, if_pos rfl]) ho
            rw [put_sl _ _ _ _ hdt]
            exact ht t (fun j oj hj hl hoj => htt j oj hj (by rw [gset]; split <;> simp [hl]) hoj)
        unfold wpOp
        rw [ho]
        show if Region.wanted o (yielded ops a.tmps) = true then _ else _
        split
        · rename_i hw
          rw [if_pos hw] at hst'
          exact .inl (Oper.wp_mono (fun a' w' ⟨v, e, hR, hIi⟩ => by rw [e] at hIi ⊢; exact next v w' hR hIi) hst')
        · rename_i hw
          rw [if_neg hw] at hst'
          exact next undef w hst'.1 hst'.2
  refine main ops.size _ a0 w0.drew ?_ E0 rfl rfl ?_ ?_ ?_ ?_
  · unfold unl; exact Nat.le_trans List.countP_le_length (by simp)
  · intro j o hj; simp [Array.getD_eq_getD_getElem?, Array.getElem?_replicate] at hj
    split at hj <;> simp at hj
  · intro j hj hl; simp [Array.getD_eq_getD_getElem?, Array.getElem?_replicate, hj] at hl
  · intro j hj hl; simp [Array.getD_eq_getD_getElem?, Array.getElem?_replicate, hj] at hl
  · intro t _; rfl
end
end Go.By
namespace Go.By
open Go.RowKit
section
variable {T2 T1 : TypeId} {w w' : World} {base n : Nat} {v : Value} {xss : List (List UInt8)}
theorem owns_keepv {e size : Nat} {ys : List Value} (h : w.ownsRow base e size v n ys) (hb : Below w.heap.size w w') : w'.ownsRow base e size v n ys := by
  obtain ⟨q, c, rfl⟩ := owns_shape h
  exact owns_keep h hb
end
end Go.By
namespace Go.By
open Go.RowKit
/-- what is said of a value, and lasts while old memory stays -/
structure Shp where
  ok : Value → World → Prop
  keep : ∀ (v : Value) (w w' : World), ok v w → Below w.heap.size w w' → ok v w'
def Shp.val (u : Value) : Shp := ⟨fun v _ => v = u, fun _ _ _ h _ => h⟩
def Shp.any : Shp := ⟨fun _ _ => True, fun _ _ _ h _ => h⟩
def BytesIs (xs : List UInt8) (v : Value) (w : World) : Prop := ∃ p n c, v = .slice p n c ∧ Sl B8 w p n c xs
def RowIs (r : List UInt8 × List UInt8) (v : Value) (w : World) : Prop := ∃ p1 n1 c1 p2 n2 c2, v = .agg #[.slice p1 n1 c1, .slice p2 n2 c2] ∧ Sl B8 w p1 n1 c1 r.1 ∧ Sl B8 w p2 n2 c2 r.2
def Shp.bytes (xs : List UInt8) : Shp := ⟨BytesIs xs, fun _ _ _ ⟨p, n, c, e, h⟩ hb => ⟨p, n, c, e, h.keep hb⟩⟩
def Shp.row (r : List UInt8 × List UInt8) : Shp := ⟨RowIs r, fun _ _ _ ⟨p1, n1, c1, p2, n2, c2, e, h1, h2⟩ hb => ⟨p1, n1, c1, p2, n2, c2, e, h1.keep hb, h2.keep hb⟩⟩
/-- the slots that the operations write are unlike -/
def distB (ops : Array Oper) : Bool := (List.range ops.size).all fun i => (List.range ops.size).all fun j => i == j || match ops[i]?, ops[j]? with
  | some oi, some oj => (match oi.dst, oj.dst with
    | some x, some y => x != y
    | _, _ => true)
  | _, _ => true
def dstOf (ops : Array Oper) (i : Nat) : Option Nat := (ops[i]?).bind (·.dst)
def InvS (ops : Array Oper) (sh : Nat → Shp) (i : Nat) (σ : Nat → Value) (w : World) : Prop := match dstOf ops i with
  | some d => (sh i).ok (σ d) w
  | none => True
/-- what is to be shown of one operation -/
def StepS (P : Program) (ops : Array Oper) (Q : Exit → Act → World → Prop) (a0 : Act) (W0 : World) (sh : Nat → Shp) (i : Nat) (o : Oper) : Prop :=
  ∀ (a : Act) (w : World), Below W0.heap.size W0 w → a.tmps.size = a0.tmps.size → (∀ k, k ∈ preds o → InvS ops sh k (sl a) w) → (∀ t, initAt ops i t = true → sl a t = sl a0 t) →
    if Region.wanted o (yielded ops a.tmps) = true then o.wp P a w (fun a' w' => ∃ v, a' = a.put o.dst v ∧ Below w.heap.size w w' ∧ (sh i).ok v w') Q
    else (sh i).ok undef w
def EachS (P : Program) (ops : Array Oper) (Q : Exit → Act → World → Prop) (a0 : Act) (W0 : World) (sh : Nat → Shp) : List Oper → Nat → Prop
  | [], _ => True
  | o :: rest, i => StepS P ops Q a0 W0 sh i o ∧ EachS P ops Q a0 W0 sh rest (i + 1)
/-- every operation writes a slot of the frame -/
def dstsB (ops : Array Oper) (n : Nat) : Bool := ops.toList.all fun o => match o.dst with
  | some d => decide (d < n)
  | none => false
theorem each_of {P : Program} {ops : Array Oper} {Q : Exit → Act → World → Prop} {a0 : Act} {W0 : World} {sh : Nat → Shp} {n : Nat} (hn : a0.tmps.size = n) : ∀ (l : List Oper) (k : Nat), (∀ j o, l[j]? = some o → ops[k + j]? = some o) → (l.all fun o => match o.dst with | some d => decide (d < n) | none => false) = true →
    EachS P ops Q a0 W0 sh l k → Each P ops Q a0 W0 (fun W w => Below W.heap.size W w) (fun _ w w' => Below w.heap.size w w') (InvS ops sh) l k := by
  intro l
  induction l with
  | nil => intro k _ _ _; trivial
  | cons o l ih =>
    intro k hk hd h
    simp only [List.all_cons, Bool.and_eq_true] at hd
    refine ⟨?_, ih (k + 1) (fun j o' hj => by have := hk (j + 1) o' (by simpa using hj); rwa [show k + (j + 1) = k + 1 + j by omega] at this) hd.2 h.2⟩
    intro a w hE hs hp hi
    have ho : ops[k]? = some o := by have := hk 0 o (by simp); simpa using this
    have hs1 := h.1 a w hE hs hp hi
    cases hdo : o.dst with
    | none => rw [hdo] at hd; simp at hd
    | some d =>
      rw [hdo] at hd
      have hd1 : d < n := of_decide_eq_true hd.1
      have hdn : d < a.tmps.size := by rw [hs, hn]; exact hd1
      have hdst : dstOf ops k = some d := by simp [dstOf, ho, hdo]
      split
      · rename_i hw
        rw [if_pos hw] at hs1
        refine Oper.wp_mono ?_ hs1
        rintro a' w' ⟨v, e, hb, hok⟩
        refine ⟨v, e.trans (by rw [hdo]), hb, ?_⟩
        unfold InvS
        rw [hdst]
        show (sh k).ok (sl a' d) w'
        rw [e, hdo, put_same _ _ _ hdn]; exact hok
      · rename_i hw
        rw [if_neg hw] at hs1
        refine ⟨Below.refl _ _, ?_⟩
        unfold InvS
        rw [hdst]
        show (sh k).ok (sl (a.put (some d) undef) d) w
        rw [put_same _ _ _ hdn]; exact hs1
theorem wp_region_shapes {P : Program} {ops : Array Oper} {Q : Exit → Act → World → Prop} {id : Nat} {a0 : Act} {w0 : World} (sh : Nat → Shp) (n : Nat) (hn : a0.tmps.size = n) (hm : P.follows .mixedOrders = true) (hback : backB ops = true) (hdist : distB ops = true) (hdsts : dstsB ops n = true)
    (each : EachS P ops Q a0 w0.drew sh ops.toList 0)
    (fin : ∀ a w, Below w0.heap.size w0 w → a.tmps.size = a0.tmps.size → a.defers = a0.defers → (∀ j, j < ops.size → InvS ops sh j (sl a) w) → (∀ t, (ops.toList.all fun o => o.dst != some t) = true → sl a t = sl a0 t) → Q .normal a w) :
    (Code.region id ops true).wp P Q a0 w0 := by
  refine wp_region_each hm hback (fun W w => Below W.heap.size W w) (fun _ w w' => Below w.heap.size w w') (InvS ops sh) (Below.refl _ _) (fun i w w' h hR => h.trans (hR.mono h.size)) ?_ (each_of hn _ 0 (fun j o hj => by simpa using hj) hdsts each) (fun a w hE hs hd hI ht => fin a w ⟨hE.os, hE.tape, hE.output, hE.size, hE.block⟩ hs hd hI ht)
  intro i j oi oj σ σ' w w' hij hoi hoj _ hI hR hσ _ _
  unfold InvS at hI ⊢
  cases hdj : dstOf ops j with
  | none => trivial
  | some d =>
    rw [hdj] at hI
    show (sh j).ok (σ' d) w'
    have hne : oi.dst ≠ some d := by
      intro e
      have hi' : i < ops.size := (Array.getElem?_eq_some_iff.1 hoi).1
      have hj' : j < ops.size := (Array.getElem?_eq_some_iff.1 hoj).1
      have := List.all_eq_true.1 (List.all_eq_true.1 hdist i (List.mem_range.2 hi')) j (List.mem_range.2 hj')
      rw [hoi, hoj] at this
      have hdj' : oj.dst = some d := by simpa [dstOf, hoj] using hdj
      simp [e, hdj', hij] at this
    rw [hσ d hne]
    exact (sh j).keep _ _ _ hI hR
theorem ite_y {c : Prop} [Decidable c] {A B : Prop} (hc : c) (h : A) : if c then A else B := by rw [if_pos hc]; exact h
/-- an operation that gives a value -/
theorem wp_val {P : Program} {o : Oper} {a : Act} {w : World} {K : Act → World → Prop} {Q : Exit → Act → World → Prop} (v : Value) (hrun : (execOp a.eval o).run P w = .ok (.value v) w) (h : K (a.put o.dst v) w) : o.wp P a w K Q := by
  unfold Oper.wp; rw [hrun]; exact h
theorem wp_val' {P : Program} {o : Oper} {a : Act} {w w' : World} {K : Act → World → Prop} {Q : Exit → Act → World → Prop} (v : Value) (hrun : (execOp a.eval o).run P w = .ok (.value v) w') (h : K (a.put o.dst v) w') : o.wp P a w K Q := by
  unfold Oper.wp; rw [hrun]; exact h
/-- an operation that calls -/
theorem wp_enter {P : Program} {o : Oper} {a : Act} {w : World} {K : Act → World → Prop} {Q : Exit → Act → World → Prop} (f : FuncId) (args : Array Value) (hrun : (execOp a.eval o).run P w = .ok (.enter f args) w)
    {R : Ending → World → Prop} (hc : Calls P f args w R) (h : ∀ e w', R e w' → ∃ v, e = .returned v ∧ K (a.put o.dst v) w') : o.wp P a w K Q := by
  unfold Oper.wp; rw [hrun]
  show Calls P f args w _
  refine hc.mono ?_
  intro e w' hr
  obtain ⟨v, rfl, hk⟩ := h e w' hr
  exact hk
end Go.By
namespace Go.By
open Go.RowKit
section
variable {B X : Nat} {w w' : World}
end
section
variable (B X : Nat)
end
end Go.By
namespace Go.By
open Go.RowKit
theorem putAll_size (a : Act) : ∀ (ws : List Nat) (b : Act), (ws.foldl (fun b t => b.put (some t) (sl a t)) b).tmps.size = b.tmps.size := by
  intro ws
  induction ws with
  | nil => intro b; rfl
  | cons t ws ih => intro b; rw [List.foldl_cons, ih]; simp [Act.put]
theorem putAll_sl (a : Act) : ∀ (ws : List Nat) (b : Act) (n : Nat), a.tmps.size = n → b.tmps.size = n → (∀ t, t < n → t ∉ ws → sl b t = sl a t) → ∀ t, t < n → sl (ws.foldl (fun b t => b.put (some t) (sl a t)) b) t = sl a t := by
  intro ws
  induction ws with
  | nil => intro b n ha hb h t ht; exact h t ht (by simp)
  | cons u ws ih =>
    intro b n ha hb h t ht
    rw [List.foldl_cons]
    refine ih _ n ha (by simp [Act.put, hb]) ?_ t ht
    intro s hs hn
    by_cases e : s = u
    · subst e; exact put_same _ _ _ (by rw [hb]; exact hs)
    · have h1 := h s hs (by simp [e, hn])
      rw [← h1]
      simp [sl, Act.put, Array.getD_eq_getD_getElem?, Array.getElem?_setIfInBounds, show ¬ u = s from fun h => e h.symm]
theorem putAll_defers (a : Act) : ∀ (ws : List Nat) (b : Act), (ws.foldl (fun b t => b.put (some t) (sl a t)) b).defers = b.defers := by
  intro ws
  induction ws with
  | nil => intro b; rfl
  | cons t ws ih => intro b; rw [List.foldl_cons, ih]; rfl
/-- the frame behind the region: the written slots, the others as before -/
theorem act_is {ops : Array Oper} {a a0 : Act} (ws : List Nat) (hs : a.tmps.size = a0.tmps.size) (hd : a.defers = a0.defers) (hrest : ∀ t, (ops.toList.all fun o => o.dst != some t) = true → sl a t = sl a0 t)
    (hws : (ops.toList.all fun o => match o.dst with | some t => ws.contains t | none => true) = true) : a = ws.foldl (fun b t => b.put (some t) (sl a t)) a0 := by
  have key := putAll_sl a ws a0 a.tmps.size rfl hs.symm (by
    intro t _ hn
    refine (hrest t ?_).symm
    refine List.all_eq_true.2 fun o ho => ?_
    have := List.all_eq_true.1 hws o ho
    cases hdo : o.dst with
    | none => simp
    | some u =>
      rw [hdo] at this
      have hu : u ∈ ws := by simpa using this
      have : u ≠ t := fun e => hn (e ▸ hu)
      simpa using this)
  have h1 := putAll_size a ws a0
  have h2 := putAll_defers a ws a0
  generalize ws.foldl (fun b t => b.put (some t) (sl a t)) a0 = b at key h1 h2
  obtain ⟨ta, da⟩ := a
  obtain ⟨tb, db⟩ := b
  simp only at h1 h2 hd key hs
  have e1 : ta = tb := by
    refine Array.ext (by omega) fun i hi hj => ?_
    have := key i hi
    simpa [sl, Array.getD_eq_getD_getElem?, hi, hj] using this.symm
  rw [e1, hd, h2]
/-- an operation whose operands' values are known runs as one whose operands are these values -/
theorem eval_tmp (a : Act) (t : Nat) : a.eval (.tmp t) = sl a t := rfl
theorem eval_const (a : Act) (v : Value) : a.eval (.const v) = v := rfl
theorem eval_func (a : Act) (f : FuncId) : a.eval (.func f) = .func (.func f) #[] #[] := rfl
theorem undrew {w W : World} (h : Below w.drew.heap.size w.drew W) : Below w.heap.size w W := ⟨h.os, h.tape, h.output, h.size, h.block⟩
end Go.By
namespace Go.By
open Go.RowKit
end Go.By
namespace Go.By
open Go.RowKit
end Go.By
namespace Go.By
open Go.RowKit
end Go.By
namespace Go.By
end Go.By
namespace Go.By
end Go.By
namespace Go.Proofs.YtccaiiigdfieoaaDoor
open Go.RowKit Go.By
end Go.Proofs.YtccaiiigdfieoaaDoor
namespace Go.By
open Go.RowKit
end Go.By
namespace Go.Proofs.YtccaiiigdfieoaaDoor
open Go.RowKit Go.By
end Go.Proofs.YtccaiiigdfieoaaDoor
namespace Go.Proofs.YtccaiiigdfieoaaDoor
open Go.RowKit Go.By
end Go.Proofs.YtccaiiigdfieoaaDoor
namespace Go.By
open Go.RowKit
theorem cells_three {w : World} {b T : Nat} {u v x : Value} (h : w.heap[b]? = some (.cells #[u, v, x] T (0, 0))) : w.cell? ⟨b, 0, none⟩ = some u ∧ w.cell? ⟨b, 1, none⟩ = some v ∧ w.cell? ⟨b, 2, none⟩ = some x :=
  ⟨cell_of_row _ _ 0 _ _ _ h, cell_of_row _ _ 1 _ _ _ h, cell_of_row _ _ 2 _ _ _ h⟩
theorem below_row {B g : Nat} {a w : World} {cs : Array Value} (h : Below B a w) (hg : B ≤ g) : Below B a (w.setRow g cs) := by
  refine ⟨h.os, h.tape, h.output, ?_, fun i hi => ?_⟩
  · have := h.size; simpa [World.setRow] using this
  · rw [← h.block i hi]
    simp only [World.setRow, Array.getElem?_modify]
    rw [if_neg (by omega)]
theorem cell_setRow {w : World} {b o g : Nat} {v : Value} {cs : Array Value} (h : w.cell? ⟨b, o, none⟩ = some v) (hne : b ≠ g) : (w.setRow g cs).cell? ⟨b, o, none⟩ = some v := by
  refine (World.cell?_of_block (a := ⟨b, o, none⟩) ?_).trans h
  simp only [World.setRow, Array.getElem?_modify]
  rw [if_neg (by omega)]
theorem sl_setRow {α : Type} {enc : α → Value} {w : World} {p : Option Addr} {n c g : Nat} {xs : List α} {cs : Array Value} (h : Sl enc w p n c xs) (hne : ∀ a, p = some a → a.block ≠ g) : Sl enc (w.setRow g cs) p n c xs :=
  ⟨h.len, h.le, h.max, h.nil, fun i hi => by
    obtain ⟨b, o, e, hc⟩ := h.rs i hi
    exact ⟨b, o, e, cell_setRow hc (hne _ e)⟩⟩
/-- a slice in blocks not below B -/
def NewP (B : Nat) (q : Option Addr) : Prop := ∀ a, q = some a → B ≤ a.block
/-- a slice that reads as xs, in a block of type T, not below B -/
structure Fresh (T : TypeId) (B : Nat) (w : World) (q : Option Addr) (n c : Nat) (xs : List UInt8) : Prop where
  sl : Sl B8 w q n c xs
  new : NewP B q
  ty : ∀ a, q = some a → ∃ cs fr, w.heap[a.block]? = some (.cells cs T fr)
theorem Fresh.of_owns {T : TypeId} {B : Nat} {w : World} {q : Option Addr} {n c : Nat} {xs : List UInt8} (h : w.ownsRow B T 1 (.slice q n c) n (xs.map B8)) : Fresh T B w q n c xs := by
  refine ⟨Sl.of_owns h, fun a ha => (owns_new h a ha).1, fun a ha => ?_⟩
  rcases h.2 with ⟨h2, _⟩ | ⟨g, cap, cur, hv, _, hh, _⟩
  · subst ha; cases h2
  · subst ha; cases hv; exact ⟨_, _, hh⟩
theorem Fresh.none (T : TypeId) (B : Nat) (w : World) : Fresh T B w none 0 0 [] := ⟨Sl.nil0 _ _, fun a ha => (by cases ha), fun a ha => (by cases ha)⟩
theorem Fresh.keep {T : TypeId} {B : Nat} {w w' : World} {q : Option Addr} {n c : Nat} {xs : List UInt8} (h : Fresh T B w q n c xs) (hb : Below w.heap.size w w') : Fresh T B w' q n c xs :=
  ⟨h.sl.keep hb, h.new, fun a ha => by obtain ⟨cs, fr, e⟩ := h.ty a ha; exact ⟨cs, fr, (hb.block _ (lt_of_block e)).trans e⟩⟩
theorem Fresh.mono {T : TypeId} {B B' : Nat} {w : World} {q : Option Addr} {n c : Nat} {xs : List UInt8} (h : Fresh T B w q n c xs) (hB : B' ≤ B) : Fresh T B' w q n c xs := ⟨h.sl, fun a ha => Nat.le_trans hB (h.new a ha), h.ty⟩
theorem Fresh.row {T T' : TypeId} {B g : Nat} {w : World} {q : Option Addr} {n c : Nat} {xs : List UInt8} {cs old : Array Value} {fr : Nat × Nat} (h : Fresh T B w q n c xs) (hg : w.heap[g]? = some (.cells old T' fr)) (hne : T' ≠ T) : Fresh T B (w.setRow g cs) q n c xs := by
  have hd : ∀ a, q = some a → a.block ≠ g := fun a ha e => by
    obtain ⟨c2, f2, e2⟩ := h.ty a ha
    rw [e, hg] at e2
    injection e2 with e2
    injection e2 with _ e3 _
    exact hne e3
  exact ⟨sl_setRow h.sl hd, h.new, fun a ha => by obtain ⟨c2, f2, e2⟩ := h.ty a ha; exact ⟨c2, f2, hro e2 (hd a ha)⟩⟩
/-- what follows new blocks -/
theorem one_of {w w1 : World} {A : Obj} (hb : Below (w.alloc A).heap.size (w.alloc A) w1) : Below w.heap.size w w1 ∧ w1.heap[w.heap.size]? = some A ∧ w.heap.size + 1 ≤ w1.heap.size :=
  ⟨(al (Below.refl _ _) (Nat.le_refl _)).trans (hb.mono (by simp)), (hb.block _ (by simp)).trans (hnew rfl), by have := hb.size; simpa using this⟩
theorem two_of {w w1 : World} {A B : Obj} (hb : Below ((w.alloc A).alloc B).heap.size ((w.alloc A).alloc B) w1) : Below w.heap.size w w1 ∧ w1.heap[w.heap.size]? = some A ∧ w1.heap[w.heap.size + 1]? = some B ∧ w.heap.size + 2 ≤ w1.heap.size :=
  ⟨(al (al (Below.refl _ _) (Nat.le_refl _)) (by simp)).trans (hb.mono (by simp; omega)), (hb.block _ (by simp; omega)).trans (hal (hnew rfl)), (hb.block _ (by simp)).trans (hnew (by simp)), by have := hb.size; simp at this; omega⟩
/-- s[k:] -/
theorem Sl.tail {α : Type} {enc : α → Value} {w : World} {b o n c : Nat} {xs : List α} (k : Nat) (h : Sl enc w (some ⟨b, o, none⟩) n c xs) (hk : k ≤ n) : Sl enc w (if c = k then some ⟨b, o, none⟩ else some ⟨b, o + k, none⟩) (n - k) (c - k) (xs.drop k) := by
  have h1 := h.len; have h2 := h.le; have h3 := h.max
  refine ⟨by simp; omega, by omega, by omega, fun hp => (by split at hp <;> cases hp), ?_⟩
  intro i hi
  simp at hi
  rw [if_neg (by omega)]
  obtain ⟨b', o', e, hc⟩ := h.rs (k + i) (by omega)
  cases e
  refine ⟨_, _, rfl, ?_⟩
  rw [Nat.add_assoc, hc]
  simp
theorem Sl.has {α : Type} {enc : α → Value} {w : World} {p : Option Addr} {n c : Nat} {xs : List α} (h : Sl enc w p n c xs) (hn : 0 < n) : ∃ b o, p = some ⟨b, o, none⟩ ∧ b < w.heap.size := h.rs.lt (by rw [h.len]; exact hn)
theorem Fresh.block {T B g n : Nat} {w : World} {fr : Nat × Nat} {xs : List UInt8} (h : w.heap[g]? = some (.cells (xs.map B8).toArray T fr)) (hl : xs.length = n) (hn : n ≤ maxLen) (hg : B ≤ g) : Fresh T B w (some ⟨g, 0, Option.none⟩) n n xs :=
  ⟨sl_block xs n h rfl hl hn, fun a ha => by cases ha; exact hg, fun a ha => by cases ha; exact ⟨_, _, h⟩⟩
theorem res_ct {P : Program} {fn : Func} {p u : Tmp} {ty : TypeId} (h : fn.results = #[.cell p ty, .tmp u]) (tmps : Array Value) (w : World) (g : Nat) (t : TypeId) (cs : Array Value) (fr : Nat × Nat) (d : TypeDesc) (v : Value)
    (hp : tmps.getD p undef = .pointer (some ⟨g, 0, none⟩)) (hg : w.heap[g]? = some (.cells cs t fr)) (hv : tmps.getD u undef = v)
    (hu : P.underlying ty = some d) (hd : (match d with | .struct _ | .array _ _ => true | _ => false) = true) (hi : (P.info? ty).map (·.size) = some cs.size) :
    (results fn tmps).run P w = .ok (.tuple #[.agg cs, v]) w := by
  have hp' : tmps[p]?.getD undef = .pointer (some ⟨g, 0, none⟩) := by simpa using hp
  have hv' : tmps[u]?.getD undef = v := by simpa using hv
  simp [results, h, hp', hv', asAddr, run_loadVar_row w g t ty cs fr d hg hu hd hi]
end Go.By
namespace Go.By
open Go.Lib
/-- the first word, and what is behind the sign -/
def cutW (c : UInt8) : List UInt8 → List UInt8 × Option (List UInt8)
  | [] => ([], none)
  | b :: l => if b = c then ([], some l) else (b :: (cutW c l).1, (cutW c l).2)
/-- the words, cut at k signs at most -/
def spl (c : UInt8) : Nat → List UInt8 → List (List UInt8)
  | 0, s => [s]
  | k + 1, s => match (cutW c s).2 with
    | none => [s]
    | some r => (cutW c s).1 :: spl c k r
theorem cutW_none {c : UInt8} : ∀ {s : List UInt8}, (cutW c s).2 = none → (cutW c s).1 = s ∧ index s [c] = -1
  | [], _ => ⟨rfl, by simp [index]⟩
  | b :: l, h => by
    unfold cutW at h ⊢
    by_cases hb : b = c
    · rw [if_pos hb] at h; simp at h
    · rw [if_neg hb] at h ⊢
      obtain ⟨e1, e2⟩ := cutW_none h
      refine ⟨by rw [e1], ?_⟩
      have hp : ([c] : List UInt8).isPrefixOf (b :: l) = false := by simp [List.isPrefixOf, Ne.symm hb]
      rw [index, hp, e2]; simp
theorem cutW_some {c : UInt8} : ∀ {s r : List UInt8}, (cutW c s).2 = some r → ∃ i : Nat, index s [c] = (i : Int) ∧ s.take i = (cutW c s).1 ∧ s.drop (i + 1) = r ∧ i < s.length
  | [], _, h => by simp [cutW] at h
  | b :: l, r, h => by
    unfold cutW at h ⊢
    by_cases hb : b = c
    · rw [if_pos hb] at h ⊢
      subst hb
      exact ⟨0, by rw [index]; simp [List.isPrefixOf], rfl, by simpa using h, by simp⟩
    · rw [if_neg hb] at h ⊢
      obtain ⟨i, e1, e2, e3, e4⟩ := cutW_some h
      have hp : ([c] : List UInt8).isPrefixOf (b :: l) = false := by simp [List.isPrefixOf, Ne.symm hb]
      have hi : ¬ ((i : Int) == -1) = true := fun e => by have := beq_iff_eq.1 e; omega
      refine ⟨i + 1, ?_, by rw [List.take_succ_cons, e2], by rw [List.drop_succ_cons, e3], by simp; omega⟩
      rw [index, hp, e1]
      rw [if_neg (by simp), if_neg hi]; rfl
theorem splitK_spl (c : UInt8) : ∀ (k : Nat) (s : List UInt8), splitK [c] 0 k s = spl c k s
  | 0, _ => rfl
  | k + 1, s => by
    unfold splitK spl
    cases h : (cutW c s).2 with
    | none =>
      have e := (cutW_none h).2
      rw [if_pos (by rw [e]; rfl)]
    | some r =>
      obtain ⟨i, e1, e2, e3, _⟩ := cutW_some h
      have hi : ¬ ((i : Int) == -1) = true := fun e => by have := beq_iff_eq.1 e; omega
      rw [e1, if_neg hi]
      show s.take (i + 0) :: splitK [c] 0 k (s.drop (i + 1)) = _
      rw [Nat.add_zero, e2, e3, splitK_spl c k r]
theorem cutW_len {c : UInt8} {s r : List UInt8} (h : (cutW c s).2 = some r) : r.length + 1 ≤ s.length := by
  obtain ⟨i, _, _, e3, e4⟩ := cutW_some h
  rw [← e3, List.length_drop]; omega
theorem spl_min (c : UInt8) : ∀ (k : Nat) (s : List UInt8), spl c k s = spl c (min k s.length) s
  | 0, s => by rw [Nat.zero_min]
  | k + 1, s => by
    by_cases h0 : s.length = 0
    · have : s = [] := List.length_eq_zero_iff.1 h0
      subst this; simp [spl, cutW]
    · obtain ⟨m, hm⟩ : ∃ m, s.length = m + 1 := ⟨s.length - 1, by omega⟩
      rw [hm, Nat.add_min_add_right]
      unfold spl
      cases h : (cutW c s).2 with
      | none => rfl
      | some r =>
        have hr := cutW_len h
        simp only
        congr 1
        rw [spl_min c k r, spl_min c (min k m) r]
        congr 1
        omega
theorem spl_len (c : UInt8) : ∀ (k : Nat) (s : List UInt8), 1 ≤ (spl c k s).length ∧ (spl c k s).length ≤ k + 1
  | 0, _ => by simp [spl]
  | k + 1, s => by
    unfold spl
    cases h : (cutW c s).2 with
    | none => simp
    | some r => have := spl_len c k r; simp; omega
theorem spl_none {c : UInt8} {k : Nat} {s : List UInt8} (h : (cutW c s).2 = none) : spl c k s = [s] := by
  cases k with
  | zero => rfl
  | succ k => unfold spl; rw [h]
theorem spl_some {c : UInt8} {k : Nat} {s r : List UInt8} (h : (cutW c s).2 = some r) : spl c (k + 1) s = (cutW c s).1 :: spl c k r := by
  conv => lhs; unfold spl
  rw [h]
theorem cutW_app {c : UInt8} : ∀ {w : List UInt8}, (∀ b ∈ w, b ≠ c) → ∀ r, cutW c (w ++ c :: r) = (w, some r)
  | [], _, r => by simp [cutW]
  | b :: w, h, r => by
    rw [List.cons_append]; unfold cutW
    rw [if_neg (h b (by simp)), cutW_app (fun x hx => h x (by simp [hx])) r]
theorem cutW_all {c : UInt8} : ∀ {w : List UInt8}, (∀ b ∈ w, b ≠ c) → cutW c w = (w, none)
  | [], _ => rfl
  | b :: w, h => by
    unfold cutW
    rw [if_neg (h b (by simp)), cutW_all (fun x hx => h x (by simp [hx]))]
/-- decimal digits -/
def isDig (b : UInt8) : Bool := decide (48 ≤ b.toNat) && decide (b.toNat ≤ 57)
def decV (acc : Nat) (l : List UInt8) : Nat := l.foldl (fun a b => 10 * a + (b.toNat - 48)) acc
theorem decV_cons (a : Nat) (b : UInt8) (l : List UInt8) : decV a (b :: l) = decV (10 * a + (b.toNat - 48)) l := List.foldl_cons ..
theorem decV_nil (a : Nat) : decV a [] = a := List.foldl_nil
/-- may it be a number? -/
def numG (w : List UInt8) : Bool := decide (w ≠ []) && !(decide (1 < w.length) && decide (w.head? = some 48)) && w.all isDig
def numB (M : Nat) (w : List UInt8) : Option Nat := if numG w = true ∧ decV 0 w ≤ M then some (decV 0 w) else none
theorem decV_append (l m : List UInt8) (a : Nat) : decV a (l ++ m) = decV (decV a l) m := List.foldl_append ..
theorem decV_le : ∀ (l : List UInt8) (a : Nat), a ≤ decV a l
  | [], _ => Nat.le_refl _
  | c :: l, a => by rw [decV_cons]; exact Nat.le_trans (by omega) (decV_le l _)
theorem dig_ofNat {i : Nat} (h : i < 10) : isDig (UInt8.ofNat (48 + i)) = true ∧ (UInt8.ofNat (48 + i)).toNat = 48 + i := by
  have e : (UInt8.ofNat (48 + i)).toNat = 48 + i := by simp; omega
  refine ⟨?_, e⟩
  unfold isDig; rw [e]; simp; omega
theorem decDigits_small {u : Nat} (h : u < 10) : decDigits u = [UInt8.ofNat (48 + u)] := by rw [decDigits, dif_pos h]
theorem decDigits_big {u : Nat} (h : ¬ u < 10) : decDigits u = decDigits (u / 10) ++ [UInt8.ofNat (48 + u % 10)] := by rw [decDigits, dif_neg h]
theorem decDigits_facts : ∀ (n u : Nat), u ≤ n → decDigits u ≠ [] ∧ (∀ b ∈ decDigits u, isDig b = true) ∧ decV 0 (decDigits u) = u ∧ (1 ≤ u → (decDigits u).head? ≠ some 48)
  | n, u, hn => by
    by_cases h : u < 10
    · rw [decDigits_small h]
      obtain ⟨h1, h2⟩ := dig_ofNat h
      refine ⟨by simp, by simpa using h1, by rw [decV_cons, decV_nil, h2]; omega, fun hu => ?_⟩
      intro e
      have e2 : UInt8.ofNat (48 + u) = 48 := Option.some.inj e
      have := congrArg UInt8.toNat e2
      rw [h2] at this
      have h48 : (48 : UInt8).toNat = 48 := rfl
      omega
    · cases n with
      | zero => omega
      | succ n =>
        obtain ⟨g1, g2, g3, g4⟩ := decDigits_facts n (u / 10) (by omega)
        obtain ⟨h1, h2⟩ := dig_ofNat (show u % 10 < 10 by omega)
        rw [decDigits_big h]
        refine ⟨by simp, ?_, ?_, fun _ => ?_⟩
        · intro b hb
          rcases List.mem_append.1 hb with hb | hb
          · exact g2 b hb
          · rw [List.mem_singleton.1 hb]; exact h1
        · rw [decV_append, g3, decV_cons, decV_nil, h2]; omega
        · cases hd : decDigits (u / 10) with
          | nil => exact absurd hd g1
          | cons x y =>
            have := g4 (by omega)
            rw [hd] at this
            simpa using this
theorem numG_dec (u : Nat) : numG (decDigits u) = true := by
  obtain ⟨g1, g2, g3, g4⟩ := decDigits_facts u u (Nat.le_refl _)
  unfold numG
  have h1 : decide (decDigits u ≠ []) = true := by simpa using g1
  have h3 : (decDigits u).all isDig = true := List.all_eq_true.2 g2
  rw [h1, h3]
  by_cases hu : 1 ≤ u
  · have h2 : decide ((decDigits u).head? = some 48) = false := by simpa using g4 hu
    rw [h2]; simp
  · have : u = 0 := by omega
    subst this
    rw [decDigits_small (by omega)]; simp
theorem numB_dec {u M : Nat} (h : u ≤ M) : numB M (decDigits u) = some u := by
  have g := (decDigits_facts u u (Nat.le_refl _)).2.2.1
  unfold numB
  rw [if_pos ⟨numG_dec u, by rw [g]; exact h⟩, g]
theorem numG_dig {w : List UInt8} (h : numG w = true) : ∀ b ∈ w, isDig b = true := by
  unfold numG at h
  simp only [Bool.and_eq_true] at h
  exact List.all_eq_true.1 h.2
theorem isDig_le {b : UInt8} (h : isDig b = true) : 48 ≤ b.toNat ∧ b.toNat ≤ 57 := by
  unfold isDig at h; simpa using h
end Go.By
namespace Go.Proofs.YtccaiiigdfieoaaDoor
/-- a digit of base 16 -/
def dgt (x : Nat) : UInt8 := if x < 10 then UInt8.ofNat (48 + x) else UInt8.ofNat (87 + x)
/-- two digits of each byte -/
def hexL (l : List UInt8) : List UInt8 := l.flatMap fun b => [dgt (b.toNat / 16), dgt (b.toNat % 16)]
theorem dgt_toNat {x : Nat} (h : x < 16) : (dgt x).toNat = if x < 10 then 48 + x else 87 + x := by
  unfold dgt
  split
  · rw [UInt8.toNat_ofNat', Nat.mod_eq_of_lt (by omega)]
  · rw [UInt8.toNat_ofNat', Nat.mod_eq_of_lt (by omega)]
theorem hexL_cons (x : UInt8) (l : List UInt8) : hexL (x :: l) = dgt (x.toNat / 16) :: dgt (x.toNat % 16) :: hexL l := rfl
/-- the value of a digit; 16: it is none -/
def valD (c : UInt8) : Nat := if 48 ≤ c.toNat ∧ c.toNat ≤ 57 then c.toNat - 48 else if 97 ≤ c.toNat ∧ c.toNat ≤ 102 then c.toNat - 87 else 16
theorem valD_dgt {x : Nat} (h : x < 16) : valD (dgt x) = x := by
  unfold valD
  rw [dgt_toNat h]
  by_cases h1 : x < 10
  · rw [if_pos h1, if_pos (by omega)]; omega
  · rw [if_neg h1, if_neg (by omega), if_pos (by omega)]; omega
/-- the bytes that digits say, two by two -/
def unhexP : List UInt8 → Option (List UInt8)
  | [] => some []
  | [_] => none
  | a :: b :: l => if valD a < 16 ∧ valD b < 16 then (unhexP l).map (UInt8.ofNat (16 * valD a + valD b) :: ·) else none
theorem unhexP_two (a b : UInt8) (l : List UInt8) : unhexP (a :: b :: l) = if valD a < 16 ∧ valD b < 16 then (unhexP l).map (UInt8.ofNat (16 * valD a + valD b) :: ·) else none := rfl
theorem unhexP_hexL : ∀ l : List UInt8, unhexP (hexL l) = some l
  | [] => rfl
  | x :: l => by
    have hx := x.toNat_lt
    rw [hexL_cons, unhexP_two, valD_dgt (by omega), valD_dgt (by omega), if_pos ⟨by omega, by omega⟩, unhexP_hexL l]
    show some (_ :: l) = some (x :: l)
    congr 2
    apply UInt8.toNat_inj.1
    rw [UInt8.toNat_ofNat', Nat.mod_eq_of_lt (by omega)]; omega
theorem unhexP_odd : ∀ (n : Nat) {s : List UInt8}, s.length ≤ n → s.length % 2 = 1 → unhexP s = none
  | _, [], _, h => by simp at h
  | _, [_], _, _ => rfl
  | 0, a :: b :: s, hn, _ => by simp at hn
  | n + 1, a :: b :: s, hn, h => by
    rw [unhexP_two, unhexP_odd n (s := s) (by simp at hn; omega) (by simp at h; omega)]
    split <;> rfl
/-- a step of the reading: what is known of the front -/
def UnhexAt (s : List UInt8) (i : Nat) (out : List UInt8) : Prop := unhexP s = (unhexP (s.drop i)).map (out ++ ·)
theorem UnhexAt.zero (s : List UInt8) : UnhexAt s 0 [] := by
  show unhexP s = (unhexP s).map _
  cases unhexP s <;> rfl
theorem drop_two {s : List UInt8} {i : Nat} {a b : UInt8} (ha : s[i]? = some a) (hb : s[i + 1]? = some b) : s.drop i = a :: b :: s.drop (i + 2) := by
  obtain ⟨h1, e1⟩ := List.getElem?_eq_some_iff.1 ha
  obtain ⟨h2, e2⟩ := List.getElem?_eq_some_iff.1 hb
  rw [List.drop_eq_getElem_cons h1, List.drop_eq_getElem_cons h2, e1, e2]
theorem UnhexAt.next {s out : List UInt8} {i : Nat} {a b : UInt8} (h : UnhexAt s i out) (ha : s[i]? = some a) (hb : s[i + 1]? = some b) (h1 : valD a < 16) (h2 : valD b < 16) : UnhexAt s (i + 2) (out ++ [UInt8.ofNat (16 * valD a + valD b)]) := by
  unfold UnhexAt at h ⊢
  rw [h, drop_two ha hb, unhexP_two, if_pos ⟨h1, h2⟩, Option.map_map]
  congr 1
  funext x
  simp
theorem UnhexAt.bad {s out : List UInt8} {i : Nat} {a b : UInt8} (h : UnhexAt s i out) (ha : s[i]? = some a) (hb : s[i + 1]? = some b) (h1 : ¬ (valD a < 16 ∧ valD b < 16)) : unhexP s = none := by
  unfold UnhexAt at h
  rw [h, drop_two ha hb, unhexP_two, if_neg h1]; rfl
theorem UnhexAt.done {s out : List UInt8} {i : Nat} (h : UnhexAt s i out) (hi : s.length ≤ i) : unhexP s = some out := by
  unfold UnhexAt at h
  rw [h, List.drop_eq_nil_of_le hi]
  show some (out ++ []) = _
  rw [List.append_nil]
end Go.Proofs.YtccaiiigdfieoaaDoor
namespace Go.Proofs.YtccaiiigdfieoaaDoor
open Go.RowKit Go.By
theorem dgt_lo {x : Nat} (h : x < 10) : Value.int .u8 (48 + x) = B8 (dgt x) := by
  unfold dgt; rw [if_pos h]
  show _ = Value.int .u8 ((UInt8.ofNat (48 + x)).toNat : Int)
  rw [UInt8.toNat_ofNat', Nat.mod_eq_of_lt (by omega)]; simp
theorem dgt_hi {x : Nat} (h : ¬ x < 10) (h2 : x < 16) : Value.int .u8 (87 + x) = B8 (dgt x) := by
  unfold dgt; rw [if_neg h]
  show _ = Value.int .u8 ((UInt8.ofNat (87 + x)).toNat : Int)
  rw [UInt8.toNat_ofNat', Nat.mod_eq_of_lt (by omega)]; simp
theorem digit_any (x : Nat) (h : x < 16) (w : World) : Calls Tryd.prog 40 #[.int .u8 (x : Nat)] w fun e w' => e = .returned (B8 (dgt x)) ∧ w = w' := by
  by_cases h1 : x < 10
  · have e := dgt_lo h1
    have h1' : (x : Int) < 10 := by omega
    have hw : IntKind.u8.wrap (48 + (x : Int)) = 48 + (x : Int) := by rw [IntKind.wrap_u8]; omega
    rw [← e]
    clear e
    go_enter Tryd.func40, Tryd.ntmps40
    go_wp2
    go_ret
    exact ⟨rfl, rfl⟩
  · have e := dgt_hi h1 h
    have h1' : ¬ (x : Int) < 10 := by omega
    have hw : IntKind.u8.wrap (97 + (x : Int)) = 97 + (x : Int) := by rw [IntKind.wrap_u8]; omega
    have hw2 : IntKind.u8.wrap (97 + (x : Int) - 10) = 87 + (x : Int) := by rw [IntKind.wrap_u8]; omega
    rw [← e]
    clear e
    go_enter Tryd.func40, Tryd.ntmps40
    go_wp2
    go_ret
    exact ⟨rfl, rfl⟩
end Go.Proofs.YtccaiiigdfieoaaDoor
namespace Go.By
open Go.RowKit Go.Proofs.YtccaiiigdfieoaaDoor
theorem strB_app2 (a b : List UInt8) : strB a ++ strB b = strB (a ++ b) := by
  rw [strB_of (strB a ++ strB b)]
  congr 1
theorem hexL_take {xs : List UInt8} {i : Nat} {x : UInt8} (h : xs[i]? = some x) : hexL (xs.take (i + 1)) = hexL (xs.take i) ++ [dgt (x.toNat / 16), dgt (x.toNat % 16)] := by
  unfold hexL
  rw [List.take_add_one, h, List.flatMap_append]; rfl
theorem hexL_len (xs : List UInt8) : (hexL xs).length = 2 * xs.length := by
  unfold hexL
  induction xs with
  | nil => rfl
  | cons x l ih => rw [List.flatMap_cons, List.length_append, ih, List.length_cons]; simp; omega
end Go.By
namespace Go.Proofs.YtccaiiigdfieoaaDoor
open Go.RowKit Go.By
theorem conv_sl {W : World} {q : Option Addr} {n c : Nat} {xs : List UInt8} (h : Sl B8 W q n c xs) (h0 : 0 < n) : (convert 35 9 (.slice q n c)).run Tryd.prog W = .ok (.string (strB xs)) W := by
  obtain ⟨b, o, rfl, -⟩ := h.has h0
  have h1 := run_convert_bytes_back W 35 9 5 ⟨b, o, none⟩ c xs Tryd.underlying35 Tryd.underlying5 Tryd.underlying9 (fun t ht => by
    obtain ⟨b', o', e, hc⟩ := h.rs t ht
    cases e
    rw [Addr.add_lit, hc])
  rw [h.len] at h1
  exact h1
set_option maxRecDepth 100000 in
set_option maxHeartbeats 2000000 in
theorem Hex24_any (q : Option Addr) (n c : Nat) (xs : List UInt8) (w : World) (h : Sl B8 w q n c xs) (hn : n ≤ 1000000) :
    Calls Tryd.prog 26 #[.slice q n c] w fun e w' => e = .returned (.string (strB (hexL xs))) ∧ Below w.heap.size w w' := by
  have H := Lib.hid h; clear h
  have HLN := Lib.hid H.out.len
  go_enter Tryd.func26, Tryd.ntmps26
  go_wp2
  go_loopw [3, 4] (fun sv iv wr => ∃ (i : Nat) (A : List UInt8), i ≤ n ∧ iv = .int .i64 (i : Nat) ∧ sv = .string (strB A) ∧ Hid (A = hexL (xs.take i)) ∧ Hid (Below w.heap.size w wr)) (fun _ iv _ => n - (intOf iv).toNat)
  case atStart => exact ⟨0, [], Nat.zero_le _, rfl, rfl, rfl, Below.refl _ _⟩
  case round =>
    obtain ⟨i, A, hi, rfl, rfl, HA, HB⟩ := hrel
    by_cases hlt : i < n
    · obtain ⟨b, o, x, rfl, hc, hx⟩ := (H.out.keep HB.out).at i hlt
      have hlt' : (i : Int) < (n : Int) := by omega
      have hAl : A.length ≤ 2000000 := by rw [HA.out, hexL_len, List.length_take]; omega
      have HX := Lib.hid (hexL_take hx.out)
      have hx2 := x.toNat_lt
      have HLT := Lib.hid hlt
      have hqu : IntKind.u8.wrap ((x.toNat : Int) / 16) = (x.toNat : Int) / 16 := by rw [IntKind.wrap_u8]; omega
      have hrm : ((x.toNat : Int)).tmod 16 = (x.toNat : Int) % 16 := Int.tmod_eq_emod_of_nonneg (by omega)
      clear hlt hx
      go_upto_region 5 with (fail)
      refine wp_region_shapes (fun ix => ([.val (.string (strB A)), .val (.slice (some ⟨b, o, none⟩) n c), .val (.int .i64 (i : Nat)), .val (.pointer (some ⟨b, o + i, none⟩)), .val (B8 x), .val (.int .u8 (x.toNat / 16 : Nat)), .val (B8 (dgt (x.toNat / 16))), .val (.slice (some ⟨b, o, none⟩) n c), .val (.int .i64 (i : Nat)), .val (.pointer (some ⟨b, o + i, none⟩)), .val (B8 x), .val (.int .u8 (x.toNat % 16 : Nat)), .val (B8 (dgt (x.toNat % 16))), .bytes ([dgt (x.toNat / 16), dgt (x.toNat % 16)]), .val (.string (strB [dgt (x.toNat / 16), dgt (x.toNat % 16)])), .val (.string ((strB A) ++ (strB [dgt (x.toNat / 16), dgt (x.toNat % 16)]))), .val (.string ((strB A) ++ (strB [dgt (x.toNat / 16), dgt (x.toNat % 16)])))][ix]?).getD (.any)) 28 rfl (by kernel_rfl) (by decide +kernel) (by decide +kernel) (by decide +kernel) ?_ ?_
      · refine ⟨?_, ?_, ?_, ?_, ?_, ?_, ?_, ?_, ?_, ?_, ?_, ?_, ?_, ?_, ?_, ?_, ?_, trivial⟩
        · intro a W hb0 hs hp hi; have hb := undrew hb0; clear hb0
          have t3 : sl a 3 = .string (strB A) := hi 3 (by decide)
          exact ite_y rfl (wp_val (sl a 3) rfl ⟨_, rfl, Below.refl _ _, t3⟩)
        · intro a W hb0 hs hp hi; have hb := undrew hb0; clear hb0
          have t0 : sl a 0 = .slice (some ⟨b, o, none⟩) n c := hi 0 (by decide)
          exact ite_y rfl (wp_val (sl a 0) rfl ⟨_, rfl, Below.refl _ _, t0⟩)
        · intro a W hb0 hs hp hi; have hb := undrew hb0; clear hb0
          have t4 : sl a 4 = .int .i64 (i : Nat) := hi 4 (by decide)
          exact ite_y rfl (wp_val (sl a 4) rfl ⟨_, rfl, Below.refl _ _, t4⟩)
        · intro a W hb0 hs hp hi; have hb := undrew hb0; clear hb0
          have ti0 : sl a 12 = .slice (some ⟨b, o, none⟩) n c := hp 1 (by decide)
          have ti1 : sl a 13 = .int .i64 (i : Nat) := hp 2 (by decide)
          refine ite_y rfl (wp_val (.pointer (some ⟨b, o + i, none⟩)) ?_ ?_)
          · simp only [execOp, eval_tmp, eval_const, ti0, ti1]; simp [go_sem, hlt']
          · exact ⟨_, rfl, Below.refl _ _, rfl⟩
        · intro a W hb0 hs hp hi; have hb := undrew hb0; clear hb0
          have tt : sl a 14 = .pointer (some ⟨b, o + i, none⟩) := hp 3 (by decide)
          have dd := (hb.cell (p := ⟨b, o + i, none⟩) (lt_of_cell hc)).trans hc
          refine ite_y rfl (wp_val (B8 x) ?_ ?_)
          · simp only [execOp, eval_tmp, tt]; simp [go_sem, dd]
          · exact ⟨_, rfl, Below.refl _ _, rfl⟩
        · intro a W hb0 hs hp hi; have hb := undrew hb0; clear hb0
          have tt : sl a 15 = B8 x := hp 4 (by decide)
          refine ite_y rfl (wp_val (.int .u8 (x.toNat / 16 : Nat)) ?_ ?_)
          · simp only [execOp, eval_tmp, eval_const, tt]; simp [go_sem, hqu, hrm]
          · exact ⟨_, rfl, Below.refl _ _, rfl⟩
        · intro a W hb0 hs hp hi; have hb := undrew hb0; clear hb0
          have t16 : sl a 16 = .int .u8 (x.toNat / 16 : Nat) := hp 5 (by decide)
          refine ite_y rfl (wp_enter 40 #[.int .u8 (x.toNat / 16 : Nat)] ?_ (digit_any (x.toNat / 16) (by omega) W) ?_)
          · simp only [execOp, resolve, List.map_toArray, List.map, eval_tmp, eval_func, eval_const, t16]; simp [go_sem]
          · rintro e W' ⟨rfl, rfl⟩; exact ⟨_, rfl, _, rfl, Below.refl _ _, rfl⟩
        · intro a W hb0 hs hp hi; have hb := undrew hb0; clear hb0
          have t0 : sl a 0 = .slice (some ⟨b, o, none⟩) n c := hi 0 (by decide)
          exact ite_y rfl (wp_val (sl a 0) rfl ⟨_, rfl, Below.refl _ _, t0⟩)
        · intro a W hb0 hs hp hi; have hb := undrew hb0; clear hb0
          have t4 : sl a 4 = .int .i64 (i : Nat) := hi 4 (by decide)
          exact ite_y rfl (wp_val (sl a 4) rfl ⟨_, rfl, Below.refl _ _, t4⟩)
        · intro a W hb0 hs hp hi; have hb := undrew hb0; clear hb0
          have ti0 : sl a 18 = .slice (some ⟨b, o, none⟩) n c := hp 7 (by decide)
          have ti1 : sl a 19 = .int .i64 (i : Nat) := hp 8 (by decide)
          refine ite_y rfl (wp_val (.pointer (some ⟨b, o + i, none⟩)) ?_ ?_)
          · simp only [execOp, eval_tmp, eval_const, ti0, ti1]; simp [go_sem, hlt']
          · exact ⟨_, rfl, Below.refl _ _, rfl⟩
        · intro a W hb0 hs hp hi; have hb := undrew hb0; clear hb0
          have tt : sl a 20 = .pointer (some ⟨b, o + i, none⟩) := hp 9 (by decide)
          have dd := (hb.cell (p := ⟨b, o + i, none⟩) (lt_of_cell hc)).trans hc
          refine ite_y rfl (wp_val (B8 x) ?_ ?_)
          · simp only [execOp, eval_tmp, tt]; simp [go_sem, dd]
          · exact ⟨_, rfl, Below.refl _ _, rfl⟩
        · intro a W hb0 hs hp hi; have hb := undrew hb0; clear hb0
          have tt : sl a 21 = B8 x := hp 10 (by decide)
          refine ite_y rfl (wp_val (.int .u8 (x.toNat % 16 : Nat)) ?_ ?_)
          · simp only [execOp, eval_tmp, eval_const, tt]; simp [go_sem, hqu, hrm]
          · exact ⟨_, rfl, Below.refl _ _, rfl⟩
        · intro a W hb0 hs hp hi; have hb := undrew hb0; clear hb0
          have t22 : sl a 22 = .int .u8 (x.toNat % 16 : Nat) := hp 11 (by decide)
          refine ite_y rfl (wp_enter 40 #[.int .u8 (x.toNat % 16 : Nat)] ?_ (digit_any (x.toNat % 16) (by omega) W) ?_)
          · simp only [execOp, resolve, List.map_toArray, List.map, eval_tmp, eval_func, eval_const, t22]; simp [go_sem]
          · rintro e W' ⟨rfl, rfl⟩; exact ⟨_, rfl, _, rfl, Below.refl _ _, rfl⟩
        · intro a W hb0 hs hp hi; have hb := undrew hb0; clear hb0
          have t17 : sl a 17 = B8 (dgt (x.toNat / 16)) := hp 6 (by decide)
          have t23 : sl a 23 = B8 (dgt (x.toNat % 16)) := hp 12 (by decide)
          have v17 : a.tmps[17]?.getD undef = sl a 17 := by simp [sl]
          rw [t17] at v17
          have v23 : a.tmps[23]?.getD undef = sl a 23 := by simp [sl]
          rw [t23] at v23
          refine ite_y rfl (wp_val' (w' := W.alloc (.cells #[B8 (dgt (x.toNat / 16)), B8 (dgt (x.toNat % 16))] 5)) (.slice (some ⟨W.heap.size, 0, none⟩) 2 2) ?_ ?_)
          · simp only [execOp, eval_tmp, eval_const, t17, t23]; simp [go_sem, v17, v23]
          · exact ⟨_, rfl, (al (Below.refl _ _) (Nat.le_refl _)), _, _, _, rfl, sl_block ([dgt (x.toNat / 16), dgt (x.toNat % 16)]) 2 (hnew rfl) rfl rfl (by simp [maxLen])⟩
        · intro a W hb0 hs hp hi; have hb := undrew hb0; clear hb0
          have t24 : BytesIs [dgt (x.toNat / 16), dgt (x.toNat % 16)] (sl a 24) W := hp 13 (by decide)
          obtain ⟨y24a, y24b, y24c, t24, z24⟩ := t24
          refine ite_y rfl (wp_val (.string (strB [dgt (x.toNat / 16), dgt (x.toNat % 16)])) ?_ ?_)
          · simp only [execOp, eval_tmp, t24]; rw [Sem.run_bind, conv_sl z24 (by rw [← z24.len]; simp)]; rfl
          · exact ⟨_, rfl, Below.refl _ _, rfl⟩
        · intro a W hb0 hs hp hi; have hb := undrew hb0; clear hb0
          have ti0 : sl a 11 = .string (strB A) := hp 0 (by decide)
          have ti1 : sl a 25 = .string (strB [dgt (x.toNat / 16), dgt (x.toNat % 16)]) := hp 14 (by decide)
          refine ite_y rfl (wp_val (.string ((strB A) ++ (strB [dgt (x.toNat / 16), dgt (x.toNat % 16)]))) ?_ ?_)
          · simp only [execOp, eval_tmp, eval_const, ti0, ti1]; simp [go_sem, strB_size] <;> omega
          · exact ⟨_, rfl, Below.refl _ _, rfl⟩
        · intro a W hb0 hs hp hi; have hb := undrew hb0; clear hb0
          have t26 : sl a 26 = .string ((strB A) ++ (strB [dgt (x.toNat / 16), dgt (x.toNat % 16)])) := hp 15 (by decide)
          exact ite_y rfl (wp_val (sl a 26) rfl ⟨_, rfl, Below.refl _ _, t26⟩)
      intro a w5 hb hs hd hI ht
      have ha := act_is [11, 12, 13, 14, 15, 16, 17, 18, 19, 20, 21, 22, 23, 24, 25, 26, 3] hs hd ht (by decide)
      have t3 : sl a 3 = .string ((strB A) ++ (strB [dgt (x.toNat / 16), dgt (x.toNat % 16)])) := hI 16 (by decide)
      simp only [List.foldl, t3] at ha
      generalize sl a 11 = u11 at ha
      generalize sl a 12 = u12 at ha
      generalize sl a 13 = u13 at ha
      generalize sl a 14 = u14 at ha
      generalize sl a 15 = u15 at ha
      generalize sl a 16 = u16 at ha
      generalize sl a 17 = u17 at ha
      generalize sl a 18 = u18 at ha
      generalize sl a 19 = u19 at ha
      generalize sl a 20 = u20 at ha
      generalize sl a 21 = u21 at ha
      generalize sl a 22 = u22 at ha
      generalize sl a 23 = u23 at ha
      generalize sl a 24 = u24 at ha
      generalize sl a 25 = u25 at ha
      generalize sl a 26 = u26 at ha
      simp only [Act.put, List.setIfInBounds_toArray, List.set_cons_zero, List.set_cons_succ] at ha
      rw [ha]
      clear ha hI ht
      rw [strB_app2]
      have HA2 : Hid (A ++ [dgt (x.toNat / 16), dgt (x.toNat % 16)] = hexL (xs.take (i + 1))) := by show _ = _; rw [HX.out, HA.out]
      have HB2 := Lib.hid (bl HB.out hb HB.out.size)
      clear hb hc hqu hrm
      go_wp2
      go_roundw
      case rel => exact ⟨i + 1, _, by have := HLT.out; omega, by go_num, rfl, HA2.out, HB2.out⟩
      case measure => simp [intOf]; have := HLT.out; omega
    · obtain rfl : i = n := by omega
      have e : A = hexL xs := by rw [HA.out, List.take_of_length_le (by rw [HLN.out]; exact Nat.le_refl _)]
      subst e
      clear hlt
      go_wp2
      go_ret
      exact ⟨rfl, HB.out⟩
end Go.Proofs.YtccaiiigdfieoaaDoor
namespace Go.By
open Go.RowKit
theorem one_cellI {w : World} {v : Value} {T g : Nat} (hg : g = w.heap.size) : ∀ (j : Nat) (u : Value), [v][j]? = some u → (w.alloc (.cells #[v] T)).cell? ((⟨g, 0, none⟩ : Addr).add j) = some u := by
  intro j u hj
  rw [Addr.add_lit, Nat.zero_add, cell_of_row _ _ j _ _ _ (hnew hg)]
  match j with
  | 0 => simpa using hj
  | j + 1 => simp at hj
end Go.By
namespace Go.Proofs.YtccaiiigdfieoaaDoor
open Go.RowKit Go.By
def OptB (w : World) (r : Option (List UInt8)) (e : Ending) (w' : World) : Prop := ∃ q n c, e = .returned (.tuple #[.slice q n c, .bool r.isSome]) ∧ Fresh 5 w.heap.size w' q n c (r.getD []) ∧ Below w.heap.size w w'
theorem OptB.no {w w' : World} {r : Option (List UInt8)} (h : r = none) (hb : Below w.heap.size w w') : OptB w r (.returned (.tuple #[.slice none 0 0, .bool false])) w' := by subst h; exact ⟨none, 0, 0, rfl, Fresh.none _ _ _, hb⟩
theorem OptB.yes {w w' : World} {r : Option (List UInt8)} {xs : List UInt8} {q : Option Addr} {n c : Nat} (h : r = some xs) (ho : w'.ownsRow w.heap.size 5 1 (.slice q n c) n (xs.map B8)) (hb : Below w.heap.size w w') : OptB w r (.returned (.tuple #[.slice q n c, .bool true])) w' := by subst h; exact ⟨q, n, c, rfl, Fresh.of_owns ho, hb⟩
end Go.Proofs.YtccaiiigdfieoaaDoor
namespace Go.Proofs.YtccaiiigdfieoaaDoor
open Go.By Go.Lib
structure Cmd where
  word : List UInt8
  nums : List Nat
  bytes : List UInt8
def noCmd : Cmd := ⟨[], [], []⟩
/-- the words, how many numbers are behind each, and whether bytes -/
def formsL : List (List UInt8 × Nat × Bool) := [([98, 101, 103, 105, 110], 2, true), ([114, 111, 119], 0, true), ([102, 111, 114, 103, 101], 0, true), ([115, 97, 121], 0, true), ([115, 101, 101, 100], 1, false), ([115, 107, 105, 112], 1, false), ([100, 114, 111, 112], 1, false), ([100, 111, 117, 98, 108, 101], 1, false), ([97, 114, 114, 105, 118, 101], 1, false), ([104, 101, 97, 114], 1, false), ([99, 111, 117, 110, 116], 1, false), ([109, 111, 118, 101], 2, false), ([99, 117, 116], 2, false), ([109, 97, 115, 107], 3, false), ([115, 116, 97, 116, 117, 115], 0, false), ([115, 104, 111, 119], 0, false), ([109, 97, 112], 0, false)]
def formS (w : List UInt8) : Option (Nat × Bool) := (formsL.find? (fun f => decide (f.1 = w))).map (·.2)
theorem formS_mem {w : List UInt8} {f : Nat × Bool} (h : formS w = some f) : (w, f) ∈ formsL := by
  unfold formS at h
  obtain ⟨g, hg, rfl⟩ := Option.map_eq_some_iff.1 h
  have h1 := List.find?_some hg
  have h2 := List.mem_of_find?_eq_some hg
  have h3 : g.1 = w := by simpa using h1
  rw [← h3]; exact h2
theorem forms_plain : ∀ p ∈ formsL, (∀ b ∈ p.1, b ≠ 32 ∧ b ≠ 10) ∧ p.2.1 ≤ 3 ∧ p.1.length ≤ 7 ∧ p.1 ≠ [] := by decide
/-- numbers of words -/
def numsP : List (List UInt8) → Option (List Nat)
  | [] => some []
  | a :: l => (numB 18446744073709551615 a).bind fun x => (numsP l).map (x :: ·)
theorem numsP_cons (a : List UInt8) (l : List (List UInt8)) : numsP (a :: l) = (numB 18446744073709551615 a).bind fun x => (numsP l).map (x :: ·) := rfl
def bytesP (w : List UInt8) : Option (List UInt8) := if w = [45] then some [] else if w = [] then none else unhexP w
def bytesW (l : List UInt8) : List UInt8 := if l = [] then [45] else hexL l
def partsP (s : List UInt8) : List (List UInt8) := spl 32 s.length s
def readP (s : List UInt8) : Int × Cmd :=
  match formS ((partsP s).getD 0 []) with
  | none => (20, noCmd)
  | some (k, b) => if (partsP s).length ≠ 1 + k + b.toNat then (14, noCmd) else match numsP (((partsP s).drop 1).take k) with
    | none => (14, noCmd)
    | some ns => if b = true then (match bytesP ((partsP s).getD (k + 1) []) with
      | none => (14, noCmd)
      | some l => (0, ⟨(partsP s).getD 0 [], ns, l⟩)) else (0, ⟨(partsP s).getD 0 [], ns, []⟩)
/-- words and the blanks between them -/
def joinW : List (List UInt8) → List UInt8
  | [] => []
  | [a] => a
  | a :: b :: l => a ++ 32 :: joinW (b :: l)
theorem joinW_cons (a : List UInt8) {l : List (List UInt8)} (h : l ≠ []) : joinW (a :: l) = a ++ 32 :: joinW l := by
  cases l with
  | nil => exact absurd rfl h
  | cons b l => rfl
theorem joinW_snoc : ∀ {l : List (List UInt8)} (x : List UInt8), l ≠ [] → joinW (l ++ [x]) = joinW l ++ 32 :: x
  | [a], x, _ => rfl
  | a :: b :: l, x, _ => by
    rw [show a :: b :: l ++ [x] = a :: (b :: l ++ [x]) from rfl, joinW_cons a (by simp), joinW_snoc x (by simp : b :: l ≠ []), joinW_cons a (by simp)]
    simp
theorem spl_of_join : ∀ {ws : List (List UInt8)} (k : Nat), ws ≠ [] → ws.length ≤ k + 1 → (∀ w ∈ ws, ∀ b ∈ w, b ≠ (32 : UInt8)) → spl 32 k (joinW ws) = ws
  | [a], k, _, _, h => by
    have := cutW_all (c := 32) (w := a) (h a (by simp))
    exact spl_none (by show (cutW 32 a).2 = none; rw [this])
  | a :: b :: l, 0, _, hk, _ => by simp at hk
  | a :: b :: l, k + 1, _, hk, h => by
    rw [joinW_cons a (by simp)]
    have e := cutW_app (c := 32) (w := a) (h a (by simp)) (joinW (b :: l))
    rw [spl_some (r := joinW (b :: l)) (by rw [e]), e, spl_of_join k (by simp) (by simpa using hk) (fun w hw => h w (by simp at hw ⊢; exact .inr hw))]
theorem joinW_len : ∀ (ws : List (List UInt8)), ws.length ≤ (joinW ws).length + 1
  | [] => by simp
  | [a] => by simp
  | a :: b :: l => by
    have h := joinW_len (b :: l)
    rw [joinW_cons a (by simp)]
    simp only [List.length_append, List.length_cons] at h ⊢
    omega
/-- a command's words -/
def wordsP (c : Cmd) : List (List UInt8) := c.word :: (c.nums.map decDigits ++ (match formS c.word with
  | some (_, true) => [bytesW c.bytes]
  | _ => []))
def bodyP (c : Cmd) : List UInt8 := joinW (wordsP c)
def lineP (c : Cmd) : List UInt8 := bodyP c ++ [10]
def checkP (c : Cmd) : Int := match formS c.word with
  | none => 20
  | some (k, b) => if c.nums.length ≠ k ∨ (b = false ∧ c.bytes ≠ []) then 14 else 0
theorem numsP_of : ∀ {xs : List Nat}, (∀ x ∈ xs, x ≤ 18446744073709551615) → numsP (xs.map decDigits) = some xs
  | [], _ => rfl
  | x :: xs, h => by
    rw [List.map_cons, numsP_cons, numB_dec (h x (by simp)), Option.bind_some, numsP_of (fun y hy => h y (by simp [hy]))]; rfl
theorem hexL_ne {l : List UInt8} (h : l ≠ []) : hexL l ≠ [] ∧ hexL l ≠ [45] := by
  cases l with
  | nil => exact absurd rfl h
  | cons x l => rw [hexL_cons]; exact ⟨by simp, by simp⟩
theorem bytesW_P (l : List UInt8) : bytesP (bytesW l) = some l := by
  unfold bytesW
  split
  · rename_i e; rw [e]; rfl
  · rename_i e
    obtain ⟨h1, h2⟩ := hexL_ne e
    unfold bytesP
    rw [if_neg h2, if_neg h1, unhexP_hexL]
theorem hexL_plain (l : List UInt8) : ∀ b ∈ hexL l, b ≠ 32 ∧ b ≠ 10 := fun b hb => by
  unfold hexL at hb
  obtain ⟨x, _, hb⟩ := List.mem_flatMap.1 hb
  have hx := x.toNat_lt
  have key : ∀ y, y < 16 → dgt y ≠ 32 ∧ dgt y ≠ 10 := by decide
  simp at hb
  rcases hb with rfl | rfl
  · exact key _ (by omega)
  · exact key _ (by omega)
theorem bytesW_plain (l : List UInt8) : ∀ b ∈ bytesW l, b ≠ 32 ∧ b ≠ 10 := fun b hb => by
  unfold bytesW at hb
  split at hb
  · simp at hb; subst hb; decide
  · exact hexL_plain l b hb
theorem dec_plain (u : Nat) : ∀ b ∈ decDigits u, b ≠ 32 ∧ b ≠ 10 := fun b hb => by
  have := isDig_le ((decDigits_facts u u (Nat.le_refl _)).2.1 b hb)
  exact ⟨fun e => by subst e; exact absurd this.1 (by decide), fun e => by subst e; exact absurd this.1 (by decide)⟩
theorem words_plain {c : Cmd} (h : checkP c = 0) : ∀ w ∈ wordsP c, ∀ b ∈ w, b ≠ 32 ∧ b ≠ 10 := fun w hw b hb => by
  unfold checkP at h
  unfold wordsP at hw
  cases hf : formS c.word with
  | none => rw [hf] at h; cases h
  | some f =>
    obtain ⟨k, bb⟩ := f
    rw [hf] at hw
    rcases List.mem_cons.1 hw with rfl | hw
    · exact (forms_plain _ (formS_mem hf)).1 b hb
    · rcases List.mem_append.1 hw with hw | hw
      · obtain ⟨x, _, rfl⟩ := List.mem_map.1 hw
        exact dec_plain x b hb
      · cases bb with
        | false => simp at hw
        | true => simp at hw; subst hw; exact bytesW_plain _ b hb
theorem joinW_plain : ∀ {ws : List (List UInt8)}, (∀ w ∈ ws, ∀ b ∈ w, b ≠ (10 : UInt8)) → ∀ b ∈ joinW ws, b ≠ 10
  | [], _, b, hb => by simp [joinW] at hb
  | [a], h, b, hb => h a (by simp) b hb
  | a :: c :: l, h, b, hb => by
    rw [joinW_cons a (by simp)] at hb
    rcases List.mem_append.1 hb with hb | hb
    · exact h a (by simp) b hb
    · rcases List.mem_cons.1 hb with rfl | hb
      · decide
      · exact joinW_plain (fun w hw => h w (List.mem_cons_of_mem _ hw)) b hb
theorem body_plain {c : Cmd} (h : checkP c = 0) : ∀ b ∈ bodyP c, b ≠ 10 := joinW_plain fun w hw b hb => (words_plain h w hw b hb).2
theorem parts_of {ws : List (List UInt8)} (h : ws ≠ []) (hp : ∀ w ∈ ws, ∀ b ∈ w, b ≠ (32 : UInt8)) : partsP (joinW ws) = ws := spl_of_join _ h (joinW_len ws) hp
/-- a command's line says the command -/
theorem line_read {c : Cmd} (h : checkP c = 0) (hn : ∀ x ∈ c.nums, x ≤ 18446744073709551615) : readP (bodyP c) = (0, c) := by
  have hp := parts_of (ws := wordsP c) (by unfold wordsP; simp) (fun w hw b hb => (words_plain h w hw b hb).1)
  unfold readP bodyP
  rw [hp]
  unfold checkP at h
  cases hf : formS c.word with
  | none => rw [hf] at h; cases h
  | some f =>
    obtain ⟨k, b⟩ := f
    rw [hf] at h
    simp only at h
    split at h
    · cases h
    · rename_i hc
      have hk : c.nums.length = k := Classical.byContradiction fun e => hc (.inl e)
      unfold wordsP
      simp only [hf, List.getD_cons_zero, List.drop_succ_cons, List.drop_zero, List.length_cons]
      cases b with
      | false =>
        have hb : c.bytes = [] := Classical.byContradiction fun e => hc (.inr ⟨rfl, e⟩)
        simp only [List.append_nil, List.length_map, hk]
        rw [if_neg (by simp; omega), List.take_of_length_le (by simp [hk]), numsP_of hn]
        simp only [Bool.false_eq_true, if_false]
        rw [← hb]
      | true =>
        simp only [List.length_append, List.length_map, List.length_cons, List.length_nil, hk]
        rw [if_neg (by simp; omega)]
        have e1 : (c.nums.map decDigits ++ [bytesW c.bytes]).take k = c.nums.map decDigits := by rw [List.take_left' (by simp [hk])]
        have e2 : (c.word :: (c.nums.map decDigits ++ [bytesW c.bytes])).getD (k + 1) [] = bytesW c.bytes := by
          rw [List.getD_eq_getElem?_getD, List.getElem?_cons_succ, List.getElem?_append_right (by simp [hk])]
          simp [hk]
        rw [e1, numsP_of hn, e2]
        simp only [if_true]
        rw [bytesW_P]
/-- a script's commands: line by line, from line n on, those so far being acc -/
def runS : Nat → List UInt8 → Nat → List Cmd → List Cmd × Nat × Int
  | 0, _, _, acc => (acc, 0, 0)
  | f + 1, s, n, acc => if s = [] then (acc, 0, 0) else match (cutW 10 s).2 with
    | none => ([], n, if (readP (cutW 10 s).1).1 = 0 then 14 else (readP (cutW 10 s).1).1)
    | some r => if (readP (cutW 10 s).1).1 ≠ 0 then ([], n, (readP (cutW 10 s).1).1) else runS f r (n + 1) (acc ++ [(readP (cutW 10 s).1).2])
theorem runS_nil (f n : Nat) (acc : List Cmd) : runS f [] n acc = (acc, 0, 0) := by
  cases f with
  | zero => rfl
  | succ f => unfold runS; rw [if_pos rfl]
theorem runS_fuel : ∀ {f g : Nat} {s : List UInt8} {n : Nat} {acc : List Cmd}, s.length ≤ f → s.length ≤ g → runS f s n acc = runS g s n acc
  | 0, g, s, n, acc, h, _ => by
    have : s = [] := List.length_eq_zero_iff.1 (by omega)
    subst this; rw [runS_nil, runS_nil]
  | f + 1, 0, s, n, acc, _, h => by
    have : s = [] := List.length_eq_zero_iff.1 (by omega)
    subst this; rw [runS_nil, runS_nil]
  | f + 1, g + 1, s, n, acc, h1, h2 => by
    unfold runS
    split
    · rfl
    · cases h : (cutW 10 s).2 with
      | none => rfl
      | some r =>
        have := cutW_len h
        simp only
        split
        · rfl
        · exact runS_fuel (by omega) (by omega)
theorem runS_none {f n : Nat} {s : List UInt8} {acc : List Cmd} (hf : s.length ≤ f) (hne : s ≠ []) (h : (cutW 10 s).2 = none) : runS f s n acc = ([], n, if (readP (cutW 10 s).1).1 = 0 then 14 else (readP (cutW 10 s).1).1) := by
  cases f with
  | zero => exact absurd (List.length_eq_zero_iff.1 (by omega)) hne
  | succ f => unfold runS; rw [if_neg hne, h]
theorem runS_some {f n : Nat} {s r : List UInt8} {acc : List Cmd} (hf : s.length ≤ f) (hne : s ≠ []) (h : (cutW 10 s).2 = some r) : runS f s n acc = if (readP (cutW 10 s).1).1 ≠ 0 then ([], n, (readP (cutW 10 s).1).1) else runS f r (n + 1) (acc ++ [(readP (cutW 10 s).1).2]) := by
  cases f with
  | zero => exact absurd (List.length_eq_zero_iff.1 (by omega)) hne
  | succ f =>
    have := cutW_len h
    conv => lhs; unfold runS
    rw [if_neg hne, h]
    simp only
    split
    · rfl
    · exact runS_fuel (by omega) (by omega)
def scriptP (s : List UInt8) : List Cmd × Nat × Int := runS s.length s 1 []
def printP (cs : List Cmd) : List UInt8 := cs.flatMap lineP
theorem printP_cons (c : Cmd) (cs : List Cmd) : printP (c :: cs) = lineP c ++ printP cs := rfl
/-- a command that may be -/
def GoodC (c : Cmd) : Prop := checkP c = 0 ∧ ∀ x ∈ c.nums, x ≤ 18446744073709551615
theorem runS_print : ∀ {cs : List Cmd} {f n : Nat} {acc : List Cmd}, (∀ c ∈ cs, GoodC c) → (printP cs).length ≤ f → runS f (printP cs) n acc = (acc ++ cs, 0, 0)
  | [], f, n, acc, _, _ => by rw [show printP [] = [] from rfl, runS_nil]; simp
  | c :: cs, f, n, acc, h, hf => by
    obtain ⟨g1, g2⟩ := h c (by simp)
    have e : printP (c :: cs) = bodyP c ++ 10 :: printP cs := by rw [printP_cons]; unfold lineP; simp
    have hc := cutW_app (c := 10) (w := bodyP c) (body_plain g1) (printP cs)
    rw [e] at hf ⊢
    rw [runS_some hf (by simp) (r := printP cs) (by rw [hc]), hc]
    simp only
    rw [line_read g1 g2, if_neg (by simp), runS_print (fun d hd => h d (by simp [hd])) (by simp at hf; omega)]
    simp
theorem script_print {cs : List Cmd} (h : ∀ c ∈ cs, GoodC c) : scriptP (printP cs) = (cs, 0, 0) := by
  unfold scriptP
  rw [runS_print h (Nat.le_refl _)]; rfl
/-- the first code that isn't 0 -/
def codeP : List Cmd → Int
  | [] => 0
  | c :: cs => if checkP c ≠ 0 then checkP c else codeP cs
theorem codeP_good : ∀ {cs : List Cmd}, codeP cs = 0 → ∀ c ∈ cs, checkP c = 0
  | [], _, c, hc => by simp at hc
  | d :: cs, h, c, hc => by
    unfold codeP at h
    split at h
    · rename_i h1; exact absurd h h1
    · rename_i h1
      rcases List.mem_cons.1 hc with rfl | hc
      · exact Classical.not_not.1 h1
      · exact codeP_good h c hc
theorem codeP_of_good : ∀ {cs : List Cmd}, (∀ c ∈ cs, checkP c = 0) → codeP cs = 0
  | [], _ => rfl
  | d :: cs, h => by
    unfold codeP
    rw [if_neg (by rw [h d (by simp)]; simp)]
    exact codeP_of_good fun c hc => h c (by simp [hc])
end Go.Proofs.YtccaiiigdfieoaaDoor
namespace Go.Proofs.YtccaiiigdfieoaaDoor
open Go.By Go.Lib
/-- all pieces of a text between signs -/
def splA (c : UInt8) (s : List UInt8) : List (List UInt8) := spl c s.length s
theorem spl_more {c : UInt8} {k : Nat} {s : List UInt8} (h : s.length ≤ k) : spl c k s = splA c s := by
  rw [spl_min, Nat.min_eq_right h]; rfl
theorem splA_ne (c : UInt8) (s : List UInt8) : splA c s ≠ [] := fun e => by
  have := (spl_len c s.length s).1
  rw [show spl c s.length s = [] from e] at this
  simp at this
/-- the same, as the code goes through it, line by line -/
def SrAt (s : List UInt8) (R : List Cmd × Nat × Int) (n : Nat) (r : List UInt8) (acc : List Cmd) : Prop := r.length ≤ s.length ∧ acc.length + r.length ≤ s.length ∧ n + r.length ≤ s.length + 1 ∧ runS s.length r n acc = R
theorem SrAt.zero (s : List UInt8) : SrAt s (scriptP s) 1 s [] := ⟨Nat.le_refl _, by simp, by omega, rfl⟩
theorem SrAt.done {s : List UInt8} {R : List Cmd × Nat × Int} {n : Nat} {acc : List Cmd} (h : SrAt s R n [] acc) : R = (acc, 0, 0) := by
  rw [← h.2.2.2, runS_nil]
theorem SrAt.end_ {s r : List UInt8} {R : List Cmd × Nat × Int} {n : Nat} {acc : List Cmd} (h : SrAt s R n r acc) (hr : r ≠ []) (hc : (cutW 10 r).2 = none) : R = ([], n, if (readP (cutW 10 r).1).1 = 0 then 14 else (readP (cutW 10 r).1).1) := by
  rw [← h.2.2.2, runS_none h.1 hr hc]
theorem SrAt.bad {s r r' : List UInt8} {R : List Cmd × Nat × Int} {n : Nat} {acc : List Cmd} (h : SrAt s R n r acc) (hr : r ≠ []) (hc : (cutW 10 r).2 = some r') (hz : (readP (cutW 10 r).1).1 ≠ 0) : R = ([], n, (readP (cutW 10 r).1).1) := by
  rw [← h.2.2.2, runS_some h.1 hr hc, if_pos hz]
theorem SrAt.next {s r r' : List UInt8} {R : List Cmd × Nat × Int} {n : Nat} {acc : List Cmd} (h : SrAt s R n r acc) (hr : r ≠ []) (hc : (cutW 10 r).2 = some r') (hz : (readP (cutW 10 r).1).1 = 0) : SrAt s R (n + 1) r' (acc ++ [(readP (cutW 10 r).1).2]) := by
  have hl := cutW_len hc
  obtain ⟨h1, h2, h3, h4⟩ := h
  refine ⟨by omega, by simp; omega, by omega, ?_⟩
  rw [← h4, runS_some h1 hr hc, if_neg (by simp [hz])]
end Go.Proofs.YtccaiiigdfieoaaDoor
namespace Go.Proofs.YtccaiiigdfieoaaDoor
open Go.RowKit Go.By
def formsC : Array Value := #[.string ⟨#[98, 101, 103, 105, 110]⟩, .int .i64 2, .bool true, .string ⟨#[114, 111, 119]⟩, .int .i64 0, .bool true, .string ⟨#[102, 111, 114, 103, 101]⟩, .int .i64 0, .bool true, .string ⟨#[115, 97, 121]⟩, .int .i64 0, .bool true, .string ⟨#[115, 101, 101, 100]⟩, .int .i64 1, .bool false, .string ⟨#[115, 107, 105, 112]⟩, .int .i64 1, .bool false, .string ⟨#[100, 114, 111, 112]⟩, .int .i64 1, .bool false, .string ⟨#[100, 111, 117, 98, 108, 101]⟩, .int .i64 1, .bool false, .string ⟨#[97, 114, 114, 105, 118, 101]⟩, .int .i64 1, .bool false, .string ⟨#[104, 101, 97, 114]⟩, .int .i64 1, .bool false, .string ⟨#[99, 111, 117, 110, 116]⟩, .int .i64 1, .bool false, .string ⟨#[109, 111, 118, 101]⟩, .int .i64 2, .bool false, .string ⟨#[99, 117, 116]⟩, .int .i64 2, .bool false, .string ⟨#[109, 97, 115, 107]⟩, .int .i64 3, .bool false, .string ⟨#[115, 116, 97, 116, 117, 115]⟩, .int .i64 0, .bool false, .string ⟨#[115, 104, 111, 119]⟩, .int .i64 0, .bool false, .string ⟨#[109, 97, 112]⟩, .int .i64 0, .bool false]
theorem info_forms : (Tryd.prog.info? 70).map (·.size) = some 51 := by kernel_rfl
theorem info_form : (Tryd.prog.info? 69).map (·.size) = some 3 := by kernel_rfl
theorem wpList_val {P : Program} {ops : Array Oper} {rest : List Oper} {o : Oper} {a : Act} {w : World} {Q : Exit → Act → World → Prop} (hgd : o.guard = none) (d : Tmp) (_hd : o.dst = some d) (v : Value) (hrun : (execOp a.eval o).run P w = .ok (.value v) w) (h : wpList P ops Q rest (a.put o.dst v) w) : wpList P ops Q (o :: rest) a w :=
  wpList_plain hgd fun _ hK => wp_val v hrun (hK _ _ h)
set_option maxRecDepth 100000 in
set_option maxHeartbeats 4000000 in
theorem forms_any (w : World) : Calls Tryd.prog 27 #[] w fun e w' => e = .returned (.agg formsC) ∧ Below w.heap.size w w' := by
  have h1 : formsC.all (·.oneCell') = true := by kernel_rfl
  go_enter Tryd.func27, Tryd.ntmps27
  go_wp2_with (first
    | refine wpList_val rfl 18 rfl (.agg formsC) (by kernel_rfl) ?_
    | refine wpList_store_row (o := ⟨none, .store 70 (.tmp 0) (.tmp 18), _, _, _, _⟩) rfl 70 (.tmp 0) (.tmp 18) rfl w.heap.size formsC rfl rfl _ _ (hnew rfl) info_forms rfl h1 ?_)
  refine bodyPost_ret (results_cell_row rfl _ _ _ 70 formsC (0, 0) _ rfl (hrs (hnew rfl)) Tryd.underlying70 rfl info_forms) rfl ?_
  exact ⟨rfl, below_row (al (Below.refl _ _) (Nat.le_refl _)) (Nat.le_refl _)⟩
end Go.Proofs.YtccaiiigdfieoaaDoor
namespace Go.By
open Go.RowKit
theorem strB_toList (l : List UInt8) : (strB l).toList = l := by rw [ByteArray.toList_eq]; exact strB_data l
theorem txt_beq (a b : List UInt8) : ((strB a).toList == (strB b).toList) = decide (a = b) := by
  rw [strB_toList, strB_toList]
  by_cases h : a = b
  · rw [decide_eq_true h, h]; simp
  · rw [decide_eq_false h]; exact beq_eq_false_iff_ne.2 h
end Go.By
namespace Go.Proofs.YtccaiiigdfieoaaDoor
open Go.RowKit Go.By
set_option maxHeartbeats 400000 in
theorem findf_any (f : List UInt8 × Nat × Bool) (gw : Nat) (x : List UInt8) (w : World) (hg : w.cell? ⟨gw, 0, none⟩ = some (.string (strB x))) :
    Calls Tryd.prog 46 (#[.agg #[.string (strB f.1), .int .i64 (f.2.1 : Nat), .bool f.2.2]] ++ #[.pointer (some ⟨gw, 0, none⟩)]) w fun e w' => e = .returned (.bool (decide (f.1 = x))) ∧ Below w.heap.size w w' := by
  have HB : Hid (∀ o, Below w.heap.size w (w.alloc o)) := fun o => al (Below.refl _ _) (Nat.le_refl _)
  have HG := Lib.hid hg
  clear hg
  have HE := Lib.hid (txt_beq f.1 x)
  obtain ⟨S, hS⟩ : ∃ S, S = strB f.1 := ⟨_, rfl⟩
  obtain ⟨X, hX⟩ : ∃ X, X = strB x := ⟨_, rfl⟩
  rw [← hX] at HG HE
  rw [← hS] at HE ⊢
  clear hS hX
  go_enter Tryd.func46, Tryd.ntmps46
  have hgc := ((HB.out (.cells #[.string S, .int .i64 (f.2.1 : Nat), .bool f.2.2] 69)).cell (p := ⟨gw, 0, none⟩) (lt_of_cell HG.out)).trans HG.out
  go_wp2
  go_ret
  exact ⟨by rw [← HE.out]; rfl, HB.out _⟩
theorem forms_at : ∀ (i : Nat), i < 17 → formsC[i * 3]? = some (.string (strB (formsL.getD i ([], 0, false)).1)) ∧ formsC[i * 3 + 1]? = some (.int .i64 ((formsL.getD i ([], 0, false)).2.1 : Nat)) ∧ formsC[i * 3 + 2]? = some (.bool (formsL.getD i ([], 0, false)).2.2)
  | 0, _ => ⟨rfl, rfl, rfl⟩
  | 1, _ => ⟨rfl, rfl, rfl⟩
  | 2, _ => ⟨rfl, rfl, rfl⟩
  | 3, _ => ⟨rfl, rfl, rfl⟩
  | 4, _ => ⟨rfl, rfl, rfl⟩
  | 5, _ => ⟨rfl, rfl, rfl⟩
  | 6, _ => ⟨rfl, rfl, rfl⟩
  | 7, _ => ⟨rfl, rfl, rfl⟩
  | 8, _ => ⟨rfl, rfl, rfl⟩
  | 9, _ => ⟨rfl, rfl, rfl⟩
  | 10, _ => ⟨rfl, rfl, rfl⟩
  | 11, _ => ⟨rfl, rfl, rfl⟩
  | 12, _ => ⟨rfl, rfl, rfl⟩
  | 13, _ => ⟨rfl, rfl, rfl⟩
  | 14, _ => ⟨rfl, rfl, rfl⟩
  | 15, _ => ⟨rfl, rfl, rfl⟩
  | 16, _ => ⟨rfl, rfl, rfl⟩
  | n + 17, h => absurd h (by omega)
theorem forms_cells {W : World} {b : Nat} (h : W.heap[b]? = some (.cells formsC 70 (0, 0))) {i : Nat} {f : List UInt8 × Nat × Bool} (hi : formsL[i]? = some f) :
    W.cell? ⟨b, 0 + i * 3, none⟩ = some (.string (strB f.1)) ∧ W.cell? ⟨b, 0 + i * 3 + 1, none⟩ = some (.int .i64 (f.2.1 : Nat)) ∧ W.cell? ⟨b, 0 + i * 3 + 2, none⟩ = some (.bool f.2.2) := by
  have hl : i < 17 := (List.getElem?_eq_some_iff.1 hi).1
  have hd : formsL.getD i ([], 0, false) = f := by rw [List.getD_eq_getElem?_getD, hi]; rfl
  obtain ⟨h1, h2, h3⟩ := forms_at i hl
  rw [hd] at h1 h2 h3
  rw [Nat.zero_add]
  exact ⟨(cell_of_row _ _ _ _ _ _ h).trans h1, (cell_of_row _ _ _ _ _ _ h).trans h2, (cell_of_row _ _ _ _ _ _ h).trans h3⟩
def isW (x : List UInt8) : List UInt8 × Nat × Bool → Bool := fun f => decide (f.1 = x)
set_option maxHeartbeats 1000000 in
theorem IndexForm_any (gw gb : Nat) (x : List UInt8) (w : World) (hg : w.cell? ⟨gw, 0, none⟩ = some (.string (strB x))) (hb : w.heap[gb]? = some (.cells formsC 70 (0, 0))) (eg : Enters Tryd.prog 46) :
    Calls Tryd.prog 45 #[.slice (some ⟨gb, 0, none⟩) 17 17, .func (.func 46) #[] #[.pointer (some ⟨gw, 0, none⟩)]] w fun e w' => e = .returned (.int .i64 (idxf (isW x) formsL)) ∧ Below w.heap.size w w' := by
  have eg' : ∀ args w, (callFunc 46 args).run Tryd.prog w = .ok (.enter 46 args) w := eg
  have HG := Lib.hid hg
  have HB := Lib.hid hb
  clear eg hg hb
  go_enter Tryd.func45, Tryd.ntmps45
  go_wp2
  go_loopw [8] (fun i wr => ∃ k : Nat, k ≤ 17 ∧ i = .int .i64 k ∧ Hid (∀ j y, j < k → formsL[j]? = some y → isW x y = false) ∧ Hid (Below w.heap.size w wr)) (fun i _ => 17 - (intOf i).toNat)
  case atStart => exact ⟨0, Nat.zero_le _, rfl, fun j y hj => by omega, Below.refl _ _⟩
  case round =>
    obtain ⟨k, hk, rfl, hr, hB⟩ := hrel
    by_cases hlt : k < 17
    · obtain ⟨f, hf⟩ : ∃ f, formsL[k]? = some f := ⟨_, List.getElem?_eq_getElem hlt⟩
      obtain ⟨d0, d1, d2⟩ := forms_cells ((hB.out.block _ (lt_of_block HB.out)).trans HB.out) hf
      have hgr := Lib.hid ((hB.out.cell (p := ⟨gw, 0, none⟩) (lt_of_cell HG.out)).trans HG.out)
      rw [Nat.zero_add] at d0 d1 d2
      have HX := Lib.hid hf
      have kn : (k : Int) < 17 := by omega
      clear hf
      cases hfx : isW x f with
      | false =>
        have HQ := Lib.hid hfx; clear hfx
        go_wp2_with fail
        refine (findf_any f gw x wr hgr.out).mono ?_; rintro e w2 ⟨rfl, hb2⟩
        have B2 : Hid (Below w.heap.size w w2) := bl hB.out hb2 hB.out.size
        rw [show decide (f.1 = x) = false from HQ.out]
        clear hb2 d0 d1 d2 hB hgr
        go_wp2
        go_roundw
        case rel =>
          refine ⟨k + 1, by omega, by go_num, fun j y hj hy => ?_, B2.out⟩
          by_cases e : j = k
          · subst e; have := HX.out.symm.trans hy; cases this; exact HQ.out
          · exact hr.out j y (by omega) hy
        case measure => simp [intOf]; omega
      | true =>
        have HQ := Lib.hid hfx; clear hfx
        go_wp2_with fail
        refine (findf_any f gw x wr hgr.out).mono ?_; rintro e w2 ⟨rfl, hb2⟩
        have B2 : Hid (Below w.heap.size w w2) := bl hB.out hb2 hB.out.size
        rw [show decide (f.1 = x) = true from HQ.out]
        clear hb2 d0 d1 d2 hB hgr
        go_wp2
        go_ret
        exact ⟨by rw [idxf_found HX.out HQ.out hr.out]; rfl, B2.out⟩
    · go_wp2
      go_ret
      exact ⟨by rw [idxf_none (k := k) (by show k = 17; omega) hr.out]; rfl, hB.out⟩
theorem enters_findf : Enters Tryd.prog 46 := enters_of Tryd.func46 (by kernel_rfl) rfl
/-- what find answers -/
def findV (x : List UInt8) : Value := match formsL.find? (isW x) with
  | some f => .tuple #[.agg #[.string (strB f.1), .int .i64 (f.2.1 : Nat), .bool f.2.2], .bool true]
  | none => .tuple #[.agg #[.string (strB []), .int .i64 0, .bool false], .bool false]
theorem find_idx (x : List UInt8) : (idxf (isW x) formsL = -1 ∧ formsL.find? (isW x) = none) ∨ ∃ (j : Nat) (f : List UInt8 × Nat × Bool), idxf (isW x) formsL = j ∧ formsL[j]? = some f ∧ formsL.find? (isW x) = some f := by
  unfold idxf
  cases h : formsL.findIdx? (isW x) with
  | none =>
    refine .inl ⟨rfl, ?_⟩
    rw [List.find?_eq_none]
    intro y hy
    have := List.findIdx?_eq_none_iff.1 h y hy
    simpa using this
  | some j =>
    obtain ⟨h1, h2, h3⟩ := List.findIdx?_eq_some_iff_getElem.1 h
    refine .inr ⟨j, formsL[j], rfl, List.getElem?_eq_getElem h1, ?_⟩
    rw [List.find?_eq_some_iff_getElem]
    exact ⟨h2, j, h1, rfl, fun i hi => by have := h3 i hi; simpa using this⟩
set_option maxRecDepth 100000 in
set_option maxHeartbeats 2000000 in
theorem find_any (x : List UInt8) (w : World) : Calls Tryd.prog 31 #[.string (strB x)] w fun e w' => e = .returned (findV x) ∧ Below w.heap.size w w' := by
  have h1 : formsC.all (·.oneCell') = true := by kernel_rfl
  have HI := Lib.hid (fun (gw gb : Nat) (w : World) hg hb => IndexForm_any gw gb x w hg hb enters_findf)
  have HF := Lib.hid (find_idx x)
  obtain ⟨V, hV⟩ : ∃ V, findV x = V := ⟨_, rfl⟩
  rw [hV]
  have HV := Lib.hid hV
  clear hV
  generalize idxf (isW x) formsL = I at *
  go_enter Tryd.func31, Tryd.ntmps31
  go_wp2_with fail
  refine Calls.mono (forms_any _) ?_
  rintro e w1 ⟨rfl, hb⟩
  have HB1 := Lib.hid hb
  have ba : Below w.heap.size w ((w.alloc (.cells #[.string (strB x)] 9 (0, 0))).alloc (.cells #[.string (strB []), .int .i64 0, .bool false] 69 (0, 0))) := al (al (Below.refl _ _) (Nat.le_refl _)) (by simp)
  have HB := Lib.hid (bl ba hb ba.size)
  obtain ⟨hb1, k1, k2, hs⟩ := two_of hb
  have c0 := cell_of_row _ _ 0 _ _ _ k1
  clear hb ba hb1
  go_wp2_with (first
    | refine wpList_store_row (o := ⟨none, .store 70 (.tmp 4) (.tmp 6), _, _, _, _⟩) rfl 70 (.tmp 4) (.tmp 6) rfl w1.heap.size formsC rfl rfl _ _ (hnew rfl) info_forms rfl h1 ?_)
  refine Calls.mono (HI.out w.heap.size w1.heap.size _ (cell_of_row _ _ 0 _ _ _ (hro (hal k1) (by omega))) (hrs (hnew rfl))) ?_
  rintro e w2 ⟨rfl, hb⟩
  have k4 := (hb.block _ (lt_of_block (hrs (hnew rfl)))).trans (hrs (hnew rfl))
  have k5 := (hb.block _ (lt_of_block (hro (hal k2) (by omega)))).trans (hro (hal k2) (by omega))
  have HB2 : Hid (Below w.heap.size w w2) := bl (below_row (al HB.out HB.out.size) HB.out.size) hb (by have := HB.out.size; simp; omega)
  clear hb k1 k2 c0 hs h1 HI HB1 HB
  rcases HF.out with ⟨rfl, hf⟩ | ⟨j, f, rfl, hj, hf⟩
  · have HV2 : Hid (V = .tuple #[.agg #[.string (strB []), .int .i64 0, .bool false], .bool false]) := by
      show _ = _
      rw [← HV.out]; unfold findV; rw [hf]
    clear hf HF HV k4
    go_wp2_with (refine wpList_store_row (o := ⟨none, .store 69 (.tmp 2) (.tmp 12), _, _, _, _⟩) rfl 69 (.tmp 2) (.tmp 12) rfl (w.heap.size + 1) #[.string (strB []), .int .i64 0, .bool false] rfl rfl _ _ k5 info_form rfl (by simp [Value.oneCell']) ?_)
    refine bodyPost_ret (res_ct rfl _ _ _ 69 #[.string (strB []), .int .i64 0, .bool false] (0, 0) _ (.bool false) rfl (hrs k5) rfl Tryd.underlying69 rfl info_form) rfl ?_
    exact ⟨by rw [HV2.out], below_row HB2.out (by omega)⟩
  · have HV2 : Hid (V = .tuple #[.agg #[.string (strB f.1), .int .i64 (f.2.1 : Nat), .bool f.2.2], .bool true]) := by
      show _ = _
      rw [← HV.out]; unfold findV; rw [hf]
    obtain ⟨d0, d1, d2⟩ := forms_cells k4 hj
    rw [Nat.zero_add] at d0 d1 d2
    have hj17 : j < 17 := (List.getElem?_eq_some_iff.1 hj).1
    clear hf HF HV k4 hj
    have jn : (j : Int) < 17 := by omega
    go_wp2_with (refine wpList_store_row (o := ⟨none, .store 69 (.tmp 2) (.tmp 15), _, _, _, _⟩) rfl 69 (.tmp 2) (.tmp 15) rfl (w.heap.size + 1) #[.string (strB f.1), .int .i64 (f.2.1 : Nat), .bool f.2.2] rfl rfl _ _ k5 info_form rfl (by simp [Value.oneCell']) ?_)
    refine bodyPost_ret (res_ct rfl _ _ _ 69 #[.string (strB f.1), .int .i64 (f.2.1 : Nat), .bool f.2.2] (0, 0) _ (.bool true) rfl (hrs k5) rfl Tryd.underlying69 rfl info_form) rfl ?_
    exact ⟨by rw [HV2.out], below_row HB2.out (by omega)⟩
end Go.Proofs.YtccaiiigdfieoaaDoor
namespace Go.Proofs.YtccaiiigdfieoaaDoor
open Go.RowKit Go.By
/-- what Shape answers -/
def shapeV (x : List UInt8) : Value := match formS x with
  | some f => .tuple #[.int .i64 (f.1 : Nat), .bool f.2, .bool true]
  | none => .tuple #[.int .i64 0, .bool false, .bool false]
theorem txt_is (x c : List UInt8) : ((strB x).toList == c) = decide (x = c) := by
  have := txt_beq x c
  rwa [strB_toList c] at this
theorem shape_0 (w : World) : Calls Tryd.prog 13 #[.string (strB [98, 101, 103, 105, 110])] w fun e w' => e = .returned (.tuple #[.int .i64 2, .bool true, .bool true]) ∧ w = w' := by
  have f0 : ((strB [98, 101, 103, 105, 110]).toList == [98, 101, 103, 105, 110]) = true := by rw [txt_is]; decide
  generalize strB [98, 101, 103, 105, 110] = X at *
  go_enter Tryd.func13, Tryd.ntmps13
  go_wp2
  go_ret3
  exact ⟨rfl, rfl⟩
theorem shape_1 (w : World) : Calls Tryd.prog 13 #[.string (strB [114, 111, 119])] w fun e w' => e = .returned (.tuple #[.int .i64 0, .bool true, .bool true]) ∧ w = w' := by
  have f0 : ((strB [114, 111, 119]).toList == [98, 101, 103, 105, 110]) = false := by rw [txt_is]; decide
  have f1 : ((strB [114, 111, 119]).toList == [114, 111, 119]) = true := by rw [txt_is]; decide
  generalize strB [114, 111, 119] = X at *
  go_enter Tryd.func13, Tryd.ntmps13
  go_wp2
  go_ret3
  exact ⟨rfl, rfl⟩
theorem shape_2 (w : World) : Calls Tryd.prog 13 #[.string (strB [102, 111, 114, 103, 101])] w fun e w' => e = .returned (.tuple #[.int .i64 0, .bool true, .bool true]) ∧ w = w' := by
  have f0 : ((strB [102, 111, 114, 103, 101]).toList == [98, 101, 103, 105, 110]) = false := by rw [txt_is]; decide
  have f1 : ((strB [102, 111, 114, 103, 101]).toList == [114, 111, 119]) = false := by rw [txt_is]; decide
  have f2 : ((strB [102, 111, 114, 103, 101]).toList == [102, 111, 114, 103, 101]) = true := by rw [txt_is]; decide
  generalize strB [102, 111, 114, 103, 101] = X at *
  go_enter Tryd.func13, Tryd.ntmps13
  go_wp2
  go_ret3
  exact ⟨rfl, rfl⟩
theorem shape_3 (w : World) : Calls Tryd.prog 13 #[.string (strB [115, 97, 121])] w fun e w' => e = .returned (.tuple #[.int .i64 0, .bool true, .bool true]) ∧ w = w' := by
  have f0 : ((strB [115, 97, 121]).toList == [98, 101, 103, 105, 110]) = false := by rw [txt_is]; decide
  have f1 : ((strB [115, 97, 121]).toList == [114, 111, 119]) = false := by rw [txt_is]; decide
  have f2 : ((strB [115, 97, 121]).toList == [102, 111, 114, 103, 101]) = false := by rw [txt_is]; decide
  have f3 : ((strB [115, 97, 121]).toList == [115, 97, 121]) = true := by rw [txt_is]; decide
  generalize strB [115, 97, 121] = X at *
  go_enter Tryd.func13, Tryd.ntmps13
  go_wp2
  go_ret3
  exact ⟨rfl, rfl⟩
theorem shape_4 (w : World) : Calls Tryd.prog 13 #[.string (strB [115, 101, 101, 100])] w fun e w' => e = .returned (.tuple #[.int .i64 1, .bool false, .bool true]) ∧ w = w' := by
  have f0 : ((strB [115, 101, 101, 100]).toList == [98, 101, 103, 105, 110]) = false := by rw [txt_is]; decide
  have f1 : ((strB [115, 101, 101, 100]).toList == [114, 111, 119]) = false := by rw [txt_is]; decide
  have f2 : ((strB [115, 101, 101, 100]).toList == [102, 111, 114, 103, 101]) = false := by rw [txt_is]; decide
  have f3 : ((strB [115, 101, 101, 100]).toList == [115, 97, 121]) = false := by rw [txt_is]; decide
  have f4 : ((strB [115, 101, 101, 100]).toList == [115, 101, 101, 100]) = true := by rw [txt_is]; decide
  generalize strB [115, 101, 101, 100] = X at *
  go_enter Tryd.func13, Tryd.ntmps13
  go_wp2
  go_ret3
  exact ⟨rfl, rfl⟩
theorem shape_5 (w : World) : Calls Tryd.prog 13 #[.string (strB [115, 107, 105, 112])] w fun e w' => e = .returned (.tuple #[.int .i64 1, .bool false, .bool true]) ∧ w = w' := by
  have f0 : ((strB [115, 107, 105, 112]).toList == [98, 101, 103, 105, 110]) = false := by rw [txt_is]; decide
  have f1 : ((strB [115, 107, 105, 112]).toList == [114, 111, 119]) = false := by rw [txt_is]; decide
  have f2 : ((strB [115, 107, 105, 112]).toList == [102, 111, 114, 103, 101]) = false := by rw [txt_is]; decide
  have f3 : ((strB [115, 107, 105, 112]).toList == [115, 97, 121]) = false := by rw [txt_is]; decide
  have f4 : ((strB [115, 107, 105, 112]).toList == [115, 101, 101, 100]) = false := by rw [txt_is]; decide
  have f5 : ((strB [115, 107, 105, 112]).toList == [115, 107, 105, 112]) = true := by rw [txt_is]; decide
  generalize strB [115, 107, 105, 112] = X at *
  go_enter Tryd.func13, Tryd.ntmps13
  go_wp2
  go_ret3
  exact ⟨rfl, rfl⟩
theorem shape_6 (w : World) : Calls Tryd.prog 13 #[.string (strB [100, 114, 111, 112])] w fun e w' => e = .returned (.tuple #[.int .i64 1, .bool false, .bool true]) ∧ w = w' := by
  have f0 : ((strB [100, 114, 111, 112]).toList == [98, 101, 103, 105, 110]) = false := by rw [txt_is]; decide
  have f1 : ((strB [100, 114, 111, 112]).toList == [114, 111, 119]) = false := by rw [txt_is]; decide
  have f2 : ((strB [100, 114, 111, 112]).toList == [102, 111, 114, 103, 101]) = false := by rw [txt_is]; decide
  have f3 : ((strB [100, 114, 111, 112]).toList == [115, 97, 121]) = false := by rw [txt_is]; decide
  have f4 : ((strB [100, 114, 111, 112]).toList == [115, 101, 101, 100]) = false := by rw [txt_is]; decide
  have f5 : ((strB [100, 114, 111, 112]).toList == [115, 107, 105, 112]) = false := by rw [txt_is]; decide
  have f6 : ((strB [100, 114, 111, 112]).toList == [100, 114, 111, 112]) = true := by rw [txt_is]; decide
  generalize strB [100, 114, 111, 112] = X at *
  go_enter Tryd.func13, Tryd.ntmps13
  go_wp2
  go_ret3
  exact ⟨rfl, rfl⟩
theorem shape_7 (w : World) : Calls Tryd.prog 13 #[.string (strB [100, 111, 117, 98, 108, 101])] w fun e w' => e = .returned (.tuple #[.int .i64 1, .bool false, .bool true]) ∧ w = w' := by
  have f0 : ((strB [100, 111, 117, 98, 108, 101]).toList == [98, 101, 103, 105, 110]) = false := by rw [txt_is]; decide
  have f1 : ((strB [100, 111, 117, 98, 108, 101]).toList == [114, 111, 119]) = false := by rw [txt_is]; decide
  have f2 : ((strB [100, 111, 117, 98, 108, 101]).toList == [102, 111, 114, 103, 101]) = false := by rw [txt_is]; decide
  have f3 : ((strB [100, 111, 117, 98, 108, 101]).toList == [115, 97, 121]) = false := by rw [txt_is]; decide
  have f4 : ((strB [100, 111, 117, 98, 108, 101]).toList == [115, 101, 101, 100]) = false := by rw [txt_is]; decide
  have f5 : ((strB [100, 111, 117, 98, 108, 101]).toList == [115, 107, 105, 112]) = false := by rw [txt_is]; decide
  have f6 : ((strB [100, 111, 117, 98, 108, 101]).toList == [100, 114, 111, 112]) = false := by rw [txt_is]; decide
  have f7 : ((strB [100, 111, 117, 98, 108, 101]).toList == [100, 111, 117, 98, 108, 101]) = true := by rw [txt_is]; decide
  generalize strB [100, 111, 117, 98, 108, 101] = X at *
  go_enter Tryd.func13, Tryd.ntmps13
  go_wp2
  go_ret3
  exact ⟨rfl, rfl⟩
theorem shape_8 (w : World) : Calls Tryd.prog 13 #[.string (strB [97, 114, 114, 105, 118, 101])] w fun e w' => e = .returned (.tuple #[.int .i64 1, .bool false, .bool true]) ∧ w = w' := by
  have f0 : ((strB [97, 114, 114, 105, 118, 101]).toList == [98, 101, 103, 105, 110]) = false := by rw [txt_is]; decide
  have f1 : ((strB [97, 114, 114, 105, 118, 101]).toList == [114, 111, 119]) = false := by rw [txt_is]; decide
  have f2 : ((strB [97, 114, 114, 105, 118, 101]).toList == [102, 111, 114, 103, 101]) = false := by rw [txt_is]; decide
  have f3 : ((strB [97, 114, 114, 105, 118, 101]).toList == [115, 97, 121]) = false := by rw [txt_is]; decide
  have f4 : ((strB [97, 114, 114, 105, 118, 101]).toList == [115, 101, 101, 100]) = false := by rw [txt_is]; decide
  have f5 : ((strB [97, 114, 114, 105, 118, 101]).toList == [115, 107, 105, 112]) = false := by rw [txt_is]; decide
  have f6 : ((strB [97, 114, 114, 105, 118, 101]).toList == [100, 114, 111, 112]) = false := by rw [txt_is]; decide
  have f7 : ((strB [97, 114, 114, 105, 118, 101]).toList == [100, 111, 117, 98, 108, 101]) = false := by rw [txt_is]; decide
  have f8 : ((strB [97, 114, 114, 105, 118, 101]).toList == [97, 114, 114, 105, 118, 101]) = true := by rw [txt_is]; decide
  generalize strB [97, 114, 114, 105, 118, 101] = X at *
  go_enter Tryd.func13, Tryd.ntmps13
  go_wp2
  go_ret3
  exact ⟨rfl, rfl⟩
theorem shape_9 (w : World) : Calls Tryd.prog 13 #[.string (strB [104, 101, 97, 114])] w fun e w' => e = .returned (.tuple #[.int .i64 1, .bool false, .bool true]) ∧ w = w' := by
  have f0 : ((strB [104, 101, 97, 114]).toList == [98, 101, 103, 105, 110]) = false := by rw [txt_is]; decide
  have f1 : ((strB [104, 101, 97, 114]).toList == [114, 111, 119]) = false := by rw [txt_is]; decide
  have f2 : ((strB [104, 101, 97, 114]).toList == [102, 111, 114, 103, 101]) = false := by rw [txt_is]; decide
  have f3 : ((strB [104, 101, 97, 114]).toList == [115, 97, 121]) = false := by rw [txt_is]; decide
  have f4 : ((strB [104, 101, 97, 114]).toList == [115, 101, 101, 100]) = false := by rw [txt_is]; decide
  have f5 : ((strB [104, 101, 97, 114]).toList == [115, 107, 105, 112]) = false := by rw [txt_is]; decide
  have f6 : ((strB [104, 101, 97, 114]).toList == [100, 114, 111, 112]) = false := by rw [txt_is]; decide
  have f7 : ((strB [104, 101, 97, 114]).toList == [100, 111, 117, 98, 108, 101]) = false := by rw [txt_is]; decide
  have f8 : ((strB [104, 101, 97, 114]).toList == [97, 114, 114, 105, 118, 101]) = false := by rw [txt_is]; decide
  have f9 : ((strB [104, 101, 97, 114]).toList == [104, 101, 97, 114]) = true := by rw [txt_is]; decide
  generalize strB [104, 101, 97, 114] = X at *
  go_enter Tryd.func13, Tryd.ntmps13
  go_wp2
  go_ret3
  exact ⟨rfl, rfl⟩
theorem shape_10 (w : World) : Calls Tryd.prog 13 #[.string (strB [99, 111, 117, 110, 116])] w fun e w' => e = .returned (.tuple #[.int .i64 1, .bool false, .bool true]) ∧ w = w' := by
  have f0 : ((strB [99, 111, 117, 110, 116]).toList == [98, 101, 103, 105, 110]) = false := by rw [txt_is]; decide
  have f1 : ((strB [99, 111, 117, 110, 116]).toList == [114, 111, 119]) = false := by rw [txt_is]; decide
  have f2 : ((strB [99, 111, 117, 110, 116]).toList == [102, 111, 114, 103, 101]) = false := by rw [txt_is]; decide
  have f3 : ((strB [99, 111, 117, 110, 116]).toList == [115, 97, 121]) = false := by rw [txt_is]; decide
  have f4 : ((strB [99, 111, 117, 110, 116]).toList == [115, 101, 101, 100]) = false := by rw [txt_is]; decide
  have f5 : ((strB [99, 111, 117, 110, 116]).toList == [115, 107, 105, 112]) = false := by rw [txt_is]; decide
  have f6 : ((strB [99, 111, 117, 110, 116]).toList == [100, 114, 111, 112]) = false := by rw [txt_is]; decide
  have f7 : ((strB [99, 111, 117, 110, 116]).toList == [100, 111, 117, 98, 108, 101]) = false := by rw [txt_is]; decide
  have f8 : ((strB [99, 111, 117, 110, 116]).toList == [97, 114, 114, 105, 118, 101]) = false := by rw [txt_is]; decide
  have f9 : ((strB [99, 111, 117, 110, 116]).toList == [104, 101, 97, 114]) = false := by rw [txt_is]; decide
  have f10 : ((strB [99, 111, 117, 110, 116]).toList == [99, 111, 117, 110, 116]) = true := by rw [txt_is]; decide
  generalize strB [99, 111, 117, 110, 116] = X at *
  go_enter Tryd.func13, Tryd.ntmps13
  go_wp2
  go_ret3
  exact ⟨rfl, rfl⟩
theorem shape_11 (w : World) : Calls Tryd.prog 13 #[.string (strB [109, 111, 118, 101])] w fun e w' => e = .returned (.tuple #[.int .i64 2, .bool false, .bool true]) ∧ w = w' := by
  have f0 : ((strB [109, 111, 118, 101]).toList == [98, 101, 103, 105, 110]) = false := by rw [txt_is]; decide
  have f1 : ((strB [109, 111, 118, 101]).toList == [114, 111, 119]) = false := by rw [txt_is]; decide
  have f2 : ((strB [109, 111, 118, 101]).toList == [102, 111, 114, 103, 101]) = false := by rw [txt_is]; decide
  have f3 : ((strB [109, 111, 118, 101]).toList == [115, 97, 121]) = false := by rw [txt_is]; decide
  have f4 : ((strB [109, 111, 118, 101]).toList == [115, 101, 101, 100]) = false := by rw [txt_is]; decide
  have f5 : ((strB [109, 111, 118, 101]).toList == [115, 107, 105, 112]) = false := by rw [txt_is]; decide
  have f6 : ((strB [109, 111, 118, 101]).toList == [100, 114, 111, 112]) = false := by rw [txt_is]; decide
  have f7 : ((strB [109, 111, 118, 101]).toList == [100, 111, 117, 98, 108, 101]) = false := by rw [txt_is]; decide
  have f8 : ((strB [109, 111, 118, 101]).toList == [97, 114, 114, 105, 118, 101]) = false := by rw [txt_is]; decide
  have f9 : ((strB [109, 111, 118, 101]).toList == [104, 101, 97, 114]) = false := by rw [txt_is]; decide
  have f10 : ((strB [109, 111, 118, 101]).toList == [99, 111, 117, 110, 116]) = false := by rw [txt_is]; decide
  have f11 : ((strB [109, 111, 118, 101]).toList == [109, 111, 118, 101]) = true := by rw [txt_is]; decide
  generalize strB [109, 111, 118, 101] = X at *
  go_enter Tryd.func13, Tryd.ntmps13
  go_wp2
  go_ret3
  exact ⟨rfl, rfl⟩
theorem shape_12 (w : World) : Calls Tryd.prog 13 #[.string (strB [99, 117, 116])] w fun e w' => e = .returned (.tuple #[.int .i64 2, .bool false, .bool true]) ∧ w = w' := by
  have f0 : ((strB [99, 117, 116]).toList == [98, 101, 103, 105, 110]) = false := by rw [txt_is]; decide
  have f1 : ((strB [99, 117, 116]).toList == [114, 111, 119]) = false := by rw [txt_is]; decide
  have f2 : ((strB [99, 117, 116]).toList == [102, 111, 114, 103, 101]) = false := by rw [txt_is]; decide
  have f3 : ((strB [99, 117, 116]).toList == [115, 97, 121]) = false := by rw [txt_is]; decide
  have f4 : ((strB [99, 117, 116]).toList == [115, 101, 101, 100]) = false := by rw [txt_is]; decide
  have f5 : ((strB [99, 117, 116]).toList == [115, 107, 105, 112]) = false := by rw [txt_is]; decide
  have f6 : ((strB [99, 117, 116]).toList == [100, 114, 111, 112]) = false := by rw [txt_is]; decide
  have f7 : ((strB [99, 117, 116]).toList == [100, 111, 117, 98, 108, 101]) = false := by rw [txt_is]; decide
  have f8 : ((strB [99, 117, 116]).toList == [97, 114, 114, 105, 118, 101]) = false := by rw [txt_is]; decide
  have f9 : ((strB [99, 117, 116]).toList == [104, 101, 97, 114]) = false := by rw [txt_is]; decide
  have f10 : ((strB [99, 117, 116]).toList == [99, 111, 117, 110, 116]) = false := by rw [txt_is]; decide
  have f11 : ((strB [99, 117, 116]).toList == [109, 111, 118, 101]) = false := by rw [txt_is]; decide
  have f12 : ((strB [99, 117, 116]).toList == [99, 117, 116]) = true := by rw [txt_is]; decide
  generalize strB [99, 117, 116] = X at *
  go_enter Tryd.func13, Tryd.ntmps13
  go_wp2
  go_ret3
  exact ⟨rfl, rfl⟩
theorem shape_13 (w : World) : Calls Tryd.prog 13 #[.string (strB [109, 97, 115, 107])] w fun e w' => e = .returned (.tuple #[.int .i64 3, .bool false, .bool true]) ∧ w = w' := by
  have f0 : ((strB [109, 97, 115, 107]).toList == [98, 101, 103, 105, 110]) = false := by rw [txt_is]; decide
  have f1 : ((strB [109, 97, 115, 107]).toList == [114, 111, 119]) = false := by rw [txt_is]; decide
  have f2 : ((strB [109, 97, 115, 107]).toList == [102, 111, 114, 103, 101]) = false := by rw [txt_is]; decide
  have f3 : ((strB [109, 97, 115, 107]).toList == [115, 97, 121]) = false := by rw [txt_is]; decide
  have f4 : ((strB [109, 97, 115, 107]).toList == [115, 101, 101, 100]) = false := by rw [txt_is]; decide
  have f5 : ((strB [109, 97, 115, 107]).toList == [115, 107, 105, 112]) = false := by rw [txt_is]; decide
  have f6 : ((strB [109, 97, 115, 107]).toList == [100, 114, 111, 112]) = false := by rw [txt_is]; decide
  have f7 : ((strB [109, 97, 115, 107]).toList == [100, 111, 117, 98, 108, 101]) = false := by rw [txt_is]; decide
  have f8 : ((strB [109, 97, 115, 107]).toList == [97, 114, 114, 105, 118, 101]) = false := by rw [txt_is]; decide
  have f9 : ((strB [109, 97, 115, 107]).toList == [104, 101, 97, 114]) = false := by rw [txt_is]; decide
  have f10 : ((strB [109, 97, 115, 107]).toList == [99, 111, 117, 110, 116]) = false := by rw [txt_is]; decide
  have f11 : ((strB [109, 97, 115, 107]).toList == [109, 111, 118, 101]) = false := by rw [txt_is]; decide
  have f12 : ((strB [109, 97, 115, 107]).toList == [99, 117, 116]) = false := by rw [txt_is]; decide
  have f13 : ((strB [109, 97, 115, 107]).toList == [109, 97, 115, 107]) = true := by rw [txt_is]; decide
  generalize strB [109, 97, 115, 107] = X at *
  go_enter Tryd.func13, Tryd.ntmps13
  go_wp2
  go_ret3
  exact ⟨rfl, rfl⟩
theorem shape_14 (w : World) : Calls Tryd.prog 13 #[.string (strB [115, 116, 97, 116, 117, 115])] w fun e w' => e = .returned (.tuple #[.int .i64 0, .bool false, .bool true]) ∧ w = w' := by
  have f0 : ((strB [115, 116, 97, 116, 117, 115]).toList == [98, 101, 103, 105, 110]) = false := by rw [txt_is]; decide
  have f1 : ((strB [115, 116, 97, 116, 117, 115]).toList == [114, 111, 119]) = false := by rw [txt_is]; decide
  have f2 : ((strB [115, 116, 97, 116, 117, 115]).toList == [102, 111, 114, 103, 101]) = false := by rw [txt_is]; decide
  have f3 : ((strB [115, 116, 97, 116, 117, 115]).toList == [115, 97, 121]) = false := by rw [txt_is]; decide
  have f4 : ((strB [115, 116, 97, 116, 117, 115]).toList == [115, 101, 101, 100]) = false := by rw [txt_is]; decide
  have f5 : ((strB [115, 116, 97, 116, 117, 115]).toList == [115, 107, 105, 112]) = false := by rw [txt_is]; decide
  have f6 : ((strB [115, 116, 97, 116, 117, 115]).toList == [100, 114, 111, 112]) = false := by rw [txt_is]; decide
  have f7 : ((strB [115, 116, 97, 116, 117, 115]).toList == [100, 111, 117, 98, 108, 101]) = false := by rw [txt_is]; decide
  have f8 : ((strB [115, 116, 97, 116, 117, 115]).toList == [97, 114, 114, 105, 118, 101]) = false := by rw [txt_is]; decide
  have f9 : ((strB [115, 116, 97, 116, 117, 115]).toList == [104, 101, 97, 114]) = false := by rw [txt_is]; decide
  have f10 : ((strB [115, 116, 97, 116, 117, 115]).toList == [99, 111, 117, 110, 116]) = false := by rw [txt_is]; decide
  have f11 : ((strB [115, 116, 97, 116, 117, 115]).toList == [109, 111, 118, 101]) = false := by rw [txt_is]; decide
  have f12 : ((strB [115, 116, 97, 116, 117, 115]).toList == [99, 117, 116]) = false := by rw [txt_is]; decide
  have f13 : ((strB [115, 116, 97, 116, 117, 115]).toList == [109, 97, 115, 107]) = false := by rw [txt_is]; decide
  have f14 : ((strB [115, 116, 97, 116, 117, 115]).toList == [115, 116, 97, 116, 117, 115]) = true := by rw [txt_is]; decide
  generalize strB [115, 116, 97, 116, 117, 115] = X at *
  go_enter Tryd.func13, Tryd.ntmps13
  go_wp2
  go_ret3
  exact ⟨rfl, rfl⟩
theorem shape_15 (w : World) : Calls Tryd.prog 13 #[.string (strB [115, 104, 111, 119])] w fun e w' => e = .returned (.tuple #[.int .i64 0, .bool false, .bool true]) ∧ w = w' := by
  have f0 : ((strB [115, 104, 111, 119]).toList == [98, 101, 103, 105, 110]) = false := by rw [txt_is]; decide
  have f1 : ((strB [115, 104, 111, 119]).toList == [114, 111, 119]) = false := by rw [txt_is]; decide
  have f2 : ((strB [115, 104, 111, 119]).toList == [102, 111, 114, 103, 101]) = false := by rw [txt_is]; decide
  have f3 : ((strB [115, 104, 111, 119]).toList == [115, 97, 121]) = false := by rw [txt_is]; decide
  have f4 : ((strB [115, 104, 111, 119]).toList == [115, 101, 101, 100]) = false := by rw [txt_is]; decide
  have f5 : ((strB [115, 104, 111, 119]).toList == [115, 107, 105, 112]) = false := by rw [txt_is]; decide
  have f6 : ((strB [115, 104, 111, 119]).toList == [100, 114, 111, 112]) = false := by rw [txt_is]; decide
  have f7 : ((strB [115, 104, 111, 119]).toList == [100, 111, 117, 98, 108, 101]) = false := by rw [txt_is]; decide
  have f8 : ((strB [115, 104, 111, 119]).toList == [97, 114, 114, 105, 118, 101]) = false := by rw [txt_is]; decide
  have f9 : ((strB [115, 104, 111, 119]).toList == [104, 101, 97, 114]) = false := by rw [txt_is]; decide
  have f10 : ((strB [115, 104, 111, 119]).toList == [99, 111, 117, 110, 116]) = false := by rw [txt_is]; decide
  have f11 : ((strB [115, 104, 111, 119]).toList == [109, 111, 118, 101]) = false := by rw [txt_is]; decide
  have f12 : ((strB [115, 104, 111, 119]).toList == [99, 117, 116]) = false := by rw [txt_is]; decide
  have f13 : ((strB [115, 104, 111, 119]).toList == [109, 97, 115, 107]) = false := by rw [txt_is]; decide
  have f14 : ((strB [115, 104, 111, 119]).toList == [115, 116, 97, 116, 117, 115]) = false := by rw [txt_is]; decide
  have f15 : ((strB [115, 104, 111, 119]).toList == [115, 104, 111, 119]) = true := by rw [txt_is]; decide
  generalize strB [115, 104, 111, 119] = X at *
  go_enter Tryd.func13, Tryd.ntmps13
  go_wp2
  go_ret3
  exact ⟨rfl, rfl⟩
theorem shape_16 (w : World) : Calls Tryd.prog 13 #[.string (strB [109, 97, 112])] w fun e w' => e = .returned (.tuple #[.int .i64 0, .bool false, .bool true]) ∧ w = w' := by
  have f0 : ((strB [109, 97, 112]).toList == [98, 101, 103, 105, 110]) = false := by rw [txt_is]; decide
  have f1 : ((strB [109, 97, 112]).toList == [114, 111, 119]) = false := by rw [txt_is]; decide
  have f2 : ((strB [109, 97, 112]).toList == [102, 111, 114, 103, 101]) = false := by rw [txt_is]; decide
  have f3 : ((strB [109, 97, 112]).toList == [115, 97, 121]) = false := by rw [txt_is]; decide
  have f4 : ((strB [109, 97, 112]).toList == [115, 101, 101, 100]) = false := by rw [txt_is]; decide
  have f5 : ((strB [109, 97, 112]).toList == [115, 107, 105, 112]) = false := by rw [txt_is]; decide
  have f6 : ((strB [109, 97, 112]).toList == [100, 114, 111, 112]) = false := by rw [txt_is]; decide
  have f7 : ((strB [109, 97, 112]).toList == [100, 111, 117, 98, 108, 101]) = false := by rw [txt_is]; decide
  have f8 : ((strB [109, 97, 112]).toList == [97, 114, 114, 105, 118, 101]) = false := by rw [txt_is]; decide
  have f9 : ((strB [109, 97, 112]).toList == [104, 101, 97, 114]) = false := by rw [txt_is]; decide
  have f10 : ((strB [109, 97, 112]).toList == [99, 111, 117, 110, 116]) = false := by rw [txt_is]; decide
  have f11 : ((strB [109, 97, 112]).toList == [109, 111, 118, 101]) = false := by rw [txt_is]; decide
  have f12 : ((strB [109, 97, 112]).toList == [99, 117, 116]) = false := by rw [txt_is]; decide
  have f13 : ((strB [109, 97, 112]).toList == [109, 97, 115, 107]) = false := by rw [txt_is]; decide
  have f14 : ((strB [109, 97, 112]).toList == [115, 116, 97, 116, 117, 115]) = false := by rw [txt_is]; decide
  have f15 : ((strB [109, 97, 112]).toList == [115, 104, 111, 119]) = false := by rw [txt_is]; decide
  have f16 : ((strB [109, 97, 112]).toList == [109, 97, 112]) = true := by rw [txt_is]; decide
  generalize strB [109, 97, 112] = X at *
  go_enter Tryd.func13, Tryd.ntmps13
  go_wp2
  go_ret3
  exact ⟨rfl, rfl⟩
theorem shape_no (x : List UInt8) (h : formS x = none) (w : World) : Calls Tryd.prog 13 #[.string (strB x)] w fun e w' => e = .returned (.tuple #[.int .i64 0, .bool false, .bool false]) ∧ w = w' := by
  have hn : ∀ p ∈ formsL, x ≠ p.1 := fun p hp e => by
    unfold formS at h
    rw [Option.map_eq_none_iff, List.find?_eq_none] at h
    exact absurd (h p hp) (by simp [e])
  have f0 : ((strB x).toList == [98, 101, 103, 105, 110]) = false := by rw [txt_is]; exact decide_eq_false (hn ([98, 101, 103, 105, 110], 2, true) (by decide))
  have f1 : ((strB x).toList == [114, 111, 119]) = false := by rw [txt_is]; exact decide_eq_false (hn ([114, 111, 119], 0, true) (by decide))
  have f2 : ((strB x).toList == [102, 111, 114, 103, 101]) = false := by rw [txt_is]; exact decide_eq_false (hn ([102, 111, 114, 103, 101], 0, true) (by decide))
  have f3 : ((strB x).toList == [115, 97, 121]) = false := by rw [txt_is]; exact decide_eq_false (hn ([115, 97, 121], 0, true) (by decide))
  have f4 : ((strB x).toList == [115, 101, 101, 100]) = false := by rw [txt_is]; exact decide_eq_false (hn ([115, 101, 101, 100], 1, false) (by decide))
  have f5 : ((strB x).toList == [115, 107, 105, 112]) = false := by rw [txt_is]; exact decide_eq_false (hn ([115, 107, 105, 112], 1, false) (by decide))
  have f6 : ((strB x).toList == [100, 114, 111, 112]) = false := by rw [txt_is]; exact decide_eq_false (hn ([100, 114, 111, 112], 1, false) (by decide))
  have f7 : ((strB x).toList == [100, 111, 117, 98, 108, 101]) = false := by rw [txt_is]; exact decide_eq_false (hn ([100, 111, 117, 98, 108, 101], 1, false) (by decide))
  have f8 : ((strB x).toList == [97, 114, 114, 105, 118, 101]) = false := by rw [txt_is]; exact decide_eq_false (hn ([97, 114, 114, 105, 118, 101], 1, false) (by decide))
  have f9 : ((strB x).toList == [104, 101, 97, 114]) = false := by rw [txt_is]; exact decide_eq_false (hn ([104, 101, 97, 114], 1, false) (by decide))
  have f10 : ((strB x).toList == [99, 111, 117, 110, 116]) = false := by rw [txt_is]; exact decide_eq_false (hn ([99, 111, 117, 110, 116], 1, false) (by decide))
  have f11 : ((strB x).toList == [109, 111, 118, 101]) = false := by rw [txt_is]; exact decide_eq_false (hn ([109, 111, 118, 101], 2, false) (by decide))
  have f12 : ((strB x).toList == [99, 117, 116]) = false := by rw [txt_is]; exact decide_eq_false (hn ([99, 117, 116], 2, false) (by decide))
  have f13 : ((strB x).toList == [109, 97, 115, 107]) = false := by rw [txt_is]; exact decide_eq_false (hn ([109, 97, 115, 107], 3, false) (by decide))
  have f14 : ((strB x).toList == [115, 116, 97, 116, 117, 115]) = false := by rw [txt_is]; exact decide_eq_false (hn ([115, 116, 97, 116, 117, 115], 0, false) (by decide))
  have f15 : ((strB x).toList == [115, 104, 111, 119]) = false := by rw [txt_is]; exact decide_eq_false (hn ([115, 104, 111, 119], 0, false) (by decide))
  have f16 : ((strB x).toList == [109, 97, 112]) = false := by rw [txt_is]; exact decide_eq_false (hn ([109, 97, 112], 0, false) (by decide))
  generalize strB x = X at *
  clear hn h
  go_enter Tryd.func13, Tryd.ntmps13
  go_wp2
  go_ret3
  exact ⟨rfl, rfl⟩
theorem Shape_any (x : List UInt8) (w : World) : Calls Tryd.prog 13 #[.string (strB x)] w fun e w' => e = .returned (shapeV x) ∧ w = w' := by
  cases h : formS x with
  | none =>
    have e : shapeV x = .tuple #[.int .i64 0, .bool false, .bool false] := by unfold shapeV; rw [h]
    rw [e]; exact shape_no x h w
  | some f =>
    have e : shapeV x = .tuple #[.int .i64 (f.1 : Nat), .bool f.2, .bool true] := by unfold shapeV; rw [h]
    rw [e]
    have hm := formS_mem h
    obtain ⟨k, b⟩ := f
    simp only [formsL, List.mem_cons, Prod.mk.injEq, List.not_mem_nil, or_false] at hm
    rcases hm with ⟨rfl, rfl, rfl⟩ | ⟨rfl, rfl, rfl⟩ | ⟨rfl, rfl, rfl⟩ | ⟨rfl, rfl, rfl⟩ | ⟨rfl, rfl, rfl⟩ | ⟨rfl, rfl, rfl⟩ | ⟨rfl, rfl, rfl⟩ | ⟨rfl, rfl, rfl⟩ | ⟨rfl, rfl, rfl⟩ | ⟨rfl, rfl, rfl⟩ | ⟨rfl, rfl, rfl⟩ | ⟨rfl, rfl, rfl⟩ | ⟨rfl, rfl, rfl⟩ | ⟨rfl, rfl, rfl⟩ | ⟨rfl, rfl, rfl⟩ | ⟨rfl, rfl, rfl⟩ | ⟨rfl, rfl, rfl⟩
    · exact shape_0 w
    · exact shape_1 w
    · exact shape_2 w
    · exact shape_3 w
    · exact shape_4 w
    · exact shape_5 w
    · exact shape_6 w
    · exact shape_7 w
    · exact shape_8 w
    · exact shape_9 w
    · exact shape_10 w
    · exact shape_11 w
    · exact shape_12 w
    · exact shape_13 w
    · exact shape_14 w
    · exact shape_15 w
    · exact shape_16 w
end Go.Proofs.YtccaiiigdfieoaaDoor
namespace Go.Proofs.YtccaiiigdfieoaaDoor
open Go.RowKit Go.By
end Go.Proofs.YtccaiiigdfieoaaDoor
namespace Go.By
open Go.RowKit
theorem not_dig {l : List UInt8} {k : Nat} {c : UInt8} (h : l[k]? = some c) (hc : isDig c = false) : numG l = false := by
  have : l.all isDig = false := by
    rw [List.all_eq_false]
    exact ⟨c, List.mem_of_getElem? h, by rw [hc]; decide⟩
  unfold numG; rw [this]; simp
theorem all_dig {l : List UInt8} {n : Nat} (hn : l.length = n) (h : ∀ (j : Nat) (d : UInt8), j < n → l[j]? = some d → isDig d = true) : l.all isDig = true := List.all_eq_true.2 (fun b hb => by
  obtain ⟨j, hj, e⟩ := List.getElem_of_mem hb
  exact h j b (by omega) (by rw [List.getElem?_eq_getElem hj, e]))
theorem numB_none {M : Nat} {l : List UInt8} (h : numG l = false) : numB M l = none := by unfold numB; rw [if_neg (by rw [h]; simp)]
/-- what comes behind: a number, and whether it is one -/
def NumRes (K : IntKind) (M : Nat) (l : List UInt8) (v : Value) : Prop := ∃ x : Nat, v = .tuple #[.int K (x : Int), .bool (numB M l).isSome] ∧ ∀ y, numB M l = some y → x = y
theorem NumRes.no {K : IntKind} {M : Nat} {l : List UInt8} (h : numB M l = none) (x : Nat) : NumRes K M l (.tuple #[.int K (x : Int), .bool false]) := ⟨x, by rw [h]; rfl, fun y hy => by rw [h] at hy; cases hy⟩
theorem NumRes.yes {K : IntKind} {M : Nat} {l : List UInt8} {x : Nat} (h : numB M l = some x) : NumRes K M l (.tuple #[.int K (x : Int), .bool true]) := ⟨x, by rw [h]; rfl, fun y hy => by rw [h] at hy; exact Option.some.inj hy⟩
/-- what a first letter and a length say -/
theorem head_cases {l : List UInt8} {c : UInt8} (h : l[0]? = some c) : (c = 48 ∧ 1 < l.length ∧ numG l = false) ∨ ((c ≠ 48 ∨ l.length ≤ 1) ∧ numG l = l.all isDig) := by
  have hne : l ≠ [] := fun e => by subst e; cases h
  have hh : l.head? = some c := by rw [← h]; cases l <;> rfl
  unfold numG
  rw [hh, decide_eq_true hne]
  by_cases h1 : c = 48
  · by_cases h2 : 1 < l.length
    · exact .inl ⟨h1, h2, by rw [h1]; simp [h2]⟩
    · exact .inr ⟨.inr (by omega), by simp [h2]⟩
  · exact .inr ⟨.inl h1, by simp [h1]⟩
end Go.By
namespace Go.Proofs.YtccaiiigdfieoaaDoor
open Go.RowKit Go.By
end Go.Proofs.YtccaiiigdfieoaaDoor
namespace Go.Proofs.YtccaiiigdfieoaaDoor
open Go.RowKit Go.By
theorem dec_le20 {n : Nat} (h : n < 18446744073709551616) : (Lib.decDigits n).length ≤ 20 := by rw [Lib.decDigits_length]; exact Lib.nDigits_le20 n h
set_option maxRecDepth 100000 in
set_option maxHeartbeats 1000000 in
theorem Tens_any : ∀ (m n : Nat), n ≤ m → n < 18446744073709551616 → ∀ w, Calls Tryd.prog 25 #[.int .u64 (n : Nat)] w fun e w' => e = .returned (.string (strB (Lib.decDigits n))) ∧ Below w.heap.size w w'
  | m, n, hm, hn, w => by
    by_cases h : n < 10
    · have e := decDigits_small h
      rw [e]
      obtain ⟨d, hd⟩ : ∃ d, d = UInt8.ofNat (48 + n) := ⟨_, rfl⟩
      have hdn : 48 + (n : Int) = (d.toNat : Int) := by rw [hd, UInt8.toNat_ofNat', Nat.mod_eq_of_lt (by omega)]; omega
      rw [← hd]
      have hw : IntKind.u8.wrap (n : Int) = (n : Int) := by rw [IntKind.wrap_u8]; omega
      have hlt : (n : Int) < 10 := by omega
      have hd8 := d.toNat_lt
      have hsl : Sl B8 (w.alloc (.cells #[B8 d] 5)) (some ⟨w.heap.size, 0, none⟩) 1 1 [d] := sl_block [d] 1 (hnew rfl) rfl rfl (by simp [maxLen])
      have hcv := conv_sl hsl (by decide)
      clear hd hsl e hm hn h
      go_enter Tryd.func25, Tryd.ntmps25
      go_wp2
      go_ret
      exact ⟨rfl, al (Below.refl _ _) (Nat.le_refl _)⟩
    · have e := decDigits_big h
      have hq : IntKind.u64.wrap ((n : Int) / 10) = ((n / 10 : Nat) : Int) := by rw [IntKind.wrap_u64]; omega
      have hr : ((n : Int)).tmod 10 = ((n % 10 : Nat) : Int) := by rw [Int.tmod_eq_emod_of_nonneg (by omega)]; omega
      have hd10 : Lib.decDigits (n % 10) = [UInt8.ofNat (48 + n % 10)] := decDigits_small (by omega)
      have E : Hid (strB (Lib.decDigits n) = strB (Lib.decDigits (n / 10)) ++ strB (Lib.decDigits (n % 10))) := by show _ = _; rw [txt_app, hd10, ← e]
      have H1 : Hid (∀ w, Calls Tryd.prog 25 #[.int .u64 ((n / 10 : Nat) : Int)] w _) := fun w => Tens_any (m - 1) (n / 10) (by omega) (by omega) w
      have H2 : Hid (∀ w, Calls Tryd.prog 25 #[.int .u64 ((n % 10 : Nat) : Int)] w _) := fun w => Tens_any (m - 1) (n % 10) (by omega) (by omega) w
      have hge : ¬ (n : Int) < 10 := by omega
      have s1 : (strB (Lib.decDigits (n / 10))).size ≤ 20 := by rw [strB_size]; exact dec_le20 (by omega)
      have s2 : (strB (Lib.decDigits (n % 10))).size ≤ 20 := by rw [strB_size]; exact dec_le20 (by omega)
      rw [E.out]
      generalize strB (Lib.decDigits (n / 10)) = A at *
      generalize strB (Lib.decDigits (n % 10)) = B at *
      have hwa : IntKind.u64.wrap ((n / 10 : Nat) : Int) = ((n / 10 : Nat) : Int) := by rw [IntKind.wrap_u64]; omega
      have hwb : IntKind.u64.wrap ((n % 10 : Nat) : Int) = ((n % 10 : Nat) : Int) := by rw [IntKind.wrap_u64]; omega
      have q1 : (n : Int) / 10 = ((n / 10 : Nat) : Int) := by omega
      have q2 : (n : Int) % 10 = ((n % 10 : Nat) : Int) := by omega
      generalize n / 10 = a at *
      generalize n % 10 = b at *
      clear e E hm hn h hd10
      go_enter Tryd.func25, Tryd.ntmps25
      go_wp2_with fail
      refine Calls.mono (H1.out w) ?_
      rintro e w1 ⟨rfl, hb⟩
      have B1 := Lib.hid hb
      clear hb
      go_wp2_with fail
      refine Calls.mono (H2.out w1) ?_
      rintro e w2 ⟨rfl, hb⟩
      have B2 := Lib.hid (bl B1.out hb B1.out.size)
      clear hb
      go_wp2
      go_ret
      exact ⟨rfl, B2.out⟩
end Go.Proofs.YtccaiiigdfieoaaDoor
namespace Go.Proofs.YtccaiiigdfieoaaDoor
open Go.RowKit Go.By
end Go.Proofs.YtccaiiigdfieoaaDoor
