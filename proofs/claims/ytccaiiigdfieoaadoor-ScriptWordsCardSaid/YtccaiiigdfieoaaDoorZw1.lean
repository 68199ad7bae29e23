/- Small laws on bytes as the walk spells them. Small laws on slices: a slice that reads as a list; append of such a one. Texts as lists of bytes; builders. Plain mathematics: the field of 256 elements, as polynomials over two bits modulo x^8+x^4+x^3+x^2+1. Nothing of the program. The contracts of the field's functions. The contracts of the kernel's functions: halves. The contracts of the kernel's functions: put. The contracts of slices.Clone, IndexFunc, ContainsFunc at bytes and rows. Small laws on slices of byte slices; what a function that makes a row hands back. The contracts of the kernel's functions: Scale, Axpy, Dot, Zero. The contracts of the kernel's functions: nought, Sum, Comb. The contracts of the kernel's functions: Sum, Comb. Small laws: literal slices. The contracts of the vectors' functions: Lead, At, Zero, Unit, Of, Clone. Plain mathematics: the reference's product of two bytes is the field's. The contract of the reference's product. The contracts of the reference's functions of layer 2. The contracts of the rows' functions: Clone, Norm, Less. The contracts of the rows' functions: Less. The contracts of slices.Equal and of the rows' Same. What the packet layers and the plan share with the rows: IndexFunc and ContainsFunc of bytes and rows, Same and Zero of the reference, Zero of the kernel and of vectors. A region that draws its order, op by op: an invariant in place of the orders. Any program. Slices of byte slices that the call itself makes. A region that draws its order and stores nothing: each operation has a shape that lasts. A region that draws its order, with one store into a block of its own: each operation has a shape that lasts. The frame behind a region that draws its order; one operation with its operands known. A guard that never ran says no. A region that draws its order, whose last operation waits for all others (a store): shapes for the others, then the last one. A region that draws its order, whose first m operations are shapes, and whose others wait each for the one ahead of it: these are walked in their order. Plain: the sum of 32 bits, half a byte at a time and bit by bit. Plain: numbers of 32 bits as four bytes; sums of parts. Chapter 4: sum.Put, Start, Sum (under way). Chapter 4: sum.Start, With, Sum, Of, Get. Chapter 4: sum.Of, Get. Small laws for packets: parts of slices, literal slices of slices, results that read. Plain: words between blanks, decimal numbers. No program in sight. Plain: bytes as digits of base 16, and back. No program in sight. Chapter 24, the reference: a digit. Chapter 24, the reference: value, Unhex. Plain: commands of a script, their lines, and what lines say. No program in sight. Plain: the ways in which a text is gone through, sign by sign. No program in sight. Chapter 26: the forms of words; find. Chapter 26: the closure of find; slices.IndexFunc of forms; find. DERIVED: THE SHELF's CONTRACTS AT THIS DUMP, IN PLAIN WORDS (tools/lay-plain.mjs out of 'TrydShelf.lean', which tools/lay-shelf.mjs wrote): THE SAME DECLARATIONS UNDER THE SAME NAMES: 'import', 'namespace', 'open', 'def', 'theorem' AND NOTHING ELSE: no command of the shelf's: FOR A HAND-IN. Each laying: the table of numbers ('.._ren') and one theorem, a field a fact of the dump's own or the kernel's comparison; each contract: ONE APPLICATION. Chapter 26: readBytes. The library: FormatUint of base 10; Itoa; Join. The library: ParseUint of base 10, of 31 and of 32 bits, of texts of digits alone. The contracts of the plan's functions: needed, fits, Check, Of; and of the reference's Needs and Check. The reference's word and Number. The library's SplitN at a blank; strconv.ParseUint; the plan's number. The library: ParseUint of base 10, of 64 bits, of texts of digits alone. Chapter 26: readNumber. The library's Split, Cut, CutSuffix at a sign. Commands in memory. -/
import Derived.WalkKit
import Derived.Laws.CopyOwn
import Derived.Laws.AppendOwnNone
import Derived.Lib.Strings
import Derived.Lib.UnsafeStr
import Derived.Lib.AppendStr
import Derived.Lib.Builder
import Derived.Test.YtccaiiigdfieoaaDoorProg
import Derived.WalkLawsBesides
import Derived.WalkSpells
import Derived.Lib.Hide
import Derived.BigRegion
import Derived.Shelf.Abstract
import Derived.Deep.QuietTactic
import Derived.BigQuiet
import Derived.Deep.RegionHeld3
import Derived.Deep.RegionWith
import Derived.RegionTactic
import Derived.Lib.AppendZeros
import Derived.BigFrame
import Derived.Lib.SplitLaws
import Derived.Lib.ItoaNum
import Derived.Lib.Join
import Derived.Deep.DeepCutAuto
import Derived.Outline
import Derived.Shelf.Strings.Builder1
import Derived.Shelf.Small.Strs
import Derived.Shelf.Strings.BuilderF
import Derived.Shelf.Strings.BuilderK
import Derived.Shelf.Utf8.RuneCount
import Derived.Shelf.Strconv.Itoa0
import Derived.Shelf.Strconv.Itoa1
import Derived.Shelf.LaysM
import Derived.Shelf.Strconv.Itoa2
import Derived.Shelf.Strconv.Itoa3
import Derived.Shelf.Strconv.Clone
import Derived.Shelf.Strconv.SyntaxError
import Derived.Shelf.LaysC
import Derived.Shelf.Strconv.ToError
import Derived.Shelf.Strconv.Lower
import Derived.Shelf.Strconv.ParseUint10
import Derived.Shelf.Strconv.ParseUint10Empty
import Derived.Shelf.Strconv.ParseUint10Any
import Derived.Shelf.Strconv.RangeError
import Derived.Shelf.Strconv.ToErrorRange
import Derived.Shelf.Strconv.ParseUintEmpty
import Derived.Shelf.Strconv.ParseUint10b64
import Derived.Shelf.Strconv.ParseUint10b32
import Derived.Shelf.Strconv.ParseUint10b16
import Derived.Shelf.Strconv.ParseUint10b8
import Derived.Shelf.Strconv.ParseUint10At
import Derived.Ground.MpProg
import Derived.Shelf.Pu.ParseUintPublic10
import Derived.Shelf.Pu.ErrVarParseUint
import Derived.Shelf.Strings.Search1
import Derived.Shelf.Strings.Search2
import Derived.Shelf.Strings.Search3
import Derived.Shelf.Strings.Cut
import Derived.Shelf.Strings.Count
import Derived.Shelf.Strings.Shaped
import Derived.Shelf.Strings.Split
import Derived.Shelf.Strings.SplitShaped
import Derived.Shelf.Unicode.Decode
import Derived.Shelf.Strings.RuneCount
import Derived.Shelf.Strings.Explode
import Derived.Shelf.Bits.Mul64
import Derived.Shelf.Unicode.DecodeSlow
import Derived.Shelf.Unicode.DecodeAny
import Derived.Shelf.Strings.BuilderCap
import Derived.Lib.ItoaMem
import Derived.BigCall
import Derived.BigGuard
import Derived.Lib.AtoiAllMem
import Derived.Lib.ConvBytes
import Derived.Lib.Walk
import Derived.Laws.Strings3
import Derived.Laws.Closers25
import Derived.Laws.Closers25b
import Derived.OwnWalk
import Derived.Lib.Split
import Derived.Laws.RangeString
import Derived.Laws.RangeAny
import Derived.Lib.CountLaws
namespace Go.By
open Go.RowKit
/-- a byte as a value -/
abbrev B8 (x : UInt8) : Value := .int .u8 x.toNat
/-- a slice's cells, read as a list -/
def Rs {α : Type} (enc : α → Value) (w : World) (p : Option Addr) (xs : List α) : Prop :=
  ∀ i (hi : i < xs.length), ∃ b o, p = some ⟨b, o, none⟩ ∧ w.cell? ⟨b, o + i, none⟩ = some (enc xs[i])
theorem lt_of_cell {w : World} {b o : Nat} {v : Value} (h : w.cell? ⟨b, o, none⟩ = some v) : b < w.heap.size := by
  rcases Nat.lt_or_ge b w.heap.size with h' | h'
  · exact h'
  · simp [World.cell?, Array.getElem?_eq_none h'] at h
section
variable {α : Type} {enc : α → Value} {w w' : World} {p : Option Addr} {xs : List α}
theorem Rs.nil : Rs enc w p ([] : List α) := fun i hi => absurd hi (Nat.not_lt_zero i)
theorem Rs.lt (h : Rs enc w p xs) (h0 : 0 < xs.length) : ∃ b o, p = some ⟨b, o, none⟩ ∧ b < w.heap.size := by
  obtain ⟨b, o, hp, hc⟩ := h 0 h0
  exact ⟨b, o, hp, lt_of_cell hc⟩
theorem Rs.keep (h : Rs enc w p xs) (hb : Below w.heap.size w w') : Rs enc w' p xs := by
  intro i hi
  obtain ⟨b, o, hp, hc⟩ := h i hi
  exact ⟨b, o, hp, (hb.cell (p := ⟨b, o + i, none⟩) (lt_of_cell hc)).trans hc⟩
theorem Rs.grown {row : Option Nat} (h : Rs enc w p xs) (hg : w.grownBy w' row) (hne : ∀ a, p = some a → some a.block ≠ row) : Rs enc w' p xs := by
  intro i hi
  obtain ⟨b, o, hp, hc⟩ := h i hi
  exact ⟨b, o, hp, (World.cell?_of_block (a := ⟨b, o + i, none⟩) (hg.block b (lt_of_cell hc) (hne _ hp))).trans hc⟩
theorem Rs.alloc (h : Rs enc w p xs) (o : Obj) : Rs enc (w.alloc o) p xs := h.keep ((Below.refl _ _).alloc (Nat.le_refl _) _)
theorem Rs.at (h : Rs enc w p xs) (i : Nat) (hi : i < xs.length) : ∃ b o x, p = some ⟨b, o, none⟩ ∧ w.cell? ⟨b, o + i, none⟩ = some (enc x) ∧ Hid (x = xs[i]) := by
  obtain ⟨b, o, hp, hc⟩ := h i hi
  exact ⟨b, o, _, hp, hc, rfl⟩
theorem Rs.of_owns {base e n c : Nat} (h : w.ownsRow base e 1 (.slice p n c) n (xs.map enc)) : Rs enc w p xs := by
  intro i hi
  rcases h.2 with h2 | ⟨g, cap, cur, hv, _⟩
  · have := h.1; simp [h2.2] at this; subst this; exact absurd hi (Nat.not_lt_zero i)
  · obtain ⟨rfl, rfl⟩ : p = some ⟨g, 0, none⟩ ∧ c = cap := by simpa using hv
    refine ⟨g, 0, rfl, ?_⟩
    have hn : n = xs.length := by have := h.1; simp at this; exact this.symm
    rw [Nat.zero_add, h.cellAt i (by omega), List.getElem?_eq_getElem (by simpa using hi)]
    simp
theorem owns_len {base e n c : Nat} {ys : List Value} (h : w.ownsRow base e 1 (.slice p n c) n ys) : ys.length = n := by simpa using h.1
theorem owns_cap {base e n c : Nat} {ys : List Value} (h : w.ownsRow base e 1 (.slice p n c) n ys) : n ≤ c ∧ c ≤ maxLen := by
  rcases h.2 with h2 | ⟨g, cap, cur, hv, _, _, h3, h4, _⟩
  · obtain ⟨h2, rfl⟩ := h2; simp at h2; simp [h2, maxLen]
  · obtain ⟨_, rfl⟩ : p = some ⟨g, 0, none⟩ ∧ c = cap := by simpa using hv
    exact ⟨h3, h4⟩
end
theorem heap_alloc (w : World) (o : Obj) (i : Nat) : (w.alloc o).heap[i]? = if i = w.heap.size then some o else w.heap[i]? := by
  show (w.heap.push o)[i]? = _
  rw [Array.getElem?_push]
theorem hnew {w : World} {o : Obj} {i : Nat} (h : i = w.heap.size) : (w.alloc o).heap[i]? = some o := by rw [heap_alloc, if_pos h]
theorem hal {w : World} {o x : Obj} {i : Nat} (h : w.heap[i]? = some x) : (w.alloc o).heap[i]? = some x := by
  rw [heap_alloc, if_neg (by have := lt_of_block h; omega)]; exact h
theorem hss {w : World} {g i : Nat} {cs : Array Value} {t : TypeId} {v : Value} (h : w.heap[g]? = some (.cells cs t (0, 0))) : (w.setCell ⟨g, i, none⟩ v).heap[g]? = some (.cells (cs.setIfInBounds i v) t (0, 0)) := heap_setCell_same w g i cs t v h
theorem hro {w : World} {g i : Nat} {cs : Array Value} {x : Obj} (h : w.heap[i]? = some x) (hne : i ≠ g) : (w.setRow g cs).heap[i]? = some x := by
  simp only [World.setRow, Array.getElem?_modify]
  rw [if_neg (by omega)]; exact h
theorem hrs {w : World} {g : Nat} {cs old : Array Value} {t : TypeId} {fr : Nat × Nat} (h : w.heap[g]? = some (.cells old t fr)) : (w.setRow g cs).heap[g]? = some (.cells cs t fr) := by
  simp only [World.setRow, Array.getElem?_modify]
  simp [h]
theorem wpList_store_row {P : Program} {ops : Array Oper} {rest : List Oper} {o : Oper} {a : Act} {w : World} {Q : Exit → Act → World → Prop} (hgd : o.guard = none) (ty : TypeId) (x y : Operand) (ho : o.op = .store ty x y)
    (g : Nat) (cells : Array Value) (hx : a.eval x = .pointer (some ⟨g, 0, none⟩)) (hy : a.eval y = .agg cells)
    (t : TypeId) (old : Array Value) (hg : w.heap[g]? = some (.cells old t (0, 0))) (hi : (P.info? ty).map (·.size) = some cells.size)
    (hold : old.size = cells.size) (h1 : cells.all (·.oneCell') = true)
    (h : wpList P ops Q rest (a.put o.dst undef) (w.setRow g cells)) : wpList P ops Q (o :: rest) a w :=
  wpList_plain hgd fun _ hK => wp_store_row ty x y ho g cells hx hy t old hg hi hold h1 (hK _ _ h)
/-- the first k of Z, then S -/
def prog {α : Type} (Z S : List α) (k : Nat) : List α := Z.take k ++ S.drop k
end Go.By
namespace Go.By
open Go.RowKit
/-- a slice value '.slice p n c' that reads as the list xs -/
structure Sl {α : Type} (enc : α → Value) (w : World) (p : Option Addr) (n c : Nat) (xs : List α) : Prop where
  len : xs.length = n
  le : n ≤ c
  max : c ≤ maxLen
  nil : p = none → n = 0 ∧ c = 0
  rs : Rs enc w p xs
section
variable {α : Type} {enc : α → Value} {w w' : World} {p : Option Addr} {n c : Nat} {xs : List α}
theorem Sl.keep (h : Sl enc w p n c xs) (hb : Below w.heap.size w w') : Sl enc w' p n c xs := ⟨h.len, h.le, h.max, h.nil, h.rs.keep hb⟩
theorem Sl.grown {row : Option Nat} (h : Sl enc w p n c xs) (hg : w.grownBy w' row) (hne : ∀ a, p = some a → some a.block ≠ row) : Sl enc w' p n c xs := ⟨h.len, h.le, h.max, h.nil, h.rs.grown hg hne⟩
theorem Sl.bound (h : Sl enc w p n c xs) : n ≤ 9223372036854775807 := by have := h.le; have := h.max; unfold maxLen at this; omega
theorem Sl.nil0 (enc : α → Value) (w : World) : Sl enc w none 0 0 ([] : List α) := ⟨rfl, Nat.le_refl _, by simp [maxLen], fun _ => ⟨rfl, rfl⟩, Rs.nil⟩
theorem Sl.of_owns {base e : Nat} (h : w.ownsRow base e 1 (.slice p n c) n (xs.map enc)) : Sl enc w p n c xs := by
  have hc := owns_cap h
  refine ⟨by simpa using owns_len h, hc.1, hc.2, fun hp => ?_, Rs.of_owns h⟩
  rcases h.2 with h2 | ⟨g, cap, cur, hv, _⟩
  · obtain ⟨h2, rfl⟩ := h2; simp at h2; simp [h2]
  · simp [hp] at hv
theorem Sl.at (h : Sl enc w p n c xs) (i : Nat) (hi : i < n) : ∃ b o x, p = some ⟨b, o, none⟩ ∧ w.cell? ⟨b, o + i, none⟩ = some (enc x) ∧ Hid (xs[i]? = some x) := by
  have hi' : i < xs.length := by rw [h.len]; exact hi
  obtain ⟨b, o, hp, hc⟩ := h.rs i hi'
  exact ⟨b, o, _, hp, hc, List.getElem?_eq_getElem hi'⟩
theorem owns_shape {base e size n : Nat} {v : Value} {ys : List Value} (h : w.ownsRow base e size v n ys) : ∃ q c, v = .slice q n c := by
  rcases h.2 with h2 | ⟨g, cap, cur, hv, _⟩
  · obtain ⟨h2, rfl⟩ := h2; exact ⟨none, 0, h2⟩
  · exact ⟨_, _, hv⟩
theorem owns_new {base e size n c : Nat} {ys : List Value} (h : w.ownsRow base e size (.slice p n c) n ys) : ∀ a, p = some a → base ≤ a.block ∧ a.block < w.heap.size := by
  intro a ha
  exact h.lt a.block (by simp [Value.ownBlock, ha])
/-- what is owned stays owned where only old blocks, or another's, may have been written -/
theorem owns_below {base B e size n c : Nat} {ys : List Value} (h : w.ownsRow base e size (.slice p n c) n ys) (hb : Below B w w') (hB : ∀ a, p = some a → a.block < B) : w'.ownsRow base e size (.slice p n c) n ys := by
  refine ⟨h.1, ?_⟩
  rcases h.2 with h2 | ⟨g, cap, cur, hv, hg, hh, r⟩
  · exact Or.inl h2
  · obtain ⟨rfl, rfl⟩ : p = some ⟨g, 0, none⟩ ∧ c = cap := by simpa using hv
    exact Or.inr ⟨g, c, cur, rfl, hg, (hb.block g (hB ⟨g, 0, none⟩ rfl)).trans hh, r⟩
theorem owns_keep {base e size n c : Nat} {ys : List Value} (h : w.ownsRow base e size (.slice p n c) n ys) (hb : Below w.heap.size w w') : w'.ownsRow base e size (.slice p n c) n ys :=
  owns_below h hb (fun a ha => (owns_new h a ha).2)
theorem owns_mono {base base' e size n : Nat} {v : Value} {ys : List Value} (h : w.ownsRow base e size v n ys) (hb : base' ≤ base) : w.ownsRow base' e size v n ys := by
  refine ⟨h.1, ?_⟩
  rcases h.2 with h2 | ⟨g, cap, cur, hv, hg, hh, r⟩
  · exact Or.inl h2
  · exact Or.inr ⟨g, cap, cur, hv, Nat.le_trans hb hg, hh, r⟩
end
/-- where the first is of which f holds; -1 -/
def idxf {α : Type} (f : α → Bool) (xs : List α) : Int := match xs.findIdx? f with
  | some i => i
  | none => -1
theorem idxf_found {α : Type} {f : α → Bool} {xs : List α} {k : Nat} {x : α} (hx : xs[k]? = some x) (hf : f x = true) (hb : ∀ j y, j < k → xs[j]? = some y → f y = false) : idxf f xs = k := by
  obtain ⟨hk, hx⟩ := List.getElem?_eq_some_iff.1 hx
  have : xs.findIdx? f = some k := by
    rw [List.findIdx?_eq_some_iff_getElem]
    exact ⟨hk, by rw [hx]; exact hf, fun j hj => by simp [hb j xs[j] hj (List.getElem?_eq_getElem (by omega))]⟩
  simp [idxf, this]
theorem idxf_none {α : Type} {f : α → Bool} {xs : List α} {k : Nat} (hk : k = xs.length) (hb : ∀ j y, j < k → xs[j]? = some y → f y = false) : idxf f xs = -1 := by
  have : xs.findIdx? f = none := by
    rw [List.findIdx?_eq_none_iff]
    intro x hx
    obtain ⟨j, hj, rfl⟩ := List.getElem_of_mem hx
    exact hb j _ (by omega) (List.getElem?_eq_getElem hj)
  simp [idxf, this]
end Go.By
namespace Go.By
open Go.RowKit
/-- bytes as a text -/
def strB (l : List UInt8) : ByteArray := ⟨l.toArray⟩
theorem strB_size (l : List UInt8) : (strB l).size = l.length := by simp [strB, ByteArray.size]
theorem strB_data (l : List UInt8) : (strB l).data.toList = l := by simp [strB]
theorem strB_cells (l : List UInt8) : Lib.strCells (strB l) = Lib.byteCells l := by rw [Lib.strCells_eq, strB_data]
theorem strB_of (s : ByteArray) : s = strB s.data.toList := by cases s; simp [strB]
theorem BuilderAt.keep {T e : TypeId} {B b : Nat} {p : Value} {bs : List Value} {w w' : World} (h : Lib.BuilderAt T e B b p bs w) (hb : Below w.heap.size w w') : Lib.BuilderAt T e B b p bs w' := by
  obtain ⟨h1, v, h2, h3, h4⟩ := h
  obtain ⟨q, c, rfl⟩ := owns_shape h3
  exact ⟨h1, _, (hb.block _ (lt_of_block h2)).trans h2, owns_keep h3 hb, h4⟩
theorem bytes_append (a b : List UInt8) : Lib.byteCells a ++ Lib.byteCells b = Lib.byteCells (a ++ b) := by simp [Lib.byteCells]
theorem txt_app (a b : List UInt8) : strB a ++ strB b = strB (a ++ b) := by
  rw [strB_of (strB a ++ strB b)]
  congr 1
theorem txt_idx {P : Program} (t : TypeId) (ht : P.underlying t = some .string) {l : List UInt8} {k : Nat} {c : UInt8} (h : l[k]? = some c) (K : IntKind) (z : Int) (hz : z = (k : Int)) (w : World) :
    (Instr.index t (.string (strB l)) (.int K z)).run P w = .ok (B8 c) w := by
  subst hz
  have hk : k < l.length := (List.getElem?_eq_some_iff.1 h).1
  rw [run_index_string w t (strB l) _ _ ht, dif_pos ⟨by omega, by rw [strB_size]; omega⟩]
  have e : ((k : Int)).toNat = k := by omega
  simp only [e]
  have hsz : k < (strB l).size := by rw [strB_size]; exact hk
  have h2 : (strB l)[k]'hsz = c := by
    have h3 : (strB l).data[k]? = some ((strB l)[k]'hsz) := Array.getElem?_eq_getElem hsz
    have h4 : (strB l).data[k]? = some c := by rw [← Array.getElem?_toList, strB_data]; exact h
    rw [h3] at h4; exact Option.some.inj h4
  rw [h2]
theorem txt_emp (l : List UInt8) : (strB l).toList.isEmpty = decide (l = []) := by
  rw [← decide_eq_emptyBytes]
  by_cases h : l = []
  · subst h; rfl
  · have : ¬ strB l = ByteArray.empty := fun e => h (by have := congrArg (fun s : ByteArray => s.data.toList) e; simpa [strB_data] using this)
    rw [decide_eq_false h]; exact decide_eq_false this
end Go.By
namespace Gf
theorem toNat_lt (x : UInt8) : x.toNat < 256 := x.toNat_lt

end Gf
namespace Go.Proofs.YtccaiiigdfieoaaDoor
open Go.RowKit Go.By
end Go.Proofs.YtccaiiigdfieoaaDoor
namespace Go.Proofs.YtccaiiigdfieoaaDoor
open Go.RowKit Go.By
end Go.Proofs.YtccaiiigdfieoaaDoor
namespace Go.Proofs.YtccaiiigdfieoaaDoor
open Go.RowKit Go.By
end Go.Proofs.YtccaiiigdfieoaaDoor
namespace Go.Proofs.YtccaiiigdfieoaaDoor
open Go.RowKit Go.By
theorem info_u8 : (Tryd.prog.info? 5).map (fun i => (i.zero, i.size, i.bytes)) = some (some (.int .u8 0), 1, 1) := by kernel_rfl
end Go.Proofs.YtccaiiigdfieoaaDoor
namespace Go.By
open Go.RowKit
section
variable {w w' : World} {p : Option Addr} {n c : Nat} {xss : List (List UInt8)}
end
theorem calloc {w : World} {a : Addr} {v : Value} {o : Obj} (h : w.cell? a = some v) : (w.alloc o).cell? a = some v := by
  refine (World.cell?_of_block (a := a) ?_).trans h
  have := World.block_lt_of_cell? w _ h
  rw [heap_alloc, if_neg (by omega)]
end Go.By
namespace Go.Proofs.YtccaiiigdfieoaaDoor
open Go.RowKit Go.By
end Go.Proofs.YtccaiiigdfieoaaDoor
namespace Go.Proofs.YtccaiiigdfieoaaDoor
open Go.RowKit Go.By
end Go.Proofs.YtccaiiigdfieoaaDoor
namespace Go.Proofs.YtccaiiigdfieoaaDoor
open Go.RowKit Go.By
end Go.Proofs.YtccaiiigdfieoaaDoor
namespace Go.By
open Go.RowKit
theorem sl_block {α : Type} {enc : α → Value} {W : World} {g T : Nat} {cs : Array Value} {fr : Nat × Nat} (xs : List α) (n : Nat) (hW : W.heap[g]? = some (.cells cs T fr)) (hcs : cs = (xs.map enc).toArray) (hn : xs.length = n) (hm : n ≤ maxLen) : Sl enc W (some ⟨g, 0, none⟩) n n xs := by
  subst hcs
  refine ⟨hn, Nat.le_refl _, hm, fun h => by simp at h, ?_⟩
  intro i hi
  refine ⟨g, 0, rfl, ?_⟩
  rw [Nat.zero_add, cell_of_row _ _ i _ T fr hW]
  simp [hi]
/-- one call more -/
theorem bl {B : Nat} {w0 w1 w2 : World} (h : Below B w0 w1) (h2 : Below w1.heap.size w1 w2) (hB : B ≤ w1.heap.size) : Below B w0 w2 := h.trans (h2.mono hB)
theorem al {B : Nat} {w0 w1 : World} {o : Obj} (h : Below B w0 w1) (hB : B ≤ w1.heap.size) : Below B w0 (w1.alloc o) := h.alloc hB o
end Go.By
namespace Go.Proofs.YtccaiiigdfieoaaDoor
open Go.RowKit Go.By
end Go.Proofs.YtccaiiigdfieoaaDoor
namespace Gf
end Gf
namespace Go.Proofs.YtccaiiigdfieoaaDoor
open Go.RowKit Go.By
end Go.Proofs.YtccaiiigdfieoaaDoor
namespace Go.Proofs.YtccaiiigdfieoaaDoor
open Go.RowKit Go.By
theorem eq_of_pref {xs ys : List UInt8} {k : Nat} (h1 : xs.length = k) (h2 : ys.length = k) (h : ∀ j : Nat, j < k → xs[j]? = ys[j]?) : xs = ys := by
  apply List.ext_getElem?
  intro j
  by_cases hj : j < k
  · exact h j hj
  · rw [List.getElem?_eq_none (by omega), List.getElem?_eq_none (by omega)]
theorem u8_ne {x y : UInt8} (h : x ≠ y) : (((x.toNat : Int) != (y.toNat : Int)) = true) := by
  rw [bne_iff_ne]; intro e; exact h (UInt8.toNat_inj.1 (by omega))
theorem u8_eq (x : UInt8) : (((x.toNat : Int) != (x.toNat : Int)) = false) := by simp
set_option maxHeartbeats 400000 in
theorem Same_d (p1 p2 : Option Addr) (n1 n2 c1 c2 : Nat) (xs ys : List UInt8) (w : World) (h1 : Sl B8 w p1 n1 c1 xs) (h2 : Sl B8 w p2 n2 c2 ys) :
    Calls Tryd.prog 16 #[.slice p1 n1 c1, .slice p2 n2 c2] w fun e w' => e = .returned (.bool (decide (xs = ys))) ∧ ∃ q, w' = w.drewN q := by
  have b1 := h1.bound; have b2 := h2.bound
  by_cases he : n1 = n2
  · obtain rfl := he
    have H1 := Lib.hid h1; have H2 := Lib.hid h2; clear h1 h2
    go_enter Tryd.func16, Tryd.ntmps16
    go_wp2
    go_loopw [5] (fun i wr => ∃ k q : Nat, k ≤ n1 ∧ i = .int .i64 k ∧ wr = w.drewN q ∧ Hid (∀ j : Nat, j < k → xs[j]? = ys[j]?)) (fun i _ => n1 - (intOf i).toNat)
    case atStart => exact ⟨0, 0, Nat.zero_le _, rfl, rfl, fun j hj => by omega⟩
    case round =>
      obtain ⟨k, q, hk, rfl, rfl, hj⟩ := hrel
      by_cases hlt : k < n1
      · obtain ⟨b, o, x, rfl, hc, hx⟩ := H1.out.at k hlt
        obtain ⟨b', o', y, rfl, hc', hy⟩ := H2.out.at k hlt
        have i1 : (k : Int) < (n1 : Int) := by omega
        by_cases hxy : x = y
        · subst hxy
          have ht := u8_eq x
          go_wp2
          go_quiet (fail)
          go_wp2
          go_roundw
          case rel => exact ⟨k + 1, _, by omega, by go_num, rfl, fun j hj' => by
            by_cases e : j = k
            · subst e; exact hx.out.trans hy.out.symm
            · exact hj.out j (by omega)⟩
          case measure => simp [intOf]; omega
        · have ht := u8_ne hxy
          have HN := Lib.hid hxy; clear hxy
          go_wp2
          go_quiet (fail)
          go_wp2
          go_ret
          refine ⟨?_, _, by rw [World.drewN_drewN]⟩
          have : ¬ xs = ys := by rintro rfl; exact HN.out (Option.some.inj (hx.out.symm.trans hy.out))
          simp [this]
      · go_wp2
        go_ret
        refine ⟨?_, q, rfl⟩
        have : xs = ys := eq_of_pref (k := k) (by have := H1.out.len; omega) (by have := H2.out.len; omega) hj.out
        simp [this]
  · have hne : ((n1 : Int) != (n2 : Int)) = true := by simp; omega
    have HN : Hid (decide (xs = ys) = false) := by
      simp only [Hid, decide_eq_false_iff_not]; rintro rfl; exact he (h1.len.symm.trans h2.len)
    clear h1 h2
    go_enter Tryd.func16, Tryd.ntmps16
    go_wp2
    go_ret
    exact ⟨by rw [HN.out]; rfl, 0, rfl⟩
theorem below_drewN (w : World) (q : Nat) : Below w.heap.size w (w.drewN q) := ⟨rfl, rfl, rfl, Nat.le_refl _, fun _ _ => rfl⟩
end Go.Proofs.YtccaiiigdfieoaaDoor
namespace Go.Proofs.YtccaiiigdfieoaaDoor
open Go.RowKit Go.By
end Go.Proofs.YtccaiiigdfieoaaDoor
namespace Go.Proofs.YtccaiiigdfieoaaDoor
open Go.RowKit Go.By
end Go.Proofs.YtccaiiigdfieoaaDoor
namespace Go.Proofs.YtccaiiigdfieoaaDoor
open Go.RowKit Go.By
theorem bdn {B : Nat} {a w : World} (h : Below B a w) {n : Nat} : Below B a (w.drewN n) := ⟨h.os, h.tape, h.output, h.size, h.block⟩
end Go.Proofs.YtccaiiigdfieoaaDoor
namespace Go.Proofs.YtccaiiigdfieoaaDoor
end Go.Proofs.YtccaiiigdfieoaaDoor
namespace Go.By
open Go.RowKit
/-- a slot of the frame -/
def sl (a : Act) (t : Nat) : Value := a.tmps.getD t undef
section
variable {P : Program} {ops : Array Oper} {Q : Exit → Act → World → Prop}
end
end Go.By
namespace Go.By
open Go.RowKit
section
variable {T2 T1 : TypeId} {w w' : World} {base n : Nat} {v : Value} {xss : List (List UInt8)}
theorem owns_keepv {e size : Nat} {ys : List Value} (h : w.ownsRow base e size v n ys) (hb : Below w.heap.size w w') : w'.ownsRow base e size v n ys := by
  obtain ⟨q, c, rfl⟩ := owns_shape h
  exact owns_keep h hb
end
end Go.By
namespace Go.By
open Go.RowKit
/-- an operation that gives a value -/
theorem wp_val {P : Program} {o : Oper} {a : Act} {w : World} {K : Act → World → Prop} {Q : Exit → Act → World → Prop} (v : Value) (hrun : (execOp a.eval o).run P w = .ok (.value v) w) (h : K (a.put o.dst v) w) : o.wp P a w K Q := by
  unfold Oper.wp; rw [hrun]; exact h
end Go.By
namespace Go.By
open Go.RowKit
section
variable {B X : Nat} {w w' : World}
end
section
variable (B X : Nat)
end
end Go.By
namespace Go.By
open Go.RowKit
end Go.By
namespace Go.By
open Go.RowKit
end Go.By
namespace Go.By
open Go.RowKit
end Go.By
namespace Go.By
open Go.RowKit
end Go.By
namespace Go.By
end Go.By
namespace Go.By
end Go.By
namespace Go.Proofs.YtccaiiigdfieoaaDoor
open Go.RowKit Go.By
end Go.Proofs.YtccaiiigdfieoaaDoor
namespace Go.By
open Go.RowKit
end Go.By
namespace Go.Proofs.YtccaiiigdfieoaaDoor
open Go.RowKit Go.By
end Go.Proofs.YtccaiiigdfieoaaDoor
namespace Go.Proofs.YtccaiiigdfieoaaDoor
open Go.RowKit Go.By
end Go.Proofs.YtccaiiigdfieoaaDoor
namespace Go.By
open Go.RowKit
theorem cells_three {w : World} {b T : Nat} {u v x : Value} (h : w.heap[b]? = some (.cells #[u, v, x] T (0, 0))) : w.cell? ⟨b, 0, none⟩ = some u ∧ w.cell? ⟨b, 1, none⟩ = some v ∧ w.cell? ⟨b, 2, none⟩ = some x :=
  ⟨cell_of_row _ _ 0 _ _ _ h, cell_of_row _ _ 1 _ _ _ h, cell_of_row _ _ 2 _ _ _ h⟩
theorem below_row {B g : Nat} {a w : World} {cs : Array Value} (h : Below B a w) (hg : B ≤ g) : Below B a (w.setRow g cs) := by
  refine ⟨h.os, h.tape, h.output, ?_, fun i hi => ?_⟩
  · have := h.size; simpa [World.setRow] using this
  · rw [← h.block i hi]
    simp only [World.setRow, Array.getElem?_modify]
    rw [if_neg (by omega)]
theorem cell_setRow {w : World} {b o g : Nat} {v : Value} {cs : Array Value} (h : w.cell? ⟨b, o, none⟩ = some v) (hne : b ≠ g) : (w.setRow g cs).cell? ⟨b, o, none⟩ = some v := by
  refine (World.cell?_of_block (a := ⟨b, o, none⟩) ?_).trans h
  simp only [World.setRow, Array.getElem?_modify]
  rw [if_neg (by omega)]
theorem sl_setRow {α : Type} {enc : α → Value} {w : World} {p : Option Addr} {n c g : Nat} {xs : List α} {cs : Array Value} (h : Sl enc w p n c xs) (hne : ∀ a, p = some a → a.block ≠ g) : Sl enc (w.setRow g cs) p n c xs :=
  ⟨h.len, h.le, h.max, h.nil, fun i hi => by
    obtain ⟨b, o, e, hc⟩ := h.rs i hi
    exact ⟨b, o, e, cell_setRow hc (hne _ e)⟩⟩
/-- a slice in blocks not below B -/
def NewP (B : Nat) (q : Option Addr) : Prop := ∀ a, q = some a → B ≤ a.block
/-- a slice that reads as xs, in a block of type T, not below B -/
structure Fresh (T : TypeId) (B : Nat) (w : World) (q : Option Addr) (n c : Nat) (xs : List UInt8) : Prop where
  sl : Sl B8 w q n c xs
  new : NewP B q
  ty : ∀ a, q = some a → ∃ cs fr, w.heap[a.block]? = some (.cells cs T fr)
theorem Fresh.of_owns {T : TypeId} {B : Nat} {w : World} {q : Option Addr} {n c : Nat} {xs : List UInt8} (h : w.ownsRow B T 1 (.slice q n c) n (xs.map B8)) : Fresh T B w q n c xs := by
  refine ⟨Sl.of_owns h, fun a ha => (owns_new h a ha).1, fun a ha => ?_⟩
  rcases h.2 with ⟨h2, _⟩ | ⟨g, cap, cur, hv, _, hh, _⟩
  · subst ha; cases h2
  · subst ha; cases hv; exact ⟨_, _, hh⟩
theorem Fresh.none (T : TypeId) (B : Nat) (w : World) : Fresh T B w none 0 0 [] := ⟨Sl.nil0 _ _, fun a ha => (by cases ha), fun a ha => (by cases ha)⟩
theorem Fresh.keep {T : TypeId} {B : Nat} {w w' : World} {q : Option Addr} {n c : Nat} {xs : List UInt8} (h : Fresh T B w q n c xs) (hb : Below w.heap.size w w') : Fresh T B w' q n c xs :=
  ⟨h.sl.keep hb, h.new, fun a ha => by obtain ⟨cs, fr, e⟩ := h.ty a ha; exact ⟨cs, fr, (hb.block _ (lt_of_block e)).trans e⟩⟩
theorem Fresh.mono {T : TypeId} {B B' : Nat} {w : World} {q : Option Addr} {n c : Nat} {xs : List UInt8} (h : Fresh T B w q n c xs) (hB : B' ≤ B) : Fresh T B' w q n c xs := ⟨h.sl, fun a ha => Nat.le_trans hB (h.new a ha), h.ty⟩
theorem Fresh.row {T T' : TypeId} {B g : Nat} {w : World} {q : Option Addr} {n c : Nat} {xs : List UInt8} {cs old : Array Value} {fr : Nat × Nat} (h : Fresh T B w q n c xs) (hg : w.heap[g]? = some (.cells old T' fr)) (hne : T' ≠ T) : Fresh T B (w.setRow g cs) q n c xs := by
  have hd : ∀ a, q = some a → a.block ≠ g := fun a ha e => by
    obtain ⟨c2, f2, e2⟩ := h.ty a ha
    rw [e, hg] at e2
    injection e2 with e2
    injection e2 with _ e3 _
    exact hne e3
  exact ⟨sl_setRow h.sl hd, h.new, fun a ha => by obtain ⟨c2, f2, e2⟩ := h.ty a ha; exact ⟨c2, f2, hro e2 (hd a ha)⟩⟩
/-- what follows new blocks -/
theorem one_of {w w1 : World} {A : Obj} (hb : Below (w.alloc A).heap.size (w.alloc A) w1) : Below w.heap.size w w1 ∧ w1.heap[w.heap.size]? = some A ∧ w.heap.size + 1 ≤ w1.heap.size :=
  ⟨(al (Below.refl _ _) (Nat.le_refl _)).trans (hb.mono (by simp)), (hb.block _ (by simp)).trans (hnew rfl), by have := hb.size; simpa using this⟩
theorem two_of {w w1 : World} {A B : Obj} (hb : Below ((w.alloc A).alloc B).heap.size ((w.alloc A).alloc B) w1) : Below w.heap.size w w1 ∧ w1.heap[w.heap.size]? = some A ∧ w1.heap[w.heap.size + 1]? = some B ∧ w.heap.size + 2 ≤ w1.heap.size :=
  ⟨(al (al (Below.refl _ _) (Nat.le_refl _)) (by simp)).trans (hb.mono (by simp; omega)), (hb.block _ (by simp; omega)).trans (hal (hnew rfl)), (hb.block _ (by simp)).trans (hnew (by simp)), by have := hb.size; simp at this; omega⟩
/-- s[k:] -/
theorem Sl.tail {α : Type} {enc : α → Value} {w : World} {b o n c : Nat} {xs : List α} (k : Nat) (h : Sl enc w (some ⟨b, o, none⟩) n c xs) (hk : k ≤ n) : Sl enc w (if c = k then some ⟨b, o, none⟩ else some ⟨b, o + k, none⟩) (n - k) (c - k) (xs.drop k) := by
  have h1 := h.len; have h2 := h.le; have h3 := h.max
  refine ⟨by simp; omega, by omega, by omega, fun hp => (by split at hp <;> cases hp), ?_⟩
  intro i hi
  simp at hi
  rw [if_neg (by omega)]
  obtain ⟨b', o', e, hc⟩ := h.rs (k + i) (by omega)
  cases e
  refine ⟨_, _, rfl, ?_⟩
  rw [Nat.add_assoc, hc]
  simp
theorem Sl.has {α : Type} {enc : α → Value} {w : World} {p : Option Addr} {n c : Nat} {xs : List α} (h : Sl enc w p n c xs) (hn : 0 < n) : ∃ b o, p = some ⟨b, o, none⟩ ∧ b < w.heap.size := h.rs.lt (by rw [h.len]; exact hn)
theorem Fresh.block {T B g n : Nat} {w : World} {fr : Nat × Nat} {xs : List UInt8} (h : w.heap[g]? = some (.cells (xs.map B8).toArray T fr)) (hl : xs.length = n) (hn : n ≤ maxLen) (hg : B ≤ g) : Fresh T B w (some ⟨g, 0, Option.none⟩) n n xs :=
  ⟨sl_block xs n h rfl hl hn, fun a ha => by cases ha; exact hg, fun a ha => by cases ha; exact ⟨_, _, h⟩⟩
theorem res_ct {P : Program} {fn : Func} {p u : Tmp} {ty : TypeId} (h : fn.results = #[.cell p ty, .tmp u]) (tmps : Array Value) (w : World) (g : Nat) (t : TypeId) (cs : Array Value) (fr : Nat × Nat) (d : TypeDesc) (v : Value)
    (hp : tmps.getD p undef = .pointer (some ⟨g, 0, none⟩)) (hg : w.heap[g]? = some (.cells cs t fr)) (hv : tmps.getD u undef = v)
    (hu : P.underlying ty = some d) (hd : (match d with | .struct _ | .array _ _ => true | _ => false) = true) (hi : (P.info? ty).map (·.size) = some cs.size) :
    (results fn tmps).run P w = .ok (.tuple #[.agg cs, v]) w := by
  have hp' : tmps[p]?.getD undef = .pointer (some ⟨g, 0, none⟩) := by simpa using hp
  have hv' : tmps[u]?.getD undef = v := by simpa using hv
  simp [results, h, hp', hv', asAddr, run_loadVar_row w g t ty cs fr d hg hu hd hi]
end Go.By
namespace Go.By
open Go.Lib
/-- the first word, and what is behind the sign -/
def cutW (c : UInt8) : List UInt8 → List UInt8 × Option (List UInt8)
  | [] => ([], none)
  | b :: l => if b = c then ([], some l) else (b :: (cutW c l).1, (cutW c l).2)
/-- the words, cut at k signs at most -/
def spl (c : UInt8) : Nat → List UInt8 → List (List UInt8)
  | 0, s => [s]
  | k + 1, s => match (cutW c s).2 with
    | none => [s]
    | some r => (cutW c s).1 :: spl c k r
theorem cutW_none {c : UInt8} : ∀ {s : List UInt8}, (cutW c s).2 = none → (cutW c s).1 = s ∧ index s [c] = -1
  | [], _ => ⟨rfl, by simp [index]⟩
  | b :: l, h => by
    unfold cutW at h ⊢
    by_cases hb : b = c
    · rw [if_pos hb] at h; simp at h
    · rw [if_neg hb] at h ⊢
      obtain ⟨e1, e2⟩ := cutW_none h
      refine ⟨by rw [e1], ?_⟩
      have hp : ([c] : List UInt8).isPrefixOf (b :: l) = false := by simp [List.isPrefixOf, Ne.symm hb]
      rw [index, hp, e2]; simp
theorem cutW_some {c : UInt8} : ∀ {s r : List UInt8}, (cutW c s).2 = some r → ∃ i : Nat, index s [c] = (i : Int) ∧ s.take i = (cutW c s).1 ∧ s.drop (i + 1) = r ∧ i < s.length
  | [], _, h => by simp [cutW] at h
  | b :: l, r, h => by
    unfold cutW at h ⊢
    by_cases hb : b = c
    · rw [if_pos hb] at h ⊢
      subst hb
      exact ⟨0, by rw [index]; simp [List.isPrefixOf], rfl, by simpa using h, by simp⟩
    · rw [if_neg hb] at h ⊢
      obtain ⟨i, e1, e2, e3, e4⟩ := cutW_some h
      have hp : ([c] : List UInt8).isPrefixOf (b :: l) = false := by simp [List.isPrefixOf, Ne.symm hb]
      have hi : ¬ ((i : Int) == -1) = true := fun e => by have := beq_iff_eq.1 e; omega
      refine ⟨i + 1, ?_, by rw [List.take_succ_cons, e2], by rw [List.drop_succ_cons, e3], by simp; omega⟩
      rw [index, hp, e1]
      rw [if_neg (by simp), if_neg hi]; rfl
theorem splitK_spl (c : UInt8) : ∀ (k : Nat) (s : List UInt8), splitK [c] 0 k s = spl c k s
  | 0, _ => rfl
  | k + 1, s => by
    unfold splitK spl
    cases h : (cutW c s).2 with
    | none =>
      have e := (cutW_none h).2
      rw [if_pos (by rw [e]; rfl)]
    | some r =>
      obtain ⟨i, e1, e2, e3, _⟩ := cutW_some h
      have hi : ¬ ((i : Int) == -1) = true := fun e => by have := beq_iff_eq.1 e; omega
      rw [e1, if_neg hi]
      show s.take (i + 0) :: splitK [c] 0 k (s.drop (i + 1)) = _
      rw [Nat.add_zero, e2, e3, splitK_spl c k r]
theorem cutW_len {c : UInt8} {s r : List UInt8} (h : (cutW c s).2 = some r) : r.length + 1 ≤ s.length := by
  obtain ⟨i, _, _, e3, e4⟩ := cutW_some h
  rw [← e3, List.length_drop]; omega
theorem spl_min (c : UInt8) : ∀ (k : Nat) (s : List UInt8), spl c k s = spl c (min k s.length) s
  | 0, s => by rw [Nat.zero_min]
  | k + 1, s => by
    by_cases h0 : s.length = 0
    · have : s = [] := List.length_eq_zero_iff.1 h0
      subst this; simp [spl, cutW]
    · obtain ⟨m, hm⟩ : ∃ m, s.length = m + 1 := ⟨s.length - 1, by omega⟩
      rw [hm, Nat.add_min_add_right]
      unfold spl
      cases h : (cutW c s).2 with
      | none => rfl
      | some r =>
        have hr := cutW_len h
        simp only
        congr 1
        rw [spl_min c k r, spl_min c (min k m) r]
        congr 1
        omega
theorem spl_len (c : UInt8) : ∀ (k : Nat) (s : List UInt8), 1 ≤ (spl c k s).length ∧ (spl c k s).length ≤ k + 1
  | 0, _ => by simp [spl]
  | k + 1, s => by
    unfold spl
    cases h : (cutW c s).2 with
    | none => simp
    | some r => have := spl_len c k r; simp; omega
theorem spl_none {c : UInt8} {k : Nat} {s : List UInt8} (h : (cutW c s).2 = none) : spl c k s = [s] := by
  cases k with
  | zero => rfl
  | succ k => unfold spl; rw [h]
theorem spl_some {c : UInt8} {k : Nat} {s r : List UInt8} (h : (cutW c s).2 = some r) : spl c (k + 1) s = (cutW c s).1 :: spl c k r := by
  conv => lhs; unfold spl
  rw [h]
/-- decimal digits -/
def isDig (b : UInt8) : Bool := decide (48 ≤ b.toNat) && decide (b.toNat ≤ 57)
def decV (acc : Nat) (l : List UInt8) : Nat := l.foldl (fun a b => 10 * a + (b.toNat - 48)) acc
theorem decV_cons (a : Nat) (b : UInt8) (l : List UInt8) : decV a (b :: l) = decV (10 * a + (b.toNat - 48)) l := List.foldl_cons ..
/-- may it be a number? -/
def numG (w : List UInt8) : Bool := decide (w ≠ []) && !(decide (1 < w.length) && decide (w.head? = some 48)) && w.all isDig
def numB (M : Nat) (w : List UInt8) : Option Nat := if numG w = true ∧ decV 0 w ≤ M then some (decV 0 w) else none
theorem decV_append (l m : List UInt8) (a : Nat) : decV a (l ++ m) = decV (decV a l) m := List.foldl_append ..
theorem decV_le : ∀ (l : List UInt8) (a : Nat), a ≤ decV a l
  | [], _ => Nat.le_refl _
  | c :: l, a => by rw [decV_cons]; exact Nat.le_trans (by omega) (decV_le l _)
theorem numG_dig {w : List UInt8} (h : numG w = true) : ∀ b ∈ w, isDig b = true := by
  unfold numG at h
  simp only [Bool.and_eq_true] at h
  exact List.all_eq_true.1 h.2
theorem isDig_le {b : UInt8} (h : isDig b = true) : 48 ≤ b.toNat ∧ b.toNat ≤ 57 := by
  unfold isDig at h; simpa using h
end Go.By
namespace Go.Proofs.YtccaiiigdfieoaaDoor
/-- a digit of base 16 -/
def dgt (x : Nat) : UInt8 := if x < 10 then UInt8.ofNat (48 + x) else UInt8.ofNat (87 + x)
/-- two digits of each byte -/
def hexL (l : List UInt8) : List UInt8 := l.flatMap fun b => [dgt (b.toNat / 16), dgt (b.toNat % 16)]
/-- the value of a digit; 16: it is none -/
def valD (c : UInt8) : Nat := if 48 ≤ c.toNat ∧ c.toNat ≤ 57 then c.toNat - 48 else if 97 ≤ c.toNat ∧ c.toNat ≤ 102 then c.toNat - 87 else 16
/-- the bytes that digits say, two by two -/
def unhexP : List UInt8 → Option (List UInt8)
  | [] => some []
  | [_] => none
  | a :: b :: l => if valD a < 16 ∧ valD b < 16 then (unhexP l).map (UInt8.ofNat (16 * valD a + valD b) :: ·) else none
theorem unhexP_two (a b : UInt8) (l : List UInt8) : unhexP (a :: b :: l) = if valD a < 16 ∧ valD b < 16 then (unhexP l).map (UInt8.ofNat (16 * valD a + valD b) :: ·) else none := rfl
theorem unhexP_odd : ∀ (n : Nat) {s : List UInt8}, s.length ≤ n → s.length % 2 = 1 → unhexP s = none
  | _, [], _, h => by simp at h
  | _, [_], _, _ => rfl
  | 0, a :: b :: s, hn, _ => by simp at hn
  | n + 1, a :: b :: s, hn, h => by
    rw [unhexP_two, unhexP_odd n (s := s) (by simp at hn; omega) (by simp at h; omega)]
    split <;> rfl
/-- a step of the reading: what is known of the front -/
def UnhexAt (s : List UInt8) (i : Nat) (out : List UInt8) : Prop := unhexP s = (unhexP (s.drop i)).map (out ++ ·)
theorem UnhexAt.zero (s : List UInt8) : UnhexAt s 0 [] := by
  show unhexP s = (unhexP s).map _
  cases unhexP s <;> rfl
theorem drop_two {s : List UInt8} {i : Nat} {a b : UInt8} (ha : s[i]? = some a) (hb : s[i + 1]? = some b) : s.drop i = a :: b :: s.drop (i + 2) := by
  obtain ⟨h1, e1⟩ := List.getElem?_eq_some_iff.1 ha
  obtain ⟨h2, e2⟩ := List.getElem?_eq_some_iff.1 hb
  rw [List.drop_eq_getElem_cons h1, List.drop_eq_getElem_cons h2, e1, e2]
theorem UnhexAt.next {s out : List UInt8} {i : Nat} {a b : UInt8} (h : UnhexAt s i out) (ha : s[i]? = some a) (hb : s[i + 1]? = some b) (h1 : valD a < 16) (h2 : valD b < 16) : UnhexAt s (i + 2) (out ++ [UInt8.ofNat (16 * valD a + valD b)]) := by
  unfold UnhexAt at h ⊢
  rw [h, drop_two ha hb, unhexP_two, if_pos ⟨h1, h2⟩, Option.map_map]
  congr 1
  funext x
  simp
theorem UnhexAt.bad {s out : List UInt8} {i : Nat} {a b : UInt8} (h : UnhexAt s i out) (ha : s[i]? = some a) (hb : s[i + 1]? = some b) (h1 : ¬ (valD a < 16 ∧ valD b < 16)) : unhexP s = none := by
  unfold UnhexAt at h
  rw [h, drop_two ha hb, unhexP_two, if_neg h1]; rfl
theorem UnhexAt.done {s out : List UInt8} {i : Nat} (h : UnhexAt s i out) (hi : s.length ≤ i) : unhexP s = some out := by
  unfold UnhexAt at h
  rw [h, List.drop_eq_nil_of_le hi]
  show some (out ++ []) = _
  rw [List.append_nil]
end Go.Proofs.YtccaiiigdfieoaaDoor
namespace Go.Proofs.YtccaiiigdfieoaaDoor
open Go.RowKit Go.By
end Go.Proofs.YtccaiiigdfieoaaDoor
namespace Go.By
open Go.RowKit
theorem one_cellI {w : World} {v : Value} {T g : Nat} (hg : g = w.heap.size) : ∀ (j : Nat) (u : Value), [v][j]? = some u → (w.alloc (.cells #[v] T)).cell? ((⟨g, 0, none⟩ : Addr).add j) = some u := by
  intro j u hj
  rw [Addr.add_lit, Nat.zero_add, cell_of_row _ _ j _ _ _ (hnew hg)]
  match j with
  | 0 => simpa using hj
  | j + 1 => simp at hj
end Go.By
namespace Go.Proofs.YtccaiiigdfieoaaDoor
open Go.RowKit Go.By
def OptB (w : World) (r : Option (List UInt8)) (e : Ending) (w' : World) : Prop := ∃ q n c, e = .returned (.tuple #[.slice q n c, .bool r.isSome]) ∧ Fresh 5 w.heap.size w' q n c (r.getD []) ∧ Below w.heap.size w w'
theorem OptB.no {w w' : World} {r : Option (List UInt8)} (h : r = none) (hb : Below w.heap.size w w') : OptB w r (.returned (.tuple #[.slice none 0 0, .bool false])) w' := by subst h; exact ⟨none, 0, 0, rfl, Fresh.none _ _ _, hb⟩
theorem OptB.yes {w w' : World} {r : Option (List UInt8)} {xs : List UInt8} {q : Option Addr} {n c : Nat} (h : r = some xs) (ho : w'.ownsRow w.heap.size 5 1 (.slice q n c) n (xs.map B8)) (hb : Below w.heap.size w w') : OptB w r (.returned (.tuple #[.slice q n c, .bool true])) w' := by subst h; exact ⟨q, n, c, rfl, Fresh.of_owns ho, hb⟩
end Go.Proofs.YtccaiiigdfieoaaDoor
namespace Go.Proofs.YtccaiiigdfieoaaDoor
open Go.By Go.Lib
structure Cmd where
  word : List UInt8
  nums : List Nat
  bytes : List UInt8
def noCmd : Cmd := ⟨[], [], []⟩
/-- the words, how many numbers are behind each, and whether bytes -/
def formsL : List (List UInt8 × Nat × Bool) := [([98, 101, 103, 105, 110], 2, true), ([114, 111, 119], 0, true), ([102, 111, 114, 103, 101], 0, true), ([115, 97, 121], 0, true), ([115, 101, 101, 100], 1, false), ([115, 107, 105, 112], 1, false), ([100, 114, 111, 112], 1, false), ([100, 111, 117, 98, 108, 101], 1, false), ([97, 114, 114, 105, 118, 101], 1, false), ([104, 101, 97, 114], 1, false), ([99, 111, 117, 110, 116], 1, false), ([109, 111, 118, 101], 2, false), ([99, 117, 116], 2, false), ([109, 97, 115, 107], 3, false), ([115, 116, 97, 116, 117, 115], 0, false), ([115, 104, 111, 119], 0, false), ([109, 97, 112], 0, false)]
def formS (w : List UInt8) : Option (Nat × Bool) := (formsL.find? (fun f => decide (f.1 = w))).map (·.2)
theorem formS_mem {w : List UInt8} {f : Nat × Bool} (h : formS w = some f) : (w, f) ∈ formsL := by
  unfold formS at h
  obtain ⟨g, hg, rfl⟩ := Option.map_eq_some_iff.1 h
  have h1 := List.find?_some hg
  have h2 := List.mem_of_find?_eq_some hg
  have h3 : g.1 = w := by simpa using h1
  rw [← h3]; exact h2
theorem forms_plain : ∀ p ∈ formsL, (∀ b ∈ p.1, b ≠ 32 ∧ b ≠ 10) ∧ p.2.1 ≤ 3 ∧ p.1.length ≤ 7 ∧ p.1 ≠ [] := by decide
/-- numbers of words -/
def numsP : List (List UInt8) → Option (List Nat)
  | [] => some []
  | a :: l => (numB 18446744073709551615 a).bind fun x => (numsP l).map (x :: ·)
theorem numsP_cons (a : List UInt8) (l : List (List UInt8)) : numsP (a :: l) = (numB 18446744073709551615 a).bind fun x => (numsP l).map (x :: ·) := rfl
def bytesP (w : List UInt8) : Option (List UInt8) := if w = [45] then some [] else if w = [] then none else unhexP w
def bytesW (l : List UInt8) : List UInt8 := if l = [] then [45] else hexL l
def partsP (s : List UInt8) : List (List UInt8) := spl 32 s.length s
def readP (s : List UInt8) : Int × Cmd :=
  match formS ((partsP s).getD 0 []) with
  | none => (20, noCmd)
  | some (k, b) => if (partsP s).length ≠ 1 + k + b.toNat then (14, noCmd) else match numsP (((partsP s).drop 1).take k) with
    | none => (14, noCmd)
    | some ns => if b = true then (match bytesP ((partsP s).getD (k + 1) []) with
      | none => (14, noCmd)
      | some l => (0, ⟨(partsP s).getD 0 [], ns, l⟩)) else (0, ⟨(partsP s).getD 0 [], ns, []⟩)
/-- words and the blanks between them -/
def joinW : List (List UInt8) → List UInt8
  | [] => []
  | [a] => a
  | a :: b :: l => a ++ 32 :: joinW (b :: l)
theorem joinW_cons (a : List UInt8) {l : List (List UInt8)} (h : l ≠ []) : joinW (a :: l) = a ++ 32 :: joinW l := by
  cases l with
  | nil => exact absurd rfl h
  | cons b l => rfl
theorem joinW_snoc : ∀ {l : List (List UInt8)} (x : List UInt8), l ≠ [] → joinW (l ++ [x]) = joinW l ++ 32 :: x
  | [a], x, _ => rfl
  | a :: b :: l, x, _ => by
    rw [show a :: b :: l ++ [x] = a :: (b :: l ++ [x]) from rfl, joinW_cons a (by simp), joinW_snoc x (by simp : b :: l ≠ []), joinW_cons a (by simp)]
    simp
/-- a command's words -/
def wordsP (c : Cmd) : List (List UInt8) := c.word :: (c.nums.map decDigits ++ (match formS c.word with
  | some (_, true) => [bytesW c.bytes]
  | _ => []))
def bodyP (c : Cmd) : List UInt8 := joinW (wordsP c)
def lineP (c : Cmd) : List UInt8 := bodyP c ++ [10]
def checkP (c : Cmd) : Int := match formS c.word with
  | none => 20
  | some (k, b) => if c.nums.length ≠ k ∨ (b = false ∧ c.bytes ≠ []) then 14 else 0
/-- a script's commands: line by line, from line n on, those so far being acc -/
def runS : Nat → List UInt8 → Nat → List Cmd → List Cmd × Nat × Int
  | 0, _, _, acc => (acc, 0, 0)
  | f + 1, s, n, acc => if s = [] then (acc, 0, 0) else match (cutW 10 s).2 with
    | none => ([], n, if (readP (cutW 10 s).1).1 = 0 then 14 else (readP (cutW 10 s).1).1)
    | some r => if (readP (cutW 10 s).1).1 ≠ 0 then ([], n, (readP (cutW 10 s).1).1) else runS f r (n + 1) (acc ++ [(readP (cutW 10 s).1).2])
theorem runS_nil (f n : Nat) (acc : List Cmd) : runS f [] n acc = (acc, 0, 0) := by
  cases f with
  | zero => rfl
  | succ f => unfold runS; rw [if_pos rfl]
theorem runS_fuel : ∀ {f g : Nat} {s : List UInt8} {n : Nat} {acc : List Cmd}, s.length ≤ f → s.length ≤ g → runS f s n acc = runS g s n acc
  | 0, g, s, n, acc, h, _ => by
    have : s = [] := List.length_eq_zero_iff.1 (by omega)
    subst this; rw [runS_nil, runS_nil]
  | f + 1, 0, s, n, acc, _, h => by
    have : s = [] := List.length_eq_zero_iff.1 (by omega)
    subst this; rw [runS_nil, runS_nil]
  | f + 1, g + 1, s, n, acc, h1, h2 => by
    unfold runS
    split
    · rfl
    · cases h : (cutW 10 s).2 with
      | none => rfl
      | some r =>
        have := cutW_len h
        simp only
        split
        · rfl
        · exact runS_fuel (by omega) (by omega)
theorem runS_none {f n : Nat} {s : List UInt8} {acc : List Cmd} (hf : s.length ≤ f) (hne : s ≠ []) (h : (cutW 10 s).2 = none) : runS f s n acc = ([], n, if (readP (cutW 10 s).1).1 = 0 then 14 else (readP (cutW 10 s).1).1) := by
  cases f with
  | zero => exact absurd (List.length_eq_zero_iff.1 (by omega)) hne
  | succ f => unfold runS; rw [if_neg hne, h]
theorem runS_some {f n : Nat} {s r : List UInt8} {acc : List Cmd} (hf : s.length ≤ f) (hne : s ≠ []) (h : (cutW 10 s).2 = some r) : runS f s n acc = if (readP (cutW 10 s).1).1 ≠ 0 then ([], n, (readP (cutW 10 s).1).1) else runS f r (n + 1) (acc ++ [(readP (cutW 10 s).1).2]) := by
  cases f with
  | zero => exact absurd (List.length_eq_zero_iff.1 (by omega)) hne
  | succ f =>
    have := cutW_len h
    conv => lhs; unfold runS
    rw [if_neg hne, h]
    simp only
    split
    · rfl
    · exact runS_fuel (by omega) (by omega)
def scriptP (s : List UInt8) : List Cmd × Nat × Int := runS s.length s 1 []
def printP (cs : List Cmd) : List UInt8 := cs.flatMap lineP
theorem printP_cons (c : Cmd) (cs : List Cmd) : printP (c :: cs) = lineP c ++ printP cs := rfl
/-- a command that may be -/
def GoodC (c : Cmd) : Prop := checkP c = 0 ∧ ∀ x ∈ c.nums, x ≤ 18446744073709551615
/-- the first code that isn't 0 -/
def codeP : List Cmd → Int
  | [] => 0
  | c :: cs => if checkP c ≠ 0 then checkP c else codeP cs
theorem codeP_of_good : ∀ {cs : List Cmd}, (∀ c ∈ cs, checkP c = 0) → codeP cs = 0
  | [], _ => rfl
  | d :: cs, h => by
    unfold codeP
    rw [if_neg (by rw [h d (by simp)]; simp)]
    exact codeP_of_good fun c hc => h c (by simp [hc])
end Go.Proofs.YtccaiiigdfieoaaDoor
namespace Go.Proofs.YtccaiiigdfieoaaDoor
open Go.By Go.Lib
/-- all pieces of a text between signs -/
def splA (c : UInt8) (s : List UInt8) : List (List UInt8) := spl c s.length s
theorem spl_more {c : UInt8} {k : Nat} {s : List UInt8} (h : s.length ≤ k) : spl c k s = splA c s := by
  rw [spl_min, Nat.min_eq_right h]; rfl
theorem splA_ne (c : UInt8) (s : List UInt8) : splA c s ≠ [] := fun e => by
  have := (spl_len c s.length s).1
  rw [show spl c s.length s = [] from e] at this
  simp at this
/-- the same, as the code goes through it, line by line -/
def SrAt (s : List UInt8) (R : List Cmd × Nat × Int) (n : Nat) (r : List UInt8) (acc : List Cmd) : Prop := r.length ≤ s.length ∧ acc.length + r.length ≤ s.length ∧ n + r.length ≤ s.length + 1 ∧ runS s.length r n acc = R
theorem SrAt.zero (s : List UInt8) : SrAt s (scriptP s) 1 s [] := ⟨Nat.le_refl _, by simp, by omega, rfl⟩
theorem SrAt.done {s : List UInt8} {R : List Cmd × Nat × Int} {n : Nat} {acc : List Cmd} (h : SrAt s R n [] acc) : R = (acc, 0, 0) := by
  rw [← h.2.2.2, runS_nil]
theorem SrAt.end_ {s r : List UInt8} {R : List Cmd × Nat × Int} {n : Nat} {acc : List Cmd} (h : SrAt s R n r acc) (hr : r ≠ []) (hc : (cutW 10 r).2 = none) : R = ([], n, if (readP (cutW 10 r).1).1 = 0 then 14 else (readP (cutW 10 r).1).1) := by
  rw [← h.2.2.2, runS_none h.1 hr hc]
theorem SrAt.bad {s r r' : List UInt8} {R : List Cmd × Nat × Int} {n : Nat} {acc : List Cmd} (h : SrAt s R n r acc) (hr : r ≠ []) (hc : (cutW 10 r).2 = some r') (hz : (readP (cutW 10 r).1).1 ≠ 0) : R = ([], n, (readP (cutW 10 r).1).1) := by
  rw [← h.2.2.2, runS_some h.1 hr hc, if_pos hz]
theorem SrAt.next {s r r' : List UInt8} {R : List Cmd × Nat × Int} {n : Nat} {acc : List Cmd} (h : SrAt s R n r acc) (hr : r ≠ []) (hc : (cutW 10 r).2 = some r') (hz : (readP (cutW 10 r).1).1 = 0) : SrAt s R (n + 1) r' (acc ++ [(readP (cutW 10 r).1).2]) := by
  have hl := cutW_len hc
  obtain ⟨h1, h2, h3, h4⟩ := h
  refine ⟨by omega, by simp; omega, by omega, ?_⟩
  rw [← h4, runS_some h1 hr hc, if_neg (by simp [hz])]
end Go.Proofs.YtccaiiigdfieoaaDoor
namespace Go.Proofs.YtccaiiigdfieoaaDoor
open Go.RowKit Go.By
def formsC : Array Value := #[.string ⟨#[98, 101, 103, 105, 110]⟩, .int .i64 2, .bool true, .string ⟨#[114, 111, 119]⟩, .int .i64 0, .bool true, .string ⟨#[102, 111, 114, 103, 101]⟩, .int .i64 0, .bool true, .string ⟨#[115, 97, 121]⟩, .int .i64 0, .bool true, .string ⟨#[115, 101, 101, 100]⟩, .int .i64 1, .bool false, .string ⟨#[115, 107, 105, 112]⟩, .int .i64 1, .bool false, .string ⟨#[100, 114, 111, 112]⟩, .int .i64 1, .bool false, .string ⟨#[100, 111, 117, 98, 108, 101]⟩, .int .i64 1, .bool false, .string ⟨#[97, 114, 114, 105, 118, 101]⟩, .int .i64 1, .bool false, .string ⟨#[104, 101, 97, 114]⟩, .int .i64 1, .bool false, .string ⟨#[99, 111, 117, 110, 116]⟩, .int .i64 1, .bool false, .string ⟨#[109, 111, 118, 101]⟩, .int .i64 2, .bool false, .string ⟨#[99, 117, 116]⟩, .int .i64 2, .bool false, .string ⟨#[109, 97, 115, 107]⟩, .int .i64 3, .bool false, .string ⟨#[115, 116, 97, 116, 117, 115]⟩, .int .i64 0, .bool false, .string ⟨#[115, 104, 111, 119]⟩, .int .i64 0, .bool false, .string ⟨#[109, 97, 112]⟩, .int .i64 0, .bool false]
theorem info_forms : (Tryd.prog.info? 70).map (·.size) = some 51 := by kernel_rfl
theorem info_form : (Tryd.prog.info? 69).map (·.size) = some 3 := by kernel_rfl
theorem wpList_val {P : Program} {ops : Array Oper} {rest : List Oper} {o : Oper} {a : Act} {w : World} {Q : Exit → Act → World → Prop} (hgd : o.guard = none) (d : Tmp) (_hd : o.dst = some d) (v : Value) (hrun : (execOp a.eval o).run P w = .ok (.value v) w) (h : wpList P ops Q rest (a.put o.dst v) w) : wpList P ops Q (o :: rest) a w :=
  wpList_plain hgd fun _ hK => wp_val v hrun (hK _ _ h)
set_option maxRecDepth 100000 in
set_option maxHeartbeats 4000000 in
theorem forms_any (w : World) : Calls Tryd.prog 27 #[] w fun e w' => e = .returned (.agg formsC) ∧ Below w.heap.size w w' := by
  have h1 : formsC.all (·.oneCell') = true := by kernel_rfl
  go_enter Tryd.func27, Tryd.ntmps27
  go_wp2_with (first
    | refine wpList_val rfl 18 rfl (.agg formsC) (by kernel_rfl) ?_
    | refine wpList_store_row (o := ⟨none, .store 70 (.tmp 0) (.tmp 18), _, _, _, _⟩) rfl 70 (.tmp 0) (.tmp 18) rfl w.heap.size formsC rfl rfl _ _ (hnew rfl) info_forms rfl h1 ?_)
  refine bodyPost_ret (results_cell_row rfl _ _ _ 70 formsC (0, 0) _ rfl (hrs (hnew rfl)) Tryd.underlying70 rfl info_forms) rfl ?_
  exact ⟨rfl, below_row (al (Below.refl _ _) (Nat.le_refl _)) (Nat.le_refl _)⟩
end Go.Proofs.YtccaiiigdfieoaaDoor
namespace Go.By
open Go.RowKit
theorem strB_toList (l : List UInt8) : (strB l).toList = l := by rw [ByteArray.toList_eq]; exact strB_data l
theorem txt_beq (a b : List UInt8) : ((strB a).toList == (strB b).toList) = decide (a = b) := by
  rw [strB_toList, strB_toList]
  by_cases h : a = b
  · rw [decide_eq_true h, h]; simp
  · rw [decide_eq_false h]; exact beq_eq_false_iff_ne.2 h
end Go.By
namespace Go.Proofs.YtccaiiigdfieoaaDoor
open Go.RowKit Go.By
set_option maxHeartbeats 400000 in
theorem findf_any (f : List UInt8 × Nat × Bool) (gw : Nat) (x : List UInt8) (w : World) (hg : w.cell? ⟨gw, 0, none⟩ = some (.string (strB x))) :
    Calls Tryd.prog 46 (#[.agg #[.string (strB f.1), .int .i64 (f.2.1 : Nat), .bool f.2.2]] ++ #[.pointer (some ⟨gw, 0, none⟩)]) w fun e w' => e = .returned (.bool (decide (f.1 = x))) ∧ Below w.heap.size w w' := by
  have HB : Hid (∀ o, Below w.heap.size w (w.alloc o)) := fun o => al (Below.refl _ _) (Nat.le_refl _)
  have HG := Lib.hid hg
  clear hg
  have HE := Lib.hid (txt_beq f.1 x)
  obtain ⟨S, hS⟩ : ∃ S, S = strB f.1 := ⟨_, rfl⟩
  obtain ⟨X, hX⟩ : ∃ X, X = strB x := ⟨_, rfl⟩
  rw [← hX] at HG HE
  rw [← hS] at HE ⊢
  clear hS hX
  go_enter Tryd.func46, Tryd.ntmps46
  have hgc := ((HB.out (.cells #[.string S, .int .i64 (f.2.1 : Nat), .bool f.2.2] 69)).cell (p := ⟨gw, 0, none⟩) (lt_of_cell HG.out)).trans HG.out
  go_wp2
  go_ret
  exact ⟨by rw [← HE.out]; rfl, HB.out _⟩
theorem forms_at : ∀ (i : Nat), i < 17 → formsC[i * 3]? = some (.string (strB (formsL.getD i ([], 0, false)).1)) ∧ formsC[i * 3 + 1]? = some (.int .i64 ((formsL.getD i ([], 0, false)).2.1 : Nat)) ∧ formsC[i * 3 + 2]? = some (.bool (formsL.getD i ([], 0, false)).2.2)
  | 0, _ => ⟨rfl, rfl, rfl⟩
  | 1, _ => ⟨rfl, rfl, rfl⟩
  | 2, _ => ⟨rfl, rfl, rfl⟩
  | 3, _ => ⟨rfl, rfl, rfl⟩
  | 4, _ => ⟨rfl, rfl, rfl⟩
  | 5, _ => ⟨rfl, rfl, rfl⟩
  | 6, _ => ⟨rfl, rfl, rfl⟩
  | 7, _ => ⟨rfl, rfl, rfl⟩
  | 8, _ => ⟨rfl, rfl, rfl⟩
  | 9, _ => ⟨rfl, rfl, rfl⟩
  | 10, _ => ⟨rfl, rfl, rfl⟩
  | 11, _ => ⟨rfl, rfl, rfl⟩
  | 12, _ => ⟨rfl, rfl, rfl⟩
  | 13, _ => ⟨rfl, rfl, rfl⟩
  | 14, _ => ⟨rfl, rfl, rfl⟩
  | 15, _ => ⟨rfl, rfl, rfl⟩
  | 16, _ => ⟨rfl, rfl, rfl⟩
  | n + 17, h => absurd h (by omega)
theorem forms_cells {W : World} {b : Nat} (h : W.heap[b]? = some (.cells formsC 70 (0, 0))) {i : Nat} {f : List UInt8 × Nat × Bool} (hi : formsL[i]? = some f) :
    W.cell? ⟨b, 0 + i * 3, none⟩ = some (.string (strB f.1)) ∧ W.cell? ⟨b, 0 + i * 3 + 1, none⟩ = some (.int .i64 (f.2.1 : Nat)) ∧ W.cell? ⟨b, 0 + i * 3 + 2, none⟩ = some (.bool f.2.2) := by
  have hl : i < 17 := (List.getElem?_eq_some_iff.1 hi).1
  have hd : formsL.getD i ([], 0, false) = f := by rw [List.getD_eq_getElem?_getD, hi]; rfl
  obtain ⟨h1, h2, h3⟩ := forms_at i hl
  rw [hd] at h1 h2 h3
  rw [Nat.zero_add]
  exact ⟨(cell_of_row _ _ _ _ _ _ h).trans h1, (cell_of_row _ _ _ _ _ _ h).trans h2, (cell_of_row _ _ _ _ _ _ h).trans h3⟩
def isW (x : List UInt8) : List UInt8 × Nat × Bool → Bool := fun f => decide (f.1 = x)
set_option maxHeartbeats 1000000 in
theorem IndexForm_any (gw gb : Nat) (x : List UInt8) (w : World) (hg : w.cell? ⟨gw, 0, none⟩ = some (.string (strB x))) (hb : w.heap[gb]? = some (.cells formsC 70 (0, 0))) (eg : Enters Tryd.prog 46) :
    Calls Tryd.prog 45 #[.slice (some ⟨gb, 0, none⟩) 17 17, .func (.func 46) #[] #[.pointer (some ⟨gw, 0, none⟩)]] w fun e w' => e = .returned (.int .i64 (idxf (isW x) formsL)) ∧ Below w.heap.size w w' := by
  have eg' : ∀ args w, (callFunc 46 args).run Tryd.prog w = .ok (.enter 46 args) w := eg
  have HG := Lib.hid hg
  have HB := Lib.hid hb
  clear eg hg hb
  go_enter Tryd.func45, Tryd.ntmps45
  go_wp2
  go_loopw [8] (fun i wr => ∃ k : Nat, k ≤ 17 ∧ i = .int .i64 k ∧ Hid (∀ j y, j < k → formsL[j]? = some y → isW x y = false) ∧ Hid (Below w.heap.size w wr)) (fun i _ => 17 - (intOf i).toNat)
  case atStart => exact ⟨0, Nat.zero_le _, rfl, fun j y hj => by omega, Below.refl _ _⟩
  case round =>
    obtain ⟨k, hk, rfl, hr, hB⟩ := hrel
    by_cases hlt : k < 17
    · obtain ⟨f, hf⟩ : ∃ f, formsL[k]? = some f := ⟨_, List.getElem?_eq_getElem hlt⟩
      obtain ⟨d0, d1, d2⟩ := forms_cells ((hB.out.block _ (lt_of_block HB.out)).trans HB.out) hf
      have hgr := Lib.hid ((hB.out.cell (p := ⟨gw, 0, none⟩) (lt_of_cell HG.out)).trans HG.out)
      rw [Nat.zero_add] at d0 d1 d2
      have HX := Lib.hid hf
      have kn : (k : Int) < 17 := by omega
      clear hf
      cases hfx : isW x f with
      | false =>
        have HQ := Lib.hid hfx; clear hfx
        go_wp2_with fail
        refine (findf_any f gw x wr hgr.out).mono ?_; rintro e w2 ⟨rfl, hb2⟩
        have B2 : Hid (Below w.heap.size w w2) := bl hB.out hb2 hB.out.size
        rw [show decide (f.1 = x) = false from HQ.out]
        clear hb2 d0 d1 d2 hB hgr
        go_wp2
        go_roundw
        case rel =>
          refine ⟨k + 1, by omega, by go_num, fun j y hj hy => ?_, B2.out⟩
          by_cases e : j = k
          · subst e; have := HX.out.symm.trans hy; cases this; exact HQ.out
          · exact hr.out j y (by omega) hy
        case measure => simp [intOf]; omega
      | true =>
        have HQ := Lib.hid hfx; clear hfx
        go_wp2_with fail
        refine (findf_any f gw x wr hgr.out).mono ?_; rintro e w2 ⟨rfl, hb2⟩
        have B2 : Hid (Below w.heap.size w w2) := bl hB.out hb2 hB.out.size
        rw [show decide (f.1 = x) = true from HQ.out]
        clear hb2 d0 d1 d2 hB hgr
        go_wp2
        go_ret
        exact ⟨by rw [idxf_found HX.out HQ.out hr.out]; rfl, B2.out⟩
    · go_wp2
      go_ret
      exact ⟨by rw [idxf_none (k := k) (by show k = 17; omega) hr.out]; rfl, hB.out⟩
theorem enters_findf : Enters Tryd.prog 46 := enters_of Tryd.func46 (by kernel_rfl) rfl
/-- what find answers -/
def findV (x : List UInt8) : Value := match formsL.find? (isW x) with
  | some f => .tuple #[.agg #[.string (strB f.1), .int .i64 (f.2.1 : Nat), .bool f.2.2], .bool true]
  | none => .tuple #[.agg #[.string (strB []), .int .i64 0, .bool false], .bool false]
theorem find_idx (x : List UInt8) : (idxf (isW x) formsL = -1 ∧ formsL.find? (isW x) = none) ∨ ∃ (j : Nat) (f : List UInt8 × Nat × Bool), idxf (isW x) formsL = j ∧ formsL[j]? = some f ∧ formsL.find? (isW x) = some f := by
  unfold idxf
  cases h : formsL.findIdx? (isW x) with
  | none =>
    refine .inl ⟨rfl, ?_⟩
    rw [List.find?_eq_none]
    intro y hy
    have := List.findIdx?_eq_none_iff.1 h y hy
    simpa using this
  | some j =>
    obtain ⟨h1, h2, h3⟩ := List.findIdx?_eq_some_iff_getElem.1 h
    refine .inr ⟨j, formsL[j], rfl, List.getElem?_eq_getElem h1, ?_⟩
    rw [List.find?_eq_some_iff_getElem]
    exact ⟨h2, j, h1, rfl, fun i hi => by have := h3 i hi; simpa using this⟩
set_option maxRecDepth 100000 in
set_option maxHeartbeats 2000000 in
theorem find_any (x : List UInt8) (w : World) : Calls Tryd.prog 31 #[.string (strB x)] w fun e w' => e = .returned (findV x) ∧ Below w.heap.size w w' := by
  have h1 : formsC.all (·.oneCell') = true := by kernel_rfl
  have HI := Lib.hid (fun (gw gb : Nat) (w : World) hg hb => IndexForm_any gw gb x w hg hb enters_findf)
  have HF := Lib.hid (find_idx x)
  obtain ⟨V, hV⟩ : ∃ V, findV x = V := ⟨_, rfl⟩
  rw [hV]
  have HV := Lib.hid hV
  clear hV
  generalize idxf (isW x) formsL = I at *
  go_enter Tryd.func31, Tryd.ntmps31
  go_wp2_with fail
  refine Calls.mono (forms_any _) ?_
  rintro e w1 ⟨rfl, hb⟩
  have HB1 := Lib.hid hb
  have ba : Below w.heap.size w ((w.alloc (.cells #[.string (strB x)] 9 (0, 0))).alloc (.cells #[.string (strB []), .int .i64 0, .bool false] 69 (0, 0))) := al (al (Below.refl _ _) (Nat.le_refl _)) (by simp)
  have HB := Lib.hid (bl ba hb ba.size)
  obtain ⟨hb1, k1, k2, hs⟩ := two_of hb
  have c0 := cell_of_row _ _ 0 _ _ _ k1
  clear hb ba hb1
  go_wp2_with (first
    | refine wpList_store_row (o := ⟨none, .store 70 (.tmp 4) (.tmp 6), _, _, _, _⟩) rfl 70 (.tmp 4) (.tmp 6) rfl w1.heap.size formsC rfl rfl _ _ (hnew rfl) info_forms rfl h1 ?_)
  refine Calls.mono (HI.out w.heap.size w1.heap.size _ (cell_of_row _ _ 0 _ _ _ (hro (hal k1) (by omega))) (hrs (hnew rfl))) ?_
  rintro e w2 ⟨rfl, hb⟩
  have k4 := (hb.block _ (lt_of_block (hrs (hnew rfl)))).trans (hrs (hnew rfl))
  have k5 := (hb.block _ (lt_of_block (hro (hal k2) (by omega)))).trans (hro (hal k2) (by omega))
  have HB2 : Hid (Below w.heap.size w w2) := bl (below_row (al HB.out HB.out.size) HB.out.size) hb (by have := HB.out.size; simp; omega)
  clear hb k1 k2 c0 hs h1 HI HB1 HB
  rcases HF.out with ⟨rfl, hf⟩ | ⟨j, f, rfl, hj, hf⟩
  · have HV2 : Hid (V = .tuple #[.agg #[.string (strB []), .int .i64 0, .bool false], .bool false]) := by
      show _ = _
      rw [← HV.out]; unfold findV; rw [hf]
    clear hf HF HV k4
    go_wp2_with (refine wpList_store_row (o := ⟨none, .store 69 (.tmp 2) (.tmp 12), _, _, _, _⟩) rfl 69 (.tmp 2) (.tmp 12) rfl (w.heap.size + 1) #[.string (strB []), .int .i64 0, .bool false] rfl rfl _ _ k5 info_form rfl (by simp [Value.oneCell']) ?_)
    refine bodyPost_ret (res_ct rfl _ _ _ 69 #[.string (strB []), .int .i64 0, .bool false] (0, 0) _ (.bool false) rfl (hrs k5) rfl Tryd.underlying69 rfl info_form) rfl ?_
    exact ⟨by rw [HV2.out], below_row HB2.out (by omega)⟩
  · have HV2 : Hid (V = .tuple #[.agg #[.string (strB f.1), .int .i64 (f.2.1 : Nat), .bool f.2.2], .bool true]) := by
      show _ = _
      rw [← HV.out]; unfold findV; rw [hf]
    obtain ⟨d0, d1, d2⟩ := forms_cells k4 hj
    rw [Nat.zero_add] at d0 d1 d2
    have hj17 : j < 17 := (List.getElem?_eq_some_iff.1 hj).1
    clear hf HF HV k4 hj
    have jn : (j : Int) < 17 := by omega
    go_wp2_with (refine wpList_store_row (o := ⟨none, .store 69 (.tmp 2) (.tmp 15), _, _, _, _⟩) rfl 69 (.tmp 2) (.tmp 15) rfl (w.heap.size + 1) #[.string (strB f.1), .int .i64 (f.2.1 : Nat), .bool f.2.2] rfl rfl _ _ k5 info_form rfl (by simp [Value.oneCell']) ?_)
    refine bodyPost_ret (res_ct rfl _ _ _ 69 #[.string (strB f.1), .int .i64 (f.2.1 : Nat), .bool f.2.2] (0, 0) _ (.bool true) rfl (hrs k5) rfl Tryd.underlying69 rfl info_form) rfl ?_
    exact ⟨by rw [HV2.out], below_row HB2.out (by omega)⟩
end Go.Proofs.YtccaiiigdfieoaaDoor
namespace Go.Proofs
open Go.Shelf
def Tryd.lays170_ren : Go.Shelf.Ren := ⟨fun | 170 => 23 | n => n, fun | 70 => 57 | 3 => 3 | 0 => 0 | 72 => 59 | 37 => 35 | 5 => 5 | n => n, fun | n => n⟩
theorem Tryd.lays170 : Go.Proofs.Lays.n170 Tryd.prog Tryd.lays170_ren := {
  mixed := by kernel_rfl
  f170 := Tryd.func23.trans (congrArg some (by kernel_rfl))
  t0 := Tryd.underlying0
  a0 := Tryd.isAgg0
  z0 := Tryd.sizeOf0
  v0 := Tryd.zeroValue0
  t3 := Tryd.underlying3
  a3 := Tryd.isAgg3
  z3 := Tryd.sizeOf3
  v3 := Tryd.zeroValue3
  t37 := Tryd.underlying35
  a37 := Tryd.isAgg35
  z37 := Tryd.sizeOf35
  v37 := Tryd.zeroValue35
  t70 := Tryd.underlying57
  a70 := Tryd.isAgg57
  z70 := Tryd.sizeOf57
  v70 := Tryd.zeroValue57
  t72 := Tryd.underlying59
  a72 := Tryd.isAgg59
  z72 := Tryd.sizeOf59
  v72 := Tryd.zeroValue59 }
open Go.RowKit in
/-- (*strings.Builder).Len: "Len returns the number of accumulated bytes; b.Len() == len(b.String()).": the world is as it was. (LAID: no walk: one application.) -/
theorem Tryd.Builder_Len (B b : Nat) (bs : List Value) (w : World) (h : Lib.IsBuilder 59 5 B b bs w) :
    Calls Tryd.prog 23 #[.pointer (some ⟨b, 0, none⟩)] w fun e w' => e = .returned (.int .i64 bs.length) ∧ w' = w := Any.Builder_Len Tryd.lays170 B b bs w h
def Tryd.lays169_ren : Go.Shelf.Ren := ⟨fun | 169 => 24 | n => n, fun | 70 => 57 | 9 => 9 | 0 => 0 | 72 => 59 | 37 => 35 | 127 => 85 | 3 => 3 | 5 => 5 | n => n, fun | n => n⟩
theorem Tryd.lays169 : Go.Proofs.Lays.n169 Tryd.prog Tryd.lays169_ren := {
  mixed := by kernel_rfl
  f169 := Tryd.func24.trans (congrArg some (by kernel_rfl))
  t0 := Tryd.underlying0
  a0 := Tryd.isAgg0
  z0 := Tryd.sizeOf0
  v0 := Tryd.zeroValue0
  t3 := Tryd.underlying3
  a3 := Tryd.isAgg3
  z3 := Tryd.sizeOf3
  v3 := Tryd.zeroValue3
  t9 := Tryd.underlying9
  a9 := Tryd.isAgg9
  z9 := Tryd.sizeOf9
  v9 := Tryd.zeroValue9
  t37 := Tryd.underlying35
  a37 := Tryd.isAgg35
  z37 := Tryd.sizeOf35
  v37 := Tryd.zeroValue35
  t70 := Tryd.underlying57
  a70 := Tryd.isAgg57
  z70 := Tryd.sizeOf57
  v70 := Tryd.zeroValue57
  t72 := Tryd.underlying59
  a72 := Tryd.isAgg59
  z72 := Tryd.sizeOf59
  v72 := Tryd.zeroValue59
  t127 := Tryd.underlying85
  a127 := Tryd.isAgg85
  z127 := Tryd.sizeOf85
  v127 := Tryd.zeroValue85 }
theorem Tryd.Builder_Extra_169 : Builder.Extra Tryd.prog Tryd.lays169_ren := {
  sizeBuilder := by kernel_rfl
  liesBuilder := by kernel_rfl
  t5 := Tryd.underlying5
  a5 := Tryd.isAgg5
  z5 := Tryd.sizeOf5
  v5 := Tryd.zeroValue5
  infoByte := by kernel_rfl
  cellsByte := by kernel_rfl
  sizeByte := by kernel_rfl
  neB5 := by decide }
open Go.RowKit in
/-- (*strings.Builder).String: "String returns the accumulated string.": WHATEVER THE BUILDER HOLDS. (LAID: no walk: one application.) -/
theorem Tryd.Builder_String_any (B b : Nat) (l : List UInt8) (w : World) (h : Lib.IsBuilder 59 5 B b (Lib.byteCells l) w) (hBw : B ≤ w.heap.size) :
    Calls Tryd.prog 24 #[.pointer (some ⟨b, 0, none⟩)] w fun e w' => e = .returned (.string ⟨l.toArray⟩) ∧ Below B w w' := Any.Builder_String_any Tryd.lays169 Tryd.Builder_Extra_169 B b l w h hBw
def Tryd.lays137_ren : Go.Shelf.Ren := ⟨fun | 137 => 48 | 217 => 52 | 266 => 65 | n => n, fun | 9 => 9 | 5 => 5 | 3 => 3 | n => n, fun | n => n⟩
theorem Tryd.lays137 : Go.Proofs.Lays.n137 Tryd.prog Tryd.lays137_ren := {
  mixed := by kernel_rfl
  f137 := Tryd.func48.trans (congrArg some (by kernel_rfl))
  f217 := Tryd.func52.trans (congrArg some (by kernel_rfl))
  f266 := Tryd.func65.trans (congrArg some (by kernel_rfl))
  t3 := Tryd.underlying3
  a3 := Tryd.isAgg3
  z3 := Tryd.sizeOf3
  v3 := Tryd.zeroValue3
  t5 := Tryd.underlying5
  a5 := Tryd.isAgg5
  z5 := Tryd.sizeOf5
  v5 := Tryd.zeroValue5
  t9 := Tryd.underlying9
  a9 := Tryd.isAgg9
  z9 := Tryd.sizeOf9
  v9 := Tryd.zeroValue9 }
open Go.RowKit in
/-- strings.IndexByte: "IndexByte returns the index of the first instance of c in s, or -1 if c is not present in s.": IT RETURNS 'Lib.indexByte s c'; the world is as it was. (LAID: no walk: one application.) -/
theorem Tryd.strings_IndexByte (s : ByteArray) (c : Int) (w : World) :
    Calls Tryd.prog 48 #[.string s, .int .u8 c] w fun e w' => e = .returned (.int .i64 (Lib.indexByte s.data.toList c.toNat.toUInt8)) ∧ w' = w := Any.strings_IndexByte Tryd.lays137 s c w
def Tryd.lays283_ren : Go.Shelf.Ren := ⟨fun | 283 => 61 | n => n, fun | 3 => 3 | 9 => 9 | 4 => 4 | n => n, fun | n => n⟩
theorem Tryd.lays283 : Go.Proofs.Lays.n283 Tryd.prog Tryd.lays283_ren := {
  mixed := by kernel_rfl
  f283 := Tryd.func61.trans (congrArg some (by kernel_rfl))
  t3 := Tryd.underlying3
  a3 := Tryd.isAgg3
  z3 := Tryd.sizeOf3
  v3 := Tryd.zeroValue3
  t4 := Tryd.underlying4
  a4 := Tryd.isAgg4
  z4 := Tryd.sizeOf4
  v4 := Tryd.zeroValue4
  t9 := Tryd.underlying9
  a9 := Tryd.isAgg9
  z9 := Tryd.sizeOf9
  v9 := Tryd.zeroValue9 }
open Go.Lib in
/-- internal/strconv.small: "small returns the string for an i with 0 <= i < nSmalls.": i's decimal numeral. The world is as it was. (LAID: no walk: one application.) -/
theorem Tryd.internal_strconv_small (i : Nat) (h : i < 100) (w : World) :
    Calls Tryd.prog 61 #[.int .i64 i] w fun e w' => e = .returned (.string ⟨(Lib.decDigits i).toArray⟩) ∧ w' = w := Any.internal_strconv_small Tryd.lays283 i h w
def Tryd.laysM284_ren : Go.Shelf.Ren := ⟨fun | 284 => 62 | 129 => 77 | 317 => 76 | 318 => 78 | n => n, fun | 53 => 48 | 3 => 3 | 212 => 120 | 0 => 0 | 4 => 4 | 46 => 72 | 5 => 5 | 9 => 9 | n => n, fun | 17 => 1 | n => n⟩
theorem Tryd.laysM284 : Go.Proofs.LaysM.n284 Tryd.prog Tryd.laysM284_ren := {
  mixed := by kernel_rfl
  f129 := Tryd.func77.trans (congrArg some (by kernel_rfl))
  f284 := Tryd.func62.trans (congrArg some (by kernel_rfl))
  f317 := Tryd.func76.trans (congrArg some (by kernel_rfl))
  f318 := Tryd.func78.trans (congrArg some (by kernel_rfl))
  t0 := Tryd.underlying0
  a0 := Tryd.isAgg0
  z0 := Tryd.sizeOf0
  v0 := Tryd.zeroValue0
  t3 := Tryd.underlying3
  a3 := Tryd.isAgg3
  z3 := Tryd.sizeOf3
  v3 := Tryd.zeroValue3
  t4 := Tryd.underlying4
  a4 := Tryd.isAgg4
  z4 := Tryd.sizeOf4
  v4 := Tryd.zeroValue4
  t5 := Tryd.underlying5
  a5 := Tryd.isAgg5
  z5 := Tryd.sizeOf5
  v5 := Tryd.zeroValue5
  t9 := Tryd.underlying9
  a9 := Tryd.isAgg9
  z9 := Tryd.sizeOf9
  v9 := Tryd.zeroValue9
  t46 := Tryd.underlying72
  a46 := Tryd.isAgg72
  z46 := Tryd.sizeOf72
  v46 := Tryd.zeroValue72
  t53 := Tryd.underlying48
  a53 := Tryd.isAgg48
  z53 := Tryd.sizeOf48
  v53 := Tryd.zeroValue48
  t212 := Tryd.underlying120
  a212 := Tryd.isAgg120
  z212 := Tryd.sizeOf120
  v212 := Tryd.zeroValue120
  g17 := by kernel_rfl
  i0 := by kernel_rfl
  i3 := by kernel_rfl
  i4 := by kernel_rfl
  i5 := by kernel_rfl
  i9 := by kernel_rfl
  i46 := by kernel_rfl
  i53 := by kernel_rfl
  i212 := by kernel_rfl
  m17 := by kernel_rfl }
open Go.Lib in
/-- internal/strconv.numDigits, at a d that is not 0: THE NUMBER OF d's DECIMAL DIGITS. The world is as it was. (LAID: no walk: one application.) -/
theorem Tryd.internal_strconv_numDigits (u : Nat) (h1 : 1 ≤ u) (h2 : u < 18446744073709551616) (w : World) (htab : Lib.TabIs Tryd.prog w "internal/strconv.uint64pow10" .u64 Lib.pow10Tab) :
    Calls Tryd.prog 62 #[.int .u64 u] w fun e w' => e = .returned (.int .i64 (Lib.nDigits u)) ∧ w' = w := Any.internal_strconv_numDigits Tryd.laysM284 u h1 h2 w htab
def Tryd.lays285_ren : Go.Shelf.Ren := ⟨fun | 285 => 63 | n => n, fun | 37 => 35 | 53 => 48 | 3 => 3 | 4 => 4 | 51 => 87 | 9 => 9 | 5 => 5 | 0 => 0 | n => n, fun | n => n⟩
theorem Tryd.lays285 : Go.Proofs.Lays.n285 Tryd.prog Tryd.lays285_ren := {
  mixed := by kernel_rfl
  f285 := Tryd.func63.trans (congrArg some (by kernel_rfl))
  t0 := Tryd.underlying0
  a0 := Tryd.isAgg0
  z0 := Tryd.sizeOf0
  v0 := Tryd.zeroValue0
  t3 := Tryd.underlying3
  a3 := Tryd.isAgg3
  z3 := Tryd.sizeOf3
  v3 := Tryd.zeroValue3
  t4 := Tryd.underlying4
  a4 := Tryd.isAgg4
  z4 := Tryd.sizeOf4
  v4 := Tryd.zeroValue4
  t5 := Tryd.underlying5
  a5 := Tryd.isAgg5
  z5 := Tryd.sizeOf5
  v5 := Tryd.zeroValue5
  t9 := Tryd.underlying9
  a9 := Tryd.isAgg9
  z9 := Tryd.sizeOf9
  v9 := Tryd.zeroValue9
  t37 := Tryd.underlying35
  a37 := Tryd.isAgg35
  z37 := Tryd.sizeOf35
  v37 := Tryd.zeroValue35
  t51 := Tryd.underlying87
  a51 := Tryd.isAgg87
  z51 := Tryd.sizeOf87
  v51 := Tryd.zeroValue87
  t53 := Tryd.underlying48
  a53 := Tryd.isAgg48
  z53 := Tryd.sizeOf48
  v53 := Tryd.zeroValue48 }
open Go.RowKit Go.Sort Go.Lib in
/-- internal/strconv.formatBase10: "formatBase10 formats the decimal representation of u into a. The caller is responsible for ensuring that a is big enough to hold u. If a is too big, leading zeros will be filled in as needed.": THE ROW HOLDS u's DIGITS ('FmtInv .. 0 ..': every place t holds 'dg u (len - 1 - t)'); all else is as it was but for the count of draws. (LAID: no walk: one application.) -/
theorem Tryd.internal_strconv_formatBase10 (blk off cap : Nat) (u : Nat) (d : Array UInt8) (w : World) (hH : Holds (fun (b : UInt8) => Value.int .u8 (b.toNat : Int)) w blk off d) (hu : u < 10 ^ d.size) (hu64 : u < 18446744073709551616) (hsz : d.size < 4611686018427387904) :
    Calls Tryd.prog 63 #[.slice (some ⟨blk, off, none⟩) d.size cap, .int .u64 u] w fun e w' =>
      e = .returned (.tuple #[]) ∧ ∃ (n v' : Nat) (dk : Array UInt8), w' = (putRow (fun (b : UInt8) => Value.int .u8 (b.toNat : Int)) w blk off dk).drewN n ∧ FmtInv d.size u 0 v' dk := Any.internal_strconv_formatBase10 Tryd.lays285 blk off cap u d w hH hu hu64 hsz
def Tryd.laysC245_ren : Go.Shelf.Ren := ⟨fun | 245 => 60 | 279 => 72 | 280 => 73 | 281 => 74 | 282 => 75 | 316 => 82 | 171 => 84 | 205 => 83 | 243 => 87 | 246 => 88 | 283 => 61 | 284 => 62 | 285 => 63 | 286 => 64 | 129 => 77 | 317 => 76 | 318 => 78 | 319 => 79 | 320 => 80 | 337 => 85 | 338 => 86 | n => n, fun | 9 => 9 | 3 => 3 | 75 => 61 | 167 => 115 | 4 => 4 | 168 => 116 | 210 => 126 | 37 => 35 | 0 => 0 | 127 => 85 | 145 => 135 | 143 => 133 | 2 => 2 | 171 => 106 | 53 => 48 | 5 => 5 | 173 => 109 | 212 => 120 | 51 => 87 | 20 => 20 | 213 => 121 | 46 => 72 | 232 => 136 | 233 => 137 | 80 => 64 | n => n, fun | 15 => 2 | 16 => 3 | 17 => 1 | 18 => 6 | 19 => 7 | n => n⟩
theorem Tryd.laysC245 : Go.Proofs.LaysC.n245 Tryd.prog Tryd.laysC245_ren := {
  mixed := by kernel_rfl
  f129 := Tryd.func77.trans (congrArg some (by kernel_rfl))
  f171 := Tryd.func84.trans (congrArg some (by kernel_rfl))
  f205 := Tryd.func83.trans (congrArg some (by kernel_rfl))
  f243 := Tryd.func87.trans (congrArg some (by kernel_rfl))
  f245 := Tryd.func60.trans (congrArg some (by kernel_rfl))
  f246 := Tryd.func88.trans (congrArg some (by kernel_rfl))
  f279 := Tryd.func72.trans (congrArg some (by kernel_rfl))
  f280 := Tryd.func73.trans (congrArg some (by kernel_rfl))
  f281 := Tryd.func74.trans (congrArg some (by kernel_rfl))
  f282 := Tryd.func75.trans (congrArg some (by kernel_rfl))
  f283 := Tryd.func61.trans (congrArg some (by kernel_rfl))
  f284 := Tryd.func62.trans (congrArg some (by kernel_rfl))
  f285 := Tryd.func63.trans (congrArg some (by kernel_rfl))
  f286 := Tryd.func64.trans (congrArg some (by kernel_rfl))
  f316 := Tryd.func82.trans (congrArg some (by kernel_rfl))
  f317 := Tryd.func76.trans (congrArg some (by kernel_rfl))
  f318 := Tryd.func78.trans (congrArg some (by kernel_rfl))
  f319 := Tryd.func79.trans (congrArg some (by kernel_rfl))
  f320 := Tryd.func80.trans (congrArg some (by kernel_rfl))
  f337 := Tryd.func85.trans (congrArg some (by kernel_rfl))
  f338 := Tryd.func86.trans (congrArg some (by kernel_rfl))
  t0 := Tryd.underlying0
  a0 := Tryd.isAgg0
  z0 := Tryd.sizeOf0
  v0 := Tryd.zeroValue0
  t2 := Tryd.underlying2
  a2 := Tryd.isAgg2
  z2 := Tryd.sizeOf2
  v2 := Tryd.zeroValue2
  t3 := Tryd.underlying3
  a3 := Tryd.isAgg3
  z3 := Tryd.sizeOf3
  v3 := Tryd.zeroValue3
  t4 := Tryd.underlying4
  a4 := Tryd.isAgg4
  z4 := Tryd.sizeOf4
  v4 := Tryd.zeroValue4
  t5 := Tryd.underlying5
  a5 := Tryd.isAgg5
  z5 := Tryd.sizeOf5
  v5 := Tryd.zeroValue5
  t9 := Tryd.underlying9
  a9 := Tryd.isAgg9
  z9 := Tryd.sizeOf9
  v9 := Tryd.zeroValue9
  t20 := Tryd.underlying20
  a20 := Tryd.isAgg20
  z20 := Tryd.sizeOf20
  v20 := Tryd.zeroValue20
  t37 := Tryd.underlying35
  a37 := Tryd.isAgg35
  z37 := Tryd.sizeOf35
  v37 := Tryd.zeroValue35
  t46 := Tryd.underlying72
  a46 := Tryd.isAgg72
  z46 := Tryd.sizeOf72
  v46 := Tryd.zeroValue72
  t51 := Tryd.underlying87
  a51 := Tryd.isAgg87
  z51 := Tryd.sizeOf87
  v51 := Tryd.zeroValue87
  t53 := Tryd.underlying48
  a53 := Tryd.isAgg48
  z53 := Tryd.sizeOf48
  v53 := Tryd.zeroValue48
  t75 := Tryd.underlying61
  a75 := Tryd.isAgg61
  z75 := Tryd.sizeOf61
  v75 := Tryd.zeroValue61
  t127 := Tryd.underlying85
  a127 := Tryd.isAgg85
  z127 := Tryd.sizeOf85
  v127 := Tryd.zeroValue85
  t143 := Tryd.underlying133
  a143 := Tryd.isAgg133
  z143 := Tryd.sizeOf133
  v143 := Tryd.zeroValue133
  t145 := Tryd.underlying135
  a145 := Tryd.isAgg135
  z145 := Tryd.sizeOf135
  v145 := Tryd.zeroValue135
  t167 := Tryd.underlying115
  a167 := Tryd.isAgg115
  z167 := Tryd.sizeOf115
  v167 := Tryd.zeroValue115
  t168 := Tryd.underlying116
  a168 := Tryd.isAgg116
  z168 := Tryd.sizeOf116
  v168 := Tryd.zeroValue116
  t171 := Tryd.underlying106
  a171 := Tryd.isAgg106
  z171 := Tryd.sizeOf106
  v171 := Tryd.zeroValue106
  t173 := Tryd.underlying109
  a173 := Tryd.isAgg109
  z173 := Tryd.sizeOf109
  v173 := Tryd.zeroValue109
  t210 := Tryd.underlying126
  a210 := Tryd.isAgg126
  z210 := Tryd.sizeOf126
  v210 := Tryd.zeroValue126
  t212 := Tryd.underlying120
  a212 := Tryd.isAgg120
  z212 := Tryd.sizeOf120
  v212 := Tryd.zeroValue120
  t213 := Tryd.underlying121
  a213 := Tryd.isAgg121
  z213 := Tryd.sizeOf121
  t232 := Tryd.underlying136
  a232 := Tryd.isAgg136
  z232 := Tryd.sizeOf136
  v232 := Tryd.zeroValue136
  t233 := Tryd.underlying137
  a233 := Tryd.isAgg137
  z233 := Tryd.sizeOf137
  v233 := Tryd.zeroValue137
  g15 := by kernel_rfl
  g16 := by kernel_rfl
  g17 := by kernel_rfl
  g18 := by kernel_rfl
  g19 := by kernel_rfl
  t80 := Tryd.underlying64
  a80 := Tryd.isAgg64
  z80 := Tryd.sizeOf64
  v80 := Tryd.zeroValue64
  i0 := by kernel_rfl
  i2 := by kernel_rfl
  i3 := by kernel_rfl
  i4 := by kernel_rfl
  i5 := by kernel_rfl
  i9 := by kernel_rfl
  i20 := by kernel_rfl
  i37 := by kernel_rfl
  i46 := by kernel_rfl
  i51 := by kernel_rfl
  i53 := by kernel_rfl
  i75 := by kernel_rfl
  i80 := by kernel_rfl
  i127 := by kernel_rfl
  i143 := by kernel_rfl
  i145 := by kernel_rfl
  i167 := by kernel_rfl
  i168 := by kernel_rfl
  i171 := by kernel_rfl
  i173 := by kernel_rfl
  i210 := by kernel_rfl
  i212 := by kernel_rfl
  i232 := by kernel_rfl
  i233 := by kernel_rfl
  m15 := by kernel_rfl
  m16 := by kernel_rfl
  m17 := by kernel_rfl
  m18 := by kernel_rfl
  m19 := by kernel_rfl
  c0 := by kernel_rfl
  c2 := by kernel_rfl
  c3 := by kernel_rfl
  c4 := by kernel_rfl
  c5 := by kernel_rfl
  c9 := by kernel_rfl
  c20 := by kernel_rfl
  c37 := by kernel_rfl
  c46 := by kernel_rfl
  c51 := by kernel_rfl
  c53 := by kernel_rfl
  c75 := by kernel_rfl
  c80 := by kernel_rfl
  c127 := by kernel_rfl
  c143 := by kernel_rfl
  c145 := by kernel_rfl
  c167 := by kernel_rfl
  c168 := by kernel_rfl
  c171 := by kernel_rfl
  c173 := by kernel_rfl
  c210 := by kernel_rfl
  c212 := by kernel_rfl
  c213 := by kernel_rfl
  c232 := by kernel_rfl
  c233 := by kernel_rfl }
open Go.RowKit in
/-- strconv.toError, at the inner package's ErrSyntax: 'syntaxError(fn, s)' as an error: A *NumError IN A NEW BLOCK. (LAID: no walk: one application.) -/
theorem Tryd.strconv_toError_syntax (fn s : ByteArray) (base bits : Int) (ev : Value) (w : World) (hlim : s.size ≤ 281474976710656) (hv : w.cell? ⟨2, 0, none⟩ = some ev) (hev : ev = .nilIface ∨ ∃ te pe, ev = .iface te pe) :
    Calls Tryd.prog 60 #[.string fn, .string s, .int .i64 base, .int .i64 bits, .iface 115 (.int .i64 2)] w fun e w' => ∃ N, e = .returned (.iface 116 (.pointer (some ⟨N, 0, none⟩))) ∧ w.heap.size ≤ N ∧ w'.heap[N]? = some (.cells #[.string fn, .string s, ev] 126 (0, 0)) ∧ Below w.heap.size w w' := Any.strconv_toError_syntax Tryd.laysC245 fn s base bits ev w hlim hv hev
open Go.RowKit in
/-- strconv.toError, at the inner package's ErrRange: 'rangeError(fn, s)' as an error: A *NumError IN A NEW BLOCK. (LAID: no walk: one application.) -/
theorem Tryd.strconv_toError_range (fn s : ByteArray) (base bits : Int) (ev : Value) (w : World) (hlim : s.size ≤ 281474976710656) (hv : w.cell? ⟨3, 0, none⟩ = some ev) (hev : ev = .nilIface ∨ ∃ te pe, ev = .iface te pe) :
    Calls Tryd.prog 60 #[.string fn, .string s, .int .i64 base, .int .i64 bits, .iface 115 (.int .i64 1)] w fun e w' => ∃ N, e = .returned (.iface 116 (.pointer (some ⟨N, 0, none⟩))) ∧ w.heap.size ≤ N ∧ w'.heap[N]? = some (.cells #[.string fn, .string s, ev] 126 (0, 0)) ∧ Below w.heap.size w w' := Any.strconv_toError_range Tryd.laysC245 fn s base bits ev w hlim hv hev
def Tryd.lays145_ren : Go.Shelf.Ren := ⟨fun | 145 => 17 | 220 => 29 | 219 => 43 | 217 => 52 | 225 => 53 | 224 => 54 | 267 => 55 | 266 => 65 | 314 => 66 | n => n, fun | 9 => 9 | 4 => 4 | 59 => 50 | 3 => 3 | 5 => 5 | 46 => 72 | 146 => 88 | 51 => 87 | n => n, fun | 1 => 0 | n => n⟩
theorem Tryd.lays145 : Go.Proofs.Lays.n145 Tryd.prog Tryd.lays145_ren := {
  mixed := by kernel_rfl
  f145 := Tryd.func17.trans (congrArg some (by kernel_rfl))
  f217 := Tryd.func52.trans (congrArg some (by kernel_rfl))
  f219 := Tryd.func43.trans (congrArg some (by kernel_rfl))
  f220 := Tryd.func29.trans (congrArg some (by kernel_rfl))
  f224 := Tryd.func54.trans (congrArg some (by kernel_rfl))
  f225 := Tryd.func53.trans (congrArg some (by kernel_rfl))
  f266 := Tryd.func65.trans (congrArg some (by kernel_rfl))
  f267 := Tryd.func55.trans (congrArg some (by kernel_rfl))
  f314 := Tryd.func66.trans (congrArg some (by kernel_rfl))
  t3 := Tryd.underlying3
  a3 := Tryd.isAgg3
  z3 := Tryd.sizeOf3
  v3 := Tryd.zeroValue3
  t4 := Tryd.underlying4
  a4 := Tryd.isAgg4
  z4 := Tryd.sizeOf4
  v4 := Tryd.zeroValue4
  t5 := Tryd.underlying5
  a5 := Tryd.isAgg5
  z5 := Tryd.sizeOf5
  v5 := Tryd.zeroValue5
  t9 := Tryd.underlying9
  a9 := Tryd.isAgg9
  z9 := Tryd.sizeOf9
  v9 := Tryd.zeroValue9
  t46 := Tryd.underlying72
  a46 := Tryd.isAgg72
  z46 := Tryd.sizeOf72
  v46 := Tryd.zeroValue72
  t51 := Tryd.underlying87
  a51 := Tryd.isAgg87
  z51 := Tryd.sizeOf87
  v51 := Tryd.zeroValue87
  t59 := Tryd.underlying50
  a59 := Tryd.isAgg50
  z59 := Tryd.sizeOf50
  v59 := Tryd.zeroValue50
  t146 := Tryd.underlying88
  a146 := Tryd.isAgg88
  z146 := Tryd.sizeOf88
  v146 := Tryd.zeroValue88
  g1 := by kernel_rfl }
open Go.RowKit Go.Lib in
/-- strings.Cut: "Cut slices s around the first instance of sep, returning the text before and after sep. The found result reports whether sep appears in s. If sep does not appear in s, cut returns s, "", false.": IT RETURNS 'Lib.cut s sep'; the world is as it was but for the count of draws. (LAID: no walk: one application.) -/
theorem Tryd.strings_Cut (s sep : ByteArray) (m : Int) (w : World) (hs : s.size < 4294967281) (hm : w.cell? ⟨0, 0, none⟩ = some (.int .i64 m)) :
    Calls Tryd.prog 17 #[.string s, .string sep] w fun e w' => e = .returned (.tuple #[.string ⟨(Lib.cut s.data.toList sep.data.toList).1.toArray⟩, .string ⟨(Lib.cut s.data.toList sep.data.toList).2.1.toArray⟩, .bool (Lib.cut s.data.toList sep.data.toList).2.2]) ∧ ∃ n, w' = w.drewN n := Any.strings_Cut Tryd.lays145 s sep m w hs hm
def Tryd.lays146_ren : Go.Shelf.Ren := ⟨fun | 146 => 30 | 221 => 44 | 268 => 56 | 138 => 57 | 143 => 58 | 195 => 67 | 197 => 68 | 218 => 69 | 219 => 43 | 260 => 81 | 217 => 52 | 225 => 53 | 224 => 54 | 267 => 55 | 266 => 65 | 314 => 66 | n => n, fun | 9 => 9 | 31 => 42 | 3 => 3 | 4 => 4 | 0 => 0 | 105 => 113 | 21 => 21 | 5 => 5 | 46 => 72 | 119 => 129 | 139 => 132 | 138 => 131 | 146 => 88 | 51 => 87 | n => n, fun | 1 => 0 | 3 => 4 | 4 => 5 | n => n⟩
theorem Tryd.lays146 : Go.Proofs.Lays.n146 Tryd.prog Tryd.lays146_ren := {
  mixed := by kernel_rfl
  f138 := Tryd.func57.trans (congrArg some (by kernel_rfl))
  f143 := Tryd.func58.trans (congrArg some (by kernel_rfl))
  f146 := Tryd.func30.trans (congrArg some (by kernel_rfl))
  f195 := Tryd.func67.trans (congrArg some (by kernel_rfl))
  f197 := Tryd.func68.trans (congrArg some (by kernel_rfl))
  f217 := Tryd.func52.trans (congrArg some (by kernel_rfl))
  f218 := Tryd.func69.trans (congrArg some (by kernel_rfl))
  f219 := Tryd.func43.trans (congrArg some (by kernel_rfl))
  f221 := Tryd.func44.trans (congrArg some (by kernel_rfl))
  f224 := Tryd.func54.trans (congrArg some (by kernel_rfl))
  f225 := Tryd.func53.trans (congrArg some (by kernel_rfl))
  f260 := Tryd.func81.trans (congrArg some (by kernel_rfl))
  f266 := Tryd.func65.trans (congrArg some (by kernel_rfl))
  f267 := Tryd.func55.trans (congrArg some (by kernel_rfl))
  f268 := Tryd.func56.trans (congrArg some (by kernel_rfl))
  f314 := Tryd.func66.trans (congrArg some (by kernel_rfl))
  t0 := Tryd.underlying0
  a0 := Tryd.isAgg0
  z0 := Tryd.sizeOf0
  v0 := Tryd.zeroValue0
  t3 := Tryd.underlying3
  a3 := Tryd.isAgg3
  z3 := Tryd.sizeOf3
  v3 := Tryd.zeroValue3
  t4 := Tryd.underlying4
  a4 := Tryd.isAgg4
  z4 := Tryd.sizeOf4
  v4 := Tryd.zeroValue4
  t5 := Tryd.underlying5
  a5 := Tryd.isAgg5
  z5 := Tryd.sizeOf5
  v5 := Tryd.zeroValue5
  t9 := Tryd.underlying9
  a9 := Tryd.isAgg9
  z9 := Tryd.sizeOf9
  v9 := Tryd.zeroValue9
  t21 := Tryd.underlying21
  a21 := Tryd.isAgg21
  z21 := Tryd.sizeOf21
  v21 := Tryd.zeroValue21
  t31 := Tryd.underlying42
  a31 := Tryd.isAgg42
  z31 := Tryd.sizeOf42
  v31 := Tryd.zeroValue42
  t46 := Tryd.underlying72
  a46 := Tryd.isAgg72
  z46 := Tryd.sizeOf72
  v46 := Tryd.zeroValue72
  t51 := Tryd.underlying87
  a51 := Tryd.isAgg87
  z51 := Tryd.sizeOf87
  v51 := Tryd.zeroValue87
  t105 := Tryd.underlying113
  a105 := Tryd.isAgg113
  z105 := Tryd.sizeOf113
  v105 := Tryd.zeroValue113
  t119 := Tryd.underlying129
  a119 := Tryd.isAgg129
  z119 := Tryd.sizeOf129
  t138 := Tryd.underlying131
  a138 := Tryd.isAgg131
  z138 := Tryd.sizeOf131
  v138 := Tryd.zeroValue131
  t139 := Tryd.underlying132
  a139 := Tryd.isAgg132
  z139 := Tryd.sizeOf132
  v139 := Tryd.zeroValue132
  t146 := Tryd.underlying88
  a146 := Tryd.isAgg88
  z146 := Tryd.sizeOf88
  v146 := Tryd.zeroValue88
  g1 := by kernel_rfl
  g3 := by kernel_rfl
  g4 := by kernel_rfl }
open Go.RowKit Go.Lib in
/-- strings.Split. (LAID: no walk: one application.) -/
theorem Tryd.strings_Split (s sep : ByteArray) (m : Int) (w : World) (hs : s.size < 4294967281) (hm : w.cell? ⟨0, 0, none⟩ = some (.int .i64 m)) (h1 : 1 ≤ sep.size) :
    Calls Tryd.prog 30 #[.string s, .string sep] w fun e w' =>
      e = .returned (.slice (some ⟨w.heap.size, 0, none⟩) (Lib.countB s sep + 1) (Lib.countB s sep + 1)) ∧ w' = w.alloc (.cells ((Lib.splitB sep 0 (Lib.countB s sep) s).map Value.string).toArray 9) := Any.strings_Split Tryd.lays146 (by kernel_rfl) s sep m w hs hm h1
def Tryd.lays212_ren : Go.Shelf.Ren := ⟨fun | 212 => 28 | 263 => 41 | 264 => 42 | n => n, fun | 46 => 72 | 51 => 87 | 146 => 88 | 53 => 48 | 148 => 90 | n => n, fun | n => n⟩
theorem Tryd.lays212 : Go.Proofs.Lays.n212 Tryd.prog Tryd.lays212_ren := {
  mixed := by kernel_rfl
  f212 := Tryd.func28.trans (congrArg some (by kernel_rfl))
  f263 := Tryd.func41.trans (congrArg some (by kernel_rfl))
  f264 := Tryd.func42.trans (congrArg some (by kernel_rfl))
  t46 := Tryd.underlying72
  a46 := Tryd.isAgg72
  z46 := Tryd.sizeOf72
  v46 := Tryd.zeroValue72
  t51 := Tryd.underlying87
  a51 := Tryd.isAgg87
  z51 := Tryd.sizeOf87
  v51 := Tryd.zeroValue87
  t53 := Tryd.underlying48
  a53 := Tryd.isAgg48
  z53 := Tryd.sizeOf48
  v53 := Tryd.zeroValue48
  t146 := Tryd.underlying88
  a146 := Tryd.isAgg88
  z146 := Tryd.sizeOf88
  v146 := Tryd.zeroValue88
  t148 := Tryd.underlying90
  a148 := Tryd.isAgg90
  z148 := Tryd.sizeOf90
  v148 := Tryd.zeroValue90 }
open Go.RowKit Go.Lib in
/-- math/bits.Mul: "Mul returns the full-width product of x and y": on a machine of 64 bits: Mul64's. (LAID: no walk: one application.) -/
theorem Tryd.bits_Mul (x y : Nat) (hx : x < 18446744073709551616) (hy : y < 18446744073709551616) (w : World) :
    Calls Tryd.prog 28 #[.int .u64 x, .int .u64 y] w fun e w' => e = .returned (.tuple #[.int .u64 ((x * y / 18446744073709551616 : Nat) : Int), .int .u64 ((x * y % 18446744073709551616 : Nat) : Int)]) ∧ w' = w := Any.bits_Mul Tryd.lays212 x y hx hy w
end Go.Proofs
namespace Go.Proofs.YtccaiiigdfieoaaDoor
open Go.RowKit Go.By
def digitsC : ByteArray := ⟨#[48, 49, 50, 51, 52, 53, 54, 55, 56, 57, 97, 98, 99, 100, 101, 102]⟩
def idxD (c : UInt8) : Int := if valD c < 16 then (valD c : Int) else -1
theorem idxD_eq (c : UInt8) : Lib.indexByte digitsC.data.toList c = idxD c := by
  have h : ∀ n : Fin 256, Lib.indexByte digitsC.data.toList (UInt8.ofNat n) = idxD (UInt8.ofNat n) := by decide +kernel
  have := h ⟨c.toNat, c.toNat_lt⟩
  simpa using this
theorem IndexD_any (c : UInt8) (w : World) : Calls Tryd.prog 48 #[.string ⟨#[48, 49, 50, 51, 52, 53, 54, 55, 56, 57, 97, 98, 99, 100, 101, 102]⟩, B8 c] w fun e w' => e = .returned (.int .i64 (idxD c)) ∧ w' = w := by
  have := Tryd.strings_IndexByte digitsC (c.toNat : Int) w
  rw [show ((c.toNat : Int)).toNat.toUInt8 = c by simp, idxD_eq] at this
  exact this
theorem hex_or {x y : Nat} (hx : x < 16) (hy : y < 16) : bits BinOp.or IntKind.i64 ((x : Int) * 16) (y : Int) % 256 = ((16 * x + y : Nat) : Int) := by
  have h : ∀ a b : Fin 16, bits BinOp.or IntKind.i64 ((a.1 : Int) * 16) (b.1 : Int) % 256 = ((16 * a.1 + b.1 : Nat) : Int) := by decide +kernel
  exact h ⟨x, hx⟩ ⟨y, hy⟩
set_option maxRecDepth 100000 in
set_option maxHeartbeats 2000000 in
theorem readBytes_any (l : List UInt8) (w : World) (hl : l.length ≤ 1000000) :
    Calls Tryd.prog 33 #[.string (strB l)] w (OptB w (bytesP l)) := by
  obtain ⟨i0, hi, hz0, hz1, hz2⟩ := info_parts info_u8
  obtain ⟨n, hn⟩ : ∃ n, n = l.length := ⟨_, rfl⟩
  have hsz : (strB l).size = n := by rw [strB_size, hn]
  have hemp := txt_emp l
  have hda : ((strB l).toList == [45]) = decide (l = [45]) := by have := txt_beq l [45]; rwa [strB_toList [45]] at this
  have hixk : Hid (∀ (k : Nat) (d : UInt8), l[k]? = some d → ∀ w, (Instr.index 9 (.string (strB l)) (.int .i64 (k : Int))).run Tryd.prog w = .ok (B8 d) w) := fun k d hd w => txt_idx _ Tryd.underlying9 hd _ _ rfl w
  obtain ⟨S, hS⟩ : ∃ S, S = strB l := ⟨_, rfl⟩
  rw [← hS] at hsz hixk hemp hda ⊢
  clear hS
  have hl' : n ≤ 1000000 := by omega
  have HV : Hid (∀ c w, Calls Tryd.prog 48 #[.string ⟨#[48, 49, 50, 51, 52, 53, 54, 55, 56, 57, 97, 98, 99, 100, 101, 102]⟩, B8 c] w fun e w' => e = .returned (.int .i64 (idxD c)) ∧ w' = w) := fun c w => IndexD_any c w
  have htm : ((n : Int)).tmod 2 = ((n % 2 : Nat) : Int) := by rw [Int.tmod_eq_emod_of_nonneg (by omega)]; omega
  by_cases hd0 : l = [45]
  · rw [decide_eq_true hd0] at hda
    have H0 : Hid (bytesP l = some []) := by show _ = _; unfold bytesP; rw [if_pos hd0]
    clear hd0 hn hixk hl hemp htm
    go_enter Tryd.func33, Tryd.ntmps33
    go_wp2
    go_ret2
    exact ⟨none, 0, 0, by rw [H0.out]; rfl, by rw [H0.out]; exact Fresh.none _ _ _, Below.refl _ _⟩
  rw [decide_eq_false hd0] at hda
  by_cases h0 : l = []
  · rw [decide_eq_true h0] at hemp
    have H0 : Hid (bytesP l = none) := by show _ = _; unfold bytesP; rw [if_neg hd0, if_pos h0]
    clear h0 hn hixk hl htm hd0
    go_enter Tryd.func33, Tryd.ntmps33
    go_wp2
    go_ret2
    exact OptB.no H0.out (Below.refl _ _)
  · rw [decide_eq_false h0] at hemp
    have HU : Hid (bytesP l = unhexP l) := by show _ = _; unfold bytesP; rw [if_neg hd0, if_neg h0]
    by_cases h1 : n % 2 = 1
    · have H0 : Hid (bytesP l = none) := HU.out.trans (unhexP_odd _ (Nat.le_refl _) (by omega))
      rw [h1] at htm
      clear h0 hn hixk hl h1 HU hd0
      go_enter Tryd.func33, Tryd.ntmps33
      go_wp2
      go_ret2
      exact OptB.no H0.out (Below.refl _ _)
    · have h2 : n % 2 = 0 := by omega
      rw [h2] at htm
      have HN := Lib.hid hn
      have H2 := Lib.hid h2
      clear h0 hn hl h1 h2 hd0
      go_enter Tryd.func33, Tryd.ntmps33
      go_wp2
      clear htm hda
      go_loopw [4, 5, 6, 7] (fun ov iv _ _ wr => ∃ (i m : Nat) (q : Option Addr) (c : Nat) (O : List UInt8), i ≤ n ∧ iv = .int .i64 i ∧ ov = .slice q m c ∧ m ≤ i ∧ Hid (i % 2 = 0) ∧ Hid (UnhexAt l i O) ∧ Hid (wr.ownsRow w.heap.size 5 1 (.slice q m c) m (O.map B8)) ∧ Hid (Below w.heap.size w wr)) (fun _ iv _ _ _ => n - (intOf iv).toNat)
      case atStart => exact ⟨0, 0, none, 0, [], by omega, rfl, rfl, by omega, rfl, UnhexAt.zero _, World.ownsRow_nil _ _ _ _, Below.refl _ _⟩
      case round =>
        obtain ⟨i, m, q, c, O, hi0, rfl, rfl, hm, HE, HAt, HO, HB⟩ := hrel
        by_cases hlt : i < n
        · have hi1 : i + 1 < n := by have := HE.out; have := H2.out; omega
          obtain ⟨a, ha⟩ : ∃ a, l[i]? = some a := ⟨_, List.getElem?_eq_getElem (by have := HN.out; omega)⟩
          obtain ⟨b, hb⟩ : ∃ b, l[i + 1]? = some b := ⟨_, List.getElem?_eq_getElem (by have := HN.out; omega)⟩
          have hixa := hixk.out i a ha
          have hixb := hixk.out (i + 1) b hb
          have e1 : ((i + 1 : Nat) : Int) = (i : Int) + 1 := by omega
          rw [e1] at hixb
          have hw1 : IntKind.i64.wrap ((i : Int) + 1) = (i : Int) + 1 := by rw [IntKind.wrap_i64]; omega
          have HLT := Lib.hid hlt
          have HI1 := Lib.hid hi1
          have hlti : (i : Int) < (n : Int) := by omega
          have hlti1 : (i : Int) + 1 < (n : Int) := by omega
          have HA := Lib.hid ha
          have HBb := Lib.hid hb
          clear ha hb hlt hi1 e1
          go_upto_region 9 with (fail)
          go_quiet ((go_at_call 48; exact Calls.quiet_of_same (HV.out _ _)))
          have BD : Hid (Below wr.heap.size wr (wr.drewN nq)) := below_drewN wr nq
          generalize wr.drewN nq = w1 at *
          have HB1 := Lib.hid (bl HB.out BD.out HB.out.size)
          have HO1 := Lib.hid (owns_keep HO.out BD.out)
          clear hixa hixb hw1 hlti hlti1 HB HO BD
          by_cases hv : valD a < 16 ∧ valD b < 16
          · obtain ⟨hva, hvb⟩ := hv
            have HAt2 := Lib.hid (HAt.out.next HA.out HBb.out hva hvb)
            obtain ⟨d, hd⟩ : ∃ d, d = UInt8.ofNat (16 * valD a + valD b) := ⟨_, rfl⟩
            rw [← hd] at HAt2
            rw [show idxD a = (valD a : Int) from if_pos hva, show idxD b = (valD b : Int) from if_pos hvb]
            have hor : bits BinOp.or IntKind.i64 ((valD a : Int) * 16) (valD b : Int) % 256 = (d.toNat : Int) := by rw [hex_or hva hvb, hd, UInt8.toNat_ofNat', Nat.mod_eq_of_lt (by omega)]
            have ga : ¬ (valD a : Int) < 0 := by omega
            have gb : ¬ (valD b : Int) < 0 := by omega
            have hOA : Hid (∀ o, (w1.alloc o).ownsRow w.heap.size 5 1 (.slice q m c) m (O.map B8)) := fun o => owns_keep HO1.out (al (Below.refl _ _) (Nat.le_refl _))
            have hszw := HB1.out.size
            clear hd HAt
            go_wp2_with (at_builtin; refine wpList_append_own _ rfl _ _ 35 rfl w.heap.size 5 i0 (.int .u8 0) 1 1 Tryd.underlying35 hi hz0 hz1 hz2 rfl (by omega) _ m (O.map B8) rfl (hOA.out _) ⟨w1.heap.size, 0, none⟩ 1 1 [B8 d] rfl rfl (one_cellI rfl) ?c2 ?c3 ?c4 ?c5 ?_)
            case c2 => first | rfl | (intro y hy; simp at hy; subst hy; rfl)
            case c3 => unfold maxLen; omega
            case c4 => omega
            case c5 => first | omega | (simp; omega)
            intro v' w' ho' hg' _
            obtain ⟨q', c', rfl⟩ := owns_shape ho'
            have FIN : Hid (w'.ownsRow w.heap.size 5 1 (.slice q' (m + 1) c') (m + 1) ((O ++ [d]).map B8) ∧ Below w.heap.size w w') := by
              refine ⟨?_, ?_⟩
              · rw [List.map_append]; exact ho'
              · exact (al HB1.out hszw).grown hg' (by simp; omega) (fun rr hrr => (HO1.out.lt rr hrr).1)
            clear ho' hg' HO1 HB1 hOA hor ga gb
            go_wp2
            go_roundw
            case rel => exact ⟨i + 2, m + 1, q', c', O ++ [d], by have := HI1.out; omega, by go_num, rfl, by omega, by have := HE.out; show _ = _; omega, HAt2.out, FIN.out.1, FIN.out.2⟩
            case measure => simp [intOf]; have := HI1.out; omega
          · have HR : Hid (bytesP l = none) := HU.out.trans (HAt.out.bad HA.out HBb.out hv)
            have HG : (idxD a < 0) ∨ (¬ idxD a < 0 ∧ idxD b < 0) := by
              unfold idxD
              by_cases g : valD a < 16
              · right; rw [if_pos g, if_neg (fun g2 => hv ⟨g, g2⟩)]; omega
              · left; rw [if_neg g]; omega
            clear hv HAt HO1
            rcases HG with ga | ⟨ga, gb⟩
            · go_wp2
              go_ret2
              exact OptB.no HR.out HB1.out
            · go_wp2
              go_ret2
              exact OptB.no HR.out HB1.out
        · obtain rfl : i = n := by omega
          have HR : Hid (bytesP l = some O) := HU.out.trans (HAt.out.done (by have := HN.out; omega))
          clear hlt HAt
          go_wp2
          go_ret2
          exact OptB.yes HR.out HO.out HB.out
end Go.Proofs.YtccaiiigdfieoaaDoor
namespace Go.By
open Go.RowKit
theorem below_growN (w : World) (k : Nat) (os : Array Obj) : Below w.heap.size w (Sort.grow (w.drewN k) os) :=
  ⟨rfl, rfl, rfl, by rw [Sort.size_grow]; simp, fun i hi => by
    show (Sort.grow (w.drewN k) os).heap[i]? = w.heap[i]?
    rw [Sort.heap_grow_old (w.drewN k) os (by simpa using hi)]; simp⟩
theorem fin_pos0 (w : World) (o : Obj) (dk : Array UInt8) (k : Nat) : ∃ os, (Sort.putRow (fun (b : UInt8) => Value.int .u8 (b.toNat : Int)) (w.alloc o) w.heap.size 0 dk).drewN k = Sort.grow (w.drewN k) os := by
  rw [Sort.alloc_eq_grow]
  obtain ⟨os', _, e⟩ := Sort.putRow_grow_new (fun (b : UInt8) => Value.int .u8 (b.toNat : Int)) w #[o] w.heap.size 0 dk (Nat.le_refl _)
  exact ⟨os', by rw [e]; rfl⟩
theorem holds_zero0 (w : World) (T : TypeId) (nd : Nat) (hs : nd ≤ 24) : Sort.Holds (fun (b : UInt8) => Value.int .u8 (b.toNat : Int)) (w.alloc (.cells Lib.zeros24 T)) w.heap.size 0 (Array.replicate nd (0 : UInt8)) := fun j hj => by
  have hj' : j < nd := by simpa using hj
  rw [cell_of_row _ _ _ _ _ _ (hnew rfl), Nat.zero_add, Lib.zeros24_at j (by omega)]
  have e : (Array.replicate nd (0 : UInt8))[j]! = 0 := by
    rw [getElem!_pos (Array.replicate nd (0 : UInt8)) j hj]; exact Array.getElem_replicate ..
  rw [e]
  exact ⟨rfl, frozen_of_row _ _ j _ _ (hnew rfl)⟩
end Go.By
namespace Go.Proofs.YtccaiiigdfieoaaDoor
open Go.RowKit Go.By
/-- the library's table of powers of ten -/
def Tab10 (w : World) : Prop := Lib.TabIs Tryd.prog w "internal/strconv.uint64pow10" .u64 Lib.pow10Tab
theorem Tab10.keep {w w' : World} (h : Tab10 w) (hb : Below w.heap.size w w') : Tab10 w' := by
  unfold Tab10 Lib.TabIs World.var? at *
  cases hg : Tryd.prog.globalNamed "internal/strconv.uint64pow10" with
  | none => rw [hg] at h; exact h
  | some g =>
    rw [hg] at h
    simp only [Option.bind_some] at h ⊢
    cases hh : w.heap[g]? with
    | none => rw [hh] at h; cases h
    | some o => rw [hb.block g (lt_of_block hh), hh]; rw [hh] at h; exact h
set_option maxRecDepth 100000 in
set_option maxHeartbeats 4000000 in
theorem FormatUint_in10 (u : Nat) (h : u < 18446744073709551616) (w : World) (hT : Tab10 w) :
    Calls Tryd.prog 51 #[.int .u64 u, .int .i64 10] w fun e w' => e = .returned (.string (strB (Lib.decDigits u))) ∧ Below w.heap.size w w' := by
  by_cases hs : u < 100
  · have hs' : (u : Int) < 100 := by omega
    go_enter Tryd.func51, Tryd.ntmps51
    go_wp2_with fail
    refine Calls.mono (Tryd.internal_strconv_small u hs _) ?_
    rintro e w' ⟨rfl, rfl⟩
    go_wp2
    go_ret
    exact ⟨rfl, Below.refl _ _⟩
  · have hu1 : 1 ≤ u := by omega
    have hs' : ¬ (u : Int) < 100 := by omega
    have hnd20 : Lib.nDigits u ≤ 20 := by have := Lib.numDigits_eq u hu1 h; split at this <;> omega
    have hal : Tryd.prog.arrayLen 106 = 24 := by simp [Program.arrayLen, Tryd.underlying106]
    have hsl1 : ∀ W, (Instr.sliceAt 106 (.pointer (some ⟨w.heap.size, 0, none⟩)) none (some (.int .i64 (Lib.nDigits u : Int))) none).run Tryd.prog W = .ok (.slice (some ⟨w.heap.size, 0, none⟩) (Lib.nDigits u) 24) W := fun W => by
      rw [run_sliceAt_array_h W 106 ⟨w.heap.size, 0, none⟩ (by simp [Program.arrayLen, Program.elem, Tryd.underlying106]) .i64 (Lib.nDigits u : Int) (by omega) (by rw [hal]; omega)]
      go_simp
    have hH0 := holds_zero0 w 106 (Lib.nDigits u) (by omega)
    have hfmt := Tryd.internal_strconv_formatBase10 w.heap.size 0 24 u (Array.replicate (Lib.nDigits u) 0) (w.alloc (.cells Lib.zeros24 106)) hH0 (by rw [Array.size_replicate]; exact Lib.lt_pow_nDigits u) h (by rw [Array.size_replicate]; omega)
    rw [Array.size_replicate] at hfmt
    have HH0 := Lib.hid hH0
    have HF := Lib.hid hfmt
    have HT := Lib.hid hT
    clear hH0 hal hfmt hT
    have hs2 : (100 : Int) ≤ (u : Int) := by omega
    clear hs' hs
    go_enter Tryd.func51, Tryd.ntmps51
    go_wp2_with fail
    refine Calls.mono (Tryd.internal_strconv_numDigits u hu1 h _ (Lib.tabIs_alloc HT.out _)) ?_
    rintro e w' ⟨rfl, rfl⟩
    go_wp2_with (first | simp only [hsl1])
    refine Calls.mono HF.out ?_
    rintro e w' ⟨rfl, k, v', dk, rfl, hF⟩
    have hcv : (convert 35 9 (.slice (some ⟨w.heap.size, 0, none⟩) (Lib.nDigits u) 24)).run Tryd.prog ((Sort.putRow (fun (b : UInt8) => Value.int .u8 (b.toNat : Int)) (w.alloc (.cells Lib.zeros24 106)) w.heap.size 0 dk).drewN k) = .ok (.string ⟨(Lib.decDigits u).toArray⟩) ((Sort.putRow (fun (b : UInt8) => Value.int .u8 (b.toNat : Int)) (w.alloc (.cells Lib.zeros24 106)) w.heap.size 0 dk).drewN k) := by
      have h := run_convert_bytes_back (P := Tryd.prog) ((Sort.putRow (fun (b : UInt8) => Value.int .u8 (b.toNat : Int)) (w.alloc (.cells Lib.zeros24 106)) w.heap.size 0 dk).drewN k) 35 9 5 ⟨w.heap.size, 0, none⟩ 24 (Lib.decDigits u) Tryd.underlying35 Tryd.underlying5 Tryd.underlying9 (fun j hj => by
        rw [Lib.row_is_numeral hF j hj, Lib.add_plain, World.cell?_drewN]
        exact Sort.cell?_putRow (fun (b : UInt8) => Value.int .u8 (b.toNat : Int)) _ w.heap.size 0 _ dk HH0.out (by rw [hF.size, Array.size_replicate]) j (by rw [hF.size]; rw [Lib.decDigits_length] at hj; exact hj))
      rw [Lib.decDigits_length] at h
      exact h
    go_wp2_with (first | simp only [hsl1] | simp only [hcv])
    go_ret
    obtain ⟨os, eo⟩ := fin_pos0 w (.cells Lib.zeros24 106) dk k
    exact ⟨rfl, by rw [eo]; exact below_growN _ _ _⟩
theorem FormatUint_10 (u : Nat) (h : u < 18446744073709551616) (w : World) (hT : Tab10 w) :
    Calls Tryd.prog 39 #[.int .u64 u, .int .i64 10] w fun e w' => e = .returned (.string (strB (Lib.decDigits u))) ∧ Below w.heap.size w w' := by
  have HF := Lib.hid (FormatUint_in10 u h w hT)
  clear h hT
  go_enter Tryd.func39, Tryd.ntmps39
  go_wp2_with fail
  refine Calls.mono HF.out ?_
  rintro e w' ⟨rfl, hb⟩
  have HB := Lib.hid hb; clear hb
  go_wp2
  go_ret
  exact ⟨rfl, HB.out⟩
end Go.Proofs.YtccaiiigdfieoaaDoor
namespace Go.By
open Go.RowKit
theorem decV_take {l : List UInt8} {k : Nat} {c : UInt8} (h : l[k]? = some c) : decV 0 (l.take (k + 1)) = 10 * decV 0 (l.take k) + (c.toNat - 48) := by
  rw [List.take_add_one, h, decV_append]; rfl
theorem decV_take_le (l : List UInt8) (k : Nat) : decV 0 (l.take k) ≤ decV 0 l := by
  conv => rhs; rw [← List.take_append_drop k l, decV_append]
  exact decV_le _ _
/-- what ParseUint answers -/
def puR (T : TypeId) (M : Nat) (l : List UInt8) : Value := if decV 0 l ≤ M then .tuple #[.int .u64 (decV 0 l : Nat), .nilIface] else .tuple #[.int .u64 (M : Nat), .iface T (.int .i64 1)]
end Go.By
namespace Go.Proofs.YtccaiiigdfieoaaDoor
open Go.RowKit Go.By
end Go.Proofs.YtccaiiigdfieoaaDoor
namespace Go.Proofs.YtccaiiigdfieoaaDoor
open Go.RowKit Go.By
end Go.Proofs.YtccaiiigdfieoaaDoor
namespace Go.By
open Go.RowKit
theorem not_dig {l : List UInt8} {k : Nat} {c : UInt8} (h : l[k]? = some c) (hc : isDig c = false) : numG l = false := by
  have : l.all isDig = false := by
    rw [List.all_eq_false]
    exact ⟨c, List.mem_of_getElem? h, by rw [hc]; decide⟩
  unfold numG; rw [this]; simp
theorem all_dig {l : List UInt8} {n : Nat} (hn : l.length = n) (h : ∀ (j : Nat) (d : UInt8), j < n → l[j]? = some d → isDig d = true) : l.all isDig = true := List.all_eq_true.2 (fun b hb => by
  obtain ⟨j, hj, e⟩ := List.getElem_of_mem hb
  exact h j b (by omega) (by rw [List.getElem?_eq_getElem hj, e]))
theorem numB_none {M : Nat} {l : List UInt8} (h : numG l = false) : numB M l = none := by unfold numB; rw [if_neg (by rw [h]; simp)]
/-- what comes behind: a number, and whether it is one -/
def NumRes (K : IntKind) (M : Nat) (l : List UInt8) (v : Value) : Prop := ∃ x : Nat, v = .tuple #[.int K (x : Int), .bool (numB M l).isSome] ∧ ∀ y, numB M l = some y → x = y
theorem NumRes.no {K : IntKind} {M : Nat} {l : List UInt8} (h : numB M l = none) (x : Nat) : NumRes K M l (.tuple #[.int K (x : Int), .bool false]) := ⟨x, by rw [h]; rfl, fun y hy => by rw [h] at hy; cases hy⟩
theorem NumRes.yes {K : IntKind} {M : Nat} {l : List UInt8} {x : Nat} (h : numB M l = some x) : NumRes K M l (.tuple #[.int K (x : Int), .bool true]) := ⟨x, by rw [h]; rfl, fun y hy => by rw [h] at hy; exact Option.some.inj hy⟩
/-- what a first letter and a length say -/
theorem head_cases {l : List UInt8} {c : UInt8} (h : l[0]? = some c) : (c = 48 ∧ 1 < l.length ∧ numG l = false) ∨ ((c ≠ 48 ∨ l.length ≤ 1) ∧ numG l = l.all isDig) := by
  have hne : l ≠ [] := fun e => by subst e; cases h
  have hh : l.head? = some c := by rw [← h]; cases l <;> rfl
  unfold numG
  rw [hh, decide_eq_true hne]
  by_cases h1 : c = 48
  · by_cases h2 : 1 < l.length
    · exact .inl ⟨h1, h2, by rw [h1]; simp [h2]⟩
    · exact .inr ⟨.inr (by omega), by simp [h2]⟩
  · exact .inr ⟨.inl h1, by simp [h1]⟩
end Go.By
namespace Go.Proofs.YtccaiiigdfieoaaDoor
open Go.RowKit Go.By
end Go.Proofs.YtccaiiigdfieoaaDoor
namespace Go.By
open Go.RowKit
/-- texts in a row -/
def StrRow (w : World) (b : Nat) (L : List (List UInt8)) : Prop := ∀ (i : Nat) (x : List UInt8), L[i]? = some x → w.cell? ⟨b, i, none⟩ = some (.string (strB x))
theorem StrRow.keep {w w' : World} {b : Nat} {L : List (List UInt8)} (h : StrRow w b L) (hb : Below w.heap.size w w') : StrRow w' b L := fun i x hx => (hb.cell (p := ⟨b, i, none⟩) (lt_of_cell (h i x hx))).trans (h i x hx)
end Go.By
namespace Go.Proofs.YtccaiiigdfieoaaDoor
open Go.RowKit Go.By
/-- the library's MaxLen holds some number -/
def MaxI (w : World) : Prop := ∃ m, w.cell? ⟨0, 0, none⟩ = some (.int .i64 m)
theorem MaxI.keep {w w' : World} (h : MaxI w) (hb : Below w.heap.size w w') : MaxI w' := by
  obtain ⟨m, hm⟩ := h
  exact ⟨m, (hb.cell (p := ⟨0, 0, none⟩) (lt_of_cell hm)).trans hm⟩
/-- the library's ErrRange is an error -/
def ErrI (w : World) : Prop := ∃ ev, w.cell? ⟨3, 0, none⟩ = some ev ∧ (ev = .nilIface ∨ ∃ te pe, ev = .iface te pe)
theorem ErrI.keep {w w' : World} (h : ErrI w) (hb : Below w.heap.size w w') : ErrI w' := by
  obtain ⟨m, hm, h2⟩ := h
  exact ⟨m, (hb.cell (p := ⟨3, 0, none⟩) (lt_of_cell hm)).trans hm, h2⟩
/-- what strconv.ParseUint answers: a number, and whether there's an error -/
def PuRes (M : Nat) (l : List UInt8) (v : Value) : Prop := (decV 0 l ≤ M ∧ v = .tuple #[.int .u64 (decV 0 l : Nat), .nilIface]) ∨ (¬ decV 0 l ≤ M ∧ ∃ t p, v = .tuple #[.int .u64 (M : Nat), .iface t p])
set_option maxHeartbeats 1000000 in
theorem ParseUint_of (l : List UInt8) (bs : Int) (M : Nat) (w : World) (hl : l.length ≤ 1000000) (hE : ErrI w)
    (hin : Calls Tryd.prog 59 #[.string (strB l), .int .i64 10, .int .i64 bs] w fun e w' => e = .returned (puR 115 M l) ∧ Below w.heap.size w w') :
    Calls Tryd.prog 47 #[.string (strB l), .int .i64 10, .int .i64 bs] w fun e w' => ∃ v, e = .returned v ∧ PuRes M l v ∧ Below w.heap.size w w' := by
  have HF := Lib.hid hin
  have HL : Hid ((strB l).size ≤ 281474976710656) := by show _ ≤ _; rw [strB_size]; omega
  have HE := Lib.hid hE
  clear hin hE hl
  obtain ⟨S, hS⟩ : ∃ S, S = strB l := ⟨_, rfl⟩
  rw [← hS] at HF HL ⊢
  clear hS
  by_cases h : decV 0 l ≤ M
  · have HR : Hid (PuRes M l (.tuple #[.int .u64 (decV 0 l : Nat), .nilIface])) := .inl ⟨h, rfl⟩
    have e : puR 115 M l = .tuple #[.int .u64 (decV 0 l : Nat), .nilIface] := if_pos h
    rw [e] at HF
    clear e h
    go_enter Tryd.func47, Tryd.ntmps47
    go_wp2_with fail
    refine Calls.mono HF.out ?_
    rintro e w' ⟨rfl, hb⟩
    have HB := Lib.hid hb; clear hb
    go_wp2
    go_ret2
    exact ⟨_, rfl, HR.out, HB.out⟩
  · have HR : Hid (∀ t p, PuRes M l (.tuple #[.int .u64 (M : Nat), .iface t p])) := fun t p => .inr ⟨h, t, p, rfl⟩
    have e : puR 115 M l = .tuple #[.int .u64 (M : Nat), .iface 115 (.int .i64 1)] := if_neg h
    rw [e] at HF
    clear e h
    go_enter Tryd.func47, Tryd.ntmps47
    go_wp2_with fail
    refine Calls.mono HF.out ?_
    rintro e w' ⟨rfl, hb⟩
    obtain ⟨ev, hv, hev⟩ := HE.out.keep hb
    have HB := Lib.hid hb; clear hb
    have HV := Lib.hid hv; have HEV := Lib.hid hev; clear hv hev
    go_wp2_with fail
    refine Calls.mono (Tryd.strconv_toError_range _ S 10 bs ev w' HL.out HV.out HEV.out) ?_
    rintro e w2 ⟨N, rfl, h1, h2, h3⟩
    have HB2 : Hid (Below w.heap.size w w2) := bl HB.out h3 HB.out.size
    clear h1 h2 h3
    go_wp2
    go_ret2
    exact ⟨_, rfl, HR.out _ _, HB2.out⟩
end Go.Proofs.YtccaiiigdfieoaaDoor
namespace Go.Proofs.YtccaiiigdfieoaaDoor
open Go.RowKit Go.By
set_option maxHeartbeats 8000000 in
set_option maxRecDepth 100000 in
theorem ParseUint_in64 (l : List UInt8) (hne : l ≠ []) (hl : l.length ≤ 1000000) (hx : ∀ c ∈ l, isDig c = true) (w : World) :
    Calls Tryd.prog 59 #[.string (strB l), .int .i64 10, .int .i64 64] w fun e w' => e = .returned (puR 115 18446744073709551615 l) ∧ Below w.heap.size w w' := by
  have hemp : (strB l).toList.isEmpty = false := by
    rw [← decide_eq_emptyBytes]
    exact decide_eq_false (fun h => hne (by have := congrArg (fun s : ByteArray => s.data.toList) h; simpa [strB_data] using this))
  have hcv := Lib.run_convert_string_bytes (P := Tryd.prog) w 9 35 5 (strB l) (u := .string) Tryd.underlying9 Tryd.underlying35 Tryd.underlying5
  have hB : ∀ j, j < (strB l).size → (Lib.bytesWorld w 5 (strB l)).cell? ⟨w.heap.size, j, none⟩ = some (.int .u8 ((strB l).data.toList.getD j 0).toNat) := fun j hj => Lib.bytesWorld_cell w 5 (strB l) j hj
  have HW : Hid (Below w.heap.size w (Lib.bytesWorld w 5 (strB l))) := ⟨rfl, rfl, rfl, by rw [Lib.bytesWorld_size]; omega, fun j hj => Lib.bytesWorld_at_old w 5 (strB l) j hj⟩
  obtain ⟨W1, hW1⟩ : ∃ W1, W1 = Lib.bytesWorld w 5 (strB l) := ⟨_, rfl⟩
  rw [← hW1] at hcv hB HW
  clear hW1
  rw [strB_data, strB_size] at hB
  obtain ⟨n, hn⟩ : ∃ n, l.length = n := ⟨_, rfl⟩
  have hsz : (strB l).size = n := by rw [strB_size, hn]
  rw [hn] at hB hl
  have HN := Lib.hid hn
  have HX := Lib.hid hx
  obtain ⟨S, hS⟩ : ∃ S, S = strB l := ⟨_, rfl⟩
  rw [← hS] at hemp hcv hsz ⊢
  clear hS hn hx hne
  have hmv : IntKind.u64.wrap (IntKind.u64.wrap 18446744073709551616 - 1) = 18446744073709551615 := by
    rw [IntKind.wrap_u64, IntKind.wrap_u64]
    decide
  go_enter Tryd.func59, Tryd.ntmps59
  go_wp2
  go_loop [12, 13, 101] (fun vu vn vi => ∃ (k : Nat) (a : Int), vu = .bool false ∧ vn = .int .u64 a ∧ vi = .int .i64 k ∧ k ≤ n ∧ 0 ≤ a ∧ a ≤ 18446744073709551615 ∧ Hid (a = (decV 0 (l.take k) : Nat)))
    (fun _ _ vi => n - (intOf vi).toNat)
  case atStart => exact ⟨0, 0, rfl, rfl, rfl, by omega, by omega, by omega, by show (0 : Int) = ((decV 0 (l.take 0) : Nat) : Int); rw [List.take_zero]; rfl⟩
  case round =>
    obtain ⟨k, a, rfl, rfl, rfl, hk, a0, a1, hh⟩ := hrel
    by_cases hkn : k < n
    · have hc := hB k hkn
      obtain ⟨c, hcl⟩ : ∃ c, l[k]? = some c := ⟨l[k]'(by have := HN.out; omega), List.getElem?_eq_getElem _⟩
      rw [List.getD_eq_getElem?_getD, hcl] at hc
      simp only [Option.getD_some] at hc
      obtain ⟨d0, d1⟩ := isDig_le (HX.out c (List.mem_of_getElem? hcl))
      have hstep : Hid (decV 0 (l.take (k + 1)) = 10 * decV 0 (l.take k) + (c.toNat - 48)) := decV_take hcl
      have hle : Hid (decV 0 (l.take (k + 1)) ≤ decV 0 l) := decV_take_le l (k + 1)
      have hc256 : c.toNat < 256 := c.toNat_lt
      clear hB hcl
      by_cases hM : a * 10 + ((c.toNat : Int) - 48) ≤ 18446744073709551615
      · have icut : a < 1844674407370955162 := by omega
        have iov : a * 10 + ((c.toNat : Int) - 48) < 18446744073709551616 := by omega
        have ilo : a * 10 ≤ a * 10 + ((c.toNat : Int) - 48) := by omega
        go_wp2
        refine ⟨⟨k + 1, a * 10 + ((c.toNat : Int) - 48), rfl, rfl, by go_num, by omega, by omega, by omega, by have h1 := hstep.out; have h2 := hh.out; show _ = _; omega⟩, by simp [intOf]; omega⟩
      · have HE : Hid (puR 115 18446744073709551615 l = .tuple #[.int .u64 (18446744073709551615 : Nat), .iface 115 (.int .i64 1)]) := by
          show _ = _
          unfold puR
          rw [if_neg (by have h1 := hstep.out; have h2 := hh.out; have h3 := hle.out; omega)]
        by_cases icut : a < 1844674407370955162
        · have hw : IntKind.u64.wrap (a * 10 + ((c.toNat : Int) - 48)) = a * 10 + ((c.toNat : Int) - 48) - 18446744073709551616 := by rw [IntKind.wrap_u64]; omega
          have ilo : a * 10 + ((c.toNat : Int) - 48) - 18446744073709551616 < a * 10 := by omega
          clear hM hstep hh hle
          go_wp2
          go_ret2
          exact ⟨by rw [HE.out]; rfl, HW.out⟩
        · have icut2 : 1844674407370955162 ≤ a := by omega
          clear hM hstep hh hle
          go_wp2
          go_ret2
          exact ⟨by rw [HE.out]; rfl, HW.out⟩
    · obtain rfl : k = n := by omega
      have HE : Hid (puR 115 18446744073709551615 l = .tuple #[.int .u64 a, .nilIface]) := by
        have := hh.out
        rw [List.take_of_length_le (by have := HN.out; omega)] at this
        show _ = _
        unfold puR
        rw [if_pos (by omega), ← this]
      clear hB hh hkn
      go_wp2
      go_ret2
      exact ⟨by rw [HE.out]; rfl, HW.out⟩
theorem ParseUint_64 (l : List UInt8) (hne : l ≠ []) (hl : l.length ≤ 1000000) (hx : ∀ c ∈ l, isDig c = true) (w : World) (hE : ErrI w) :
    Calls Tryd.prog 47 #[.string (strB l), .int .i64 10, .int .i64 64] w fun e w' => ∃ v, e = .returned v ∧ PuRes 18446744073709551615 l v ∧ Below w.heap.size w w' :=
  ParseUint_of l 64 18446744073709551615 w hl hE (ParseUint_in64 l hne hl hx w)
end Go.Proofs.YtccaiiigdfieoaaDoor
namespace Go.By
open Go.RowKit
theorem txt_get {l : List UInt8} {k : Nat} {c : UInt8} (h : l[k]? = some c) (hs : k < (strB l).size) : (strB l)[k]'hs = c := by
  have h3 : (strB l).data[k]? = some ((strB l)[k]'hs) := Array.getElem?_eq_getElem hs
  have h4 : (strB l).data[k]? = some c := by rw [← Array.getElem?_toList, strB_data]; exact h
  rw [h3] at h4; exact Option.some.inj h4
theorem txt_decode {l : List UInt8} {k : Nat} {c : UInt8} (h : l[k]? = some c) : (c.toNat < 128 → Utf8.decode (strB l) k = (c.toNat, 1)) ∧ (128 ≤ c.toNat → 128 ≤ (Utf8.decode (strB l) k).1) := by
  have hs : k < (strB l).size := by rw [strB_size]; exact (List.getElem?_eq_some_iff.1 h).1
  have hg := txt_get h hs
  constructor
  · intro hc
    have := decode_ascii (strB l) k hs (by rw [hg]; exact hc)
    rwa [hg] at this
  · intro hc
    exact (decode_high (strB l) k hs (by rw [hg]; exact hc)).1
theorem below_iter (w : World) (s : ByteArray) (k : Nat) : Below w.heap.size w (w.iter s k) := al (Below.refl _ _) (Nat.le_refl _)
end Go.By
namespace Go.Proofs.YtccaiiigdfieoaaDoor
open Go.RowKit Go.By
/-- the library's ErrSyntax is an error -/
def SynI (w : World) : Prop := ∃ ev, w.cell? ⟨2, 0, none⟩ = some ev ∧ (ev = .nilIface ∨ ∃ te pe, ev = .iface te pe)
theorem SynI.keep {w w' : World} (h : SynI w) (hb : Below w.heap.size w w') : SynI w' := by
  obtain ⟨m, hm, h2⟩ := h
  exact ⟨m, (hb.cell (p := ⟨2, 0, none⟩) (lt_of_cell hm)).trans hm, h2⟩
set_option maxRecDepth 100000 in
theorem ParseUint_in0 (w : World) : Calls Tryd.prog 59 #[.string ByteArray.empty, .int .i64 10, .int .i64 64] w fun e w' => e = .returned (.tuple #[.int .u64 0, .iface 115 (.int .i64 2)]) ∧ w = w' := by
  go_enter Tryd.func59, Tryd.ntmps59
  go_wp2
  go_ret2
  exact ⟨rfl, rfl⟩
set_option maxRecDepth 100000 in
theorem ParseUint_empty (w : World) (hS : SynI w) : Calls Tryd.prog 47 #[.string ByteArray.empty, .int .i64 10, .int .i64 64] w fun e w' => ∃ t p, e = .returned (.tuple #[.int .u64 0, .iface t p]) ∧ Below w.heap.size w w' := by
  obtain ⟨ev, hv, hev⟩ := hS
  have HT := Lib.hid (fun fn => Tryd.strconv_toError_syntax fn ByteArray.empty 10 64 ev w (by decide) hv hev)
  clear hv hev
  go_enter Tryd.func47, Tryd.ntmps47
  go_wp2_with fail
  refine Calls.mono (ParseUint_in0 w) ?_
  rintro e w' ⟨rfl, rfl⟩
  go_wp2_with fail
  refine Calls.mono (HT.out _) ?_
  rintro e w' ⟨N, rfl, -, -, hb⟩
  have HB := Lib.hid hb; clear hb
  go_wp2
  go_ret2
  exact ⟨_, _, rfl, HB.out⟩
set_option maxRecDepth 100000 in
set_option maxHeartbeats 4000000 in
theorem readNumber_any (l : List UInt8) (w : World) (hl : l.length ≤ 1000000) (hE : ErrI w) (hS : SynI w) :
    Calls Tryd.prog 32 #[.string (strB l)] w fun e w' => ∃ v, e = .returned v ∧ NumRes .u64 18446744073709551615 l v ∧ Below w.heap.size w w' := by
  obtain ⟨n, hn⟩ : ∃ n, n = l.length := ⟨_, rfl⟩
  have hsz : (strB l).size = n := by rw [strB_size, hn]
  by_cases hne : l = []
  · subst hne
    have H0 : Hid (numB 18446744073709551615 [] = none) := rfl
    have hn0 : n = 0 := hn
    subst hn0
    have HPU := Lib.hid (ParseUint_empty (w.iter ByteArray.empty 0) (hS.keep (below_iter _ _ _)))
    have he : strB [] = ByteArray.empty := rfl
    rw [he] at hsz ⊢
    have hnx : ∀ ty, (Instr.next (.pointer (some ⟨w.heap.size, 0, none⟩)) true ty).run Tryd.prog (w.iter ByteArray.empty 0) = _ := fun ty => run_next_end w ByteArray.empty 0 ty (by decide)
    clear hn hE hS he hsz
    go_enter Tryd.func32, Tryd.ntmps32
    go_wp2
    go_loopw [5] (fun _ wr => wr = w.iter ByteArray.empty 0) (fun _ _ => 0)
    case atStart => rfl
    case round =>
      subst hrel
      go_wp2_with fail
      refine Calls.mono HPU.out ?_
      rintro e w' ⟨t, p, rfl, hb⟩
      have HB := Lib.hid (bl (below_iter w ByteArray.empty 0) hb (by simp [World.iter])); clear hb
      go_wp2
      go_ret2
      exact ⟨_, rfl, NumRes.no H0.out 0, HB.out⟩
  have hn0 : 0 < n := by rw [hn]; exact List.length_pos_iff.2 hne
  obtain ⟨c0, hc0⟩ : ∃ c, l[0]? = some c := ⟨l[0]'(by omega), List.getElem?_eq_getElem _⟩
  have hix0 : ∀ w, (Instr.index 9 (.string (strB l)) (.int .i64 0)).run Tryd.prog w = .ok (B8 c0) w := fun w => txt_idx _ Tryd.underlying9 hc0 .i64 _ rfl w
  have hcs := head_cases hc0
  have HDC : Hid (∀ k c, l[k]? = some c → (c.toNat < 128 → Utf8.decode (strB l) k = (c.toNat, 1)) ∧ (128 ≤ c.toNat → 128 ≤ (Utf8.decode (strB l) k).1)) := fun k c h => txt_decode h
  have HPU : Hid (numG l = true → ∀ W, Below w.heap.size w W → Calls Tryd.prog 47 #[.string (strB l), .int .i64 10, .int .i64 64] W fun e w' => ∃ v, e = .returned v ∧ PuRes 18446744073709551615 l v ∧ Below W.heap.size W w') := fun hg W hb => ParseUint_64 l hne hl (numG_dig hg) W (hE.keep hb)
  have HN := Lib.hid hn
  have HE := Lib.hid hE
  obtain ⟨S, hS'⟩ : ∃ S, S = strB l := ⟨_, rfl⟩
  rw [← hS'] at hsz hix0 HDC HPU ⊢
  rw [← hn] at hl hcs
  clear hS' hn hc0 hne hE hS
  rcases hcs with ⟨e1, e2, e3⟩ | ⟨e2, e3⟩
  · have h8 : B8 c0 = .int .u8 48 := by rw [e1]; rfl
    rw [h8] at hix0
    have H0 : Hid (numB 18446744073709551615 l = none) := numB_none e3
    have h1n : (1 : Int) < (n : Int) := by omega
    clear e1 e2 e3 h8
    go_enter Tryd.func32, Tryd.ntmps32
    go_wp2_with (simp only [hix0])
    go_ret2
    exact ⟨_, rfl, NumRes.no H0.out 0, Below.refl _ _⟩
  · have HG := Lib.hid e3
    have hhx : (∃ v : Int, (∀ w, (Instr.index 9 (.string S) (.int .i64 0)).run Tryd.prog w = .ok (.int .u8 v) w) ∧ (v == 48) = false ∧ (1 : Int) < (n : Int)) ∨ ((∀ w, (Instr.index 9 (.string S) (.int .i64 0)).run Tryd.prog w = .ok (B8 c0) w) ∧ True ∧ ¬ (1 : Int) < (n : Int)) := by
      by_cases h1 : 1 < n
      · have hc : c0 ≠ 48 := by rcases e2 with h | h; exact h; omega
        exact .inl ⟨_, hix0, by rw [beq_eq_false_iff_ne]; intro e; exact hc (UInt8.toNat_inj.1 (by show c0.toNat = 48; omega)), by omega⟩
      · exact .inr ⟨hix0, trivial, by omega⟩
    clear e2 e3 hix0
    rcases hhx with ⟨v0, hix0, hv0, hv1⟩ | ⟨hix0, hv0, hv1⟩
    all_goals
      go_enter Tryd.func32, Tryd.ntmps32
      go_wp2_with (simp only [hix0])
      clear hix0 hv0 hv1
      go_loopw [5] (fun _ wr => ∃ k : Nat, wr = w.iter S k ∧ k ≤ n ∧ Hid (∀ (j : Nat) (d : UInt8), j < k → l[j]? = some d → isDig d = true)) (fun _ wr => n - wr.iterPos w.heap.size)
      case atStart => exact ⟨0, rfl, Nat.zero_le _, fun j d hj => absurd hj (Nat.not_lt_zero j)⟩
      case round =>
        obtain ⟨k, rfl, hk, hr⟩ := hrel
        by_cases hlt : k < n
        · obtain ⟨d, hd⟩ : ∃ d, l[k]? = some d := ⟨l[k]'(by have := HN.out; omega), List.getElem?_eq_getElem _⟩
          have hnx : ∀ ty, (Instr.next (.pointer (some ⟨w.heap.size, 0, none⟩)) true ty).run Tryd.prog (w.iter S k) = _ := fun ty => run_next_any w S k ty (by omega)
          obtain ⟨g1, g2⟩ := HDC.out k d hd
          have HD := Lib.hid hd
          by_cases hdg : isDig d = true
          · obtain ⟨d1, d2⟩ := isDig_le hdg
            rw [g1 (by omega)] at hnx
            have q1 : ¬ (d.toNat : Int) < 48 := by omega
            have q2 : ¬ (57 : Int) < (d.toNat : Int) := by omega
            have HQ := Lib.hid hdg
            clear g1 g2 hd hdg d1 d2
            go_wp2
            go_roundw
            case rel => exact ⟨k + 1, rfl, by omega, fun j d' hj hd' => by
              rcases Nat.lt_or_ge j k with h | h
              · exact hr.out j d' h hd'
              · obtain rfl : j = k := by omega
                have := HD.out
                rw [hd'] at this; cases this; exact HQ.out⟩
            case measure => simp [World.iterPos_iter]; omega
          · rw [Bool.not_eq_true] at hdg
            have H0 : Hid (numB 18446744073709551615 l = none) := numB_none (not_dig HD.out hdg)
            have hbig : (Utf8.decode S k).1 < 48 ∨ (48 ≤ (Utf8.decode S k).1 ∧ 57 < (Utf8.decode S k).1) := by
              unfold isDig at hdg
              simp at hdg
              by_cases h : d.toNat < 128
              · rw [g1 h]
                by_cases h4 : d.toNat < 48
                · exact .inl h4
                · exact .inr ⟨by omega, by have := hdg (by omega); show 57 < d.toNat; omega⟩
              · have := g2 (by omega)
                exact .inr ⟨by omega, by omega⟩
            have hle := decode_le S k
            obtain ⟨D, hD⟩ : ∃ D, D = (Utf8.decode S k).1 := ⟨_, rfl⟩
            rw [← hD] at hnx hbig hle
            clear g1 g2 hd hdg hD hr
            rcases hbig with hb | ⟨hb1, hb2⟩
            · have q1 : (D : Int) < 48 := by omega
              go_wp2
              go_ret2
              exact ⟨_, rfl, NumRes.no H0.out 0, below_iter _ _ _⟩
            · have q1 : ¬ (D : Int) < 48 := by omega
              have q2 : (57 : Int) < (D : Int) := by omega
              go_wp2
              go_ret2
              exact ⟨_, rfl, NumRes.no H0.out 0, below_iter _ _ _⟩
        · obtain rfl : k = n := by omega
          have hnx : ∀ ty, (Instr.next (.pointer (some ⟨w.heap.size, 0, none⟩)) true ty).run Tryd.prog (w.iter S k) = _ := fun ty => run_next_end w S k ty (by omega)
          have HD : Hid (numG l = true) := HG.out.trans (all_dig HN.out.symm hr.out)
          clear hr hlt
          go_wp2_with fail
          refine Calls.mono (HPU.out HD.out _ (below_iter _ _ _)) ?_
          rintro e w' ⟨v, rfl, hv, hb⟩
          have HB := Lib.hid (bl (below_iter w S k) hb (by simp [World.iter])); clear hb
          rcases hv with ⟨h1, rfl⟩ | ⟨h1, t, p, rfl⟩
          · have H1 : Hid (numB 18446744073709551615 l = some (decV 0 l)) := by
              show _ = _
              unfold numB; rw [if_pos ⟨HD.out, h1⟩]
            clear h1
            generalize decV 0 l = x at *
            go_wp2
            go_ret2
            exact ⟨_, rfl, NumRes.yes H1.out, HB.out⟩
          · have H1 : Hid (numB 18446744073709551615 l = none) := by
              show _ = _
              unfold numB; rw [if_neg (fun h => h1 h.2)]
            clear h1
            go_wp2
            go_ret2
            exact ⟨_, rfl, NumRes.no H1.out 0, HB.out⟩
end Go.Proofs.YtccaiiigdfieoaaDoor
namespace Go.By
open Go.RowKit Go.Proofs.YtccaiiigdfieoaaDoor
theorem spl_count (c : UInt8) : ∀ (m : Nat) (s : List UInt8), s.length ≤ m → spl c (Lib.count s [c]) s = splA c s
  | m, s, hm => by
    cases h : (cutW c s).2 with
    | none =>
      have e := (cutW_none h).2
      rw [Lib.count_miss e]
      show [s] = splA c s
      exact (spl_none h).symm
    | some r =>
      obtain ⟨i, e1, e2, e3, e4⟩ := cutW_some h
      have hl := cutW_len h
      cases m with
      | zero => omega
      | succ m =>
        rw [Lib.count_hit (by simp) e1, show ([c] : List UInt8).length = 1 from rfl, e3, Nat.add_comm, spl_some h, spl_count c m r (by omega)]
        unfold splA
        obtain ⟨k, hk⟩ : ∃ k, s.length = k + 1 := ⟨s.length - 1, by omega⟩
        rw [hk, spl_some h, spl_more (k := k) (by omega)]; rfl
theorem splitB_splC (c : UInt8) (l : List UInt8) (k : Nat) : Lib.splitB ⟨#[c]⟩ 0 k (strB l) = (spl c k l).map strB := by
  have h := Lib.splitB_data ⟨#[c]⟩ 0 k (strB l)
  rw [strB_data] at h
  have h2 : Lib.splitK [c] 0 k l = spl c k l := splitK_spl c k l
  have h3 : ((⟨#[c]⟩ : ByteArray).data.toList) = [c] := rfl
  rw [h3, h2] at h
  have h4 := congrArg (List.map strB) h
  rw [List.map_map] at h4
  rw [← h4]
  conv => lhs; rw [← List.map_id (Lib.splitB ⟨#[c]⟩ 0 k (strB l))]
  apply List.map_congr_left
  intro x _
  exact strB_of x
theorem spl_shortC (c : UInt8) : ∀ (k : Nat) (l x : List UInt8), x ∈ spl c k l → x.length ≤ l.length
  | 0, l, x, h => by
    have : x = l := by simpa [spl] using h
    rw [this]; exact Nat.le_refl _
  | k + 1, l, x, h => by
    cases hc : (cutW c l).2 with
    | none =>
      rw [spl_none hc] at h
      rw [List.mem_singleton.1 h]; exact Nat.le_refl _
    | some r =>
      rw [spl_some hc] at h
      obtain ⟨i, _, e2, e3, e4⟩ := cutW_some hc
      rcases List.mem_cons.1 h with rfl | h
      · rw [← e2, List.length_take]; omega
      · have := spl_shortC c k r x h
        have := cutW_len hc
        omega
theorem splA_len (c : UInt8) (s : List UInt8) : (splA c s).length ≤ s.length + 1 := (spl_len c s.length s).2
theorem cut_cutW (c : UInt8) : ∀ s : List UInt8, Lib.cut s [c] = ((cutW c s).1, (cutW c s).2.getD [], (cutW c s).2.isSome) := fun s => by
  cases h : (cutW c s).2 with
  | none =>
    obtain ⟨e1, e2⟩ := cutW_none h
    unfold Lib.cut
    rw [e2]
    simp [e1]
  | some r =>
    obtain ⟨i, e1, e2, e3, e4⟩ := cutW_some h
    unfold Lib.cut
    rw [e1]
    have hi : ¬ ((i : Int) == -1) = true := fun e => by have := beq_iff_eq.1 e; omega
    simp [e2, e3]
    try omega
end Go.By
namespace Go.Proofs.YtccaiiigdfieoaaDoor
open Go.RowKit Go.By
theorem Split_any (c : UInt8) (l : List UInt8) (w : World) (hl : l.length ≤ 1000000) (hM : MaxI w) :
    Calls Tryd.prog 30 #[.string (strB l), .string ⟨#[c]⟩] w fun e w' => e = .returned (.slice (some ⟨w.heap.size, 0, none⟩) (splA c l).length (splA c l).length) ∧ StrRow w' w.heap.size (splA c l) ∧ Below w.heap.size w w' := by
  obtain ⟨m, hm⟩ := hM
  have hc : Lib.countB (strB l) ⟨#[c]⟩ = Lib.count l [c] := by show Lib.count _ _ = _; rw [strB_data]
  have hs : Lib.splitB ⟨#[c]⟩ 0 (Lib.countB (strB l) ⟨#[c]⟩) (strB l) = (splA c l).map strB := by
    rw [splitB_splC, hc, spl_count c _ l (Nat.le_refl _)]
  have hn : Lib.countB (strB l) ⟨#[c]⟩ + 1 = (splA c l).length := by
    have := Lib.splitB_all ⟨#[c]⟩ (Nat.le_refl 1) 0 _ (strB l) rfl
    rw [hs, List.length_map] at this
    exact this.symm
  refine (Tryd.strings_Split (strB l) ⟨#[c]⟩ m w (by rw [strB_size]; omega) hm (Nat.le_refl 1)).mono ?_
  rintro e w' ⟨rfl, rfl⟩
  rw [hs, hn]
  refine ⟨rfl, fun i x hx => ?_, al (Below.refl _ _) (Nat.le_refl _)⟩
  rw [cell_of_row _ _ _ _ _ _ (hnew rfl), List.getElem?_toArray, List.getElem?_map, List.getElem?_map, hx]; rfl
theorem Cut_any (c : UInt8) (l : List UInt8) (w : World) (hl : l.length ≤ 1000000) (hM : MaxI w) :
    Calls Tryd.prog 17 #[.string (strB l), .string ⟨#[c]⟩] w fun e w' => e = .returned (.tuple #[.string (strB (cutW c l).1), .string (strB ((cutW c l).2.getD [])), .bool (cutW c l).2.isSome]) ∧ Below w.heap.size w w' := by
  obtain ⟨m, hm⟩ := hM
  refine (Tryd.strings_Cut (strB l) ⟨#[c]⟩ m w (by rw [strB_size]; omega) hm).mono ?_
  rintro e w' ⟨rfl, n, rfl⟩
  rw [strB_data, show ((⟨#[c]⟩ : ByteArray).data.toList) = [c] from rfl, cut_cutW]
  exact ⟨rfl, below_drewN _ _⟩
end Go.Proofs.YtccaiiigdfieoaaDoor
namespace Go.By
open Go.RowKit Go.Proofs.YtccaiiigdfieoaaDoor
def encU (x : Nat) : Value := .int .u64 (x : Int)
def fl3 (vs : List (Value × Value × Value)) : List Value := vs.flatMap fun u => [u.1, u.2.1, u.2.2]
theorem fl3_append (a b : List (Value × Value × Value)) : fl3 (a ++ b) = fl3 a ++ fl3 b := by simp [fl3]
theorem fl3_length : ∀ vs : List (Value × Value × Value), (fl3 vs).length = vs.length * 3
  | [] => rfl
  | u :: l => by
    show ([u.1, u.2.1, u.2.2] ++ fl3 l).length = _
    rw [List.length_append, fl3_length l, List.length_cons]; simp; omega
theorem fl3_at : ∀ {vs : List (Value × Value × Value)} {i : Nat} {u : Value × Value × Value}, vs[i]? = some u → (fl3 vs)[i * 3]? = some u.1 ∧ (fl3 vs)[i * 3 + 1]? = some u.2.1 ∧ (fl3 vs)[i * 3 + 2]? = some u.2.2
  | [], i, u, h => by simp at h
  | x :: l, 0, u, h => by simp at h; subst h; exact ⟨rfl, rfl, rfl⟩
  | x :: l, i + 1, u, h => by
    have ih := fl3_at (vs := l) (i := i) (u := u) (by simpa using h)
    have e : ∀ j, (fl3 (x :: l))[(i + 1) * 3 + j]? = (fl3 l)[i * 3 + j]? := fun j => by
      show ([x.1, x.2.1, x.2.2] ++ fl3 l)[(i + 1) * 3 + j]? = _
      rw [List.getElem?_append_right (by simp; omega)]
      congr 1
      simp; omega
    exact ⟨(e 0).trans ih.1, (e 1).trans ih.2.1, (e 2).trans ih.2.2⟩
/-- a slice of three-celled rows, cell by cell -/
structure Rw3 (w : World) (p : Option Addr) (n c : Nat) (vs : List (Value × Value × Value)) : Prop where
  len : vs.length = n
  le : n ≤ c
  max : c ≤ maxLen
  nil : p = none → n = 0 ∧ c = 0
  cell : ∀ (j : Nat) (u : Value), (fl3 vs)[j]? = some u → ∃ b o, p = some ⟨b, o, none⟩ ∧ w.cell? ⟨b, o + j, none⟩ = some u
theorem Rw3.of_owns {w : World} {base T n c : Nat} {q : Option Addr} {vs : List (Value × Value × Value)} (h : w.ownsRow base T 3 (.slice q n c) n (fl3 vs)) : Rw3 w q n c vs := by
  have hl : vs.length = n := by have := h.1; rw [fl3_length] at this; omega
  rcases h.2 with ⟨e1, e2⟩ | ⟨g, cap, cur, e1, _, _, h3, h4, _⟩
  · cases e1
    exact ⟨hl, Nat.le_of_eq e2, by simp [maxLen], fun _ => ⟨e2, rfl⟩, fun j u hj => (by have := (List.getElem?_eq_some_iff.1 hj).1; rw [fl3_length] at this; omega)⟩
  · cases e1
    refine ⟨hl, h3, h4, fun e => (by cases e), fun j u hj => ⟨g, 0, rfl, ?_⟩⟩
    have := (List.getElem?_eq_some_iff.1 hj).1
    rw [fl3_length] at this
    rw [Nat.zero_add, h.cellAt _ (by omega)]; exact hj
theorem owns_block_ne {w : World} {base e s n : Nat} {v : Value} {ys : List Value} (ho : w.ownsRow base e s v n ys) {b T' : Nat} {cs : Array Value} {fr : Nat × Nat} (hb : w.heap[b]? = some (.cells cs T' fr)) (hne : T' ≠ e) : v.ownBlock ≠ some b := by
  intro e1
  rcases ho.2 with ⟨rfl, _⟩ | ⟨g, cap, cur, rfl, _, hh, _⟩
  · simp [Value.ownBlock] at e1
  · simp [Value.ownBlock] at e1
    subst e1
    rw [hh] at hb
    injection hb with hb
    injection hb with _ hb _
    exact hne hb.symm
theorem Fresh.cellI {T T' B g i n c : Nat} {w : World} {q : Option Addr} {xs : List UInt8} {old : Array Value} {fr : Nat × Nat} {v : Value} (h : Fresh T B w q n c xs) (hg : w.heap[g]? = some (.cells old T' fr)) (hne : T' ≠ T) : Fresh T B (w.setCell ⟨g, i, Option.none⟩ v) q n c xs := by
  have hd : ∀ a, q = some a → a.block ≠ g := fun a ha e => by
    obtain ⟨c2, f2, e2⟩ := h.ty a ha
    rw [e, hg] at e2
    injection e2 with e2
    injection e2 with _ e3 _
    exact hne e3
  exact ⟨⟨h.sl.len, h.sl.le, h.sl.max, h.sl.nil, fun j hj => by
    obtain ⟨b, o, e, hc⟩ := h.sl.rs j hj
    exact ⟨b, o, e, (World.cell?_of_block (a := ⟨b, o + j, Option.none⟩) (Below.heap_setCell _ _ _ _ (hd _ e))).trans hc⟩⟩, h.new, fun a ha => by obtain ⟨c2, f2, e2⟩ := h.ty a ha; exact ⟨c2, f2, (Below.heap_setCell _ _ _ _ (hd a ha)).trans e2⟩⟩
theorem owns_setRow {w : World} {base e s n : Nat} {v : Value} {ys : List Value} (ho : w.ownsRow base e s v n ys) {b T' : Nat} {cs cs' : Array Value} {fr : Nat × Nat} (hb : w.heap[b]? = some (.cells cs T' fr)) (hne : T' ≠ e) : (w.setRow b cs').ownsRow base e s v n ys := by
  have h := owns_block_ne ho hb hne
  refine ⟨ho.1, ?_⟩
  rcases ho.2 with g | ⟨g, cap, cur, rfl, g2, g3, g4⟩
  · exact .inl g
  · refine .inr ⟨g, cap, cur, rfl, g2, ?_, g4⟩
    exact hro g3 (fun e1 => h (by simp [Value.ownBlock, e1]))
/-- a block of another element type stays as an owned slice grows -/
theorem grown_other {w w' : World} {base e s n : Nat} {v : Value} {ys : List Value} (ho : w.ownsRow base e s v n ys) (hg : w.grownBy w' v.ownBlock) {b T' : Nat} {cs : Array Value} {fr : Nat × Nat} (hb : w.heap[b]? = some (.cells cs T' fr)) (hne : T' ≠ e) : w'.heap[b]? = some (.cells cs T' fr) := by
  refine (hg.block b (Array.getElem?_eq_some_iff.1 hb).1 ?_).trans hb
  intro e1
  rcases ho.2 with ⟨rfl, _⟩ | ⟨g, cap, cur, rfl, _, hh, _⟩
  · simp [Value.ownBlock] at e1
  · simp [Value.ownBlock] at e1
    subst e1
    rw [hh] at hb
    injection hb with hb
    injection hb with _ hb _
    exact hne hb.symm
end Go.By
namespace Go.Proofs.YtccaiiigdfieoaaDoor
open Go.RowKit Go.By
/-- the cells of a command in new memory -/
def CmdV (B : Nat) (w : World) (u : Value × Value × Value) (c : Cmd) : Prop :=
  u.1 = .string (strB c.word) ∧ (∃ q n k, u.2.1 = .slice q n k ∧ w.ownsRow B 48 1 (.slice q n k) n (c.nums.map encU)) ∧ ∃ q n k, u.2.2 = .slice q n k ∧ Fresh 5 B w q n k c.bytes
theorem CmdV.keep {B : Nat} {w w' : World} {u : Value × Value × Value} {c : Cmd} (h : CmdV B w u c) (hb : Below w.heap.size w w') : CmdV B w' u c := by
  obtain ⟨h1, ⟨q, n, k, e1, h2⟩, q', n', k', e2, h3⟩ := h
  exact ⟨h1, ⟨q, n, k, e1, owns_keep h2 hb⟩, q', n', k', e2, h3.keep hb⟩
theorem CmdV.mono {B B' : Nat} {w : World} {u : Value × Value × Value} {c : Cmd} (h : CmdV B w u c) (hB : B' ≤ B) : CmdV B' w u c := by
  obtain ⟨h1, ⟨q, n, k, e1, h2⟩, q', n', k', e2, h3⟩ := h
  exact ⟨h1, ⟨q, n, k, e1, owns_mono h2 hB⟩, q', n', k', e2, h3.mono hB⟩
theorem CmdV.same {B T : Nat} {w w' : World} {u : Value × Value × Value} {c : Cmd} (h : CmdV B w u c) (hs : w.heap.size ≤ w'.heap.size) (hp : ∀ (b T' : Nat) (cs : Array Value) (fr : Nat × Nat), w.heap[b]? = some (.cells cs T' fr) → T' ≠ T → w'.heap[b]? = w.heap[b]?) (h8 : 5 ≠ T) (h64 : 48 ≠ T) : CmdV B w' u c := by
  obtain ⟨h1, ⟨q, n, k, e1, h2⟩, q', n', k', e2, h3⟩ := h
  refine ⟨h1, ⟨q, n, k, e1, ?_⟩, q', n', k', e2, ?_⟩
  · refine ⟨h2.1, ?_⟩
    rcases h2.2 with g | ⟨g, cap, cur, g1, g2, g3, g4⟩
    · exact .inl g
    · exact .inr ⟨g, cap, cur, g1, g2, (hp _ _ _ _ g3 h64).trans g3, g4⟩
  · have hd : ∀ a, q' = some a → w'.heap[a.block]? = w.heap[a.block]? := fun a ha => by
      obtain ⟨cs, fr, e⟩ := h3.ty a ha; exact hp _ _ cs fr e h8
    refine ⟨⟨h3.sl.len, h3.sl.le, h3.sl.max, h3.sl.nil, fun i hi => ?_⟩, h3.new, fun a ha => ?_⟩
    · obtain ⟨b, o, e, hc⟩ := h3.sl.rs i hi
      exact ⟨b, o, e, (World.cell?_of_block (a := ⟨b, o + i, none⟩) (show w'.heap[b]? = w.heap[b]? from hd ⟨b, o, none⟩ e)).trans hc⟩
    · obtain ⟨cs, fr, e⟩ := h3.ty a ha
      exact ⟨cs, fr, (hd a ha).trans e⟩
/-- commands in a row that the call made -/
def CmdsF (T : TypeId) (B : Nat) (w : World) (v : Value) (n : Nat) (cs : List Cmd) : Prop :=
  ∃ vs, w.ownsRow B T 3 v n (fl3 vs) ∧ vs.length = n ∧ cs.length = n ∧ ∀ (j : Nat) (u : Value × Value × Value), vs[j]? = some u → ∃ c, cs[j]? = some c ∧ CmdV B w u c
theorem CmdsF.nil (T : TypeId) (B : Nat) (w : World) : CmdsF T B w (.slice none 0 0) 0 [] := ⟨[], World.ownsRow_nil _ _ _ _, rfl, rfl, fun j u h => by simp at h⟩
theorem CmdsF.keep {T : TypeId} {B n : Nat} {w w' : World} {v : Value} {cs : List Cmd} (h : CmdsF T B w v n cs) (hb : Below w.heap.size w w') : CmdsF T B w' v n cs := by
  obtain ⟨vs, o, l1, l2, r⟩ := h
  exact ⟨vs, owns_keepv o hb, l1, l2, fun j u hj => by obtain ⟨c, hc, g⟩ := r j u hj; exact ⟨c, hc, g.keep hb⟩⟩
theorem CmdsF.len {T : TypeId} {B n : Nat} {w : World} {v : Value} {cs : List Cmd} (h : CmdsF T B w v n cs) : cs.length = n := by obtain ⟨_, _, _, h, _⟩ := h; exact h
theorem CmdsF.shape {T : TypeId} {B n : Nat} {w : World} {v : Value} {cs : List Cmd} (h : CmdsF T B w v n cs) : ∃ q c, v = .slice q n c := by obtain ⟨_, o, _⟩ := h; exact owns_shape o
theorem CmdsF.push {T : TypeId} {B n : Nat} {w w' : World} {v v' : Value} {cs : List Cmd} {c : Cmd} {u : Value × Value × Value} {vs : List (Value × Value × Value)} (ho : w'.ownsRow B T 3 v' (n + 1) (fl3 vs ++ [u.1, u.2.1, u.2.2])) (hvl : vs.length = n) (hl : cs.length = n)
    (hr : ∀ (j : Nat) (u : Value × Value × Value), vs[j]? = some u → ∃ c, cs[j]? = some c ∧ CmdV B w' u c) (hu : CmdV B w' u c) : CmdsF T B w' v' (n + 1) (cs ++ [c]) := by
  refine ⟨vs ++ [u], by rw [fl3_append]; exact ho, by simp [hvl], by simp [hl], fun j x hj => ?_⟩
  rcases Nat.lt_or_ge j vs.length with g | g
  · rw [List.getElem?_append_left g] at hj
    obtain ⟨c', hc', h'⟩ := hr j x hj
    exact ⟨c', by rw [List.getElem?_append_left (by omega)]; exact hc', h'⟩
  · have hj0 : j = vs.length := by have := (List.getElem?_eq_some_iff.1 hj).1; simp at this; omega
    subst hj0
    simp at hj
    subst hj
    exact ⟨c, by rw [List.getElem?_append_right (by omega), show vs.length - cs.length = 0 by omega]; rfl, hu⟩
theorem CmdsF.pushG {T : TypeId} {B n : Nat} {w w' : World} {v v' : Value} {cs : List Cmd} {c : Cmd} {u : Value × Value × Value} {vs : List (Value × Value × Value)} (o : w.ownsRow B T 3 v n (fl3 vs)) (hg : w.grownBy w' v.ownBlock) (ho : w'.ownsRow B T 3 v' (n + 1) (fl3 vs ++ [u.1, u.2.1, u.2.2])) (hvl : vs.length = n) (hl : cs.length = n)
    (hr : ∀ (j : Nat) (u : Value × Value × Value), vs[j]? = some u → ∃ c, cs[j]? = some c ∧ CmdV B w u c) (hu : CmdV B w u c) (h8 : 5 ≠ T) (h64 : 48 ≠ T) : CmdsF T B w' v' (n + 1) (cs ++ [c]) := by
  have hp : ∀ (b T' : Nat) (cs : Array Value) (fr : Nat × Nat), w.heap[b]? = some (.cells cs T' fr) → T' ≠ T → w'.heap[b]? = w.heap[b]? := fun b T' cs fr hb hne => (grown_other o hg hb hne).trans hb.symm
  exact CmdsF.push (w := w) (v := v) ho hvl hl (fun j u hj => by obtain ⟨c, hc, g⟩ := hr j u hj; exact ⟨c, hc, g.same hg.size hp h8 h64⟩) (hu.same hg.size hp h8 h64)
/-- commands in a row, that read -/
structure CmdS (w : World) (q : Option Addr) (n c : Nat) (cs : List Cmd) : Prop where
  len : cs.length = n
  le : n ≤ c
  max : c ≤ maxLen
  nil : q = none → n = 0 ∧ c = 0
  row : ∀ (k : Nat) (x : Cmd), cs[k]? = some x → ∃ b o q1 n1 c1 q2 n2 c2, q = some ⟨b, o, none⟩ ∧ w.cell? ⟨b, o + k * 3, none⟩ = some (.string (strB x.word)) ∧ w.cell? ⟨b, o + k * 3 + 1, none⟩ = some (.slice q1 n1 c1) ∧ w.cell? ⟨b, o + k * 3 + 2, none⟩ = some (.slice q2 n2 c2) ∧ Sl encU w q1 n1 c1 x.nums ∧ Sl B8 w q2 n2 c2 x.bytes
theorem CmdsF.cmdS {T : TypeId} {B n c : Nat} {w : World} {q : Option Addr} {cs : List Cmd} (h : CmdsF T B w (.slice q n c) n cs) : CmdS w q n c cs := by
  obtain ⟨vs, o, l1, l2, r⟩ := h
  have hv := Rw3.of_owns o
  refine ⟨l2, hv.le, hv.max, hv.nil, fun k x hx => ?_⟩
  have hk : k < n := by have := (List.getElem?_eq_some_iff.1 hx).1; omega
  have hvk : vs[k]? = some vs[k] := List.getElem?_eq_getElem (by omega)
  obtain ⟨c', hc', g1, ⟨q1, n1, c1, e1, g2⟩, q2, n2, c2, e2, g3⟩ := r k _ hvk
  rw [hx] at hc'; cases hc'
  obtain ⟨f0, f1, f2⟩ := fl3_at hvk
  obtain ⟨b, oo, e, k0⟩ := hv.cell _ _ f0
  obtain ⟨b', oo', e', k1⟩ := hv.cell _ _ f1
  rw [e] at e'; cases e'
  obtain ⟨b', oo', e', k2⟩ := hv.cell _ _ f2
  rw [e] at e'; cases e'
  exact ⟨b, oo, q1, n1, c1, q2, n2, c2, e, by rw [k0, g1], by rw [← e1]; exact k1, by rw [← e2]; exact k2, Sl.of_owns g2, g3.sl⟩
theorem CmdS.keep {w w' : World} {q : Option Addr} {n c : Nat} {cs : List Cmd} (h : CmdS w q n c cs) (hb : Below w.heap.size w w') : CmdS w' q n c cs := by
  refine ⟨h.len, h.le, h.max, h.nil, fun k x hx => ?_⟩
  obtain ⟨b, o, q1, n1, c1, q2, n2, c2, e, g0, g1, g2, s1, s2⟩ := h.row k x hx
  exact ⟨b, o, q1, n1, c1, q2, n2, c2, e, (hb.cell (p := ⟨b, o + k * 3, none⟩) (lt_of_cell g0)).trans g0, (hb.cell (p := ⟨b, o + k * 3 + 1, none⟩) (lt_of_cell g1)).trans g1, (hb.cell (p := ⟨b, o + k * 3 + 2, none⟩) (lt_of_cell g2)).trans g2, s1.keep hb, s2.keep hb⟩
end Go.Proofs.YtccaiiigdfieoaaDoor
