/- Plain mathematics: the field of 256 elements, as polynomials over two bits modulo x^8+x^4+x^3+x^2+1. Nothing of the program. Small laws on bytes as the walk spells them. The contracts of the field's functions. The contracts of the kernel's functions: halves. Small laws on slices: a slice that reads as a list; append of such a one. The contracts of the kernel's functions: put. The contracts of slices.Clone, IndexFunc, ContainsFunc at bytes and rows. Small laws on slices of byte slices; what a function that makes a row hands back. The contracts of the kernel's functions: Scale, Axpy, Dot, Zero. The contracts of the kernel's functions: nought, Sum, Comb. The contracts of the kernel's functions: Sum, Comb. Small laws: literal slices. The contracts of the vectors' functions: Lead, At, Zero, Unit, Of, Clone. Plain mathematics: the reference's product of two bytes is the field's. The contract of the reference's product. The contracts of the reference's functions of layer 2. The contracts of the rows' functions: Clone, Norm, Less. The contracts of the rows' functions: Less. The contracts of slices.Equal and of the rows' Same. The contracts of slices.Grow and Concat at bytes; of the whole of the symbols. A region that draws its order, op by op: an invariant in place of the orders. Any program. Slices of byte slices that the call itself makes. A region that draws its order and stores nothing: each operation has a shape that lasts. A region that draws its order, with one store into a block of its own: each operation has a shape that lasts. The frame behind a region that draws its order; one operation with its operands known. A guard that never ran says no. The contracts of a grid's parts: blank, row, Width, Height, Same. The contracts of grid.Of, and of the reference's Of; Few. The contracts of grid.Unit and Rows. A slice of rows that the call owns. The contracts of the reference's functions of layer 2: Dot, Scale. The contract of the reference's combination. The walk of the law KernPairs. The contracts of the reference's functions of layer 3, and its inverse. The contracts of the reference's functions of layer 3. The contracts of the reference's Less and Same of layer 3, of the law's helpers, and of Unit. The plain law of VecLeads: what is normed leads with a 1, and so on. Linear algebra over the field of 256 elements: combinations, spans, independence, exchange, elimination. Nothing of the program. Vectors of n places: units, coordinates; products of rows; rows and columns have one rank; what is inverse from the left is from the right. Rows kept one by one, as the grid's rank and the document's keep them: as many as the rank says. A region that draws its order, whose last operation waits for all others (a store): shapes for the others, then the last one. A region that draws its order, whose last operation (a store) waits for all others but one extract. The contract of the grid's Rank. Slices of rows that read so; the contract of the reference's Rest. Appends of rows: any part of a slice of rows onto a slice that the call owns. The contract of the reference's Insert. The contract of the reference's Turned. The contract of the reference's Rank. Determinants by the first row, over the field of 256 elements: linear in each row, nought where two rows are the same; what row steps do to them. Gauss-Jordan on rows with data: what each step keeps. slices.IndexFunc of rows; the closure of Inverse. slices.ContainsFunc of rows. Rows that lead, reduced: what they span tells them; a row more, as a system of equations puts it. A row more into reduced rows (putF); reduced rows out of rows that lead by rising places (backB); both are the same. The document's reduced rows: one behind the other cleared, in place; they are the system's. The contract of a grid's Turned. The contracts of grid.Of where rows fit, or are uneven. The contract of the law's Made. The contract of a grid's Mul. A region that draws its order, with two stores (an exchange): each value that comes up is told ahead; the world is one of two till the last store. A system of equations in memory; New, Size, Rank. The contract of a system's Rest. The contract of sort.Search. Arrays that the call owns, written in place; lists of parcels: cells of two. The contract of slices.Insert at rows: one more. The contract of slices.Insert at rows: one more, in the middle, where there is no room. Rows of a system in memory: one more, by slices.Insert; one in the place of another. A region that draws its order, with a call in its midst that writes: shapes ahead of it, told values behind it, and a store last. The closure of a system's Put. The contract of a system's Put: a row more. The contract of vec.Unit. The contract of a system's Known. The contract of the reference's Same of layer 7. The example of chapter 7. The law's example of chapter 8; what is told of no system. A system's Rest and Put, where the sizes don't fit, or nothing is left. What the packet layers and the plan share with the rows: IndexFunc and ContainsFunc of bytes and rows, Same and Zero of the reference, Zero of the kernel and of vectors. The contracts of the plan's functions: needed, fits, Check, Of; and of the reference's Needs and Check. The contracts of the reference's Needs and Check. A region that draws its order, whose first m operations are shapes, and whose others wait each for the one ahead of it: these are walked in their order. Plain: the sum of 32 bits, half a byte at a time and bit by bit. Plain: numbers of 32 bits as four bytes; sums of parts. Chapter 4: sum.Put, Start, Sum (under way). Chapter 4: sum.Start, With, Sum, Of, Get. Chapter 4: sum.Of, Get. Small laws for packets: parts of slices, literal slices of slices, results that read. Chapter 28: the rules of rows: rising, alone, Rows. Chapter 28: audit.Rows and the document's Rows, of any plan and rows. -/
import Derived.WalkKit
import Derived.Laws.CopyOwn
import Derived.Test.YtccaiiigdfieoaaGreatDoorProg
import Derived.WalkLawsBesides
import Derived.WalkSpells
import Derived.Lib.Hide
import Derived.Laws.AppendOwnNone
import Derived.BigRegion
import Derived.Shelf.Abstract
import Derived.Deep.QuietTactic
import Derived.BigQuiet
import Derived.Deep.RegionHeld3
import Derived.Deep.RegionWith
import Derived.Lib.AppendZeros
import Derived.RegionTactic
import Derived.Deep.AppendLies
import Derived.Laws.IdiomCopy
import Derived.Deep.RegionLaw
import Derived.Lib.Overlaps
import Derived.Shelf.Spec.SlicesInsertGrow
import Derived.Lib.AppendZerosOnto
import Derived.BigFrame
namespace Gf
/-- multiply by x -/
def xt (a : UInt8) : UInt8 := (a <<< 1) ^^^ (if a &&& 128 = 0 then 0 else 29)
def gmulN : Nat → UInt8 → UInt8 → UInt8
  | 0, _, _ => 0
  | n + 1, a, b => (if b &&& 1 = 0 then 0 else a) ^^^ gmulN n (xt a) (b >>> 1)
def gmul (a b : UInt8) : UInt8 := gmulN 8 a b

end Gf
namespace Go.By
open Go.RowKit
/-- a byte as a value -/
abbrev B8 (x : UInt8) : Value := .int .u8 x.toNat
theorem nat_ne_zero (x : UInt8) : ((x.toNat : Int) != 0) = decide (x ≠ 0) := by
  have : x = 0 ↔ x.toNat = 0 := by rw [← UInt8.toNat_inj]; rfl
  by_cases h : x = 0
  · simp [h]
  · have := mt this.2 h; rw [bne_iff_ne (a := (x.toNat : Int)) |>.2 (by omega)]; simp [h]
/-- a slice's cells, read as a list -/
def Rs {α : Type} (enc : α → Value) (w : World) (p : Option Addr) (xs : List α) : Prop :=
  ∀ i (hi : i < xs.length), ∃ b o, p = some ⟨b, o, none⟩ ∧ w.cell? ⟨b, o + i, none⟩ = some (enc xs[i])
theorem lt_of_cell {w : World} {b o : Nat} {v : Value} (h : w.cell? ⟨b, o, none⟩ = some v) : b < w.heap.size := by
  rcases Nat.lt_or_ge b w.heap.size with h' | h'
  · exact h'
  · simp [World.cell?, Array.getElem?_eq_none h'] at h
section
variable {α : Type} {enc : α → Value} {w w' : World} {p : Option Addr} {xs : List α}
theorem Rs.nil : Rs enc w p ([] : List α) := fun i hi => absurd hi (Nat.not_lt_zero i)
theorem Rs.lt (h : Rs enc w p xs) (h0 : 0 < xs.length) : ∃ b o, p = some ⟨b, o, none⟩ ∧ b < w.heap.size := by
  obtain ⟨b, o, hp, hc⟩ := h 0 h0
  exact ⟨b, o, hp, lt_of_cell hc⟩
theorem Rs.keep (h : Rs enc w p xs) (hb : Below w.heap.size w w') : Rs enc w' p xs := by
  intro i hi
  obtain ⟨b, o, hp, hc⟩ := h i hi
  exact ⟨b, o, hp, (hb.cell (p := ⟨b, o + i, none⟩) (lt_of_cell hc)).trans hc⟩
theorem Rs.grown {row : Option Nat} (h : Rs enc w p xs) (hg : w.grownBy w' row) (hne : ∀ a, p = some a → some a.block ≠ row) : Rs enc w' p xs := by
  intro i hi
  obtain ⟨b, o, hp, hc⟩ := h i hi
  exact ⟨b, o, hp, (World.cell?_of_block (a := ⟨b, o + i, none⟩) (hg.block b (lt_of_cell hc) (hne _ hp))).trans hc⟩
theorem Rs.alloc (h : Rs enc w p xs) (o : Obj) : Rs enc (w.alloc o) p xs := h.keep ((Below.refl _ _).alloc (Nat.le_refl _) _)
theorem Rs.at (h : Rs enc w p xs) (i : Nat) (hi : i < xs.length) : ∃ b o x, p = some ⟨b, o, none⟩ ∧ w.cell? ⟨b, o + i, none⟩ = some (enc x) ∧ Hid (x = xs[i]) := by
  obtain ⟨b, o, hp, hc⟩ := h i hi
  exact ⟨b, o, _, hp, hc, rfl⟩
theorem Rs.of_owns {base e n c : Nat} (h : w.ownsRow base e 1 (.slice p n c) n (xs.map enc)) : Rs enc w p xs := by
  intro i hi
  rcases h.2 with h2 | ⟨g, cap, cur, hv, _⟩
  · have := h.1; simp [h2.2] at this; subst this; exact absurd hi (Nat.not_lt_zero i)
  · obtain ⟨rfl, rfl⟩ : p = some ⟨g, 0, none⟩ ∧ c = cap := by simpa using hv
    refine ⟨g, 0, rfl, ?_⟩
    have hn : n = xs.length := by have := h.1; simp at this; exact this.symm
    rw [Nat.zero_add, h.cellAt i (by omega), List.getElem?_eq_getElem (by simpa using hi)]
    simp
theorem owns_len {base e n c : Nat} {ys : List Value} (h : w.ownsRow base e 1 (.slice p n c) n ys) : ys.length = n := by simpa using h.1
theorem owns_cap {base e n c : Nat} {ys : List Value} (h : w.ownsRow base e 1 (.slice p n c) n ys) : n ≤ c ∧ c ≤ maxLen := by
  rcases h.2 with h2 | ⟨g, cap, cur, hv, _, _, h3, h4, _⟩
  · obtain ⟨h2, rfl⟩ := h2; simp at h2; simp [h2, maxLen]
  · obtain ⟨_, rfl⟩ : p = some ⟨g, 0, none⟩ ∧ c = cap := by simpa using hv
    exact ⟨h3, h4⟩
end
theorem heap_alloc (w : World) (o : Obj) (i : Nat) : (w.alloc o).heap[i]? = if i = w.heap.size then some o else w.heap[i]? := by
  show (w.heap.push o)[i]? = _
  rw [Array.getElem?_push]
theorem hnew {w : World} {o : Obj} {i : Nat} (h : i = w.heap.size) : (w.alloc o).heap[i]? = some o := by rw [heap_alloc, if_pos h]
theorem hss {w : World} {g i : Nat} {cs : Array Value} {t : TypeId} {v : Value} (h : w.heap[g]? = some (.cells cs t (0, 0))) : (w.setCell ⟨g, i, none⟩ v).heap[g]? = some (.cells (cs.setIfInBounds i v) t (0, 0)) := heap_setCell_same w g i cs t v h
theorem hro {w : World} {g i : Nat} {cs : Array Value} {x : Obj} (h : w.heap[i]? = some x) (hne : i ≠ g) : (w.setRow g cs).heap[i]? = some x := by
  simp only [World.setRow, Array.getElem?_modify]
  rw [if_neg (by omega)]; exact h
theorem hrs {w : World} {g : Nat} {cs old : Array Value} {t : TypeId} {fr : Nat × Nat} (h : w.heap[g]? = some (.cells old t fr)) : (w.setRow g cs).heap[g]? = some (.cells cs t fr) := by
  simp only [World.setRow, Array.getElem?_modify]
  simp [h]
/-- the first k of Z, then S -/
def prog {α : Type} (Z S : List α) (k : Nat) : List α := Z.take k ++ S.drop k
end Go.By
namespace Go.Proofs.YtccaiiigdfieoaaGreatDoor
open Go.RowKit Go.By
end Go.Proofs.YtccaiiigdfieoaaGreatDoor
namespace Go.Proofs.YtccaiiigdfieoaaGreatDoor
open Go.RowKit Go.By
end Go.Proofs.YtccaiiigdfieoaaGreatDoor
namespace Go.By
open Go.RowKit
/-- a slice value '.slice p n c' that reads as the list xs -/
structure Sl {α : Type} (enc : α → Value) (w : World) (p : Option Addr) (n c : Nat) (xs : List α) : Prop where
  len : xs.length = n
  le : n ≤ c
  max : c ≤ maxLen
  nil : p = none → n = 0 ∧ c = 0
  rs : Rs enc w p xs
/-- so many bytes may be made -/
def Room (n : Nat) : Prop := n ≤ 140737488355328
theorem Room.le {n m : Nat} (h : Room n) (hm : m ≤ n) : Room m := Nat.le_trans hm h
section
variable {α : Type} {enc : α → Value} {w w' : World} {p : Option Addr} {n c : Nat} {xs : List α}
theorem Sl.keep (h : Sl enc w p n c xs) (hb : Below w.heap.size w w') : Sl enc w' p n c xs := ⟨h.len, h.le, h.max, h.nil, h.rs.keep hb⟩
theorem Sl.grown {row : Option Nat} (h : Sl enc w p n c xs) (hg : w.grownBy w' row) (hne : ∀ a, p = some a → some a.block ≠ row) : Sl enc w' p n c xs := ⟨h.len, h.le, h.max, h.nil, h.rs.grown hg hne⟩
theorem Sl.bound (h : Sl enc w p n c xs) : n ≤ 9223372036854775807 := by have := h.le; have := h.max; unfold maxLen at this; omega
theorem Sl.nil0 (enc : α → Value) (w : World) : Sl enc w none 0 0 ([] : List α) := ⟨rfl, Nat.le_refl _, by simp [maxLen], fun _ => ⟨rfl, rfl⟩, Rs.nil⟩
theorem Sl.of_owns {base e : Nat} (h : w.ownsRow base e 1 (.slice p n c) n (xs.map enc)) : Sl enc w p n c xs := by
  have hc := owns_cap h
  refine ⟨by simpa using owns_len h, hc.1, hc.2, fun hp => ?_, Rs.of_owns h⟩
  rcases h.2 with h2 | ⟨g, cap, cur, hv, _⟩
  · obtain ⟨h2, rfl⟩ := h2; simp at h2; simp [h2]
  · simp [hp] at hv
theorem Sl.at (h : Sl enc w p n c xs) (i : Nat) (hi : i < n) : ∃ b o x, p = some ⟨b, o, none⟩ ∧ w.cell? ⟨b, o + i, none⟩ = some (enc x) ∧ Hid (xs[i]? = some x) := by
  have hi' : i < xs.length := by rw [h.len]; exact hi
  obtain ⟨b, o, hp, hc⟩ := h.rs i hi'
  exact ⟨b, o, _, hp, hc, List.getElem?_eq_getElem hi'⟩
theorem owns_shape {base e size n : Nat} {v : Value} {ys : List Value} (h : w.ownsRow base e size v n ys) : ∃ q c, v = .slice q n c := by
  rcases h.2 with h2 | ⟨g, cap, cur, hv, _⟩
  · obtain ⟨h2, rfl⟩ := h2; exact ⟨none, 0, h2⟩
  · exact ⟨_, _, hv⟩
theorem owns_new {base e size n c : Nat} {ys : List Value} (h : w.ownsRow base e size (.slice p n c) n ys) : ∀ a, p = some a → base ≤ a.block ∧ a.block < w.heap.size := by
  intro a ha
  exact h.lt a.block (by simp [Value.ownBlock, ha])
/-- what is owned stays owned where only old blocks, or another's, may have been written -/
theorem owns_below {base B e size n c : Nat} {ys : List Value} (h : w.ownsRow base e size (.slice p n c) n ys) (hb : Below B w w') (hB : ∀ a, p = some a → a.block < B) : w'.ownsRow base e size (.slice p n c) n ys := by
  refine ⟨h.1, ?_⟩
  rcases h.2 with h2 | ⟨g, cap, cur, hv, hg, hh, r⟩
  · exact Or.inl h2
  · obtain ⟨rfl, rfl⟩ : p = some ⟨g, 0, none⟩ ∧ c = cap := by simpa using hv
    exact Or.inr ⟨g, c, cur, rfl, hg, (hb.block g (hB ⟨g, 0, none⟩ rfl)).trans hh, r⟩
theorem owns_keep {base e size n c : Nat} {ys : List Value} (h : w.ownsRow base e size (.slice p n c) n ys) (hb : Below w.heap.size w w') : w'.ownsRow base e size (.slice p n c) n ys :=
  owns_below h hb (fun a ha => (owns_new h a ha).2)
theorem owns_mono {base base' e size n : Nat} {v : Value} {ys : List Value} (h : w.ownsRow base e size v n ys) (hb : base' ≤ base) : w.ownsRow base' e size v n ys := by
  refine ⟨h.1, ?_⟩
  rcases h.2 with h2 | ⟨g, cap, cur, hv, hg, hh, r⟩
  · exact Or.inl h2
  · exact Or.inr ⟨g, cap, cur, hv, Nat.le_trans hb hg, hh, r⟩
end
/-- where the first is of which f holds; -1 -/
def idxf {α : Type} (f : α → Bool) (xs : List α) : Int := match xs.findIdx? f with
  | some i => i
  | none => -1
theorem idxf_found {α : Type} {f : α → Bool} {xs : List α} {k : Nat} {x : α} (hx : xs[k]? = some x) (hf : f x = true) (hb : ∀ j y, j < k → xs[j]? = some y → f y = false) : idxf f xs = k := by
  obtain ⟨hk, hx⟩ := List.getElem?_eq_some_iff.1 hx
  have : xs.findIdx? f = some k := by
    rw [List.findIdx?_eq_some_iff_getElem]
    exact ⟨hk, by rw [hx]; exact hf, fun j hj => by simp [hb j xs[j] hj (List.getElem?_eq_getElem (by omega))]⟩
  simp [idxf, this]
theorem idxf_none {α : Type} {f : α → Bool} {xs : List α} {k : Nat} (hk : k = xs.length) (hb : ∀ j y, j < k → xs[j]? = some y → f y = false) : idxf f xs = -1 := by
  have : xs.findIdx? f = none := by
    rw [List.findIdx?_eq_none_iff]
    intro x hx
    obtain ⟨j, hj, rfl⟩ := List.getElem_of_mem hx
    exact hb j _ (by omega) (List.getElem?_eq_getElem hj)
  simp [idxf, this]
theorem idxf_ge {α : Type} (f : α → Bool) (xs : List α) : decide (0 ≤ idxf f xs) = xs.any f := by
  unfold idxf
  cases h : xs.findIdx? f with
  | none =>
    rw [List.findIdx?_eq_none_iff] at h
    have : xs.any f = false := by rw [List.any_eq_false]; intro x hx; simp [h x hx]
    simp [this]
  | some i =>
    obtain ⟨hi, hf, _⟩ := List.findIdx?_eq_some_iff_getElem.1 h
    have : xs.any f = true := List.any_eq_true.2 ⟨_, List.getElem_mem hi, hf⟩
    simp [this]
/-- append(out, xs...) , out the call's own, xs whatever reads -/
theorem wpList_append_rs {P : Program} (w : World) {ops : Array Oper} {rest : List Oper} {o : Oper} {a : Act} {Q : Exit → Act → World → Prop} (hgd : o.guard = none) (s x : Operand) (t : TypeId)
    (ho : o.op = .call { callee := .builtin .append, args := #[s, x], argTypes := #[t, t] })
    (base : Nat) (e : TypeId) (i : TypeInfo) (z : Value) (bytes : Nat) (ht : P.underlying t = some (.slice e)) (hi : P.info? e = some i) (hz : i.zero = some z)
    (hsize : i.size = 1) (hby : i.bytes = bytes) (hzs : z.cells.size = 1)
    (v : Value) (n : Nat) (ys : List Value) (hs : a.eval s = v) (hown : w.ownsRow base e 1 v n ys)
    {α : Type} (enc : α → Value) (p : Option Addr) (m c : Nat) (news : List α) (henc : ∀ x, x ∈ news → (enc x).oneCell' = true) (hx : a.eval x = .slice p m c) (hrs : Sl enc w p m c news)
    (h63 : n + m ≤ maxLen) (hbytes : (n + m) * bytes ≤ 140737488355328) (hbase : base ≤ w.heap.size)
    (h : ∀ v' w', w'.ownsRow base e 1 v' (n + m) (ys ++ news.map enc) → w.grownBy w' v.ownBlock → wpList P ops Q rest (a.put o.dst v') w') : wpList P ops Q (o :: rest) a w := by
  cases p with
  | none =>
    obtain ⟨rfl, rfl⟩ := hrs.nil rfl
    have : news = [] := List.eq_nil_of_length_eq_zero hrs.len
    subst this
    refine wpList_append_own_none hgd s x t ho base e i 1 ht hi v n ys hs hown hx (h v w (by simpa using hown) (World.grownBy.refl _ _))
  | some ad =>
    refine wpList_append_own w hgd s x t ho base e i z 1 bytes ht hi hz hsize hby hzs (by decide) v n ys hs hown ad m c (news.map enc) hx (by simpa using hrs.len) ?_ ?_ h63 hbytes hbase (fun v' w' h1 h2 _ => h v' w' h1 h2)
    · intro j u hu
      obtain ⟨hj, hu⟩ := List.getElem?_eq_some_iff.1 hu
      obtain ⟨b, o', hp, hc⟩ := hrs.rs j (by simpa using hj)
      obtain rfl := Option.some.inj hp
      rw [Addr.add_lit, hc, ← hu]; simp
    · intro u hu
      obtain ⟨x, hx', rfl⟩ := List.mem_map.1 hu
      exact henc x hx'
end Go.By
namespace Go.Proofs.YtccaiiigdfieoaaGreatDoor
open Go.RowKit Go.By
def axpy (c : UInt8) (xs ss : List UInt8) : List UInt8 := List.zipWith (fun x s => s ^^^ Gf.gmul c x) xs ss
end Go.Proofs.YtccaiiigdfieoaaGreatDoor
namespace Go.Proofs.YtccaiiigdfieoaaGreatDoor
open Go.RowKit Go.By
theorem info_u8 : (Tryz.prog.info? 5).map (fun i => (i.zero, i.size, i.bytes)) = some (some (.int .u8 0), 1, 1) := by kernel_rfl
set_option maxHeartbeats 400000 in
theorem CloneB_any (p : Option Addr) (n c : Nat) (xs : List UInt8) (w : World) (h : Sl B8 w p n c xs) (hn : Room n) :
    Calls Tryz.prog 129 #[.slice p n c] w fun e w' => ∃ q c', e = .returned (.slice q n c') ∧ w'.ownsRow w.heap.size 5 1 (.slice q n c') n (xs.map B8) ∧ Below w.heap.size w w' := by
  obtain ⟨i0, hi, hz0, hz1, hz2⟩ := info_parts info_u8
  cases hp : p with
  | none =>
    subst hp
    obtain ⟨rfl, rfl⟩ := h.nil rfl
    have : xs = [] := List.eq_nil_of_length_eq_zero h.len
    subst this
    have hq := fun w => Lib.run_eql_slice_nil (P := Tryz.prog) w 22 5 none 0 0 0 0 Tryz.underlying22
    go_enter Tryz.func129, Tryz.ntmps129
    go_wp2
    go_ret
    exact ⟨none, 0, rfl, World.ownsRow_nil _ _ _ _, Below.refl _ _⟩
  | some ad =>
    subst hp
    have hq := fun w => Lib.run_eql_slice_nil (P := Tryz.prog) w 22 5 (some ad) n c 0 0 Tryz.underlying22
    have H := Lib.hid h
    clear h
    go_enter Tryz.func129, Tryz.ntmps129
    go_wp2_with (at_builtin; refine wpList_append_rs _ rfl _ _ 22 rfl w.heap.size 5 i0 (.int .u8 0) 1 Tryz.underlying22 hi hz0 hz1 hz2 rfl _ 0 [] rfl (World.ownsRow_lit w #[] 0 (Nat.le_refl _) (by simp [maxLen]) rfl) B8 _ _ _ xs (fun _ _ => rfl) rfl (H.out.keep ((Below.refl _ _).alloc (Nat.le_refl _) _)) ?c1 ?c2 ?c3 ?_)
    case c1 => have := H.out.le; have := H.out.max; omega
    case c2 => unfold Room at hn; omega
    case c3 => simp
    intro v' w' ho hg
    obtain ⟨q, c', rfl⟩ := owns_shape ho
    go_wp2
    go_ret
    exact ⟨q, c', rfl, ho, ((Below.refl _ _).alloc (Nat.le_refl _) _).grown hg (by simp) (by simp [Value.ownBlock])⟩
set_option maxHeartbeats 400000 in
theorem IndexFuncB_any {α : Type} (enc : α → Value) (f : α → Bool) (g : Nat) (lb : Array Value) (eg : Enters Tryz.prog g) (p : Option Addr) (n c : Nat) (xs : List α) (w : World) (h : Sl enc w p n c xs)
    (hf : ∀ (x : α), x ∈ xs → Calls Tryz.prog g (#[enc x] ++ lb) w fun e w' => e = .returned (.bool (f x)) ∧ w = w') :
    Calls Tryz.prog 241 #[.slice p n c, .func (.func g) #[] lb] w fun e w' => e = .returned (.int .i64 (idxf f xs)) ∧ w = w' := by
  have hn := h.bound
  have H := Lib.hid h; clear h
  have HF := Lib.hid hf; clear hf
  have eg' : ∀ args w, (callFunc g args).run Tryz.prog w = .ok (.enter g args) w := eg
  clear eg
  go_enter Tryz.func241, Tryz.ntmps241
  go_wp2
  go_loop [8] (fun i => ∃ k : Nat, k ≤ n ∧ i = .int .i64 k ∧ Hid (∀ j y, j < k → xs[j]? = some y → f y = false)) (fun i => n - (intOf i).toNat)
  case atStart => exact ⟨0, Nat.zero_le _, rfl, fun j y hj => by omega⟩
  case round =>
    obtain ⟨k, hk, rfl, hr⟩ := hrel
    by_cases hlt : k < n
    · obtain ⟨b, o, x, rfl, hc, hx⟩ := H.out.at k hlt
      have hm : x ∈ xs := List.mem_of_getElem? hx.out
      cases hfx : f x with
      | false =>
        have HQ := Lib.hid hfx; clear hfx
        go_wp2_with fail
        refine (HF.out x hm).mono ?_; rintro e w' ⟨rfl, rfl⟩
        rw [HQ.out]
        go_wp2
        go_round
        case rel =>
          refine ⟨k + 1, by omega, by go_num, fun j y hj hy => ?_⟩
          by_cases e : j = k
          · subst e; have := hx.out.symm.trans hy; cases this; exact HQ.out
          · exact hr.out j y (by omega) hy
        case measure => simp [intOf]; omega
      | true =>
        have HQ := Lib.hid hfx; clear hfx
        go_wp2_with fail
        refine (HF.out x hm).mono ?_; rintro e w' ⟨rfl, rfl⟩
        rw [HQ.out]
        go_wp2
        go_ret
        exact ⟨by rw [idxf_found hx.out HQ.out hr.out]; rfl, rfl⟩
    · go_wp2
      go_ret
      exact ⟨by rw [idxf_none (k := k) (by have := H.out.len; omega) hr.out]; rfl, rfl⟩
set_option maxHeartbeats 400000 in
theorem ContainsFuncB_any {α : Type} (enc : α → Value) (f : α → Bool) (g : Nat) (lb : Array Value) (eg : Enters Tryz.prog g) (p : Option Addr) (n c : Nat) (xs : List α) (w : World) (h : Sl enc w p n c xs)
    (hf : ∀ (x : α), x ∈ xs → Calls Tryz.prog g (#[enc x] ++ lb) w fun e w' => e = .returned (.bool (f x)) ∧ w = w') :
    Calls Tryz.prog 217 #[.slice p n c, .func (.func g) #[] lb] w fun e w' => e = .returned (.bool (xs.any f)) ∧ w = w' := by
  have H := Lib.hid h; clear h
  have HF := Lib.hid hf; clear hf
  have HE := Lib.hid eg; clear eg
  go_enter Tryz.func217, Tryz.ntmps217
  go_wp2_with fail
  refine (IndexFuncB_any enc f g lb HE.out p n c xs w H.out HF.out).mono ?_; rintro e w' ⟨rfl, rfl⟩
  go_wp2
  go_ret
  exact ⟨by rw [← idxf_ge]; rfl, rfl⟩
end Go.Proofs.YtccaiiigdfieoaaGreatDoor
namespace Go.By
open Go.RowKit
section
variable {w w' : World} {p : Option Addr} {n c : Nat} {xss : List (List UInt8)}
end
theorem calloc {w : World} {a : Addr} {v : Value} {o : Obj} (h : w.cell? a = some v) : (w.alloc o).cell? a = some v := by
  refine (World.cell?_of_block (a := a) ?_).trans h
  have := World.block_lt_of_cell? w _ h
  rw [heap_alloc, if_neg (by omega)]
end Go.By
namespace Go.Proofs.YtccaiiigdfieoaaGreatDoor
open Go.RowKit Go.By
theorem enters_zero : Enters Tryz.prog 216 := enters_of Tryz.func216 (by kernel_rfl) rfl
set_option maxHeartbeats 400000 in
theorem Zero1_any (x : UInt8) (w : World) : Calls Tryz.prog 216 #[B8 x] w fun e w' => e = .returned (.bool (decide (x ≠ 0))) ∧ w = w' := by
  have hz := nat_ne_zero x
  generalize decide (x ≠ 0) = d at *
  go_enter Tryz.func216, Tryz.ntmps216
  go_wp2
  go_ret
  exact ⟨rfl, rfl⟩
def zeroS (xs : List UInt8) : Bool := xs.all (fun x => decide (x = 0))
set_option maxHeartbeats 400000 in
theorem Zero_any (p : Option Addr) (n c : Nat) (xs : List UInt8) (w : World) (h : Sl B8 w p n c xs) :
    Calls Tryz.prog 169 #[.slice p n c] w fun e w' => e = .returned (.bool (zeroS xs)) ∧ w = w' := by
  have HR := Lib.hid (show (!(xs.any fun x => decide (x ≠ 0))) = zeroS xs by simp [zeroS, List.any_eq_not_all_not])
  have H := Lib.hid h; clear h
  go_enter Tryz.func169, Tryz.ntmps169
  go_wp2_with fail
  refine (ContainsFuncB_any B8 (fun x => decide (x ≠ 0)) 216 #[] enters_zero p n c xs w H.out (fun x _ => Zero1_any x w)).mono ?_; rintro e w' ⟨rfl, rfl⟩
  generalize (xs.any fun x => decide (x ≠ 0)) = d at HR
  go_wp2
  go_ret
  exact ⟨by rw [← HR.out]; rfl, rfl⟩
end Go.Proofs.YtccaiiigdfieoaaGreatDoor
namespace Go.Proofs.YtccaiiigdfieoaaGreatDoor
open Go.RowKit Go.By
end Go.Proofs.YtccaiiigdfieoaaGreatDoor
namespace Go.Proofs.YtccaiiigdfieoaaGreatDoor
open Go.RowKit Go.By
end Go.Proofs.YtccaiiigdfieoaaGreatDoor
namespace Go.By
open Go.RowKit
theorem sl_block {α : Type} {enc : α → Value} {W : World} {g T : Nat} {cs : Array Value} {fr : Nat × Nat} (xs : List α) (n : Nat) (hW : W.heap[g]? = some (.cells cs T fr)) (hcs : cs = (xs.map enc).toArray) (hn : xs.length = n) (hm : n ≤ maxLen) : Sl enc W (some ⟨g, 0, none⟩) n n xs := by
  subst hcs
  refine ⟨hn, Nat.le_refl _, hm, fun h => by simp at h, ?_⟩
  intro i hi
  refine ⟨g, 0, rfl, ?_⟩
  rw [Nat.zero_add, cell_of_row _ _ i _ T fr hW]
  simp [hi]
/-- a cell of an older block is written -/
theorem owns_set {w : World} {base e size n c B i : Nat} {p : Option Addr} {ys : List Value} {u : Value} (h : w.ownsRow base e size (.slice p n c) n ys) (hB : B < base) : (w.setCell ⟨B, i, none⟩ u).ownsRow base e size (.slice p n c) n ys :=
  ownsRow_setCell_below h hB u
/-- one call more -/
theorem bl {B : Nat} {w0 w1 w2 : World} (h : Below B w0 w1) (h2 : Below w1.heap.size w1 w2) (hB : B ≤ w1.heap.size) : Below B w0 w2 := h.trans (h2.mono hB)
theorem al {B : Nat} {w0 w1 : World} {o : Obj} (h : Below B w0 w1) (hB : B ≤ w1.heap.size) : Below B w0 (w1.alloc o) := h.alloc hB o
end Go.By
namespace Go.Proofs.YtccaiiigdfieoaaGreatDoor
open Go.RowKit Go.By
set_option maxHeartbeats 400000 in
theorem IndexFuncV_any {α : Type} (enc : α → Value) (f : α → Bool) (g : Nat) (lb : Array Value) (eg : Enters Tryz.prog g) (p : Option Addr) (n c : Nat) (xs : List α) (w : World) (h : Sl enc w p n c xs)
    (hf : ∀ (x : α), x ∈ xs → Calls Tryz.prog g (#[enc x] ++ lb) w fun e w' => e = .returned (.bool (f x)) ∧ w = w') :
    Calls Tryz.prog 180 #[.slice p n c, .func (.func g) #[] lb] w fun e w' => e = .returned (.int .i64 (idxf f xs)) ∧ w = w' := by
  have hn := h.bound
  have H := Lib.hid h; clear h
  have HF := Lib.hid hf; clear hf
  have eg' : ∀ args w, (callFunc g args).run Tryz.prog w = .ok (.enter g args) w := eg
  clear eg
  go_enter Tryz.func180, Tryz.ntmps180
  go_wp2
  go_loop [8] (fun i => ∃ k : Nat, k ≤ n ∧ i = .int .i64 k ∧ Hid (∀ j y, j < k → xs[j]? = some y → f y = false)) (fun i => n - (intOf i).toNat)
  case atStart => exact ⟨0, Nat.zero_le _, rfl, fun j y hj => by omega⟩
  case round =>
    obtain ⟨k, hk, rfl, hr⟩ := hrel
    by_cases hlt : k < n
    · obtain ⟨b, o, x, rfl, hc, hx⟩ := H.out.at k hlt
      have hm : x ∈ xs := List.mem_of_getElem? hx.out
      cases hfx : f x with
      | false =>
        have HQ := Lib.hid hfx; clear hfx
        go_wp2_with fail
        refine (HF.out x hm).mono ?_; rintro e w' ⟨rfl, rfl⟩
        rw [HQ.out]
        go_wp2
        go_round
        case rel =>
          refine ⟨k + 1, by omega, by go_num, fun j y hj hy => ?_⟩
          by_cases e : j = k
          · subst e; have := hx.out.symm.trans hy; cases this; exact HQ.out
          · exact hr.out j y (by omega) hy
        case measure => simp [intOf]; omega
      | true =>
        have HQ := Lib.hid hfx; clear hfx
        go_wp2_with fail
        refine (HF.out x hm).mono ?_; rintro e w' ⟨rfl, rfl⟩
        rw [HQ.out]
        go_wp2
        go_ret
        exact ⟨by rw [idxf_found hx.out HQ.out hr.out]; rfl, rfl⟩
    · go_wp2
      go_ret
      exact ⟨by rw [idxf_none (k := k) (by have := H.out.len; omega) hr.out]; rfl, rfl⟩
set_option maxHeartbeats 400000 in
theorem CloneV_any (p : Option Addr) (n c : Nat) (xs : List UInt8) (w : World) (h : Sl B8 w p n c xs) (hn : Room n) :
    Calls Tryz.prog 134 #[.slice p n c] w fun e w' => ∃ q c', e = .returned (.slice q n c') ∧ w'.ownsRow w.heap.size 5 1 (.slice q n c') n (xs.map B8) ∧ Below w.heap.size w w' := by
  obtain ⟨i0, hi, hz0, hz1, hz2⟩ := info_parts info_u8
  cases hp : p with
  | none =>
    subst hp
    obtain ⟨rfl, rfl⟩ := h.nil rfl
    have : xs = [] := List.eq_nil_of_length_eq_zero h.len
    subst this
    have hq := fun w => Lib.run_eql_slice_nil (P := Tryz.prog) w 97 5 none 0 0 0 0 Tryz.underlying97
    go_enter Tryz.func134, Tryz.ntmps134
    go_wp2
    go_ret
    exact ⟨none, 0, rfl, World.ownsRow_nil _ _ _ _, Below.refl _ _⟩
  | some ad =>
    subst hp
    have hq := fun w => Lib.run_eql_slice_nil (P := Tryz.prog) w 97 5 (some ad) n c 0 0 Tryz.underlying97
    have H := Lib.hid h
    clear h
    go_enter Tryz.func134, Tryz.ntmps134
    go_wp2_with (at_builtin; refine wpList_append_rs _ rfl _ _ 97 rfl w.heap.size 5 i0 (.int .u8 0) 1 Tryz.underlying97 hi hz0 hz1 hz2 rfl _ 0 [] rfl (World.ownsRow_lit w #[] 0 (Nat.le_refl _) (by simp [maxLen]) rfl) B8 _ _ _ xs (fun _ _ => rfl) rfl (H.out.keep ((Below.refl _ _).alloc (Nat.le_refl _) _)) ?c1 ?c2 ?c3 ?_)
    case c1 => have := H.out.le; have := H.out.max; omega
    case c2 => unfold Room at hn; omega
    case c3 => simp
    intro v' w' ho hg
    obtain ⟨q, c', rfl⟩ := owns_shape ho
    go_wp2
    go_ret
    exact ⟨q, c', rfl, ho, ((Below.refl _ _).alloc (Nat.le_refl _) _).grown hg (by simp) (by simp [Value.ownBlock])⟩
def leadS (v : List UInt8) : Int := idxf (fun b => decide (b ≠ 0)) v
def atS (v : List UInt8) (i : Int) : UInt8 := if 0 ≤ i then v.getD i.toNat 0 else 0
theorem enters_lead : Enters Tryz.prog 181 := enters_of Tryz.func181 (by kernel_rfl) rfl
set_option maxHeartbeats 400000 in
theorem Lead1_any (x : UInt8) (w : World) : Calls Tryz.prog 181 #[B8 x] w fun e w' => e = .returned (.bool (decide (x ≠ 0))) ∧ w = w' := by
  have hz := nat_ne_zero x
  generalize decide (x ≠ 0) = d at *
  go_enter Tryz.func181, Tryz.ntmps181
  go_wp2
  go_ret
  exact ⟨rfl, rfl⟩
set_option maxHeartbeats 400000 in
theorem Lead_any (p : Option Addr) (n c : Nat) (v : List UInt8) (w : World) (h : Sl B8 w p n c v) :
    Calls Tryz.prog 115 #[.slice p n c] w fun e w' => e = .returned (.int .i64 (leadS v)) ∧ w = w' := by
  have H := Lib.hid h; clear h
  go_enter Tryz.func115, Tryz.ntmps115
  go_wp2_with fail
  refine (IndexFuncV_any B8 (fun x => decide (x ≠ 0)) 181 #[] enters_lead p n c v w H.out (fun x _ => Lead1_any x w)).mono ?_; rintro e w' ⟨rfl, rfl⟩
  generalize hL : idxf (fun x => decide (x ≠ 0)) v = L
  have HL := Lib.hid hL; clear hL
  go_wp2
  go_ret
  exact ⟨by rw [leadS, HL.out]; rfl, rfl⟩
set_option maxHeartbeats 400000 in
theorem At_any (p : Option Addr) (n c : Nat) (v : List UInt8) (i : Int) (w : World) (h : Sl B8 w p n c v) :
    Calls Tryz.prog 116 #[.slice p n c, .int .i64 i] w fun e w' => e = .returned (B8 (atS v i)) ∧ w = w' := by
  have hb := h.bound
  by_cases h0 : 0 ≤ i
  · by_cases h1 : i < n
    · obtain ⟨k, rfl⟩ := Int.eq_ofNat_of_zero_le h0
      obtain ⟨b, o, x, rfl, hc, hx⟩ := h.at k (by omega)
      have HR : Hid (atS v (k : Int) = x) := by simp [Hid, atS, List.getD, hx.out]
      have h0' : ¬ ((k : Int) < 0) := by omega
      clear h h0
      go_enter Tryz.func116, Tryz.ntmps116
      go_wp2
      go_ret
      exact ⟨by rw [HR.out]; rfl, rfl⟩
    · have HR : Hid (atS v i = 0) := by
        simp only [Hid, atS, if_pos h0, List.getD]
        rw [List.getElem?_eq_none (by have := h.len; omega)]; rfl
      have h0' : ¬ (i < 0) := by omega
      have h1' : (n : Int) ≤ i := by omega
      clear h
      go_enter Tryz.func116, Tryz.ntmps116
      go_wp2
      go_ret
      exact ⟨by rw [HR.out]; rfl, rfl⟩
  · have HR : Hid (atS v i = 0) := by simp only [Hid, atS, if_neg h0]
    have h0' : i < 0 := by omega
    clear h
    go_enter Tryz.func116, Tryz.ntmps116
    go_wp2
    go_ret
    exact ⟨by rw [HR.out]; rfl, rfl⟩
set_option maxHeartbeats 400000 in
theorem VZero_any (p : Option Addr) (n c : Nat) (v : List UInt8) (w : World) (h : Sl B8 w p n c v) :
    Calls Tryz.prog 105 #[.slice p n c] w fun e w' => e = .returned (.bool (zeroS v)) ∧ w = w' := by
  have H := Lib.hid h; clear h
  go_enter Tryz.func105, Tryz.ntmps105
  go_wp2_with fail
  refine (Zero_any p n c v w H.out).mono ?_; rintro e w' ⟨rfl, rfl⟩
  go_wp2
  go_ret
  exact ⟨rfl, rfl⟩
/-- one result: a row in new memory -/
def RetR (T : TypeId) (w : World) (r : List UInt8 × List UInt8) (e : Ending) (w' : World) : Prop :=
  ∃ q1 m1 c1 q2 m2 c2, Hid (r.1.length = m1) ∧ Hid (r.2.length = m2) ∧ e = .returned (.agg #[.slice q1 m1 c1, .slice q2 m2 c2]) ∧
    w'.ownsRow w.heap.size T 1 (.slice q1 m1 c1) m1 (r.1.map B8) ∧ w'.ownsRow w.heap.size T 1 (.slice q2 m2 c2) m2 (r.2.map B8) ∧ Below w.heap.size w w'
set_option maxHeartbeats 400000 in
theorem Of_any (p1 p2 : Option Addr) (n1 c1 n2 c2 : Nat) (v d : List UInt8) (w : World) (h1 : Sl B8 w p1 n1 c1 v) (h2 : Sl B8 w p2 n2 c2 d) (r1 : Room n1) (r2 : Room n2) :
    Calls Tryz.prog 80 #[.slice p1 n1 c1, .slice p2 n2 c2] w (RetR 5 w (v, d)) := by
  have H1 := Lib.hid h1; have H2 := Lib.hid h2; clear h1 h2
  go_enter Tryz.func80, Tryz.ntmps80
  go_wp2_with fail
  refine (CloneV_any _ _ _ v _ (H1.out.keep ((Below.refl _ _).alloc (Nat.le_refl _) _)) r1).mono ?_; rintro e w1 ⟨q1, c1', rfl, ho1, hb1⟩
  have HO1 := Lib.hid ho1; clear ho1
  go_wp2_with fail
  refine Calls.mono (CloneB_any _ _ _ d _ (H2.out.keep (bl (al (Below.refl _ _) (Nat.le_refl _)) hb1 (by simp))) r2) ?_; rintro e w2 ⟨q2, c2', rfl, ho2, hb2⟩
  have HO2 := Lib.hid ho2; clear ho2
  have e2 : w2.heap[w.heap.size]? = some (.cells #[.slice none 0 0, .slice none 0 0] 99 (0, 0)) := by
    rw [hb2.block _ (by have := hb1.size; simp at this; omega), hb1.block _ (by simp)]; exact hnew rfl
  have f0 : w2.cell? ⟨w.heap.size, 0, none⟩ = some (.slice none 0 0) := cell_of_row _ _ 0 _ _ _ e2
  have f1 : w2.cell? ⟨w.heap.size, 1, none⟩ = some (.slice none 0 0) := cell_of_row _ _ 1 _ _ _ e2
  have g0 : w2.frozen? ⟨w.heap.size, 0, none⟩ = false := frozen_of_row _ _ 0 _ _ e2
  have g1 : w2.frozen? ⟨w.heap.size, 1, none⟩ = false := frozen_of_row _ _ 1 _ _ e2
  have E2 := Lib.hid e2; clear e2
  have hi : (Tryz.prog.info? 99).map (·.size) = some 2 := by kernel_rfl
  go_wp2
  have k2 : Below w.heap.size w w2 := bl (bl (al (Below.refl _ _) (Nat.le_refl _)) hb1 (by simp)) hb2 (by have := hb1.size; simp at this; omega)
  refine bodyPost_ret (results_cell_row rfl _ _ _ 99 #[.slice q1 n1 c1', .slice q2 n2 c2'] (0, 0) _ rfl (hss (hss E2.out)) Tryz.underlying99 rfl hi) rfl ⟨q1, n1, c1', q2, n2, c2', H1.out.len, H2.out.len, rfl, ?_, ?_, (k2.setCell (Nat.le_refl _) _).setCell (Nat.le_refl _) _⟩
  · exact owns_mono (owns_set (owns_set (owns_keep HO1.out hb2) (by simp)) (by simp)) (by simp)
  · have hs := hb1.size
    exact owns_mono (owns_set (owns_set HO2.out (by simp at hs; omega)) (by simp at hs; omega)) (by simp at hs; omega)
end Go.Proofs.YtccaiiigdfieoaaGreatDoor
namespace Gf
end Gf
namespace Go.Proofs.YtccaiiigdfieoaaGreatDoor
open Go.RowKit Go.By
end Go.Proofs.YtccaiiigdfieoaaGreatDoor
namespace Go.Proofs.YtccaiiigdfieoaaGreatDoor
open Go.RowKit Go.By
end Go.Proofs.YtccaiiigdfieoaaGreatDoor
namespace Go.Proofs.YtccaiiigdfieoaaGreatDoor
open Go.RowKit Go.By
theorem qs {f : FuncId} {args : Array Value} {w : World} {n : Nat} {v : Value} (h : Calls Tryz.prog f args (w.drewN n) fun e w' => e = .returned v ∧ w.drewN n = w') :
    Calls Tryz.prog f args (w.drewN n) fun e w'' => e = .returned v ∧ ∃ m, w'' = w.drewN m :=
  Calls.quiet_of_same (h.mono fun _ _ ⟨a, b⟩ => ⟨a, b.symm⟩)
end Go.Proofs.YtccaiiigdfieoaaGreatDoor
namespace Go.Proofs.YtccaiiigdfieoaaGreatDoor
open Go.RowKit Go.By
end Go.Proofs.YtccaiiigdfieoaaGreatDoor
namespace Go.Proofs.YtccaiiigdfieoaaGreatDoor
open Go.RowKit Go.By
theorem bdn {B : Nat} {a w : World} (h : Below B a w) {n : Nat} : Below B a (w.drewN n) := ⟨h.os, h.tape, h.output, h.size, h.block⟩
end Go.Proofs.YtccaiiigdfieoaaGreatDoor
namespace Go.Proofs.YtccaiiigdfieoaaGreatDoor
open Go.RowKit Go.By
end Go.Proofs.YtccaiiigdfieoaaGreatDoor
namespace Go.By
open Go.RowKit
/-- the operations that must come ahead of this one -/
def preds (o : Oper) : List Nat := (o.after.toList.filter (fun e => Region.binds .any e)).map (·.on)
/-- a slot of the frame -/
def sl (a : Act) (t : Nat) : Value := a.tmps.getD t undef
/-- at operation i the slot t holds what it held at first -/
def initAt (ops : Array Oper) (i t : Nat) : Bool := (List.range ops.size).all fun j => j == i || match ops[j]? with
  | some o => (o.dst != some t) || (preds o).contains i
  | none => true
/-- the edges lead backwards -/
def backB (ops : Array Oper) : Bool := (List.range ops.size).all fun i => match ops[i]? with
  | some o => (preds o).all (fun k => decide (k < i))
  | none => true
theorem mem_ready {ops : Array Oper} {listed : Array Bool} {i : Nat} : i ∈ Region.ready .any ops listed ↔ i < ops.size ∧ listed.getD i true = false ∧ ∃ o, ops[i]? = some o ∧ ∀ k, k ∈ preds o → listed.getD k false = true := by
  simp only [Region.ready, List.mem_filter, List.mem_range, Bool.and_eq_true, Bool.not_eq_true', preds]
  constructor
  · rintro ⟨h1, h2, h3⟩
    refine ⟨h1, h2, ?_⟩
    have ho : ops[i]? = some ops[i] := Array.getElem?_eq_getElem h1
    refine ⟨_, ho, ?_⟩
    rw [ho] at h3
    simp only [Option.map_some, Option.getD_some, Array.all_eq_true_iff_forall_mem, Bool.or_eq_true, Bool.not_eq_true'] at h3
    intro k hk
    obtain ⟨e, he, rfl⟩ := List.mem_map.1 hk
    obtain ⟨he1, he2⟩ := List.mem_filter.1 he
    rcases h3 e (by simpa using he1) with h | h
    · rw [h] at he2; cases he2
    · exact h
  · rintro ⟨h1, h2, o, ho, h3⟩
    refine ⟨h1, h2, ?_⟩
    rw [ho]
    simp only [Option.map_some, Option.getD_some, Array.all_eq_true_iff_forall_mem, Bool.or_eq_true, Bool.not_eq_true']
    intro e he
    by_cases hb : Region.binds .any e = true
    · right
      exact h3 e.on (List.mem_map.2 ⟨e, List.mem_filter.2 ⟨by simpa using he, hb⟩, rfl⟩)
    · left; simpa using hb
/-- how many are not listed yet -/
def unl (n : Nat) (listed : Array Bool) : Nat := (List.range n).countP (fun i => !listed.getD i true)
theorem countP_lt {l : List Nat} {p q : Nat → Bool} (h : ∀ x, x ∈ l → q x = true → p x = true) {i : Nat} (hi : i ∈ l) (hp : p i = true) (hq : q i = false) : l.countP q < l.countP p := by
  induction l with
  | nil => simp at hi
  | cons x l ih =>
    have hmono : l.countP q ≤ l.countP p := List.countP_mono_left (fun y hy hqy => h y (List.mem_cons_of_mem _ hy) hqy)
    rw [List.countP_cons, List.countP_cons]
    rcases List.mem_cons.1 hi with rfl | hi'
    · simp [hp, hq]; omega
    · have := ih (fun y hy => h y (List.mem_cons_of_mem _ hy)) hi'
      have hx := h x List.mem_cons_self
      by_cases hqx : q x = true
      · simp [hqx, hx hqx]; omega
      · simp [hqx]; split <;> omega
theorem unl_set {n : Nat} {listed : Array Bool} {i : Nat} (hi : i < n) (hl : listed.getD i true = false) : unl n (listed.setIfInBounds i true) < unl n listed := by
  refine countP_lt (i := i) ?_ (List.mem_range.2 hi) (by simpa using hl) ?_
  · intro x _ hx
    by_cases e : i = x
    · subst e; simpa using hl
    · simp only [Array.getD_eq_getD_getElem?, Array.getElem?_setIfInBounds, if_neg e] at hx ⊢
      exact hx
  · have hs : i < listed.size := by
      rcases Nat.lt_or_ge i listed.size with h | h
      · exact h
      · simp [Array.getD_eq_getD_getElem?, Array.getElem?_eq_none h] at hl
    simp [Array.getD_eq_getD_getElem?, Array.getElem?_setIfInBounds, hs]
section
variable {P : Program} {ops : Array Oper} {Q : Exit → Act → World → Prop}
/-- what is to be shown of one operation -/
def StepOf (P : Program) (ops : Array Oper) (Q : Exit → Act → World → Prop) (a0 : Act) (w0 : World) (E : World → World → Prop) (R : Nat → World → World → Prop) (Inv : Nat → (Nat → Value) → World → Prop) (i : Nat) (o : Oper) : Prop :=
  ∀ (a : Act) (w : World), E w0 w → a.tmps.size = a0.tmps.size → (∀ k, k ∈ preds o → Inv k (sl a) w) → (∀ t, initAt ops i t = true → sl a t = sl a0 t) →
    if Region.wanted o (yielded ops a.tmps) = true then o.wp P a w (fun a' w' => ∃ v, a' = a.put o.dst v ∧ R i w w' ∧ Inv i (sl a') w') Q
    else R i w w ∧ Inv i (sl (a.put o.dst undef)) w
def Each (P : Program) (ops : Array Oper) (Q : Exit → Act → World → Prop) (a0 : Act) (w0 : World) (E : World → World → Prop) (R : Nat → World → World → Prop) (Inv : Nat → (Nat → Value) → World → Prop) : List Oper → Nat → Prop
  | [], _ => True
  | o :: rest, i => StepOf P ops Q a0 w0 E R Inv i o ∧ Each P ops Q a0 w0 E R Inv rest (i + 1)
theorem Each.get {a0 : Act} {w0 : World} {E : World → World → Prop} {R : Nat → World → World → Prop} {Inv : Nat → (Nat → Value) → World → Prop} : ∀ (l : List Oper) (k : Nat), Each P ops Q a0 w0 E R Inv l k → ∀ j o, l[j]? = some o → StepOf P ops Q a0 w0 E R Inv (k + j) o := by
  intro l
  induction l with
  | nil => intro k _ j o h; simp at h
  | cons x l ih =>
    intro k h j o hj
    cases j with
    | zero => simp at hj; subst hj; exact h.1
    | succ j =>
      have := ih (k + 1) h.2 j o (by simpa using hj)
      rwa [show k + 1 + j = k + (j + 1) by omega] at this
theorem put_sl (a : Act) (d : Option Nat) (v : Value) (t : Nat) (h : d ≠ some t) : sl (a.put d v) t = sl a t := by
  cases d with
  | none => rfl
  | some x =>
    have : x ≠ t := fun e => h (by rw [e])
    simp [sl, Act.put, Array.getD_eq_getD_getElem?, Array.getElem?_setIfInBounds, this]
theorem put_size (a : Act) (d : Option Nat) (v : Value) : (a.put d v).tmps.size = a.tmps.size := by
  cases d <;> simp [Act.put]
theorem put_defers (a : Act) (d : Option Nat) (v : Value) : (a.put d v).defers = a.defers := by
  cases d <;> simp [Act.put]
theorem put_same (a : Act) (x : Nat) (v : Value) (h : x < a.tmps.size) : sl (a.put (some x) v) x = v := by
  simp [sl, Act.put, Array.getD_eq_getD_getElem?, Array.getElem?_setIfInBounds, h]
/-- A REGION THAT DRAWS, by an invariant of each operation -/
theorem wp_region_each {id : Nat} {a0 : Act} {w0 : World} (hm : P.follows .mixedOrders = true) (hback : backB ops = true)
    (E : World → World → Prop) (R : Nat → World → World → Prop) (Inv : Nat → (Nat → Value) → World → Prop)
    (E0 : E w0.drew w0.drew) (ER : ∀ i w w', E w0.drew w → R i w w' → E w0.drew w')
    (stable : ∀ i j oi oj (σ σ' : Nat → Value) w w', i ≠ j → ops[i]? = some oi → ops[j]? = some oj → i ∉ preds oj ∨ True → Inv j σ w → R i w w' → (∀ t, oi.dst ≠ some t → σ' t = σ t) → (j ∉ preds oi → True) → (∀ d, oi.dst = some d → i ∈ preds oj → False) → Inv j σ' w')
    (each : Each P ops Q a0 w0.drew E R Inv ops.toList 0)
    (fin : ∀ a w, E w0.drew w → a.tmps.size = a0.tmps.size → a.defers = a0.defers → (∀ j, j < ops.size → Inv j (sl a) w) → (∀ t, (ops.toList.all fun o => o.dst != some t) = true → sl a t = sl a0 t) → Q .normal a w) :
    (Code.region id ops true).wp P Q a0 w0 := by
  refine wp_region_any hm ?_
  show wpAny P .any ops Q ops.size (Array.replicate ops.size false) a0 w0.drew
  have main : ∀ (fuel : Nat) (listed : Array Bool) (a : Act) (w : World), unl ops.size listed ≤ fuel → E w0.drew w → a.tmps.size = a0.tmps.size → a.defers = a0.defers →
      (∀ j o, listed.getD j false = true → ops[j]? = some o → ∀ k, k ∈ preds o → listed.getD k false = true) →
      (∀ j, j < ops.size → listed.getD j true = true → listed.getD j false = true) →
      (∀ j, j < ops.size → listed.getD j false = true → Inv j (sl a) w) →
      (∀ t, (∀ j o, j < ops.size → listed.getD j false = true → ops[j]? = some o → o.dst ≠ some t) → sl a t = sl a0 t) → wpAny P .any ops Q fuel listed a w := by
    intro fuel
    induction fuel with
    | zero =>
      intro listed a w hu hE hs hd hcl hlt hI ht
      have hall : ∀ j, j < ops.size → listed.getD j false = true := by
        intro j hj
        refine hlt j hj ?_
        have h0 : unl ops.size listed = 0 := by omega
        unfold unl at h0
        have := List.countP_eq_zero.1 h0 j (List.mem_range.2 hj)
        simpa using this
      refine ⟨?_, fin a w hE hs hd (fun j hj => hI j hj (hall j hj)) (fun t htt => ht t (fun j o _ _ ho => ?_))⟩
      · rw [List.eq_nil_iff_forall_not_mem]
        intro i hi
        obtain ⟨h1, h2, _⟩ := mem_ready.1 hi
        have hx := hall i h1
        rcases Nat.lt_or_ge i listed.size with h | h
        · simp [Array.getD_eq_getD_getElem?, h] at h2 hx; rw [h2] at hx; cases hx
        · simp [Array.getD_eq_getD_getElem?, Array.getElem?_eq_none h] at hx
      · have := List.all_eq_true.1 htt o (by rw [Array.mem_toList_iff]; exact Array.mem_of_getElem? ho)
        simpa using this
    | succ fuel ih =>
      intro listed a w hu hE hs hd hcl hlt hI ht
      refine ⟨fun hr => ?_, fun i hi => ?_⟩
      · have hall : ∀ n j, j < n → j < ops.size → listed.getD j false = true := by
          intro n
          induction n with
          | zero => intro j hj; omega
          | succ n ihn =>
            intro j hj hjs
            refine hlt j hjs ?_
            cases hb : listed.getD j true with
            | true => rfl
            | false =>
              exfalso
              have ho : ops[j]? = some ops[j] := Array.getElem?_eq_getElem hjs
              have : j ∈ Region.ready .any ops listed := mem_ready.2 ⟨hjs, hb, _, ho, fun k hk => by
                have hbk := List.all_eq_true.1 hback j (List.mem_range.2 hjs)
                rw [ho] at hbk
                have hkj := of_decide_eq_true (List.all_eq_true.1 hbk k hk)
                exact ihn k (by omega) (by omega)⟩
              rw [hr] at this; cases this
        exact fin a w hE hs hd (fun j hj => hI j hj (hall (j + 1) j (by omega) hj)) (fun t htt => ht t (fun j o _ _ ho => by
          have := List.all_eq_true.1 htt o (by rw [Array.mem_toList_iff]; exact Array.mem_of_getElem? ho)
          simpa using this))
      · obtain ⟨h1, h2, o, ho, h3⟩ := mem_ready.1 hi
        have hst := Each.get ops.toList 0 each i o (by simpa using ho)
        rw [Nat.zero_add] at hst
        have hnl : listed.getD i false ≠ true := by
          intro hx
          rcases Nat.lt_or_ge i listed.size with h | h
          · simp [Array.getD_eq_getD_getElem?, h] at h2 hx; rw [h2] at hx; cases hx
          · simp [Array.getD_eq_getD_getElem?, Array.getElem?_eq_none h] at hx
        have his : i < listed.size := by
          rcases Nat.lt_or_ge i listed.size with h | h
          · exact h
          · simp [Array.getD_eq_getD_getElem?, Array.getElem?_eq_none h] at h2
        have gset : ∀ j (d : Bool), (listed.setIfInBounds i true).getD j d = if i = j then true else listed.getD j d := by
          intro j d
          simp only [Array.getD_eq_getD_getElem?, Array.getElem?_setIfInBounds]
          by_cases e : i = j
          · subst e; simp [his]
          · simp [e]
        have hst' := hst a w hE hs (fun k hk => hI k (by
            have hbk := List.all_eq_true.1 hback i (List.mem_range.2 h1)
            rw [ho] at hbk
            have := of_decide_eq_true (List.all_eq_true.1 hbk k hk); omega) (h3 k hk)) (fun t hti => by
          refine ht t (fun j oj hj hlj hoj hdj => ?_)
          have := List.all_eq_true.1 hti j (List.mem_range.2 hj)
          rw [hoj] at this
          by_cases e : j = i
          · subst e; exact hnl hlj
          · simp [e, hdj] at this
            exact hnl (hcl j oj hlj hoj i this))
        have next : ∀ (v : Value) (w' : World), R i w w' → Inv i (sl (a.put o.dst v)) w' → wpAny P .any ops Q fuel (listed.setIfInBounds i true) (a.put o.dst v) w' := by
          intro v w' hR hIi
          refine ih _ _ _ (by have := unl_set (n := ops.size) h1 h2; omega) (ER i w w' hE hR) ((put_size _ _ _).trans hs) ((put_defers _ _ _).trans hd) ?_ ?_ ?_ ?_
          · intro j oj hj hoj k hk
            rw [gset] at hj ⊢
            by_cases e : i = k
            · rw [if_pos e]
            · rw [if_neg e]
              by_cases e' : i = j
              · subst e'; rw [ho] at hoj; cases hoj; exact h3 k hk
              · rw [if_neg e'] at hj; exact hcl j oj hj hoj k hk
          · intro j hj hl
            rw [gset] at hl ⊢
            by_cases e : i = j
            · rw [if_pos e]
            · rw [if_neg e] at hl ⊢; exact hlt j hj hl
          · intro j hj hl
            rw [gset] at hl
            by_cases e : i = j
            · subst e; exact hIi
            · rw [if_neg e] at hl
              have hoj : ops[j]? = some ops[j] := Array.getElem?_eq_getElem hj
              exact stable i j o _ (sl a) _ w w' e ho hoj (.inr trivial) (hI j hj hl) hR (fun t h => put_sl _ _ _ _ h) (fun _ => trivial) (fun d hdd hp => hnl (hcl j _ hl hoj i hp))
          · intro t htt
            have hdt : o.dst ≠ some t := htt i o h1 (by rw [gset, if_pos rfl]) ho
            rw [put_sl _ _ _ _ hdt]
            exact ht t (fun j oj hj hl hoj => htt j oj hj (by rw [gset]; split <;> simp [hl]) hoj)
        unfold wpOp
        rw [ho]
        show if Region.wanted o (yielded ops a.tmps) = true then _ else _
        split
        · rename_i hw
          rw [if_pos hw] at hst'
          exact .inl (Oper.wp_mono (fun a' w' ⟨v, e, hR, hIi⟩ => by rw [e] at hIi ⊢; exact next v w' hR hIi) hst')
        · rename_i hw
          rw [if_neg hw] at hst'
          exact next undef w hst'.1 hst'.2
  refine main ops.size _ a0 w0.drew ?_ E0 rfl rfl ?_ ?_ ?_ ?_
  · unfold unl; exact Nat.le_trans List.countP_le_length (by simp)
  · intro j o hj; simp [Array.getD_eq_getD_getElem?, Array.getElem?_replicate] at hj
    split at hj <;> simp at hj
  · intro j hj hl; simp [Array.getD_eq_getD_getElem?, Array.getElem?_replicate, hj] at hl
  · intro j hj hl; simp [Array.getD_eq_getD_getElem?, Array.getElem?_replicate, hj] at hl
  · intro t _; rfl
end
end Go.By
namespace Go.By
open Go.RowKit
section
variable {T2 T1 : TypeId} {w w' : World} {base n : Nat} {v : Value} {xss : List (List UInt8)}
theorem owns_kept {e size : Nat} {v : Value} {ys : List Value} {row : Option Nat} (h : w.ownsRow base e size v n ys) (hg : w.grownBy w' row) (hne : ∀ k, v.ownBlock = some k → some k ≠ row) : w'.ownsRow base e size v n ys :=
  h.kept hg (by
    cases hv : v.ownBlock with
    | none => exact .inl rfl
    | some k => exact .inr (fun e => hne k hv e))
/-- rows of unlike element types lie in unlike blocks -/
theorem owns_ne {b1 b2 e1 e2 s1 s2 n1 n2 : Nat} {v1 v2 : Value} {ys1 ys2 : List Value} (h1 : w.ownsRow b1 e1 s1 v1 n1 ys1) (h2 : w.ownsRow b2 e2 s2 v2 n2 ys2) (he : e1 ≠ e2) : ∀ k, v1.ownBlock = some k → some k ≠ v2.ownBlock := by
  intro k hk
  rcases h1.2 with ⟨rfl, _⟩ | ⟨g1, c1, cur1, rfl, _, hh1, _⟩
  · simp [Value.ownBlock] at hk
  · simp [Value.ownBlock] at hk; subst hk
    rcases h2.2 with ⟨rfl, _⟩ | ⟨g2, c2, cur2, rfl, _, hh2, _⟩
    · simp [Value.ownBlock]
    · simp only [Value.ownBlock]
      intro e
      cases e
      rw [hh1] at hh2
      cases hh2; exact he rfl
theorem owns_keepv {e size : Nat} {ys : List Value} (h : w.ownsRow base e size v n ys) (hb : Below w.heap.size w w') : w'.ownsRow base e size v n ys := by
  obtain ⟨q, c, rfl⟩ := owns_shape h
  exact owns_keep h hb
end
end Go.By
namespace Go.By
open Go.RowKit
/-- what is said of a value, and lasts while old memory stays -/
structure Shp where
  ok : Value → World → Prop
  keep : ∀ (v : Value) (w w' : World), ok v w → Below w.heap.size w w' → ok v w'
def Shp.val (u : Value) : Shp := ⟨fun v _ => v = u, fun _ _ _ h _ => h⟩
def Shp.any : Shp := ⟨fun _ _ => True, fun _ _ _ h _ => h⟩
def BytesIs (xs : List UInt8) (v : Value) (w : World) : Prop := ∃ p n c, v = .slice p n c ∧ Sl B8 w p n c xs
def RowIs (r : List UInt8 × List UInt8) (v : Value) (w : World) : Prop := ∃ p1 n1 c1 p2 n2 c2, v = .agg #[.slice p1 n1 c1, .slice p2 n2 c2] ∧ Sl B8 w p1 n1 c1 r.1 ∧ Sl B8 w p2 n2 c2 r.2
def Shp.bytes (xs : List UInt8) : Shp := ⟨BytesIs xs, fun _ _ _ ⟨p, n, c, e, h⟩ hb => ⟨p, n, c, e, h.keep hb⟩⟩
def Shp.row (r : List UInt8 × List UInt8) : Shp := ⟨RowIs r, fun _ _ _ ⟨p1, n1, c1, p2, n2, c2, e, h1, h2⟩ hb => ⟨p1, n1, c1, p2, n2, c2, e, h1.keep hb, h2.keep hb⟩⟩
/-- the slots that the operations write are unlike -/
def distB (ops : Array Oper) : Bool := (List.range ops.size).all fun i => (List.range ops.size).all fun j => i == j || match ops[i]?, ops[j]? with
  | some oi, some oj => (match oi.dst, oj.dst with
    | some x, some y => x != y
    | _, _ => true)
  | _, _ => true
def dstOf (ops : Array Oper) (i : Nat) : Option Nat := (ops[i]?).bind (·.dst)
def InvS (ops : Array Oper) (sh : Nat → Shp) (i : Nat) (σ : Nat → Value) (w : World) : Prop := match dstOf ops i with
  | some d => (sh i).ok (σ d) w
  | none => True
/-- what is to be shown of one operation -/
def StepS (P : Program) (ops : Array Oper) (Q : Exit → Act → World → Prop) (a0 : Act) (W0 : World) (sh : Nat → Shp) (i : Nat) (o : Oper) : Prop :=
  ∀ (a : Act) (w : World), Below W0.heap.size W0 w → a.tmps.size = a0.tmps.size → (∀ k, k ∈ preds o → InvS ops sh k (sl a) w) → (∀ t, initAt ops i t = true → sl a t = sl a0 t) →
    if Region.wanted o (yielded ops a.tmps) = true then o.wp P a w (fun a' w' => ∃ v, a' = a.put o.dst v ∧ Below w.heap.size w w' ∧ (sh i).ok v w') Q
    else (sh i).ok undef w
def EachS (P : Program) (ops : Array Oper) (Q : Exit → Act → World → Prop) (a0 : Act) (W0 : World) (sh : Nat → Shp) : List Oper → Nat → Prop
  | [], _ => True
  | o :: rest, i => StepS P ops Q a0 W0 sh i o ∧ EachS P ops Q a0 W0 sh rest (i + 1)
/-- every operation writes a slot of the frame -/
def dstsB (ops : Array Oper) (n : Nat) : Bool := ops.toList.all fun o => match o.dst with
  | some d => decide (d < n)
  | none => false
theorem each_of {P : Program} {ops : Array Oper} {Q : Exit → Act → World → Prop} {a0 : Act} {W0 : World} {sh : Nat → Shp} {n : Nat} (hn : a0.tmps.size = n) : ∀ (l : List Oper) (k : Nat), (∀ j o, l[j]? = some o → ops[k + j]? = some o) → (l.all fun o => match o.dst with | some d => decide (d < n) | none => false) = true →
    EachS P ops Q a0 W0 sh l k → Each P ops Q a0 W0 (fun W w => Below W.heap.size W w) (fun _ w w' => Below w.heap.size w w') (InvS ops sh) l k := by
  intro l
  induction l with
  | nil => intro k _ _ _; trivial
  | cons o l ih =>
    intro k hk hd h
    simp only [List.all_cons, Bool.and_eq_true] at hd
    refine ⟨?_, ih (k + 1) (fun j o' hj => by have := hk (j + 1) o' (by simpa using hj); rwa [show k + (j + 1) = k + 1 + j by omega] at this) hd.2 h.2⟩
    intro a w hE hs hp hi
    have ho : ops[k]? = some o := by have := hk 0 o (by simp); simpa using this
    have hs1 := h.1 a w hE hs hp hi
    cases hdo : o.dst with
    | none => rw [hdo] at hd; simp at hd
    | some d =>
      rw [hdo] at hd
      have hd1 : d < n := of_decide_eq_true hd.1
      have hdn : d < a.tmps.size := by rw [hs, hn]; exact hd1
      have hdst : dstOf ops k = some d := by simp [dstOf, ho, hdo]
      split
      · rename_i hw
        rw [if_pos hw] at hs1
        refine Oper.wp_mono ?_ hs1
        rintro a' w' ⟨v, e, hb, hok⟩
        refine ⟨v, e.trans (by rw [hdo]), hb, ?_⟩
        unfold InvS
        rw [hdst]
        show (sh k).ok (sl a' d) w'
        rw [e, hdo, put_same _ _ _ hdn]; exact hok
      · rename_i hw
        rw [if_neg hw] at hs1
        refine ⟨Below.refl _ _, ?_⟩
        unfold InvS
        rw [hdst]
        show (sh k).ok (sl (a.put (some d) undef) d) w
        rw [put_same _ _ _ hdn]; exact hs1
theorem wp_region_shapes {P : Program} {ops : Array Oper} {Q : Exit → Act → World → Prop} {id : Nat} {a0 : Act} {w0 : World} (sh : Nat → Shp) (n : Nat) (hn : a0.tmps.size = n) (hm : P.follows .mixedOrders = true) (hback : backB ops = true) (hdist : distB ops = true) (hdsts : dstsB ops n = true)
    (each : EachS P ops Q a0 w0.drew sh ops.toList 0)
    (fin : ∀ a w, Below w0.heap.size w0 w → a.tmps.size = a0.tmps.size → a.defers = a0.defers → (∀ j, j < ops.size → InvS ops sh j (sl a) w) → (∀ t, (ops.toList.all fun o => o.dst != some t) = true → sl a t = sl a0 t) → Q .normal a w) :
    (Code.region id ops true).wp P Q a0 w0 := by
  refine wp_region_each hm hback (fun W w => Below W.heap.size W w) (fun _ w w' => Below w.heap.size w w') (InvS ops sh) (Below.refl _ _) (fun i w w' h hR => h.trans (hR.mono h.size)) ?_ (each_of hn _ 0 (fun j o hj => by simpa using hj) hdsts each) (fun a w hE hs hd hI ht => fin a w ⟨hE.os, hE.tape, hE.output, hE.size, hE.block⟩ hs hd hI ht)
  intro i j oi oj σ σ' w w' hij hoi hoj _ hI hR hσ _ _
  unfold InvS at hI ⊢
  cases hdj : dstOf ops j with
  | none => trivial
  | some d =>
    rw [hdj] at hI
    show (sh j).ok (σ' d) w'
    have hne : oi.dst ≠ some d := by
      intro e
      have hi' : i < ops.size := (Array.getElem?_eq_some_iff.1 hoi).1
      have hj' : j < ops.size := (Array.getElem?_eq_some_iff.1 hoj).1
      have := List.all_eq_true.1 (List.all_eq_true.1 hdist i (List.mem_range.2 hi')) j (List.mem_range.2 hj')
      rw [hoi, hoj] at this
      have hdj' : oj.dst = some d := by simpa [dstOf, hoj] using hdj
      simp [e, hdj', hij] at this
    rw [hσ d hne]
    exact (sh j).keep _ _ _ hI hR
/-- the guard says yes -/
theorem wanted_yes {ops : Array Oper} {o : Oper} {a : Act} {j : Nat} {b : Bool} {d : Nat} (hg : o.guard = some (j, b)) (hd : dstOf ops j = some d) (hs : d < a.tmps.size) (hv : sl a d = .bool b) : Region.wanted o (yielded ops a.tmps) = true := by
  have h1 : a.tmps[d]? = some (.bool b) := by
    have := hv
    simp only [sl, Array.getD_eq_getD_getElem?, Array.getElem?_eq_getElem hs, Option.getD_some] at this
    rw [Array.getElem?_eq_getElem hs, this]
  unfold dstOf at hd
  simp [Region.wanted, hg, yielded, hd, h1]
theorem ite_y {c : Prop} [Decidable c] {A B : Prop} (hc : c) (h : A) : if c then A else B := by rw [if_pos hc]; exact h
/-- an operation that gives a value -/
theorem wp_val {P : Program} {o : Oper} {a : Act} {w : World} {K : Act → World → Prop} {Q : Exit → Act → World → Prop} (v : Value) (hrun : (execOp a.eval o).run P w = .ok (.value v) w) (h : K (a.put o.dst v) w) : o.wp P a w K Q := by
  unfold Oper.wp; rw [hrun]; exact h
theorem wp_val' {P : Program} {o : Oper} {a : Act} {w w' : World} {K : Act → World → Prop} {Q : Exit → Act → World → Prop} (v : Value) (hrun : (execOp a.eval o).run P w = .ok (.value v) w') (h : K (a.put o.dst v) w') : o.wp P a w K Q := by
  unfold Oper.wp; rw [hrun]; exact h
/-- an operation that calls -/
theorem wp_enter {P : Program} {o : Oper} {a : Act} {w : World} {K : Act → World → Prop} {Q : Exit → Act → World → Prop} (f : FuncId) (args : Array Value) (hrun : (execOp a.eval o).run P w = .ok (.enter f args) w)
    {R : Ending → World → Prop} (hc : Calls P f args w R) (h : ∀ e w', R e w' → ∃ v, e = .returned v ∧ K (a.put o.dst v) w') : o.wp P a w K Q := by
  unfold Oper.wp; rw [hrun]
  show Calls P f args w _
  refine hc.mono ?_
  intro e w' hr
  obtain ⟨v, rfl, hk⟩ := h e w' hr
  exact hk
end Go.By
namespace Go.By
open Go.RowKit
section
variable {B X : Nat} {w w' : World}
end
section
variable (B X : Nat)
end
end Go.By
namespace Go.By
open Go.RowKit
theorem putAll_size (a : Act) : ∀ (ws : List Nat) (b : Act), (ws.foldl (fun b t => b.put (some t) (sl a t)) b).tmps.size = b.tmps.size := by
  intro ws
  induction ws with
  | nil => intro b; rfl
  | cons t ws ih => intro b; rw [List.foldl_cons, ih]; simp [Act.put]
theorem putAll_sl (a : Act) : ∀ (ws : List Nat) (b : Act) (n : Nat), a.tmps.size = n → b.tmps.size = n → (∀ t, t < n → t ∉ ws → sl b t = sl a t) → ∀ t, t < n → sl (ws.foldl (fun b t => b.put (some t) (sl a t)) b) t = sl a t := by
  intro ws
  induction ws with
  | nil => intro b n ha hb h t ht; exact h t ht (by simp)
  | cons u ws ih =>
    intro b n ha hb h t ht
    rw [List.foldl_cons]
    refine ih _ n ha (by simp [Act.put, hb]) ?_ t ht
    intro s hs hn
    by_cases e : s = u
    · subst e; exact put_same _ _ _ (by rw [hb]; exact hs)
    · have h1 := h s hs (by simp [e, hn])
      rw [← h1]
      simp [sl, Act.put, Array.getD_eq_getD_getElem?, Array.getElem?_setIfInBounds, show ¬ u = s from fun h => e h.symm]
theorem putAll_defers (a : Act) : ∀ (ws : List Nat) (b : Act), (ws.foldl (fun b t => b.put (some t) (sl a t)) b).defers = b.defers := by
  intro ws
  induction ws with
  | nil => intro b; rfl
  | cons t ws ih => intro b; rw [List.foldl_cons, ih]; rfl
/-- the frame behind the region: the written slots, the others as before -/
theorem act_is {ops : Array Oper} {a a0 : Act} (ws : List Nat) (hs : a.tmps.size = a0.tmps.size) (hd : a.defers = a0.defers) (hrest : ∀ t, (ops.toList.all fun o => o.dst != some t) = true → sl a t = sl a0 t)
    (hws : (ops.toList.all fun o => match o.dst with | some t => ws.contains t | none => true) = true) : a = ws.foldl (fun b t => b.put (some t) (sl a t)) a0 := by
  have key := putAll_sl a ws a0 a.tmps.size rfl hs.symm (by
    intro t _ hn
    refine (hrest t ?_).symm
    refine List.all_eq_true.2 fun o ho => ?_
    have := List.all_eq_true.1 hws o ho
    cases hdo : o.dst with
    | none => simp
    | some u =>
      rw [hdo] at this
      have hu : u ∈ ws := by simpa using this
      have : u ≠ t := fun e => hn (e ▸ hu)
      simpa using this)
  have h1 := putAll_size a ws a0
  have h2 := putAll_defers a ws a0
  generalize ws.foldl (fun b t => b.put (some t) (sl a t)) a0 = b at key h1 h2
  obtain ⟨ta, da⟩ := a
  obtain ⟨tb, db⟩ := b
  simp only at h1 h2 hd key hs
  have e1 : ta = tb := by
    refine Array.ext (by omega) fun i hi hj => ?_
    have := key i hi
    simpa [sl, Array.getD_eq_getD_getElem?, hi, hj] using this.symm
  rw [e1, hd, h2]
/-- an operation whose operands' values are known runs as one whose operands are these values -/
theorem eval_tmp (a : Act) (t : Nat) : a.eval (.tmp t) = sl a t := rfl
theorem eval_const (a : Act) (v : Value) : a.eval (.const v) = v := rfl
theorem eval_func (a : Act) (f : FuncId) : a.eval (.func f) = .func (.func f) #[] #[] := rfl
theorem undrew {w W : World} (h : Below w.drew.heap.size w.drew W) : Below w.heap.size w W := ⟨h.os, h.tape, h.output, h.size, h.block⟩
/-- the cells of a struct of two -/
theorem cells2 {w : World} {b T : Nat} {u v : Value} (h : w.heap[b]? = some (.cells #[u, v] T (0, 0))) : w.cell? ⟨b, 0, none⟩ = some u ∧ w.cell? ⟨b, 1, none⟩ = some v :=
  ⟨cell_of_row _ _ 0 _ _ _ h, cell_of_row _ _ 1 _ _ _ h⟩
theorem ite_n {c : Prop} [Decidable c] {A B : Prop} (hc : ¬ c) (h : B) : if c then A else B := by rw [if_neg hc]; exact h
/-- the guard says no -/
theorem wanted_no {ops : Array Oper} {o : Oper} {a : Act} {j : Nat} {b c : Bool} {d : Nat} (hg : o.guard = some (j, b)) (hd : dstOf ops j = some d) (hs : d < a.tmps.size) (hv : sl a d = .bool c) (hn : c ≠ b) : ¬ Region.wanted o (yielded ops a.tmps) = true := by
  have h1 : a.tmps[d]? = some (.bool c) := by
    have := hv
    simp only [sl, Array.getD_eq_getD_getElem?, Array.getElem?_eq_getElem hs, Option.getD_some] at this
    rw [Array.getElem?_eq_getElem hs, this]
  unfold dstOf at hd
  simp [Region.wanted, hg, yielded, hd, h1, hn]
end Go.By
namespace Go.By
open Go.RowKit
end Go.By
namespace Go.By
open Go.RowKit
end Go.By
namespace Go.Proofs.YtccaiiigdfieoaaGreatDoor
open Go.RowKit Go.By
end Go.Proofs.YtccaiiigdfieoaaGreatDoor
namespace Go.Proofs.YtccaiiigdfieoaaGreatDoor
open Go.RowKit Go.By
end Go.Proofs.YtccaiiigdfieoaaGreatDoor
namespace Go.By
end Go.By
namespace Go.Proofs.YtccaiiigdfieoaaGreatDoor
open Go.RowKit Go.By
end Go.Proofs.YtccaiiigdfieoaaGreatDoor
namespace Go.By
open Go.RowKit
def fl2 (vs : List (Value × Value)) : List Value := vs.flatMap fun u => [u.1, u.2]
theorem fl2_append (a b : List (Value × Value)) : fl2 (a ++ b) = fl2 a ++ fl2 b := by simp [fl2]
theorem fl2_length (vs : List (Value × Value)) : (fl2 vs).length = vs.length * 2 := by
  induction vs with
  | nil => rfl
  | cons u vs ih => show (u.1 :: u.2 :: fl2 vs).length = _; simp only [List.length_cons, ih]; omega
theorem fl2_at : ∀ {vs : List (Value × Value)} {i : Nat} {u : Value × Value}, vs[i]? = some u → (fl2 vs)[i * 2]? = some u.1 ∧ (fl2 vs)[i * 2 + 1]? = some u.2
  | v :: vs, 0, u, h => by obtain rfl : v = u := by simpa using h
                           exact ⟨rfl, rfl⟩
  | v :: vs, i + 1, u, h => by
    have ih := fl2_at (vs := vs) (i := i) (u := u) (by simpa using h)
    have e : fl2 (v :: vs) = v.1 :: v.2 :: fl2 vs := rfl
    rw [e, show (i + 1) * 2 = i * 2 + 2 by omega]
    exact ⟨by simpa using ih.1, by simpa using ih.2⟩
section
variable {T2 T1 : TypeId} {w w' : World} {base n : Nat} {v : Value} {K : List (List UInt8 × List UInt8)}
end
end Go.By
namespace Go.Proofs.YtccaiiigdfieoaaGreatDoor
open Go.RowKit Go.By
end Go.Proofs.YtccaiiigdfieoaaGreatDoor
namespace Go.Proofs.YtccaiiigdfieoaaGreatDoor
open Go.RowKit Go.By
end Go.Proofs.YtccaiiigdfieoaaGreatDoor
namespace Go.Proofs.YtccaiiigdfieoaaGreatDoor
open Go.RowKit Go.By
end Go.Proofs.YtccaiiigdfieoaaGreatDoor
namespace Go.Proofs.YtccaiiigdfieoaaGreatDoor
open Go.RowKit Go.By
end Go.Proofs.YtccaiiigdfieoaaGreatDoor
namespace Go.Proofs.YtccaiiigdfieoaaGreatDoor
open Go.RowKit Go.By
/-- where a vector leads: nowhere, or at a place with a byte that isn't 0 -/
theorem leadS_cases (v : List UInt8) : (leadS v = -1 ∧ atS v (leadS v) = 0 ∧ ∀ x, x ∈ v → x = 0) ∨ ∃ (k : Nat) (x : UInt8), leadS v = (k : Int) ∧ v[k]? = some x ∧ x ≠ 0 ∧ atS v (leadS v) = x ∧ ∀ (j : Nat) (y : UInt8), j < k → v[j]? = some y → y = 0 := by
  unfold leadS idxf
  cases h : v.findIdx? (fun b => decide (b ≠ 0)) with
  | none =>
    left
    refine ⟨rfl, by simp [atS], ?_⟩
    rw [List.findIdx?_eq_none_iff] at h
    intro x hx
    have := h x hx
    simpa using this
  | some i =>
    right
    obtain ⟨hi, hf, hb⟩ := List.findIdx?_eq_some_iff_getElem.1 h
    refine ⟨i, v[i], rfl, List.getElem?_eq_getElem hi, by simpa using hf, by simp [atS, List.getD, hi], ?_⟩
    intro j y hj hy
    obtain ⟨hj', e⟩ := List.getElem?_eq_some_iff.1 hy
    have := hb j hj
    rw [e] at this
    simpa using this
end Go.Proofs.YtccaiiigdfieoaaGreatDoor
namespace Go.Proofs.YtccaiiigdfieoaaGreatDoor
open Go.RowKit Go.By
end Go.Proofs.YtccaiiigdfieoaaGreatDoor
namespace Go.Proofs.YtccaiiigdfieoaaGreatDoor
open Go.By
end Go.Proofs.YtccaiiigdfieoaaGreatDoor
namespace Gf
end Gf
namespace Gf
end Gf
namespace Go.Proofs.YtccaiiigdfieoaaGreatDoor
open Go.By Gf
abbrev Rw := List UInt8 × List UInt8
def lessF (x : Rw) (c : UInt8) (o : Rw) : Rw := (axpy c o.1 x.1, axpy c o.2 x.2)
theorem leadS_neg {v : List UInt8} (h : leadS v < 0) : ∀ x, x ∈ v → x = 0 := by
  rcases leadS_cases v with ⟨_, _, h3⟩ | ⟨k, x, e, _⟩
  · exact h3
  · omega
end Go.Proofs.YtccaiiigdfieoaaGreatDoor
namespace Go.By
open Go.RowKit
end Go.By
namespace Go.By
open Go.RowKit
end Go.By
namespace Go.Proofs.YtccaiiigdfieoaaGreatDoor
open Go.RowKit Go.By
end Go.Proofs.YtccaiiigdfieoaaGreatDoor
namespace Go.By
open Go.RowKit
/-- a slice of rows, as it reads -/
structure RwS (w : World) (p : Option Addr) (n c : Nat) (K : List (List UInt8 × List UInt8)) : Prop where
  len : K.length = n
  le : n ≤ c
  max : c ≤ maxLen
  nil : p = none → n = 0 ∧ c = 0
  row : ∀ (j : Nat) (k : List UInt8 × List UInt8), K[j]? = some k → ∃ b o q1 m1 c1 q2 m2 c2, p = some ⟨b, o, none⟩ ∧ w.cell? ⟨b, o + j * 2, none⟩ = some (.slice q1 m1 c1) ∧ w.cell? ⟨b, o + j * 2 + 1, none⟩ = some (.slice q2 m2 c2) ∧ Sl B8 w q1 m1 c1 k.1 ∧ Sl B8 w q2 m2 c2 k.2
theorem RwS.keep {w w' : World} {p : Option Addr} {n c : Nat} {K : List (List UInt8 × List UInt8)} (h : RwS w p n c K) (hb : Below w.heap.size w w') : RwS w' p n c K :=
  ⟨h.len, h.le, h.max, h.nil, fun j k hj => by
    obtain ⟨b, o, q1, m1, c1, q2, m2, c2, e, h1, h2, h3, h4⟩ := h.row j k hj
    exact ⟨b, o, q1, m1, c1, q2, m2, c2, e, (hb.cell (p := ⟨b, o + j * 2, none⟩) (lt_of_cell h1)).trans h1, (hb.cell (p := ⟨b, o + j * 2 + 1, none⟩) (lt_of_cell h2)).trans h2, h3.keep hb, h4.keep hb⟩⟩
theorem RwS.nil0 (w : World) : RwS w none 0 0 [] := ⟨rfl, Nat.le_refl _, by simp [maxLen], fun _ => ⟨rfl, rfl⟩, fun j k h => by simp at h⟩
end Go.By
namespace Go.Proofs.YtccaiiigdfieoaaGreatDoor
open Go.RowKit Go.By
end Go.Proofs.YtccaiiigdfieoaaGreatDoor
namespace Go.By
open Go.RowKit
/-- the values of rows -/
def RwP (w : World) (u : Value × Value) (k : List UInt8 × List UInt8) : Prop := ∃ q1 m1 c1 q2 m2 c2, u = (.slice q1 m1 c1, .slice q2 m2 c2) ∧ Sl B8 w q1 m1 c1 k.1 ∧ Sl B8 w q2 m2 c2 k.2
theorem RwP.keep {w w' : World} {u : Value × Value} {k : List UInt8 × List UInt8} (h : RwP w u k) (hb : Below w.heap.size w w') : RwP w' u k := by
  obtain ⟨q1, m1, c1, q2, m2, c2, e, h1, h2⟩ := h; exact ⟨q1, m1, c1, q2, m2, c2, e, h1.keep hb, h2.keep hb⟩
/-- a slice of rows as the values of its cells -/
structure RwV (w : World) (p : Option Addr) (n c : Nat) (vs : List (Value × Value)) : Prop where
  len : vs.length = n
  le : n ≤ c
  max : c ≤ maxLen
  nil : p = none → n = 0 ∧ c = 0
  cell : ∀ (j : Nat) (u : Value), (fl2 vs)[j]? = some u → ∃ b o, p = some ⟨b, o, none⟩ ∧ w.cell? ⟨b, o + j, none⟩ = some u
  one : ∀ u, u ∈ fl2 vs → u.oneCell' = true
theorem RwS.vals {w : World} {p : Option Addr} {n c : Nat} {K : List (List UInt8 × List UInt8)} (h : RwS w p n c K) : ∃ vs, RwV w p n c vs ∧ ∀ (j : Nat) (u : Value × Value), vs[j]? = some u → ∃ k, K[j]? = some k ∧ RwP w u k := by
  have each : ∀ j, j < n → ∃ (u : Value × Value), ∃ b o, p = some ⟨b, o, none⟩ ∧ w.cell? ⟨b, o + j * 2, none⟩ = some u.1 ∧ w.cell? ⟨b, o + j * 2 + 1, none⟩ = some u.2 ∧ (∃ k, K[j]? = some k ∧ RwP w u k) ∧ u.1.oneCell' = true ∧ u.2.oneCell' = true := by
    intro j hj
    obtain ⟨k, hk⟩ : ∃ k, K[j]? = some k := ⟨_, List.getElem?_eq_getElem (by rw [h.len]; exact hj)⟩
    obtain ⟨b, o, q1, m1, c1, q2, m2, c2, e, h1, h2, h3, h4⟩ := h.row j k hk
    exact ⟨(.slice q1 m1 c1, .slice q2 m2 c2), b, o, e, h1, h2, ⟨k, hk, q1, m1, c1, q2, m2, c2, rfl, h3, h4⟩, rfl, rfl⟩
  obtain ⟨f, hf⟩ : ∃ f : Nat → Value × Value, ∀ j, j < n → ∃ b o, p = some ⟨b, o, none⟩ ∧ w.cell? ⟨b, o + j * 2, none⟩ = some (f j).1 ∧ w.cell? ⟨b, o + j * 2 + 1, none⟩ = some (f j).2 ∧ (∃ k, K[j]? = some k ∧ RwP w (f j) k) ∧ (f j).1.oneCell' = true ∧ (f j).2.oneCell' = true :=
    ⟨fun j => if hj : j < n then Classical.choose (each j hj) else (undef, undef), fun j hj => by simp only [dif_pos hj]; exact Classical.choose_spec (each j hj)⟩
  have hat : ∀ (j : Nat) (u : Value × Value), ((List.range n).map f)[j]? = some u → j < n ∧ u = f j := by
    intro j u hj
    have hj' := (List.getElem?_eq_some_iff.1 hj).1
    simp at hj'
    rw [List.getElem?_map, List.getElem?_range hj'] at hj
    exact ⟨hj', by simpa using hj.symm⟩
  refine ⟨(List.range n).map f, ⟨by simp, h.le, h.max, h.nil, ?_, ?_⟩, ?_⟩
  · intro i u hi
    have hlen := (List.getElem?_eq_some_iff.1 hi).1
    rw [fl2_length] at hlen
    have hj : i / 2 < n := by simp at hlen; omega
    obtain ⟨b, o, e, h1, h2, _⟩ := hf (i / 2) hj
    have hv : ((List.range n).map f)[i / 2]? = some (f (i / 2)) := by rw [List.getElem?_map, List.getElem?_range hj]; rfl
    obtain ⟨g1, g2⟩ := fl2_at hv
    refine ⟨b, o, e, ?_⟩
    rcases Nat.mod_two_eq_zero_or_one i with hm | hm
    · have : i / 2 * 2 = i := by omega
      rw [this] at g1 h1
      rw [g1] at hi; rw [h1, ← hi]
    · have : i / 2 * 2 + 1 = i := by omega
      rw [this] at g2
      rw [g2] at hi
      rw [show o + i = o + i / 2 * 2 + 1 by omega, h2, ← hi]
  · intro u hu
    obtain ⟨i, hi, rfl⟩ := List.getElem_of_mem hu
    rw [fl2_length] at hi
    have hj : i / 2 < n := by simp at hi; omega
    obtain ⟨b, o, e, _, _, _, o1, o2⟩ := hf (i / 2) hj
    have hv : ((List.range n).map f)[i / 2]? = some (f (i / 2)) := by rw [List.getElem?_map, List.getElem?_range hj]; rfl
    obtain ⟨g1, g2⟩ := fl2_at hv
    rcases Nat.mod_two_eq_zero_or_one i with hm | hm
    · have : i / 2 * 2 = i := by omega
      rw [this] at g1
      have : (fl2 ((List.range n).map f))[i] = (f (i / 2)).1 := by
        rw [List.getElem?_eq_getElem (by rw [fl2_length]; exact hi)] at g1; injection g1
      rw [this]; exact o1
    · have : i / 2 * 2 + 1 = i := by omega
      rw [this] at g2
      have : (fl2 ((List.range n).map f))[i] = (f (i / 2)).2 := by
        rw [List.getElem?_eq_getElem (by rw [fl2_length]; exact hi)] at g2; injection g2
      rw [this]; exact o2
  · intro j u hj
    obtain ⟨hjn, rfl⟩ := hat j u hj
    obtain ⟨b, o, _, _, _, hk, _⟩ := hf j hjn
    exact hk
theorem RwV.keep {w w' : World} {p : Option Addr} {n c : Nat} {vs : List (Value × Value)} (h : RwV w p n c vs) (hb : Below w.heap.size w w') : RwV w' p n c vs :=
  ⟨h.len, h.le, h.max, h.nil, fun j u hj => by
    obtain ⟨b, o, e, h1⟩ := h.cell j u hj
    exact ⟨b, o, e, (hb.cell (p := ⟨b, o + j, none⟩) (lt_of_cell h1)).trans h1⟩, h.one⟩
end Go.By
namespace Go.By
open Go.RowKit
theorem fl2_take (vs : List (Value × Value)) : ∀ k, fl2 (vs.take k) = (fl2 vs).take (k * 2) := by
  induction vs with
  | nil => intro k; simp [fl2]
  | cons v vs ih =>
    intro k
    cases k with
    | zero => simp [fl2]
    | succ k =>
      rw [List.take_succ_cons, show (k + 1) * 2 = k * 2 + 2 by omega]
      show v.1 :: v.2 :: fl2 (vs.take k) = (v.1 :: v.2 :: fl2 vs).take (k * 2 + 2)
      rw [List.take_succ_cons, List.take_succ_cons, ih k]
theorem fl2_drop (vs : List (Value × Value)) : ∀ k, fl2 (vs.drop k) = (fl2 vs).drop (k * 2) := by
  induction vs with
  | nil => intro k; simp [fl2]
  | cons v vs ih =>
    intro k
    cases k with
    | zero => simp [fl2]
    | succ k =>
      rw [List.drop_succ_cons, show (k + 1) * 2 = k * 2 + 2 by omega]
      show fl2 (vs.drop k) = (v.1 :: v.2 :: fl2 vs).drop (k * 2 + 2)
      rw [List.drop_succ_cons, List.drop_succ_cons, ih k]
section
variable {w : World} {p : Option Addr} {n c j : Nat} {vs : List (Value × Value)}
theorem RwV.take (h : RwV w p n c vs) (hj : j ≤ n) : RwV w p j c (vs.take j) := by
  refine ⟨by rw [List.length_take, h.len]; omega, by have := h.le; omega, h.max, fun e => by have := h.nil e; omega, fun i u hi => ?_, fun u hu => ?_⟩
  · rw [fl2_take, List.getElem?_take] at hi
    split at hi
    · exact h.cell i u hi
    · cases hi
  · rw [fl2_take] at hu; exact h.one u (List.mem_of_mem_take hu)
theorem RwV.drop {b o : Nat} (h : RwV w (some ⟨b, o, none⟩) n c vs) (hj : j ≤ n) : RwV w (some ⟨b, o + j * 2, none⟩) (n - j) (c - j) (vs.drop j) := by
  refine ⟨by rw [List.length_drop, h.len], by have := h.le; omega, by have := h.max; omega, fun e => (by cases e), fun i u hi => ?_, fun u hu => ?_⟩
  · rw [fl2_drop, List.getElem?_drop] at hi
    obtain ⟨b', o', e, hc⟩ := h.cell (j * 2 + i) u hi
    cases e
    exact ⟨b, o + j * 2, rfl, by rw [show o + j * 2 + i = o + (j * 2 + i) by omega]; exact hc⟩
  · rw [fl2_drop] at hu; exact h.one u (List.mem_of_mem_drop hu)
theorem RwV.none (hp : p = none → c = 0) (hm : c ≤ maxLen) : RwV w p 0 c [] := ⟨rfl, Nat.zero_le _, hm, fun e => ⟨rfl, hp e⟩, fun i u h => by simp [fl2] at h, fun u h => by simp [fl2] at h⟩
/-- what is owned reads so -/
theorem RwS.of_owns {base T n c : Nat} {q : Option Addr} {vs : List (Value × Value)} {K : List (List UInt8 × List UInt8)} (h : w.ownsRow base T 2 (.slice q n c) n (fl2 vs)) (hl : K.length = n) (hv : ∀ (j : Nat) (k : List UInt8 × List UInt8), K[j]? = some k → ∃ u, vs[j]? = some u ∧ RwP w u k) : RwS w q n c K := by
  rcases h.2 with ⟨h1, h2⟩ | ⟨g, cap, cur, h1, _, _, h3, h4, _⟩
  · cases h1
    have : K = [] := List.length_eq_zero_iff.1 (by omega)
    subst this
    exact ⟨hl, Nat.le_of_eq h2, by simp [maxLen], fun _ => ⟨h2, rfl⟩, fun j k hk => by simp at hk⟩
  · cases h1
    refine ⟨hl, h3, h4, fun e => (by cases e), fun j k hk => ?_⟩
    obtain ⟨u, hu, q1, m1, c1, q2, m2, c2, rfl, s1, s2⟩ := hv j k hk
    have hj := (List.getElem?_eq_some_iff.1 hk).1
    obtain ⟨g1, g2⟩ := fl2_at hu
    refine ⟨g, 0, q1, m1, c1, q2, m2, c2, rfl, ?_, ?_, s1, s2⟩
    · rw [Nat.zero_add, h.cellAt _ (by omega), g1]
    · rw [Nat.zero_add, h.cellAt _ (by omega), g2]
end
end Go.By
namespace Go.Proofs.YtccaiiigdfieoaaGreatDoor
open Go.RowKit Go.By
end Go.Proofs.YtccaiiigdfieoaaGreatDoor
namespace Go.By
open Go.RowKit
end Go.By
namespace Go.Proofs.YtccaiiigdfieoaaGreatDoor
open Go.RowKit Go.By
end Go.Proofs.YtccaiiigdfieoaaGreatDoor
namespace Go.Proofs.YtccaiiigdfieoaaGreatDoor
open Go.RowKit Go.By
end Go.Proofs.YtccaiiigdfieoaaGreatDoor
namespace Gf
end Gf
namespace Go.Proofs.YtccaiiigdfieoaaGreatDoor
open Go.By Gf
def updF (F : Nat → Rw) (i : Nat) (r : Rw) : Nat → Rw := fun k => if k = i then r else F k
end Go.Proofs.YtccaiiigdfieoaaGreatDoor
namespace Go.Proofs.YtccaiiigdfieoaaGreatDoor
open Go.RowKit Go.By
end Go.Proofs.YtccaiiigdfieoaaGreatDoor
namespace Go.Proofs.YtccaiiigdfieoaaGreatDoor
open Go.RowKit Go.By
set_option maxHeartbeats 400000 in
theorem IndexRow2_any (f : Rw → Bool) (g : Nat) (lb : Array Value) (eg : Enters Tryz.prog g) (p : Option Addr) (n c : Nat) (K : List Rw) (w : World) (h : RwS w p n c K)
    (hf : ∀ (W : World) (q1 q2 : Option Addr) (m1 c1 m2 c2 : Nat) (x : Rw), x ∈ K → Below w.heap.size w W → Sl B8 W q1 m1 c1 x.1 → Sl B8 W q2 m2 c2 x.2 → Calls Tryz.prog g (#[.agg #[.slice q1 m1 c1, .slice q2 m2 c2]] ++ lb) W fun e w' => e = .returned (.bool (f x)) ∧ Below W.heap.size W w') :
    Calls Tryz.prog 166 #[.slice p n c, .func (.func g) #[] lb] w fun e w' => e = .returned (.int .i64 (idxf f K)) ∧ Below w.heap.size w w' := by
  have hn := Nat.le_trans h.le h.max
  unfold maxLen at hn
  have H := Lib.hid h; clear h
  have HF := Lib.hid hf; clear hf
  have eg' : ∀ args w, (callFunc g args).run Tryz.prog w = .ok (.enter g args) w := eg
  clear eg
  go_enter Tryz.func166, Tryz.ntmps166
  go_wp2
  go_loopw [8] (fun i wr => ∃ k : Nat, k ≤ n ∧ i = .int .i64 k ∧ Hid (∀ j y, j < k → K[j]? = some y → f y = false) ∧ Hid (Below w.heap.size w wr)) (fun i _ => n - (intOf i).toNat)
  case atStart => exact ⟨0, Nat.zero_le _, rfl, fun j y hj => by omega, Below.refl _ _⟩
  case round =>
    obtain ⟨k, hk, rfl, hr, hB⟩ := hrel
    by_cases hlt : k < n
    · obtain ⟨x, hx⟩ : ∃ x, K[k]? = some x := ⟨_, List.getElem?_eq_getElem (by rw [H.out.len]; exact hlt)⟩
      obtain ⟨b, o, q1, m1, c1, q2, m2, c2, rfl, h1, h2, h3, h4⟩ := H.out.row k x hx
      have d1 := (hB.out.cell (p := ⟨b, o + k * 2, none⟩) (lt_of_cell h1)).trans h1
      have d2 := (hB.out.cell (p := ⟨b, o + k * 2 + 1, none⟩) (lt_of_cell h2)).trans h2
      have HX := Lib.hid hx
      have HS : Hid (Sl B8 wr q1 m1 c1 x.1) := h3.keep hB.out
      have HS2 : Hid (Sl B8 wr q2 m2 c2 x.2) := h4.keep hB.out
      have kn : (k : Int) < (n : Int) := by omega
      clear h1 h2 h3 h4 hx
      cases hfx : f x with
      | false =>
        have HQ := Lib.hid hfx; clear hfx
        go_wp2_with fail
        refine (HF.out wr q1 q2 m1 c1 m2 c2 x (List.mem_of_getElem? HX.out) hB.out HS.out HS2.out).mono ?_; rintro e w2 ⟨rfl, hb2⟩
        have B2 : Hid (Below w.heap.size w w2) := bl hB.out hb2 hB.out.size
        rw [HQ.out]
        clear hb2 d1 d2 hB HS HS2
        go_wp2
        go_roundw
        case rel =>
          refine ⟨k + 1, by omega, by go_num, fun j y hj hy => ?_, B2.out⟩
          by_cases e : j = k
          · subst e; have := HX.out.symm.trans hy; cases this; exact HQ.out
          · exact hr.out j y (by omega) hy
        case measure => simp [intOf]; omega
      | true =>
        have HQ := Lib.hid hfx; clear hfx
        go_wp2_with fail
        refine (HF.out wr q1 q2 m1 c1 m2 c2 x (List.mem_of_getElem? HX.out) hB.out HS.out HS2.out).mono ?_; rintro e w2 ⟨rfl, hb2⟩
        have B2 : Hid (Below w.heap.size w w2) := bl hB.out hb2 hB.out.size
        rw [HQ.out]
        clear hb2 d1 d2 hB HS HS2
        go_wp2
        go_ret
        exact ⟨by rw [idxf_found HX.out HQ.out hr.out]; rfl, B2.out⟩
    · go_wp2
      go_ret
      exact ⟨by rw [idxf_none (k := k) (by have := H.out.len; omega) hr.out]; rfl, hB.out⟩
set_option maxHeartbeats 400000 in
theorem ContainsRow_any (f : Rw → Bool) (g : Nat) (lb : Array Value) (eg : Enters Tryz.prog g) (p : Option Addr) (n c : Nat) (K : List Rw) (w : World) (h : RwS w p n c K)
    (hf : ∀ (W : World) (q1 q2 : Option Addr) (m1 c1 m2 c2 : Nat) (x : Rw), x ∈ K → Below w.heap.size w W → Sl B8 W q1 m1 c1 x.1 → Sl B8 W q2 m2 c2 x.2 → Calls Tryz.prog g (#[.agg #[.slice q1 m1 c1, .slice q2 m2 c2]] ++ lb) W fun e w' => e = .returned (.bool (f x)) ∧ Below W.heap.size W w') :
    Calls Tryz.prog 106 #[.slice p n c, .func (.func g) #[] lb] w fun e w' => e = .returned (.bool (K.any f)) ∧ Below w.heap.size w w' := by
  have H := Lib.hid h; clear h
  have HF := Lib.hid hf; clear hf
  have HE := Lib.hid eg; clear eg
  go_enter Tryz.func106, Tryz.ntmps106
  go_wp2_with fail
  refine (IndexRow2_any f g lb HE.out p n c K w H.out HF.out).mono ?_; rintro e w' ⟨rfl, hb⟩
  have HB := Lib.hid hb
  clear hb
  go_wp2
  go_ret
  exact ⟨by rw [← idxf_ge]; rfl, HB.out⟩
end Go.Proofs.YtccaiiigdfieoaaGreatDoor
namespace Go.Proofs.YtccaiiigdfieoaaGreatDoor
open Go.By Gf
end Go.Proofs.YtccaiiigdfieoaaGreatDoor
namespace Go.Proofs.YtccaiiigdfieoaaGreatDoor
open Go.By Gf
end Go.Proofs.YtccaiiigdfieoaaGreatDoor
namespace Go.Proofs.YtccaiiigdfieoaaGreatDoor
open Go.By Gf
def stepB (F : Nat → Rw) (i k : Nat) : Nat → Rw := if k = i then F else updF F i (lessF (F i) (atS (F i).1 (leadS (F k).1)) (F k))
def rowB (i : Nat) : Nat → (Nat → Rw) → (Nat → Rw)
  | 0, F => F
  | k + 1, F => stepB (rowB i k F) i k
def backB (m : Nat) : Nat → (Nat → Rw) → (Nat → Rw)
  | 0, F => F
  | i + 1, F => rowB i m (backB m i F)
end Go.Proofs.YtccaiiigdfieoaaGreatDoor
namespace Go.Proofs.YtccaiiigdfieoaaGreatDoor
open Go.RowKit Go.By
end Go.Proofs.YtccaiiigdfieoaaGreatDoor
namespace Go.Proofs.YtccaiiigdfieoaaGreatDoor
open Go.RowKit Go.By
end Go.Proofs.YtccaiiigdfieoaaGreatDoor
namespace Go.By
open Go.RowKit
end Go.By
namespace Go.Proofs.YtccaiiigdfieoaaGreatDoor
open Go.RowKit Go.By
end Go.Proofs.YtccaiiigdfieoaaGreatDoor
namespace Go.By
open Go.RowKit
end Go.By
namespace Go.Proofs.YtccaiiigdfieoaaGreatDoor
open Go.RowKit Go.By
end Go.Proofs.YtccaiiigdfieoaaGreatDoor
namespace Go.By
open Go.RowKit
end Go.By
namespace Go.Proofs.YtccaiiigdfieoaaGreatDoor
open Go.RowKit Go.By
end Go.Proofs.YtccaiiigdfieoaaGreatDoor
namespace Go.Proofs.YtccaiiigdfieoaaGreatDoor
open Go.RowKit Go.By
end Go.Proofs.YtccaiiigdfieoaaGreatDoor
namespace Go.Proofs.YtccaiiigdfieoaaGreatDoor
open Go.RowKit Go.By
end Go.Proofs.YtccaiiigdfieoaaGreatDoor
namespace Go.By
open Go.RowKit
/-- the cells of a list of parcels -/
def pcs (us : List (Value × Int)) : List Value := us.flatMap fun u => [u.1, .int .i64 u.2]
theorem pcs_append (us vs : List (Value × Int)) : pcs (us ++ vs) = pcs us ++ pcs vs := by simp [pcs]
end Go.By
namespace Go.By
open Go.RowKit
end Go.By
namespace Go.Proofs.YtccaiiigdfieoaaGreatDoor
open Go.RowKit Go.By
end Go.Proofs.YtccaiiigdfieoaaGreatDoor
namespace Go.Proofs.YtccaiiigdfieoaaGreatDoor
open Go.RowKit Go.By
end Go.Proofs.YtccaiiigdfieoaaGreatDoor
namespace Go.By
open Go.RowKit
section
variable {T2 T1 : TypeId} {w w' : World} {base n : Nat} {v : Value} {K : List (List UInt8 × List UInt8)}
end
end Go.By
namespace Go.Proofs.YtccaiiigdfieoaaGreatDoor
open Go.RowKit Go.By
end Go.Proofs.YtccaiiigdfieoaaGreatDoor
namespace Go.By
open Go.RowKit
end Go.By
namespace Go.Proofs.YtccaiiigdfieoaaGreatDoor
open Go.RowKit Go.By
end Go.Proofs.YtccaiiigdfieoaaGreatDoor
namespace Go.By
open Go.RowKit
end Go.By
namespace Go.Proofs.YtccaiiigdfieoaaGreatDoor
open Go.RowKit Go.By
theorem zero_lead {v : List UInt8} (h : ¬ leadS v < 0) : zeroS v = false := by
  unfold zeroS
  cases e : v.all (fun x => decide (x = 0)) with
  | false => rfl
  | true =>
    refine absurd ?_ h
    have hz : ∀ x, x ∈ v → x = 0 := fun x hx => by simpa using List.all_eq_true.1 e x hx
    have : leadS v = -1 := idxf_none (k := v.length) rfl fun j y _ hy => by rw [hz y (List.mem_of_getElem? hy)]; rfl
    rw [this]; decide
end Go.Proofs.YtccaiiigdfieoaaGreatDoor
namespace Go.Proofs.YtccaiiigdfieoaaGreatDoor
open Go.RowKit Go.By
end Go.Proofs.YtccaiiigdfieoaaGreatDoor
namespace Go.By
open Go.RowKit
end Go.By
namespace Go.Proofs.YtccaiiigdfieoaaGreatDoor
open Go.RowKit Go.By
end Go.Proofs.YtccaiiigdfieoaaGreatDoor
namespace Go.Proofs.YtccaiiigdfieoaaGreatDoor
open Go.RowKit Go.By
end Go.Proofs.YtccaiiigdfieoaaGreatDoor
namespace Go.Proofs.YtccaiiigdfieoaaGreatDoor
open Go.RowKit Go.By
end Go.Proofs.YtccaiiigdfieoaaGreatDoor
namespace Go.Proofs.YtccaiiigdfieoaaGreatDoor
open Go.RowKit Go.By
end Go.Proofs.YtccaiiigdfieoaaGreatDoor
namespace Go.Proofs.YtccaiiigdfieoaaGreatDoor
open Go.RowKit Go.By
theorem lead_zero {v : List UInt8} (h : leadS v < 0) : zeroS v = true := by
  unfold zeroS
  exact List.all_eq_true.2 fun x hx => by simpa using leadS_neg h x hx
end Go.Proofs.YtccaiiigdfieoaaGreatDoor
namespace Go.Proofs.YtccaiiigdfieoaaGreatDoor
end Go.Proofs.YtccaiiigdfieoaaGreatDoor
namespace Go.Proofs.YtccaiiigdfieoaaGreatDoor
open Go.RowKit Go.By
/-- how many symbols are needed -/
def needS (l s : Int) : Int := if l = 0 then 1 else (l - 1) / s + 1
def fitS (l s : Int) : Int := if l < 0 then 2 else if s < 1 ∨ 65535 < s then 4 else if 4096 < needS l s then 5 else 0
def checkS (l s n : Int) : Int := if fitS l s = 0 then (if n = needS l s then 0 else 14) else fitS l s
def ofS (l s : Int) (d : Int) : Value := if fitS l s = 0 then .tuple #[.agg #[.int .i64 l, .int .i64 s, .int .i64 (needS l s), .int .u32 d], .int .i64 0] else .tuple #[.agg #[.int .i64 0, .int .i64 0, .int .i64 0, .int .u32 0], .int .i64 (fitS l s)]
theorem needS_pos {l s : Int} (hl : 0 ≤ l) (hs : 1 ≤ s) : 1 ≤ needS l s ∧ (l ≠ 0 → needS l s ≤ l) := by
  unfold needS
  split
  · omega
  · rename_i h0
    have h1 : 0 ≤ (l - 1) / s := Int.ediv_nonneg (by omega) (by omega)
    have h2 : (l - 1) / s ≤ l - 1 := Int.ediv_le_self _ (by omega)
    omega
theorem needS_spec {l s : Int} (hl : 0 < l) (hs : 1 ≤ s) : (needS l s - 1) * s < l ∧ l ≤ needS l s * s := by
  unfold needS
  rw [if_neg (by omega)]
  have h := Int.emod_add_mul_ediv (l - 1) s
  have h1 := Int.emod_nonneg (l - 1) (show s ≠ 0 by omega)
  have h2 := Int.emod_lt_of_pos (l - 1) (show 0 < s by omega)
  generalize (l - 1) / s = q at *
  have e1 : (q + 1 - 1) * s = s * q := by rw [Int.mul_comm]; congr 1; omega
  have e2 : (q + 1) * s = s * q + s := by rw [Int.add_mul, Int.mul_comm]; omega
  omega
theorem needS_of {l s k : Int} (hl : 0 < l) (hs : 1 ≤ s) (h1 : (k - 1) * s < l) (h2 : l ≤ k * s) : needS l s = k := by
  obtain ⟨g1, g2⟩ := needS_spec hl hs
  generalize needS l s = n at *
  have a1 : ¬ n < k := fun h => by
    have : n * s ≤ (k - 1) * s := Int.mul_le_mul_of_nonneg_right (by omega) (by omega)
    omega
  have a2 : ¬ k < n := fun h => by
    have : k * s ≤ (n - 1) * s := Int.mul_le_mul_of_nonneg_right (by omega) (by omega)
    omega
  omega
set_option maxHeartbeats 400000 in
theorem needed_any (l s : Int) (w : World) (hl : 0 ≤ l) (hl2 : l ≤ 9223372036854775807) (hs : 1 ≤ s) :
    Calls Tryz.prog 95 #[.int .i64 l, .int .i64 s] w fun e w' => e = .returned (.int .i64 (needS l s)) ∧ w = w' := by
  by_cases h0 : l = 0
  · subst h0
    go_enter Tryz.func95, Tryz.ntmps95
    go_wp2
    go_ret
    exact ⟨rfl, rfl⟩
  · have hz : (l == 0) = false := by simpa using h0
    have hs0 : (s == 0) = false := by simp; omega
    obtain ⟨hn, hn'⟩ := needS_pos hl hs
    have hn2 := hn' h0
    clear hn'
    have e0 : needS l s = (l - 1) / s + 1 := if_neg h0
    have hw : wrap64 ((l - 1) / s + 1) = needS l s := by
      rw [← e0]; unfold wrap64
      generalize needS l s = y at *
      clear e0
      omega
    clear e0
    go_enter Tryz.func95, Tryz.ntmps95
    go_wp2
    go_ret
    exact ⟨by rw [hw]; rfl, rfl⟩
set_option maxHeartbeats 400000 in
theorem fits_any (l s : Int) (w : World) (hl2 : l ≤ 9223372036854775807) :
    Calls Tryz.prog 94 #[.int .i64 l, .int .i64 s] w fun e w' => e = .returned (.int .i64 (fitS l s)) ∧ w = w' := by
  by_cases h0 : l < 0
  · have HR : Hid (fitS l s = 2) := if_pos h0
    go_enter Tryz.func94, Tryz.ntmps94
    go_wp2
    go_ret
    exact ⟨by rw [HR.out]; rfl, rfl⟩
  · by_cases h1 : s < 1
    · have HR : Hid (fitS l s = 4) := by unfold fitS; rw [Hid, if_neg h0, if_pos (Or.inl h1)]
      go_enter Tryz.func94, Tryz.ntmps94
      go_wp2
      go_ret
      exact ⟨by rw [HR.out]; rfl, rfl⟩
    · by_cases h2 : 65535 < s
      · have HR : Hid (fitS l s = 4) := by unfold fitS; rw [Hid, if_neg h0, if_pos (Or.inr h2)]
        go_enter Tryz.func94, Tryz.ntmps94
        go_wp2
        go_ret
        exact ⟨by rw [HR.out]; rfl, rfl⟩
      · have HN := Lib.hid (fun w => needed_any l s w (by omega) hl2 (by omega))
        by_cases h3 : 4096 < needS l s
        · have HR : Hid (fitS l s = 5) := by unfold fitS; rw [Hid, if_neg h0, if_neg (by omega), if_pos h3]
          go_enter Tryz.func94, Tryz.ntmps94
          go_wp2_with fail
          refine (HN.out _).mono ?_; rintro e w' ⟨rfl, rfl⟩
          go_wp2
          go_ret
          exact ⟨by rw [HR.out]; rfl, rfl⟩
        · have HR : Hid (fitS l s = 0) := by unfold fitS; rw [Hid, if_neg h0, if_neg (by omega), if_neg h3]
          go_enter Tryz.func94, Tryz.ntmps94
          go_wp2_with fail
          refine (HN.out _).mono ?_; rintro e w' ⟨rfl, rfl⟩
          go_wp2
          go_ret
          exact ⟨by rw [HR.out]; rfl, rfl⟩
theorem fitS_cases (l s : Int) : (fitS l s ≠ 0 ∧ (fitS l s = 2 ∨ fitS l s = 4 ∨ fitS l s = 5)) ∨ (fitS l s = 0 ∧ 0 ≤ l ∧ 1 ≤ s ∧ s ≤ 65535 ∧ needS l s ≤ 4096) := by
  unfold fitS
  split
  · simp
  · split
    · simp
    · split
      · simp
      · right; omega
theorem cell4 (w : World) (a b c d : Value) (T : TypeId) : ∀ i : Nat, (w.alloc (.cells #[a, b, c, d] T)).cell? ⟨w.heap.size, i, none⟩ = #[a, b, c, d][i]? := fun i => cell_of_row _ _ _ _ _ _ (hnew rfl)
set_option maxRecDepth 100000 in
set_option maxHeartbeats 1000000 in
theorem Check_any (l s n d : Int) (w : World) (hl2 : l ≤ 9223372036854775807) :
    Calls Tryz.prog 79 #[.agg #[.int .i64 l, .int .i64 s, .int .i64 n, .int .u32 d]] w fun e w' => e = .returned (.int .i64 (checkS l s n)) ∧ Below w.heap.size w w' := by
  have HF := Lib.hid (fun w => fits_any l s w hl2)
  rcases fitS_cases l s with ⟨h0, h1⟩ | ⟨h0, h1, h2, h3, h4⟩
  · have HR : Hid (checkS l s n = fitS l s) := if_neg h0
    have hb : (fitS l s != 0) = true := by simpa using h0
    clear h1
    generalize fitS l s = f at *
    clear h0
    go_enter Tryz.func79, Tryz.ntmps79
    go_wp2_with fail
    refine (HF.out _).mono ?_; rintro e w' ⟨rfl, rfl⟩
    go_wp2
    go_ret
    exact ⟨by rw [HR.out]; rfl, al (Below.refl _ _) (Nat.le_refl _)⟩
  · rw [h0] at HF
    have HN := Lib.hid (fun w => needed_any l s w h1 hl2 h2)
    have HR : Hid (checkS l s n = if n = needS l s then 0 else 14) := by unfold checkS; rw [Hid, if_pos h0]
    generalize needS l s = k at *
    by_cases e : n = k
    · subst e
      have hb : (n != n) = false := by simp
      rw [if_pos rfl] at HR
      clear h0 h1 h2 h3 h4
      go_enter Tryz.func79, Tryz.ntmps79
      go_wp2_with fail
      refine (HF.out _).mono ?_; rintro e w' ⟨rfl, rfl⟩
      go_wp2
      have C0 := cell4 w (.int .i64 l) (.int .i64 s) (.int .i64 n) (.int .u32 d) 27 0
      have C1 := cell4 w (.int .i64 l) (.int .i64 s) (.int .i64 n) (.int .u32 d) 27 1
      have C2 := cell4 w (.int .i64 l) (.int .i64 s) (.int .i64 n) (.int .u32 d) 27 2
      go_quiet ((go_at_call 95; exact Calls.quiet_of_same ((HN.out _).mono fun e w' hh => ⟨hh.1, hh.2.symm⟩)))
      go_wp2
      go_ret
      exact ⟨by rw [HR.out]; rfl, bdn (al (Below.refl _ _) (Nat.le_refl _))⟩
    · have hb : (n != k) = true := by simpa using e
      rw [if_neg e] at HR
      clear h0 h1 h2 h3 h4 e
      go_enter Tryz.func79, Tryz.ntmps79
      go_wp2_with fail
      refine (HF.out _).mono ?_; rintro e w' ⟨rfl, rfl⟩
      go_wp2
      have C0 := cell4 w (.int .i64 l) (.int .i64 s) (.int .i64 n) (.int .u32 d) 27 0
      have C1 := cell4 w (.int .i64 l) (.int .i64 s) (.int .i64 n) (.int .u32 d) 27 1
      have C2 := cell4 w (.int .i64 l) (.int .i64 s) (.int .i64 n) (.int .u32 d) 27 2
      go_quiet ((go_at_call 95; exact Calls.quiet_of_same ((HN.out _).mono fun e w' hh => ⟨hh.1, hh.2.symm⟩)))
      go_wp2
      go_ret
      exact ⟨by rw [HR.out]; rfl, bdn (al (Below.refl _ _) (Nat.le_refl _))⟩
theorem results_ct {P : Program} {fn : Func} {p u : Tmp} {ty : TypeId} (h : fn.results = #[.cell p ty, .tmp u]) (tmps : Array Value) (w : World) (g : Nat) (t : TypeId) (cs : Array Value) (fr : Nat × Nat) (d : TypeDesc) (v : Value)
    (hp : tmps.getD p undef = .pointer (some ⟨g, 0, none⟩)) (hg : w.heap[g]? = some (.cells cs t fr)) (hv : tmps.getD u undef = v)
    (hu : P.underlying ty = some d) (hd : (match d with | .struct _ | .array _ _ => true | _ => false) = true) (hi : (P.info? ty).map (·.size) = some cs.size) :
    (results fn tmps).run P w = .ok (.tuple #[.agg cs, v]) w := by
  have hp' : tmps[p]?.getD undef = .pointer (some ⟨g, 0, none⟩) := by simpa using hp
  have hv' : tmps[u]?.getD undef = v := by simpa using hv
  simp [results, h, hp', hv', asAddr, run_loadVar_row w g t ty cs fr d hg hu hd hi]
theorem info_plan : (Tryz.prog.info? 27).map (·.size) = some 4 := by kernel_rfl
set_option maxRecDepth 100000 in
set_option maxHeartbeats 1000000 in
theorem POf_any (l s d : Int) (w : World) (hl2 : l ≤ 9223372036854775807) :
    Calls Tryz.prog 44 #[.int .i64 l, .int .i64 s, .int .u32 d] w fun e w' => e = .returned (ofS l s d) ∧ Below w.heap.size w w' := by
  have HF := Lib.hid (fun w => fits_any l s w hl2)
  rcases fitS_cases l s with ⟨h0, h1⟩ | ⟨h0, h1, h2, h3, h4⟩
  · have HR : Hid (ofS l s d = .tuple #[.agg #[.int .i64 0, .int .i64 0, .int .i64 0, .int .u32 0], .int .i64 (fitS l s)]) := if_neg h0
    have hb : (fitS l s != 0) = true := by simpa using h0
    clear h1
    generalize fitS l s = f at *
    clear h0
    have hi := info_plan
    go_enter Tryz.func44, Tryz.ntmps44
    go_wp2_with fail
    refine (HF.out _).mono ?_; rintro e w' ⟨rfl, rfl⟩
    go_wp2
    refine bodyPost_ret (results_ct rfl _ _ _ 27 #[.int .i64 0, .int .i64 0, .int .i64 0, .int .u32 0] (0, 0) _ (.int .i64 f) rfl (hnew rfl) rfl Tryz.underlying27 rfl hi) rfl ⟨by rw [HR.out], al (Below.refl _ _) (Nat.le_refl _)⟩
  · rw [h0] at HF
    have HN := Lib.hid (fun w => needed_any l s w h1 hl2 h2)
    have HR : Hid (ofS l s d = .tuple #[.agg #[.int .i64 l, .int .i64 s, .int .i64 (needS l s), .int .u32 d], .int .i64 0]) := if_pos h0
    generalize needS l s = k at *
    clear h0 h1 h2 h3 h4
    have hi := info_plan
    go_enter Tryz.func44, Tryz.ntmps44
    go_wp2_with fail
    refine (HF.out _).mono ?_; rintro e w' ⟨rfl, rfl⟩
    go_wp2_with fail
    refine (HN.out _).mono ?_; rintro e w' ⟨rfl, rfl⟩
    go_wp2
    refine bodyPost_ret (results_ct rfl _ _ _ 27 #[.int .i64 l, .int .i64 s, .int .i64 k, .int .u32 d] (0, 0) _ (.int .i64 0) rfl (hnew rfl) rfl Tryz.underlying27 rfl hi) rfl ⟨by rw [HR.out], al (Below.refl _ _) (Nat.le_refl _)⟩
end Go.Proofs.YtccaiiigdfieoaaGreatDoor
namespace Go.Proofs.YtccaiiigdfieoaaGreatDoor
open Go.RowKit Go.By
def rneedsS (l s : Int) : Int := if needS l s ≤ 4096 then needS l s else 4097
theorem rneeds_done {l s : Int} {k : Nat} {m : Int} (hl : 0 ≤ l) (hs : 1 ≤ s) (hm : m + k * s = l) (h0 : (k = 0 ∧ m = 0) ∨ 0 < m) (h1 : m ≤ s) : needS l s = (k : Int) + 1 := by
  rcases h0 with ⟨rfl, rfl⟩ | h0
  · have : l = 0 := by simpa using hm.symm
    subst this; rfl
  · have hk : 0 ≤ (k : Int) * s := Int.mul_nonneg (by omega) (by omega)
    refine needS_of (by omega) hs ?_ ?_
    · rw [show (k : Int) + 1 - 1 = k by omega]; omega
    · rw [Int.add_mul]; omega
theorem rneeds_more {l s : Int} {k : Nat} {m : Int} (hs : 1 ≤ s) (hm : m + k * s = l) (h0 : 0 < m) : (k : Int) < needS l s := by
  have hk : 0 ≤ (k : Int) * s := Int.mul_nonneg (by omega) (by omega)
  obtain ⟨g1, g2⟩ := needS_spec (l := l) (s := s) (by omega) hs
  generalize needS l s = n at *
  have : ¬ n ≤ (k : Int) := fun h => by
    have : n * s ≤ (k : Int) * s := Int.mul_le_mul_of_nonneg_right h (by omega)
    omega
  omega
set_option maxRecDepth 100000 in
set_option maxHeartbeats 1000000 in
theorem RNeeds_any (l s : Int) (w : World) (hl : 0 ≤ l) (hl2 : l ≤ 9223372036854775807) (hs : 1 ≤ s) :
    Calls Tryz.prog 156 #[.int .i64 l, .int .i64 s] w fun e w' => e = .returned (.int .i64 (rneedsS l s)) ∧ w = w' := by
  have HS := Lib.hid hs; have HL := Lib.hid hl
  go_enter Tryz.func156, Tryz.ntmps156
  go_wp2
  go_loop [0, 5] (fun a b => ∃ (m : Int) (k : Nat), a = .int .i64 m ∧ b = .int .i64 k ∧ k ≤ 4097 ∧ 0 ≤ m ∧ m ≤ l ∧ (k = 0 ∨ 0 < m) ∧ Hid (m + k * s = l)) (fun _ b => 4097 - (intOf b).toNat)
  case atStart => exact ⟨l, 0, rfl, rfl, by omega, hl, by omega, .inl rfl, by simp [Hid]⟩
  case round =>
    obtain ⟨m, k, rfl, rfl, hk, hm0, hml, hkm, hm⟩ := hrel
    have HK := Lib.hid hkm; clear hkm
    by_cases hlt : k ≤ 4096
    · have g1 : (k : Int) ≤ 4096 := by omega
      by_cases hms : m ≤ s
      · have hR : Hid (rneedsS l s = (k : Int) + 1) := by
          have hd : needS l s = (k : Int) + 1 := rneeds_done HL.out HS.out hm.out (by have := HK.out; omega) hms
          rw [Hid, rneedsS, hd]; split <;> omega
        by_cases hz : k = 0
        · subst hz
          go_wp2
          go_ret
          exact ⟨by rw [hR.out]; rfl, rfl⟩
        · have hkz : ((k : Int) == 0) = false := by simp; omega
          have hmp : 0 < m := by have := HK.out; omega
          clear hz
          go_wp2
          go_ret
          exact ⟨by rw [hR.out]; rfl, rfl⟩
      · have hlt' : s < m := by omega
        have hlow : 0 < m - s := by omega
        have hw : wrap64 (m - s) = m - s := by unfold wrap64; omega
        clear hms
        by_cases hz : k = 0
        · subst hz
          go_wp2
          go_round
          case rel => exact ⟨m - s, 1, by simp [hw], rfl, by omega, by omega, by omega, .inr hlow, by have := hm.out; simp [Hid] at *; omega⟩
          case measure => simp [intOf]
        · have hkz : ((k : Int) == 0) = false := by simp; omega
          have hmp : 0 < m := by have := HK.out; omega
          clear hz
          go_wp2
          go_round
          case rel => exact ⟨m - s, k + 1, by simp [hw], by go_num, by omega, by omega, by omega, .inr hlow, by have := hm.out; simp only [Hid, Int.natCast_add, Int.add_mul]; simp; omega⟩
          case measure => simp [intOf]; omega
    · have hk' : k = 4097 := by omega
      subst hk'
      have hR : Hid (rneedsS l s = 4097) := by
        have := rneeds_more HS.out hm.out (by have := HK.out; omega)
        rw [Hid, rneedsS, if_neg (by omega)]
      go_wp2
      go_ret
      exact ⟨by rw [hR.out]; rfl, rfl⟩
set_option maxRecDepth 100000 in
set_option maxHeartbeats 1000000 in
theorem RCheck_any (l s n d : Int) (w : World) (hl2 : l ≤ 9223372036854775807) :
    Calls Tryz.prog 90 #[.agg #[.int .i64 l, .int .i64 s, .int .i64 n, .int .u32 d]] w fun e w' => e = .returned (.int .i64 (checkS l s n)) ∧ Below w.heap.size w w' := by
  by_cases h0 : l < 0
  · have HR : Hid (checkS l s n = 2) := by unfold checkS fitS; simp [Hid, h0]
    go_enter Tryz.func90, Tryz.ntmps90
    go_wp2
    go_ret
    exact ⟨by rw [HR.out]; rfl, al (Below.refl _ _) (Nat.le_refl _)⟩
  · by_cases h1 : s < 1
    · have HR : Hid (checkS l s n = 4) := by unfold checkS fitS; simp [Hid, h0, h1]
      go_enter Tryz.func90, Tryz.ntmps90
      go_wp2
      go_ret
      exact ⟨by rw [HR.out]; rfl, al (Below.refl _ _) (Nat.le_refl _)⟩
    · by_cases h2 : 65535 < s
      · have HR : Hid (checkS l s n = 4) := by unfold checkS fitS; simp [Hid, h0, h2]
        go_enter Tryz.func90, Tryz.ntmps90
        go_wp2
        go_ret
        exact ⟨by rw [HR.out]; rfl, al (Below.refl _ _) (Nat.le_refl _)⟩
      · have HN := Lib.hid (fun w => RNeeds_any l s w (by omega) hl2 (by omega))
        by_cases h3 : needS l s ≤ 4096
        · rw [rneedsS, if_pos h3] at HN
          have HF : fitS l s = 0 := by unfold fitS; rw [if_neg h0, if_neg (by omega), if_neg (by omega)]
          have HR : Hid (checkS l s n = if n = needS l s then 0 else 14) := by unfold checkS; rw [Hid, if_pos HF]
          clear HF
          generalize needS l s = k at *
          have h3' : ¬ (4096 < k) := by omega
          by_cases e : n = k
          · subst e
            have hb : (n != n) = false := by simp
            rw [if_pos rfl] at HR
            have C0 := cell4 w (.int .i64 l) (.int .i64 s) (.int .i64 n) (.int .u32 d) 52 0
            have C1 := cell4 w (.int .i64 l) (.int .i64 s) (.int .i64 n) (.int .u32 d) 52 1
            have C2 := cell4 w (.int .i64 l) (.int .i64 s) (.int .i64 n) (.int .u32 d) 52 2
            go_enter Tryz.func90, Tryz.ntmps90
            go_wp2_with fail
            refine (HN.out _).mono ?_; rintro e w' ⟨rfl, rfl⟩
            go_wp2
            go_quiet ((go_at_call 156; exact Calls.quiet_of_same ((HN.out _).mono fun e w' hh => ⟨hh.1, hh.2.symm⟩)))
            go_wp2
            go_ret
            exact ⟨by rw [HR.out]; rfl, bdn (al (Below.refl _ _) (Nat.le_refl _))⟩
          · have hb : (n != k) = true := by simpa using e
            rw [if_neg e] at HR
            clear e
            have C0 := cell4 w (.int .i64 l) (.int .i64 s) (.int .i64 n) (.int .u32 d) 52 0
            have C1 := cell4 w (.int .i64 l) (.int .i64 s) (.int .i64 n) (.int .u32 d) 52 1
            have C2 := cell4 w (.int .i64 l) (.int .i64 s) (.int .i64 n) (.int .u32 d) 52 2
            go_enter Tryz.func90, Tryz.ntmps90
            go_wp2_with fail
            refine (HN.out _).mono ?_; rintro e w' ⟨rfl, rfl⟩
            go_wp2
            go_quiet ((go_at_call 156; exact Calls.quiet_of_same ((HN.out _).mono fun e w' hh => ⟨hh.1, hh.2.symm⟩)))
            go_wp2
            go_ret
            exact ⟨by rw [HR.out]; rfl, bdn (al (Below.refl _ _) (Nat.le_refl _))⟩
        · rw [rneedsS, if_neg h3] at HN
          have HR : Hid (checkS l s n = 5) := by
            have : fitS l s = 5 := by unfold fitS; rw [if_neg h0, if_neg (by omega), if_pos (by omega)]
            unfold checkS; rw [Hid, this]; rfl
          clear h3
          go_enter Tryz.func90, Tryz.ntmps90
          go_wp2_with fail
          refine (HN.out _).mono ?_; rintro e w' ⟨rfl, rfl⟩
          go_wp2
          go_ret
          exact ⟨by rw [HR.out]; rfl, al (Below.refl _ _) (Nat.le_refl _)⟩
end Go.Proofs.YtccaiiigdfieoaaGreatDoor
namespace Go.By
open Go.RowKit
end Go.By
namespace Go.By
end Go.By
namespace Go.By
end Go.By
namespace Go.Proofs.YtccaiiigdfieoaaGreatDoor
open Go.RowKit Go.By
end Go.Proofs.YtccaiiigdfieoaaGreatDoor
namespace Go.By
open Go.RowKit
end Go.By
namespace Go.Proofs.YtccaiiigdfieoaaGreatDoor
open Go.RowKit Go.By
end Go.Proofs.YtccaiiigdfieoaaGreatDoor
namespace Go.Proofs.YtccaiiigdfieoaaGreatDoor
open Go.RowKit Go.By
end Go.Proofs.YtccaiiigdfieoaaGreatDoor
namespace Go.By
open Go.RowKit
theorem cells_four {w : World} {b T : Nat} {u v x y : Value} (h : w.heap[b]? = some (.cells #[u, v, x, y] T (0, 0))) : w.cell? ⟨b, 0, none⟩ = some u ∧ w.cell? ⟨b, 1, none⟩ = some v ∧ w.cell? ⟨b, 2, none⟩ = some x ∧ w.cell? ⟨b, 3, none⟩ = some y :=
  ⟨cell_of_row _ _ 0 _ _ _ h, cell_of_row _ _ 1 _ _ _ h, cell_of_row _ _ 2 _ _ _ h, cell_of_row _ _ 3 _ _ _ h⟩
theorem cell_setRow {w : World} {b o g : Nat} {v : Value} {cs : Array Value} (h : w.cell? ⟨b, o, none⟩ = some v) (hne : b ≠ g) : (w.setRow g cs).cell? ⟨b, o, none⟩ = some v := by
  refine (World.cell?_of_block (a := ⟨b, o, none⟩) ?_).trans h
  simp only [World.setRow, Array.getElem?_modify]
  rw [if_neg (by omega)]
theorem sl_setRow {α : Type} {enc : α → Value} {w : World} {p : Option Addr} {n c g : Nat} {xs : List α} {cs : Array Value} (h : Sl enc w p n c xs) (hne : ∀ a, p = some a → a.block ≠ g) : Sl enc (w.setRow g cs) p n c xs :=
  ⟨h.len, h.le, h.max, h.nil, fun i hi => by
    obtain ⟨b, o, e, hc⟩ := h.rs i hi
    exact ⟨b, o, e, cell_setRow hc (hne _ e)⟩⟩
/-- a slice in blocks not below B -/
def NewP (B : Nat) (q : Option Addr) : Prop := ∀ a, q = some a → B ≤ a.block
/-- a slice that reads as xs, in a block of type T, not below B -/
structure Fresh (T : TypeId) (B : Nat) (w : World) (q : Option Addr) (n c : Nat) (xs : List UInt8) : Prop where
  sl : Sl B8 w q n c xs
  new : NewP B q
  ty : ∀ a, q = some a → ∃ cs fr, w.heap[a.block]? = some (.cells cs T fr)
theorem Fresh.of_owns {T : TypeId} {B : Nat} {w : World} {q : Option Addr} {n c : Nat} {xs : List UInt8} (h : w.ownsRow B T 1 (.slice q n c) n (xs.map B8)) : Fresh T B w q n c xs := by
  refine ⟨Sl.of_owns h, fun a ha => (owns_new h a ha).1, fun a ha => ?_⟩
  rcases h.2 with ⟨h2, _⟩ | ⟨g, cap, cur, hv, _, hh, _⟩
  · subst ha; cases h2
  · subst ha; cases hv; exact ⟨_, _, hh⟩
theorem Fresh.none (T : TypeId) (B : Nat) (w : World) : Fresh T B w none 0 0 [] := ⟨Sl.nil0 _ _, fun a ha => (by cases ha), fun a ha => (by cases ha)⟩
theorem Fresh.keep {T : TypeId} {B : Nat} {w w' : World} {q : Option Addr} {n c : Nat} {xs : List UInt8} (h : Fresh T B w q n c xs) (hb : Below w.heap.size w w') : Fresh T B w' q n c xs :=
  ⟨h.sl.keep hb, h.new, fun a ha => by obtain ⟨cs, fr, e⟩ := h.ty a ha; exact ⟨cs, fr, (hb.block _ (lt_of_block e)).trans e⟩⟩
theorem Fresh.mono {T : TypeId} {B B' : Nat} {w : World} {q : Option Addr} {n c : Nat} {xs : List UInt8} (h : Fresh T B w q n c xs) (hB : B' ≤ B) : Fresh T B' w q n c xs := ⟨h.sl, fun a ha => Nat.le_trans hB (h.new a ha), h.ty⟩
theorem Fresh.row {T T' : TypeId} {B g : Nat} {w : World} {q : Option Addr} {n c : Nat} {xs : List UInt8} {cs old : Array Value} {fr : Nat × Nat} (h : Fresh T B w q n c xs) (hg : w.heap[g]? = some (.cells old T' fr)) (hne : T' ≠ T) : Fresh T B (w.setRow g cs) q n c xs := by
  have hd : ∀ a, q = some a → a.block ≠ g := fun a ha e => by
    obtain ⟨c2, f2, e2⟩ := h.ty a ha
    rw [e, hg] at e2
    injection e2 with e2
    injection e2 with _ e3 _
    exact hne e3
  exact ⟨sl_setRow h.sl hd, h.new, fun a ha => by obtain ⟨c2, f2, e2⟩ := h.ty a ha; exact ⟨c2, f2, hro e2 (hd a ha)⟩⟩
/-- what follows new blocks -/
theorem one_of {w w1 : World} {A : Obj} (hb : Below (w.alloc A).heap.size (w.alloc A) w1) : Below w.heap.size w w1 ∧ w1.heap[w.heap.size]? = some A ∧ w.heap.size + 1 ≤ w1.heap.size :=
  ⟨(al (Below.refl _ _) (Nat.le_refl _)).trans (hb.mono (by simp)), (hb.block _ (by simp)).trans (hnew rfl), by have := hb.size; simpa using this⟩
theorem Sl.has {α : Type} {enc : α → Value} {w : World} {p : Option Addr} {n c : Nat} {xs : List α} (h : Sl enc w p n c xs) (hn : 0 < n) : ∃ b o, p = some ⟨b, o, none⟩ ∧ b < w.heap.size := h.rs.lt (by rw [h.len]; exact hn)
theorem Fresh.block {T B g n : Nat} {w : World} {fr : Nat × Nat} {xs : List UInt8} (h : w.heap[g]? = some (.cells (xs.map B8).toArray T fr)) (hl : xs.length = n) (hn : n ≤ maxLen) (hg : B ≤ g) : Fresh T B w (some ⟨g, 0, Option.none⟩) n n xs :=
  ⟨sl_block xs n h rfl hl hn, fun a ha => by cases ha; exact hg, fun a ha => by cases ha; exact ⟨_, _, h⟩⟩
end Go.By
namespace Go.By
open Go.RowKit Go.Proofs.YtccaiiigdfieoaaGreatDoor
/-- where row i leads; what stands in row j at that place -/
def leadL (L : List Rw) (i : Nat) : Int := leadS (L.getD i ([], [])).1
def valL (L : List Rw) (j : Nat) (l : Int) : UInt8 := atS (L.getD j ([], [])).1 l
def bad3 (L : List Rw) (i : Nat) : Bool := decide (valL L i (leadL L i) ≠ 1) || (decide (0 < i) && decide (leadL L i ≤ leadL L (i - 1)))
def thr (L : List Rw) : Nat → Bool
  | 0 => false
  | i + 1 => thr L i || bad3 L i
def bad4 (L : List Rw) (i j : Nat) : Bool := decide (j ≠ i) && decide (valL L j (leadL L i) ≠ 0)
def fin4 (L : List Rw) (i : Nat) : Nat → Bool
  | 0 => false
  | j + 1 => fin4 L i j || bad4 L i j
def fou (L : List Rw) (n : Nat) : Nat → Bool
  | 0 => false
  | i + 1 => fou L n i || fin4 L i n
theorem thr_mono {L : List Rw} {i n : Nat} (h : thr L i = true) (hi : i ≤ n) : thr L n = true := by
  induction n with
  | zero => rwa [show i = 0 by omega] at h
  | succ n ih =>
    rcases Nat.lt_or_ge i (n + 1) with g | g
    · show (thr L n || bad3 L n) = true
      rw [ih (by omega)]; rfl
    · rwa [show i = n + 1 by omega] at h
theorem fin_mono {L : List Rw} {a i n : Nat} (h : fin4 L a i = true) (hi : i ≤ n) : fin4 L a n = true := by
  induction n with
  | zero => rwa [show i = 0 by omega] at h
  | succ n ih =>
    rcases Nat.lt_or_ge i (n + 1) with g | g
    · show (fin4 L a n || bad4 L a n) = true
      rw [ih (by omega)]; rfl
    · rwa [show i = n + 1 by omega] at h
theorem fou_mono {L : List Rw} {m i n : Nat} (h : fou L m i = true) (hi : i ≤ n) : fou L m n = true := by
  induction n with
  | zero => rwa [show i = 0 by omega] at h
  | succ n ih =>
    rcases Nat.lt_or_ge i (n + 1) with g | g
    · show (fou L m n || fin4 L n m) = true
      rw [ih (by omega)]; rfl
    · rwa [show i = n + 1 by omega] at h
/-- a row that no plan's rows may be like -/
def oddR (k t : Int) (r : Rw) : Bool := (decide ((r.1.length : Int) ≠ k) || decide ((r.2.length : Int) ≠ t)) || zeroS r.1
def rulesL (L : List Rw) : List Int := (if thr L L.length = true then [3] else []) ++ (if fou L L.length L.length = true then [4] else [])
def auS (l s k : Int) (L : List Rw) : List Int := if checkS l s k ≠ 0 then [1] else if L.any (oddR k s) = true then [2] else rulesL L
theorem getD_at {L : List Rw} {i : Nat} {x : Rw} (h : L[i]? = some x) : L.getD i ([], []) = x := by rw [List.getD_eq_getElem?_getD, h]; rfl
/-- numbers in memory -/
def SlZ (w : World) (q : Option Addr) (n c : Nat) (xs : List Int) : Prop := Sl (fun z : Int => Value.int .i64 z) w q n c xs
def RetZ (w : World) (xs : List Int) (e : Ending) (w' : World) : Prop := ∃ q c, e = .returned (.slice q xs.length c) ∧ SlZ w' q xs.length c xs ∧ Below w.heap.size w w'
end Go.By
namespace Go.Proofs.YtccaiiigdfieoaaGreatDoor
open Go.RowKit Go.By
set_option maxRecDepth 100000 in
set_option maxHeartbeats 2000000 in
theorem rising_any (p : Option Addr) (n c : Nat) (L : List Rw) (w : World) (h : RwS w p n c L) (hz : ∀ i, i < n → 0 ≤ leadL L i) :
    Calls Tryz.prog 107 #[.slice p n c] w fun e w' => e = .returned (.bool (!thr L n)) ∧ Below w.heap.size w w' := by
  have hb : n ≤ 9223372036854775807 := by have g1 := h.le; have g2 := h.max; unfold maxLen at g2; omega
  have H := Lib.hid h; have HL := Lib.hid h.len; have HZ := Lib.hid hz
  clear h hz
  go_enter Tryz.func107, Tryz.ntmps107
  go_wp2
  go_loopw [3, 9] (fun av iv wr => ∃ (i : Nat) (a : Int), i ≤ n ∧ iv = .int .i64 (i : Nat) ∧ av = .int .i64 a ∧ Hid (a = if i = 0 then -1 else leadL L (i - 1)) ∧ Hid (thr L i = false) ∧ Hid (Below w.heap.size w wr)) (fun _ iv _ => n - (intOf iv).toNat)
  case atStart => exact ⟨0, -1, Nat.zero_le _, rfl, rfl, rfl, rfl, Below.refl _ _⟩
  case round =>
    obtain ⟨i, a, hi, rfl, rfl, HA, HT, HB⟩ := hrel
    by_cases hlt : i < n
    · obtain ⟨x, hx⟩ : ∃ x, L[i]? = some x := ⟨_, List.getElem?_eq_getElem (by rw [HL.out]; exact hlt)⟩
      obtain ⟨b, o, q1, m1, c1, q2, m2, c2, rfl, E1, E2, s1, s2⟩ := (H.out.keep HB.out).row i x hx
      have hlt' : (i : Int) < (n : Int) := by omega
      have el : leadS x.1 = leadL L i := by unfold leadL; rw [getD_at hx]
      have ev : atS x.1 (leadL L i) = valL L i (leadL L i) := by unfold valL; rw [getD_at hx]
      have ba : Below wr.heap.size wr (wr.alloc (.cells #[.slice q1 m1 c1, .slice q2 m2 c2] 99)) := al (Below.refl _ _) (Nat.le_refl _)
      have hle := Lead_any q1 m1 c1 x.1 _ (s1.keep ba)
      have hat := At_any q1 m1 c1 x.1 (leadL L i) _ (s1.keep ba)
      rw [el] at hle
      rw [ev] at hat
      have HLE := Lib.hid hle
      have HAT := Lib.hid hat
      have HB2 := Lib.hid (bl HB.out ba HB.out.size)
      have HT1 : Hid (thr L (i + 1) = bad3 L i) := by show (thr L i || bad3 L i) = _; rw [HT.out]; rfl
      have hbd : bad3 L i = (decide (valL L i (leadL L i) ≠ 1) || decide (leadL L i ≤ a)) := by
        unfold bad3
        congr 1
        rw [HA.out]
        by_cases h0 : i = 0
        · rw [if_pos h0]
          have := HZ.out i hlt
          rw [decide_eq_false (by omega : ¬ 0 < i), decide_eq_false (by omega : ¬ leadL L i ≤ -1)]; rfl
        · rw [if_neg h0, decide_eq_true (by omega : 0 < i)]; rfl
      have HLT := Lib.hid hlt
      have HAN : Hid (leadL L i = if i + 1 = 0 then -1 else leadL L (i + 1 - 1)) := rfl
      obtain ⟨l, hl⟩ : ∃ l, l = leadL L i := ⟨_, rfl⟩
      rw [← hl] at HLE HAT hbd HAN
      obtain ⟨y, hy⟩ : ∃ y, y = valL L i l := ⟨_, rfl⟩
      rw [← hy] at HAT hbd
      have HBD := Lib.hid hbd
      clear ba hle hat el ev s1 s2 hx hbd hl hy hlt HA HT
      go_wp2_with fail
      refine Calls.mono HLE.out ?_
      rintro e w2 ⟨rfl, rfl⟩
      by_cases h1 : y = 1
      · have hy1 : ((y.toNat : Int) != 1) = false := by rw [h1]; rfl
        by_cases h2 : l ≤ a
        · have HF : Hid (thr L n = true) := thr_mono (i := i + 1) (by rw [HT1.out, HBD.out, decide_eq_true h2, Bool.or_true]) (by have := HLT.out; omega)
          clear h1
          go_wp2_with fail
          refine Calls.mono HAT.out ?_
          rintro e w2 ⟨rfl, rfl⟩
          go_wp2
          go_ret
          exact ⟨by rw [HF.out]; rfl, HB2.out⟩
        · have HF : Hid (thr L (i + 1) = false) := by
            show _ = _
            rw [HT1.out, HBD.out, decide_eq_false h2, Bool.or_false]
            exact decide_eq_false (fun g => g h1)
          have h2' : a < l := by omega
          clear h1 h2
          go_wp2_with fail
          refine Calls.mono HAT.out ?_
          rintro e w2 ⟨rfl, rfl⟩
          go_wp2
          go_roundw
          case rel => exact ⟨i + 1, l, by have := HLT.out; omega, by go_num, rfl, HAN.out, HF.out, HB2.out⟩
          case measure => simp [intOf]; have := HLT.out; omega
      · have hy1 : ((y.toNat : Int) != 1) = true := bne_iff_ne.2 fun e => h1 (UInt8.toNat_inj.1 (by show y.toNat = 1; omega))
        have HF : Hid (thr L n = true) := thr_mono (i := i + 1) (by rw [HT1.out, HBD.out, decide_eq_true h1]; rfl) (by have := HLT.out; omega)
        clear h1
        go_wp2_with fail
        refine Calls.mono HAT.out ?_
        rintro e w2 ⟨rfl, rfl⟩
        go_wp2
        go_ret
        exact ⟨by rw [HF.out]; rfl, HB2.out⟩
    · obtain rfl : n = i := by omega
      clear hlt hi HA
      go_wp2
      go_ret
      exact ⟨by rw [HT.out]; rfl, HB.out⟩
set_option maxRecDepth 100000 in
set_option maxHeartbeats 2000000 in
theorem alone_any (p : Option Addr) (n c : Nat) (L : List Rw) (w : World) (h : RwS w p n c L) :
    Calls Tryz.prog 108 #[.slice p n c] w fun e w' => e = .returned (.bool (!fou L n n)) ∧ Below w.heap.size w w' := by
  have hb : n ≤ 9223372036854775807 := by have g1 := h.le; have g2 := h.max; unfold maxLen at g2; omega
  have H := Lib.hid h; have HL := Lib.hid h.len
  clear h
  go_enter Tryz.func108, Tryz.ntmps108
  go_wp2
  go_loopw [10] (fun iv wr => ∃ i : Nat, i ≤ n ∧ iv = .int .i64 (i : Nat) ∧ Hid (fou L n i = false) ∧ Hid (Below w.heap.size w wr)) (fun iv _ => n - (intOf iv).toNat)
  case atStart => exact ⟨0, Nat.zero_le _, rfl, rfl, Below.refl _ _⟩
  case round =>
    obtain ⟨i, hi, rfl, HT, HB⟩ := hrel
    by_cases hlt : i < n
    · obtain ⟨x, hx⟩ : ∃ x, L[i]? = some x := ⟨_, List.getElem?_eq_getElem (by rw [HL.out]; exact hlt)⟩
      obtain ⟨b, o, q1, m1, c1, q2, m2, c2, rfl, E1, E2, s1, s2⟩ := (H.out.keep HB.out).row i x hx
      have hlt' : (i : Int) < (n : Int) := by omega
      have el : leadS x.1 = leadL L i := by unfold leadL; rw [getD_at hx]
      have ba : Below wr.heap.size wr (wr.alloc (.cells #[.slice q1 m1 c1, .slice q2 m2 c2] 99)) := al (Below.refl _ _) (Nat.le_refl _)
      have hle := Lead_any q1 m1 c1 x.1 _ (s1.keep ba)
      rw [el] at hle
      have HLE := Lib.hid hle
      have HB2 := Lib.hid (bl HB.out ba HB.out.size)
      have HLT := Lib.hid hlt
      obtain ⟨l, hl⟩ : ∃ l, l = leadL L i := ⟨_, rfl⟩
      rw [← hl] at HLE
      have HLL := Lib.hid hl
      clear ba hle el s1 s2 hx hl hlt HB
      go_wp2_with fail
      refine Calls.mono HLE.out ?_
      rintro e w2 ⟨rfl, rfl⟩
      generalize wr.alloc (.cells #[.slice q1 m1 c1, .slice q2 m2 c2] 99) = w3 at *
      clear HLE E1 E2
      go_wp2
      go_loopw [20] (fun jv wi => ∃ j : Nat, j ≤ n ∧ jv = .int .i64 (j : Nat) ∧ Hid (fin4 L i j = false) ∧ Hid (Below w.heap.size w wi)) (fun jv _ => n - (intOf jv).toNat)
      case atStart => exact ⟨0, Nat.zero_le _, rfl, rfl, HB2.out⟩
      case round =>
        obtain ⟨j, hj, rfl, HJ, HBJ⟩ := hrel
        clear HB2
        by_cases hjl : j < n
        · obtain ⟨z, hz⟩ : ∃ z, L[j]? = some z := ⟨_, List.getElem?_eq_getElem (by rw [HL.out]; exact hjl)⟩
          obtain ⟨b', o', r1, k1, d1, r2, k2, d2, e1, E1, E2, t1, t2⟩ := (H.out.keep HBJ.out).row j z hz
          cases e1
          have hjl' : (j : Int) < (n : Int) := by omega
          have ev : atS z.1 l = valL L j l := by unfold valL; rw [getD_at hz]
          have ba : Below wr.heap.size wr (wr.alloc (.cells #[.slice r1 k1 d1, .slice r2 k2 d2] 99)) := al (Below.refl _ _) (Nat.le_refl _)
          have hat := At_any r1 k1 d1 z.1 l _ (t1.keep ba)
          rw [ev] at hat
          have HAT := Lib.hid hat
          have HB3 := Lib.hid (bl HBJ.out ba HBJ.out.size)
          have HJ1 : Hid (fin4 L i (j + 1) = (decide (j ≠ i) && decide (valL L j l ≠ 0))) := by
            show (fin4 L i j || bad4 L i j) = _
            rw [HJ.out, HLL.out]; rfl
          obtain ⟨y, hy⟩ : ∃ y, y = valL L j l := ⟨_, rfl⟩
          rw [← hy] at HAT HJ1
          have HJL := Lib.hid hjl
          clear ba hat ev t1 t2 hz hy hjl HJ
          by_cases hji : j = i
          · have hd : ((j : Int) != (i : Int)) = false := by rw [hji]; simp
            have HF : Hid (fin4 L i (j + 1) = false) := by show _ = _; rw [HJ1.out, decide_eq_false (fun g => g hji)]; rfl
            clear hji HAT
            go_wp2
            go_roundw
            case rel => exact ⟨j + 1, by have := HJL.out; omega, by go_num, HF.out, HB3.out⟩
            case measure => simp [intOf]; have := HJL.out; omega
          · have hd : ((j : Int) != (i : Int)) = true := bne_iff_ne.2 (by omega)
            by_cases hy0 : y = 0
            · have hy1 : ((y.toNat : Int) != 0) = false := by rw [nat_ne_zero]; exact decide_eq_false (fun g => g hy0)
              have HF : Hid (fin4 L i (j + 1) = false) := by show _ = _; rw [HJ1.out, decide_eq_false (fun g : y ≠ 0 => g hy0), Bool.and_false]
              clear hji hy0
              go_wp2_with fail
              refine Calls.mono HAT.out ?_
              rintro e w2 ⟨rfl, rfl⟩
              go_wp2
              go_roundw
              case rel => exact ⟨j + 1, by have := HJL.out; omega, by go_num, HF.out, HB3.out⟩
              case measure => simp [intOf]; have := HJL.out; omega
            · have hy1 : ((y.toNat : Int) != 0) = true := by rw [nat_ne_zero]; exact decide_eq_true hy0
              have HF : Hid (fou L n n = true) := by
                have h1 : fin4 L i (j + 1) = true := by rw [HJ1.out, decide_eq_true hji, decide_eq_true hy0]; rfl
                have h2 := fin_mono h1 (n := n) (by have := HJL.out; omega)
                refine fou_mono (i := i + 1) ?_ (by have := HLT.out; omega)
                show (fou L n i || fin4 L i n) = true
                rw [h2, Bool.or_true]
              clear hji hy0
              go_wp2_with fail
              refine Calls.mono HAT.out ?_
              rintro e w2 ⟨rfl, rfl⟩
              go_wp2
              go_ret
              exact ⟨by rw [HF.out]; rfl, HB3.out⟩
        · obtain rfl : n = j := by omega
          have HF : Hid (fou L n (i + 1) = false) := by show (fou L n i || fin4 L i n) = false; rw [HT.out, HJ.out]; rfl
          clear hjl hj HJ HT
          go_wp2
          go_roundw
          case rel => exact ⟨i + 1, by have := HLT.out; omega, by go_num, HF.out, HBJ.out⟩
          case measure => simp [intOf]; have := HLT.out; omega
    · obtain rfl : n = i := by omega
      clear hlt hi
      go_wp2
      go_ret
      exact ⟨by rw [HT.out]; rfl, HB.out⟩
theorem enters_odd : Enters Tryz.prog 104 := enters_of Tryz.func104 (by kernel_rfl) rfl
set_option maxRecDepth 100000 in
set_option maxHeartbeats 1000000 in
theorem odd1_any (q1 q2 : Option Addr) (m1 c1 m2 c2 g : Nat) (l s k d : Int) (x : Rw) (w : World) (hg : w.heap[g]? = some (.cells #[.int .i64 l, .int .i64 s, .int .i64 k, .int .u32 d] 27 (0, 0))) (h1 : Sl B8 w q1 m1 c1 x.1) (h2 : Sl B8 w q2 m2 c2 x.2) :
    Calls Tryz.prog 104 (#[.agg #[.slice q1 m1 c1, .slice q2 m2 c2]] ++ #[.pointer (some ⟨g, 0, none⟩)]) w fun e w' => e = .returned (.bool (oddR k s x)) ∧ Below w.heap.size w w' := by
  have ba : Below w.heap.size w (w.alloc (.cells #[.slice q1 m1 c1, .slice q2 m2 c2] 99)) := al (Below.refl _ _) (Nat.le_refl _)
  have HZ := Lib.hid (VZero_any q1 m1 c1 x.1 _ (h1.keep ba))
  have e1 := h1.len
  have e2 := h2.len
  have HO : Hid (oddR k s x = ((decide ((m1 : Int) ≠ k) || decide ((m2 : Int) ≠ s)) || zeroS x.1)) := by show _ = _; unfold oddR; rw [e1, e2]
  obtain ⟨c0, c1', c2', c3⟩ := cells_four hg
  have a1 : ∀ o', (w.alloc o').cell? ⟨g, 1, none⟩ = _ := fun _ => calloc c1'
  have a2 : ∀ o', (w.alloc o').cell? ⟨g, 2, none⟩ = _ := fun _ => calloc c2'
  generalize oddR k s x = R at *
  generalize zeroS x.1 = Z at *
  have HBA := Lib.hid ba
  clear h1 h2 e1 e2 hg ba c0 c1' c2' c3
  rw [show (#[Value.agg #[.slice q1 m1 c1, .slice q2 m2 c2]] ++ #[Value.pointer (some ⟨g, 0, none⟩)]) = #[.agg #[.slice q1 m1 c1, .slice q2 m2 c2], .pointer (some ⟨g, 0, none⟩)] from rfl]
  by_cases h1 : (m1 : Int) = k
  · have d1 : ((m1 : Int) != k) = false := by rw [h1]; simp
    by_cases h2 : (m2 : Int) = s
    · have d2 : ((m2 : Int) != s) = false := by rw [h2]; simp
      have HO2 : Hid (R = Z) := by show _ = _; rw [HO.out, decide_eq_false (fun g => g h1), decide_eq_false (fun g => g h2)]; rfl
      clear h1 h2 HO
      go_enter Tryz.func104, Tryz.ntmps104
      go_wp2_with fail
      refine Calls.mono HZ.out ?_
      rintro e w2 ⟨rfl, rfl⟩
      go_wp2
      go_ret
      exact ⟨by rw [HO2.out]; rfl, HBA.out⟩
    · have d2 : ((m2 : Int) != s) = true := bne_iff_ne.2 h2
      have HO2 : Hid (R = true) := by show _ = _; rw [HO.out, decide_eq_true h2, Bool.or_true]; rfl
      clear h1 h2 HO HZ
      go_enter Tryz.func104, Tryz.ntmps104
      go_wp2
      go_ret
      exact ⟨by rw [HO2.out]; rfl, HBA.out⟩
  · have d1 : ((m1 : Int) != k) = true := bne_iff_ne.2 h1
    have HO2 : Hid (R = true) := by show _ = _; rw [HO.out, decide_eq_true h1]; rfl
    clear h1 HO HZ
    go_enter Tryz.func104, Tryz.ntmps104
    go_wp2
    go_ret
    exact ⟨by rw [HO2.out]; rfl, HBA.out⟩
end Go.Proofs.YtccaiiigdfieoaaGreatDoor
namespace Go.By
open Go.RowKit Go.Proofs.YtccaiiigdfieoaaGreatDoor
theorem odd_none {k s : Int} {L : List Rw} (h : L.any (oddR k s) = false) {j : Nat} {x : Rw} (hx : L[j]? = some x) : ((x.1.length : Int) = k ∧ (x.2.length : Int) = s) ∧ ∃ (l : Nat) (y : UInt8), leadS x.1 = (l : Int) ∧ x.1[l]? = some y := by
  have h1 := List.any_eq_false.1 h x (List.mem_of_getElem? hx)
  have h2 : oddR k s x = false := by simpa using h1
  unfold oddR at h2
  rw [Bool.or_eq_false_iff, Bool.or_eq_false_iff] at h2
  obtain ⟨⟨a1, a2⟩, a3⟩ := h2
  refine ⟨⟨Classical.not_not.1 (of_decide_eq_false a1), Classical.not_not.1 (of_decide_eq_false a2)⟩, ?_⟩
  rcases leadS_cases x.1 with ⟨g, _, g3⟩ | ⟨l, y, e1, e2, _⟩
  · exfalso
    have : zeroS x.1 = true := lead_zero (by rw [g]; decide)
    rw [this] at a3; cases a3
  · exact ⟨l, y, e1, e2⟩
theorem SlZ.one {w : World} {g T : Nat} {fr : Nat × Nat} (z : Int) (h : w.heap[g]? = some (.cells #[.int .i64 z] T fr)) : SlZ w (some ⟨g, 0, none⟩) 1 1 [z] := sl_block (enc := fun z : Int => Value.int .i64 z) [z] 1 h rfl rfl (by simp [maxLen])
end Go.By
namespace Go.Proofs.YtccaiiigdfieoaaGreatDoor
open Go.RowKit Go.By
theorem info_int28 : (Tryz.prog.info? 3).map (fun i => (i.zero, i.size, i.bytes)) = some (some (.int .i64 0), 1, 8) := by kernel_rfl
set_option maxRecDepth 100000 in
set_option maxHeartbeats 2000000 in
theorem AuRows_any (l s k d : Int) (p : Option Addr) (n c : Nat) (L : List Rw) (w : World) (h : RwS w p n c L) (hl : l ≤ 9223372036854775807) :
    Calls Tryz.prog 56 #[.agg #[.int .i64 l, .int .i64 s, .int .i64 k, .int .u32 d], .slice p n c] w (RetZ w (auS l s k L)) := by
  obtain ⟨i0, hi, hz0, hz1, hz2⟩ := info_parts info_int28
  have HK := Lib.hid (fun w => Check_any l s k d w hl)
  have H := Lib.hid h
  have hln := h.len
  have HAU : Hid (auS l s k L = if checkS l s k ≠ 0 then [1] else if L.any (oddR k s) = true then [2] else rulesL L) := rfl
  generalize auS l s k L = R at *
  generalize checkS l s k = C at *
  clear h hl
  have ba : Below w.heap.size w (w.alloc (.cells #[.int .i64 l, .int .i64 s, .int .i64 k, .int .u32 d] 27 (0, 0))) := al (Below.refl _ _) (Nat.le_refl _)
  by_cases hc : C = 0
  · rw [if_neg (Classical.not_not.2 hc)] at HAU
    have hc0 : (C != 0) = false := by rw [hc]; rfl
    have HOD : Hid (L.any (oddR k s) = false → rulesL L = (if thr L n = true then [3] else []) ++ (if fou L n n = true then [4] else [])) := fun _ => by unfold rulesL; rw [hln]
    have HLD : Hid (L.any (oddR k s) = false → ∀ i, i < n → 0 ≤ leadL L i) := fun g i hi => by
      obtain ⟨x, hx⟩ : ∃ x, L[i]? = some x := ⟨_, List.getElem?_eq_getElem (by rw [hln]; exact hi)⟩
      obtain ⟨-, l', y, e1, -⟩ := odd_none g hx
      unfold leadL
      rw [getD_at hx, e1]; omega
    clear hc hln
    have HBA := Lib.hid ba
    have kp : (w.alloc (.cells #[.int .i64 l, .int .i64 s, .int .i64 k, .int .u32 d] 27 (0, 0))).heap[w.heap.size]? = some (.cells #[.int .i64 l, .int .i64 s, .int .i64 k, .int .u32 d] 27 (0, 0)) := hnew rfl
    have HKP := Lib.hid kp
    clear ba kp
    go_enter Tryz.func56, Tryz.ntmps56
    go_wp2_with fail
    refine Calls.mono (HK.out _) ?_
    rintro e w1 ⟨rfl, hb⟩
    obtain ⟨hb1, kp1, -⟩ := one_of hb
    have HB1 := Lib.hid hb1
    obtain ⟨gp, hgp⟩ : ∃ gp, gp = w.heap.size := ⟨_, rfl⟩
    rw [← hgp] at kp1 ⊢
    have HKP1 := Lib.hid kp1
    clear hb hb1 kp1 hgp HKP HBA
    have hcon := ContainsRow_any (oddR k s) 104 #[.pointer (some ⟨gp, 0, none⟩)] enters_odd p n c L w1 (H.out.keep HB1.out) (fun W q1 q2 m1 c1 m2 c2 x hx hb g1 g2 => odd1_any q1 q2 m1 c1 m2 c2 gp l s k d x W ((hb.block _ (lt_of_block HKP1.out)).trans HKP1.out) g1 g2)
    have HCON := Lib.hid hcon
    clear hcon
    go_wp2_with fail
    refine Calls.mono HCON.out ?_
    rintro e w2 ⟨rfl, hb⟩
    have HB2 := Lib.hid (bl HB1.out hb HB1.out.size)
    have H2 := Lib.hid (H.out.keep HB2.out)
    clear hb HCON HB1 HKP1
    cases hA : L.any (oddR k s) with
    | true =>
      rw [if_pos hA] at HAU
      have HR := Lib.hid HAU.out
      clear hA HAU HOD HLD
      go_wp2
      go_ret
      rw [HR.out]
      exact ⟨some ⟨w2.heap.size, 0, none⟩, 1, rfl, SlZ.one 2 (hnew rfl), al HB2.out HB2.out.size⟩
    | false =>
      rw [if_neg (by rw [hA]; decide), HOD.out hA] at HAU
      have HRS := Lib.hid (rising_any p n c L w2 H2.out (HLD.out hA))
      clear hA HOD HLD
      go_wp2_with fail
      refine Calls.mono HRS.out ?_
      rintro e w3 ⟨rfl, hb⟩
      have HB3 := Lib.hid (bl HB2.out hb HB2.out.size)
      have HAL := Lib.hid (fun W (hw : Below w3.heap.size w3 W) => alone_any p n c L W (H.out.keep (bl HB3.out hw HB3.out.size)))
      clear hb HRS HB2 H2
      generalize thr L n = A at *
      generalize fou L n n = B at *
      cases A with
      | false =>
        go_wp2_with fail
        refine Calls.mono (HAL.out _ (Below.refl _ _)) ?_
        rintro e w4 ⟨rfl, hb⟩
        have HB4 := Lib.hid (bl HB3.out hb HB3.out.size)
        clear hb HAL HB3
        cases B with
        | false =>
          have HR : Hid (R = []) := HAU.out
          clear HAU
          go_wp2
          go_ret
          rw [HR.out]
          exact ⟨none, 0, rfl, Sl.nil0 _ _, HB4.out⟩
        | true =>
          have HR : Hid (R = [4]) := HAU.out
          clear HAU
          go_wp2_with (at_builtin; refine wpList_append_rs _ rfl (.tmp 25) (.tmp 26) 103 rfl w.heap.size 3 i0 (.int .i64 0) 8 Tryz.underlying103 hi hz0 hz1 hz2 rfl (.slice none 0 0) 0 [] rfl (World.ownsRow_nil _ _ _ _) (fun z : Int => Value.int .i64 z) (some ⟨w4.heap.size, 0, none⟩) 1 1 [4] (fun _ _ => rfl) rfl (SlZ.one 4 (hnew rfl)) (by unfold maxLen; omega) (by omega) ?c3 ?_)
          case c3 => have := HB4.out.size; simp; omega
          intro v5 w5 ho5 hg5
          obtain ⟨q3, c3, rfl⟩ := owns_shape ho5
          have hb5 : Below w4.heap.size w4 w5 := (al (Below.refl _ _) (Nat.le_refl _)).grown hg5 (by simp) (fun kk hk => by simp [Value.ownBlock] at hk)
          have HO5 := Lib.hid ho5
          have HB5 := Lib.hid (bl HB4.out hb5 HB4.out.size)
          clear ho5 hg5 hb5
          go_wp2
          go_ret
          rw [HR.out]
          exact ⟨q3, c3, rfl, Sl.of_owns (by simpa using HO5.out), HB5.out⟩
      | true =>
        go_wp2_with (at_builtin; refine wpList_append_rs _ rfl (.tmp 19) (.tmp 20) 103 rfl w.heap.size 3 i0 (.int .i64 0) 8 Tryz.underlying103 hi hz0 hz1 hz2 rfl (.slice none 0 0) 0 [] rfl (World.ownsRow_nil _ _ _ _) (fun z : Int => Value.int .i64 z) (some ⟨w3.heap.size, 0, none⟩) 1 1 [3] (fun _ _ => rfl) rfl (SlZ.one 3 (hnew rfl)) (by unfold maxLen; omega) (by omega) ?c3 ?_)
        case c3 => have := HB3.out.size; simp; omega
        intro v5 w5 ho5 hg5
        obtain ⟨q3, c3, rfl⟩ := owns_shape ho5
        have hb5 : Below w3.heap.size w3 w5 := (al (Below.refl _ _) (Nat.le_refl _)).grown hg5 (by simp) (fun kk hk => by simp [Value.ownBlock] at hk)
        have HO3 : Hid (w5.ownsRow w.heap.size 3 1 (.slice q3 1 c3) 1 ([(3 : Int)].map fun z : Int => Value.int .i64 z)) := Lib.hid (by simpa using ho5)
        have HW3 := Lib.hid hb5
        clear ho5 hg5 hb5
        go_wp2_with fail
        refine Calls.mono (HAL.out _ HW3.out) ?_
        rintro e w4 ⟨rfl, hb⟩
        have HB4 := Lib.hid (bl (bl HB3.out HW3.out HB3.out.size) hb (bl HB3.out HW3.out HB3.out.size).size)
        have HO4 := Lib.hid (owns_keep HO3.out hb)
        clear hb HAL HB3 HW3 HO3
        cases B with
        | false =>
          have HR : Hid (R = [3]) := HAU.out
          clear HAU
          go_wp2
          go_ret
          rw [HR.out]
          exact ⟨q3, c3, rfl, Sl.of_owns HO4.out, HB4.out⟩
        | true =>
          have HR : Hid (R = [3, 4]) := HAU.out
          clear HAU
          go_wp2_with (at_builtin; refine wpList_append_rs _ rfl (.tmp 25) (.tmp 26) 103 rfl w.heap.size 3 i0 (.int .i64 0) 8 Tryz.underlying103 hi hz0 hz1 hz2 rfl _ 1 _ rfl (owns_keep HO4.out (al (Below.refl _ _) (Nat.le_refl _))) (fun z : Int => Value.int .i64 z) (some ⟨w4.heap.size, 0, none⟩) 1 1 [4] (fun _ _ => rfl) rfl (SlZ.one 4 (hnew rfl)) (by unfold maxLen; omega) (by omega) ?c3 ?_)
          case c3 => have := HB4.out.size; simp; omega
          intro v5 w5 ho5 hg5
          obtain ⟨q5, c5, rfl⟩ := owns_shape ho5
          have HB5 := Lib.hid ((al HB4.out HB4.out.size).grown hg5 (by have := HB4.out.size; simp; omega) (fun kk hk => (HO4.out.lt kk hk).1))
          have HO5 := Lib.hid ho5
          clear ho5 hg5
          go_wp2
          go_ret
          rw [HR.out]
          exact ⟨_, _, rfl, Sl.of_owns (by simpa using HO5.out), HB5.out⟩
  · have hc0 : (C != 0) = true := bne_iff_ne.2 hc
    have HR : Hid (R = [1]) := by show _ = _; rw [HAU.out, if_pos hc]
    have HBA := Lib.hid ba
    clear hc HAU ba hln
    go_enter Tryz.func56, Tryz.ntmps56
    go_wp2_with fail
    refine Calls.mono (HK.out _) ?_
    rintro e w1 ⟨rfl, hb⟩
    have HB1 := Lib.hid (bl HBA.out hb HBA.out.size)
    clear hb HBA
    go_wp2
    go_ret
    rw [HR.out]
    exact ⟨some ⟨w1.heap.size, 0, none⟩, 1, rfl, SlZ.one 1 (hnew rfl), al HB1.out HB1.out.size⟩
end Go.Proofs.YtccaiiigdfieoaaGreatDoor
