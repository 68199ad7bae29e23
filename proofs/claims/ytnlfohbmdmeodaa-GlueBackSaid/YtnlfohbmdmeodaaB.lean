/- Small laws on bytes as the walk spells them. -/
import Derived.WalkKit
import Derived.Laws.CopyOwn
namespace Go.By
open Go.RowKit
/-- a byte as a value -/
abbrev B8 (x : UInt8) : Value := .int .u8 x.toNat
theorem bits_and (x y : UInt8) : bits .and .u8 (x.toNat : Int) (y.toNat : Int) = ((x &&& y).toNat : Int) := by
  rw [UInt8.toNat_and]; exact (bits_nat .u8 8 (by decide) wraps_u8 _ _ x.toNat_lt y.toNat_lt).1
theorem bits_or (x y : UInt8) : bits .or .u8 (x.toNat : Int) (y.toNat : Int) = ((x ||| y).toNat : Int) := by
  rw [UInt8.toNat_or]; exact (bits_nat .u8 8 (by decide) wraps_u8 _ _ x.toNat_lt y.toNat_lt).2
theorem bits_xor_nat (k : IntKind) (j : Nat) (hj : j ≤ k.bits) (hk : ∀ n : Int, 0 ≤ n → n < 2 ^ j → k.wrap n = n) (a b : Nat) (ha : a < 2 ^ j) (hb : b < 2 ^ j) :
    bits .xor k a b = ((a ^^^ b : Nat) : Int) := by
  have hp : 2 ^ j ≤ 2 ^ k.bits := Nat.pow_le_pow_right (by decide) hj
  have ha' : a % 2 ^ k.bits = a := Nat.mod_eq_of_lt (Nat.lt_of_lt_of_le ha hp)
  have hb' : b % 2 ^ k.bits = b := Nat.mod_eq_of_lt (Nat.lt_of_lt_of_le hb hp)
  have cast : ∀ n : Nat, n < 2 ^ j → ((n : Nat) : Int) < 2 ^ j := fun n h => by exact_mod_cast h
  simp only [bits, BitVec.ofInt_natCast, BitVec.toNat_xor, BitVec.toNat_ofNat, ha', hb']
  exact hk _ (Int.natCast_nonneg _) (cast _ (Nat.xor_lt_two_pow ha hb))
theorem bits_xor (x y : UInt8) : bits .xor .u8 (x.toNat : Int) (y.toNat : Int) = ((x ^^^ y).toNat : Int) := by
  rw [UInt8.toNat_xor]; exact bits_xor_nat .u8 8 (by decide) wraps_u8 _ _ x.toNat_lt y.toNat_lt
theorem nat_ne_zero (x : UInt8) : ((x.toNat : Int) != 0) = decide (x ≠ 0) := by
  have : x = 0 ↔ x.toNat = 0 := by rw [← UInt8.toNat_inj]; rfl
  by_cases h : x = 0
  · simp [h]
  · have := mt this.2 h; rw [bne_iff_ne (a := (x.toNat : Int)) |>.2 (by omega)]; simp [h]
theorem nat_eq_zero (x : UInt8) : ((x.toNat : Int) == 0) = decide (x = 0) := by
  have := nat_ne_zero x
  simp only [bne] at this
  by_cases h : x = 0 <;> simp [h] at this ⊢
  exact this
theorem shl1 (x : UInt8) : ((x.toNat : Int) * 2 % 256) = ((x <<< 1).toNat : Int) := by
  rw [UInt8.toNat_shiftLeft]
  simp [Nat.shiftLeft_eq]
theorem shr1 (x : UInt8) : ((x.toNat : Int) / 2) = ((x >>> 1).toNat : Int) := by
  rw [UInt8.toNat_shiftRight]
  simp [Nat.shiftRight_eq_div_pow]
theorem B8_congr {n : Int} {x : UInt8} (h : n = (x.toNat : Int)) : Value.int .u8 n = B8 x := by rw [h]

/-- a slice's cells, read as a list -/
def Rs {α : Type} (enc : α → Value) (w : World) (p : Option Addr) (xs : List α) : Prop :=
  ∀ i (hi : i < xs.length), ∃ b o, p = some ⟨b, o, none⟩ ∧ w.cell? ⟨b, o + i, none⟩ = some (enc xs[i])
theorem lt_of_cell {w : World} {b o : Nat} {v : Value} (h : w.cell? ⟨b, o, none⟩ = some v) : b < w.heap.size := by
  rcases Nat.lt_or_ge b w.heap.size with h' | h'
  · exact h'
  · simp [World.cell?, Array.getElem?_eq_none h'] at h
section
variable {α : Type} {enc : α → Value} {w w' : World} {p : Option Addr} {xs : List α}
theorem Rs.nil : Rs enc w p ([] : List α) := fun i hi => absurd hi (Nat.not_lt_zero i)
theorem Rs.lt (h : Rs enc w p xs) (h0 : 0 < xs.length) : ∃ b o, p = some ⟨b, o, none⟩ ∧ b < w.heap.size := by
  obtain ⟨b, o, hp, hc⟩ := h 0 h0
  exact ⟨b, o, hp, lt_of_cell hc⟩
theorem Rs.below {B : Nat} (h : Rs enc w p xs) (hb : Below B w w') (hB : ∀ a, p = some a → a.block < B) : Rs enc w' p xs := by
  intro i hi
  obtain ⟨b, o, hp, hc⟩ := h i hi
  exact ⟨b, o, hp, (hb.cell (p := ⟨b, o + i, none⟩) (hB ⟨b, o, none⟩ hp)).trans hc⟩
theorem Rs.keep (h : Rs enc w p xs) (hb : Below w.heap.size w w') : Rs enc w' p xs := by
  intro i hi
  obtain ⟨b, o, hp, hc⟩ := h i hi
  exact ⟨b, o, hp, (hb.cell (p := ⟨b, o + i, none⟩) (lt_of_cell hc)).trans hc⟩
theorem Rs.grown {row : Option Nat} (h : Rs enc w p xs) (hg : w.grownBy w' row) (hne : ∀ a, p = some a → some a.block ≠ row) : Rs enc w' p xs := by
  intro i hi
  obtain ⟨b, o, hp, hc⟩ := h i hi
  exact ⟨b, o, hp, (World.cell?_of_block (a := ⟨b, o + i, none⟩) (hg.block b (lt_of_cell hc) (hne _ hp))).trans hc⟩
theorem Rs.alloc (h : Rs enc w p xs) (o : Obj) : Rs enc (w.alloc o) p xs := h.keep ((Below.refl _ _).alloc (Nat.le_refl _) _)
theorem Rs.at (h : Rs enc w p xs) (i : Nat) (hi : i < xs.length) : ∃ b o x, p = some ⟨b, o, none⟩ ∧ w.cell? ⟨b, o + i, none⟩ = some (enc x) ∧ Hid (x = xs[i]) := by
  obtain ⟨b, o, hp, hc⟩ := h i hi
  exact ⟨b, o, _, hp, hc, rfl⟩
theorem Rs.of_owns {base e n c : Nat} (h : w.ownsRow base e 1 (.slice p n c) n (xs.map enc)) : Rs enc w p xs := by
  intro i hi
  rcases h.2 with h2 | ⟨g, cap, cur, hv, _⟩
  · have := h.1; simp [h2.2] at this; subst this; exact absurd hi (Nat.not_lt_zero i)
  · obtain ⟨rfl, rfl⟩ : p = some ⟨g, 0, none⟩ ∧ c = cap := by simpa using hv
    refine ⟨g, 0, rfl, ?_⟩
    have hn : n = xs.length := by have := h.1; simp at this; exact this.symm
    rw [Nat.zero_add, h.cellAt i (by omega), List.getElem?_eq_getElem (by simpa using hi)]
    simp
theorem owns_len {base e n c : Nat} {ys : List Value} (h : w.ownsRow base e 1 (.slice p n c) n ys) : ys.length = n := by simpa using h.1
theorem owns_cap {base e n c : Nat} {ys : List Value} (h : w.ownsRow base e 1 (.slice p n c) n ys) : n ≤ c ∧ c ≤ maxLen := by
  rcases h.2 with h2 | ⟨g, cap, cur, hv, _, _, h3, h4, _⟩
  · obtain ⟨h2, rfl⟩ := h2; simp at h2; simp [h2, maxLen]
  · obtain ⟨_, rfl⟩ : p = some ⟨g, 0, none⟩ ∧ c = cap := by simpa using hv
    exact ⟨h3, h4⟩
theorem owns_at {base e n c : Nat} {ys : List Value} (h : w.ownsRow base e 1 (.slice p n c) n ys) (h0 : 0 < n) : ∃ g, p = some ⟨g, 0, none⟩ ∧ base ≤ g ∧ g < w.heap.size := by
  rcases h.2 with h2 | ⟨g, cap, cur, hv, hb, hg, _⟩
  · omega
  · obtain ⟨rfl, _⟩ : p = some ⟨g, 0, none⟩ ∧ c = cap := by simpa using hv
    exact ⟨g, rfl, hb, lt_of_block hg⟩
end
theorem heap_alloc (w : World) (o : Obj) (i : Nat) : (w.alloc o).heap[i]? = if i = w.heap.size then some o else w.heap[i]? := by
  show (w.heap.push o)[i]? = _
  rw [Array.getElem?_push]
theorem hnew {w : World} {o : Obj} {i : Nat} (h : i = w.heap.size) : (w.alloc o).heap[i]? = some o := by rw [heap_alloc, if_pos h]
theorem hal {w : World} {o x : Obj} {i : Nat} (h : w.heap[i]? = some x) : (w.alloc o).heap[i]? = some x := by
  rw [heap_alloc, if_neg (by have := lt_of_block h; omega)]; exact h
theorem hsc {w : World} {a : Addr} {v : Value} {x : Obj} {i : Nat} (h : w.heap[i]? = some x) (hne : i ≠ a.block) : (w.setCell a v).heap[i]? = some x := by
  rw [Below.heap_setCell _ _ _ _ hne]; exact h
theorem hss {w : World} {g i : Nat} {cs : Array Value} {t : TypeId} {v : Value} (h : w.heap[g]? = some (.cells cs t (0, 0))) : (w.setCell ⟨g, i, none⟩ v).heap[g]? = some (.cells (cs.setIfInBounds i v) t (0, 0)) := heap_setCell_same w g i cs t v h
theorem hro {w : World} {g i : Nat} {cs : Array Value} {x : Obj} (h : w.heap[i]? = some x) (hne : i ≠ g) : (w.setRow g cs).heap[i]? = some x := by
  simp only [World.setRow, Array.getElem?_modify]
  rw [if_neg (by omega)]; exact h
theorem hrs {w : World} {g : Nat} {cs old : Array Value} {t : TypeId} {fr : Nat × Nat} (h : w.heap[g]? = some (.cells old t fr)) : (w.setRow g cs).heap[g]? = some (.cells cs t fr) := by
  simp only [World.setRow, Array.getElem?_modify]
  simp [h]
theorem step_load_row {P : Program} {ops : Array Oper} {o : Oper} {a : Act} {w : World} {K : Act → World → Prop} {Q : Exit → Act → World → Prop} {E : Prop} (hgd : o.guard = none) (ty : TypeId) (x : Operand) (ho : o.op = .load ty x)
    (g : Nat) (hx : a.eval x = .pointer (some ⟨g, 0, none⟩)) (t : TypeId) (cs : Array Value) (fr : Nat × Nat) (d : TypeDesc) (hg : w.heap[g]? = some (.cells cs t fr))
    (hu : P.underlying ty = some d) (hd : (match d with | .struct _ | .array _ _ => true | _ => false) = true) (hi : (P.info? ty).map (·.size) = some cs.size)
    (h : K (a.put o.dst (.agg cs)) w) : if Region.wanted o (yielded ops a.tmps) = true then Oper.wp P o a w K Q else E := by
  rw [if_pos (by simp [Region.wanted, hgd])]
  exact wp_load_row ty x ho g hx t cs fr d hg hu hd hi h
theorem step_store_row {P : Program} {ops : Array Oper} {o : Oper} {a : Act} {w : World} {K : Act → World → Prop} {Q : Exit → Act → World → Prop} {E : Prop} (hgd : o.guard = none) (ty : TypeId) (x y : Operand) (ho : o.op = .store ty x y)
    (g : Nat) (cells : Array Value) (hx : a.eval x = .pointer (some ⟨g, 0, none⟩)) (hy : a.eval y = .agg cells)
    (t : TypeId) (old : Array Value) (hg : w.heap[g]? = some (.cells old t (0, 0))) (hi : (P.info? ty).map (·.size) = some cells.size)
    (hold : old.size = cells.size) (h1 : cells.all (·.oneCell') = true)
    (h : K (a.put o.dst undef) (w.setRow g cells)) : if Region.wanted o (yielded ops a.tmps) = true then Oper.wp P o a w K Q else E := by
  rw [if_pos (by simp [Region.wanted, hgd])]
  exact wp_store_row ty x y ho g cells hx hy t old hg hi hold h1 h
theorem results_cell_row2 {P : Program} {fn : Func} {p q : Tmp} {ty : TypeId} (h : fn.results = #[.cell p ty, .cell q ty]) (tmps : Array Value) (w : World) (g g' : Nat) (t t' : TypeId) (cs cs' : Array Value) (fr fr' : Nat × Nat) (d : TypeDesc)
    (hp : tmps.getD p undef = .pointer (some ⟨g, 0, none⟩)) (hg : w.heap[g]? = some (.cells cs t fr))
    (hq : tmps.getD q undef = .pointer (some ⟨g', 0, none⟩)) (hg' : w.heap[g']? = some (.cells cs' t' fr'))
    (hu : P.underlying ty = some d) (hd : (match d with | .struct _ | .array _ _ => true | _ => false) = true) (hi : (P.info? ty).map (·.size) = some cs.size) (hi' : (P.info? ty).map (·.size) = some cs'.size) :
    (results fn tmps).run P w = .ok (.tuple #[.agg cs, .agg cs']) w := by
  have hp' : tmps[p]?.getD undef = .pointer (some ⟨g, 0, none⟩) := by simpa using hp
  have hq' : tmps[q]?.getD undef = .pointer (some ⟨g', 0, none⟩) := by simpa using hq
  simp [results, h, hp', hq', asAddr, run_loadVar_row w g t ty cs fr d hg hu hd hi, run_loadVar_row w g' t' ty cs' fr' d hg' hu hd hi']
theorem wpList_store_row {P : Program} {ops : Array Oper} {rest : List Oper} {o : Oper} {a : Act} {w : World} {Q : Exit → Act → World → Prop} (hgd : o.guard = none) (ty : TypeId) (x y : Operand) (ho : o.op = .store ty x y)
    (g : Nat) (cells : Array Value) (hx : a.eval x = .pointer (some ⟨g, 0, none⟩)) (hy : a.eval y = .agg cells)
    (t : TypeId) (old : Array Value) (hg : w.heap[g]? = some (.cells old t (0, 0))) (hi : (P.info? ty).map (·.size) = some cells.size)
    (hold : old.size = cells.size) (h1 : cells.all (·.oneCell') = true)
    (h : wpList P ops Q rest (a.put o.dst undef) (w.setRow g cells)) : wpList P ops Q (o :: rest) a w :=
  wpList_plain hgd fun _ hK => wp_store_row ty x y ho g cells hx hy t old hg hi hold h1 (hK _ _ h)
/-- the first k of Z, then S -/
def prog {α : Type} (Z S : List α) (k : Nat) : List α := Z.take k ++ S.drop k
theorem prog_zero {α : Type} (Z S : List α) : prog Z S 0 = S := by simp [prog]
theorem prog_full {α : Type} (Z S : List α) (n : Nat) (hz : Z.length = n) (hs : S.length = n) : prog Z S n = Z := by
  simp [prog, List.take_of_length_le (Nat.le_of_eq hz), List.drop_of_length_le (Nat.le_of_eq hs)]
theorem prog_length {α : Type} (Z S : List α) (k n : Nat) (hz : Z.length = n) (hs : S.length = n) (hk : k ≤ n) : (prog Z S k).length = n := by
  simp [prog]; omega
theorem prog_at {α : Type} (Z S : List α) (k n : Nat) (hz : Z.length = n) (hs : S.length = n) (hk : k < n) : (prog Z S k)[k]? = S[k]? := by
  simp only [prog]
  rw [List.getElem?_append_right (by simp; omega)]
  simp [show min k Z.length = k by omega]
theorem prog_succ {α : Type} (Z S : List α) (k n : Nat) (hz : Z.length = n) (hs : S.length = n) (hk : k < n) (z : α) (e : Z[k]? = some z) : (prog Z S k).set k z = prog Z S (k + 1) := by
  obtain ⟨hk', e⟩ := List.getElem?_eq_some_iff.1 e
  apply List.ext_getElem?
  intro j
  simp only [prog]
  rw [List.getElem?_set]
  by_cases h1 : k = j
  · subst h1
    rw [if_pos rfl, if_pos (by simp; omega), List.getElem?_append_left (by simp; omega)]
    rw [List.getElem?_take_of_lt (by omega), List.getElem?_eq_getElem hk', e]
  · rw [if_neg h1]
    by_cases h2 : j < k
    · rw [List.getElem?_append_left (by simp; omega), List.getElem?_append_left (by simp; omega), List.getElem?_take_of_lt h2, List.getElem?_take_of_lt (by omega)]
    · rw [List.getElem?_append_right (by simp; omega), List.getElem?_append_right (by simp; omega)]
      simp only [List.length_take, List.getElem?_drop]
      congr 1; omega
theorem foldl_take_succ {α β : Type} (f : β → α → β) (z : β) (xs : List α) (k : Nat) (h : k < xs.length) : (xs.take (k + 1)).foldl f z = f ((xs.take k).foldl f z) xs[k] := by
  rw [List.take_succ_eq_append_getElem h, List.foldl_append]; rfl
end Go.By
