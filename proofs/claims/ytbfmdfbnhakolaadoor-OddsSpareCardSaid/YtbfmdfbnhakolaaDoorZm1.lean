/- A region that draws its order, op by op: an invariant in place of the orders. Any program. Small laws on bytes as the walk spells them. Small laws on slices: a slice that reads as a list; append of such a one. Small laws on slices of byte slices; what a function that makes a row hands back. Small laws: literal slices. Slices of byte slices that the call itself makes. A region that draws its order and stores nothing: each operation has a shape that lasts. A region that draws its order, with one store into a block of its own: each operation has a shape that lasts. The frame behind a region that draws its order; one operation with its operands known. A guard that never ran says no. Numbers by their digits: plain laws of layer 6. Numbers by their digits: one digit more, one digit set, sums and products step by step, which is greater. Numbers as texts of base 16, and as trimmed bytes: plain laws. Numbers told by texts of base 16, by bytes, by words: plain laws. One step of a product by hand; texts cut into words. How many bytes a number needs; trimmed bytes: plain laws. Numbers in memory; made, Of. -/
import Derived.RegionTactic
import Derived.WalkKit
import Derived.Laws.CopyOwn
import Derived.Laws.AppendOwnNone
import Derived.Lib.ItoaNum
import Derived.Test.YtbfmdfbnhakolaaDoorProg
import Derived.BigQuiet
import Derived.Deep.QuietTactic
import Derived.WalkLawsBesides
import Derived.WalkSpells
import Derived.Lib.Hide
import Derived.Shelf.Abstract
import Derived.Laws.ResultCell
import Derived.Laws.Rows
namespace Go.By
open Go.RowKit
/-- the operations that must come ahead of this one -/
def preds (o : Oper) : List Nat := (o.after.toList.filter (fun e => Region.binds .any e)).map (·.on)
/-- a slot of the frame -/
def sl (a : Act) (t : Nat) : Value := a.tmps.getD t undef
/-- at operation i the slot t holds what it held at first -/
def initAt (ops : Array Oper) (i t : Nat) : Bool := (List.range ops.size).all fun j => j == i || match ops[j]? with
  | some o => (o.dst != some t) || (preds o).contains i
  | none => true
/-- the edges lead backwards -/
def backB (ops : Array Oper) : Bool := (List.range ops.size).all fun i => match ops[i]? with
  | some o => (preds o).all (fun k => decide (k < i))
  | none => true
theorem mem_ready {ops : Array Oper} {listed : Array Bool} {i : Nat} : i ∈ Region.ready .any ops listed ↔ i < ops.size ∧ listed.getD i true = false ∧ ∃ o, ops[i]? = some o ∧ ∀ k, k ∈ preds o → listed.getD k false = true := by
  simp only [Region.ready, List.mem_filter, List.mem_range, Bool.and_eq_true, Bool.not_eq_true', preds]
  constructor
  · rintro ⟨h1, h2, h3⟩
    refine ⟨h1, h2, ?_⟩
    have ho : ops[i]? = some ops[i] := Array.getElem?_eq_getElem h1
    refine ⟨_, ho, ?_⟩
    rw [ho] at h3
    simp only [Option.map_some, Option.getD_some, Array.all_eq_true_iff_forall_mem, Bool.or_eq_true, Bool.not_eq_true'] at h3
    intro k hk
    obtain ⟨e, he, rfl⟩ := List.mem_map.1 hk
    obtain ⟨he1, he2⟩ := List.mem_filter.1 he
    rcases h3 e (by simpa using he1) with h | h
    · rw [h] at he2; cases he2
    · exact h
  · rintro ⟨h1, h2, o, ho, h3⟩
    refine ⟨h1, h2, ?_⟩
    rw [ho]
    simp only [Option.map_some, Option.getD_some, Array.all_eq_true_iff_forall_mem, Bool.or_eq_true, Bool.not_eq_true']
    intro e he
    by_cases hb : Region.binds .any e = true
    · right
      exact h3 e.on (List.mem_map.2 ⟨e, List.mem_filter.2 ⟨by simpa using he, hb⟩, rfl⟩)
    · left; simpa using hb
/-- how many are not listed yet -/
def unl (n : Nat) (listed : Array Bool) : Nat := (List.range n).countP (fun i => !listed.getD i true)
theorem countP_lt {l : List Nat} {p q : Nat → Bool} (h : ∀ x, x ∈ l → q x = true → p x = true) {i : Nat} (hi : i ∈ l) (hp : p i = true) (hq : q i = false) : l.countP q < l.countP p := by
  induction l with
  | nil => simp at hi
  | cons x l ih =>
    have hmono : l.countP q ≤ l.countP p := List.countP_mono_left (fun y hy hqy => h y (List.mem_cons_of_mem _ hy) hqy)
    rw [List.countP_cons, List.countP_cons]
    rcases List.mem_cons.1 hi with rfl | hi'
    · simp [hp, hq]; omega
    · have := ih (fun y hy => h y (List.mem_cons_of_mem _ hy)) hi'
      have hx := h x List.mem_cons_self
      by_cases hqx : q x = true
      · simp [hqx, hx hqx]; omega
      · simp [hqx]; split <;> omega
theorem unl_set {n : Nat} {listed : Array Bool} {i : Nat} (hi : i < n) (hl : listed.getD i true = false) : unl n (listed.setIfInBounds i true) < unl n listed := by
  refine countP_lt (i := i) ?_ (List.mem_range.2 hi) (by simpa using hl) ?_
  · intro x _ hx
    by_cases e : i = x
    · subst e; simpa using hl
    · simp only [Array.getD_eq_getD_getElem?, Array.getElem?_setIfInBounds, if_neg e] at hx ⊢
      exact hx
  · have hs : i < listed.size := by
      rcases Nat.lt_or_ge i listed.size with h | h
      · exact h
      · simp [Array.getD_eq_getD_getElem?, Array.getElem?_eq_none h] at hl
    simp [Array.getD_eq_getD_getElem?, Array.getElem?_setIfInBounds, hs]
section
variable {P : Program} {ops : Array Oper} {Q : Exit → Act → World → Prop}
/-- what is to be shown of one operation -/
def StepOf (P : Program) (ops : Array Oper) (Q : Exit → Act → World → Prop) (a0 : Act) (w0 : World) (E : World → World → Prop) (R : Nat → World → World → Prop) (Inv : Nat → (Nat → Value) → World → Prop) (i : Nat) (o : Oper) : Prop :=
  ∀ (a : Act) (w : World), E w0 w → a.tmps.size = a0.tmps.size → (∀ k, k ∈ preds o → Inv k (sl a) w) → (∀ t, initAt ops i t = true → sl a t = sl a0 t) →
    if Region.wanted o (yielded ops a.tmps) = true then o.wp P a w (fun a' w' => ∃ v, a' = a.put o.dst v ∧ R i w w' ∧ Inv i (sl a') w') Q
    else R i w w ∧ Inv i (sl (a.put o.dst undef)) w
def Each (P : Program) (ops : Array Oper) (Q : Exit → Act → World → Prop) (a0 : Act) (w0 : World) (E : World → World → Prop) (R : Nat → World → World → Prop) (Inv : Nat → (Nat → Value) → World → Prop) : List Oper → Nat → Prop
  | [], _ => True
  | o :: rest, i => StepOf P ops Q a0 w0 E R Inv i o ∧ Each P ops Q a0 w0 E R Inv rest (i + 1)
theorem Each.get {a0 : Act} {w0 : World} {E : World → World → Prop} {R : Nat → World → World → Prop} {Inv : Nat → (Nat → Value) → World → Prop} : ∀ (l : List Oper) (k : Nat), Each P ops Q a0 w0 E R Inv l k → ∀ j o, l[j]? = some o → StepOf P ops Q a0 w0 E R Inv (k + j) o := by
  intro l
  induction l with
  | nil => intro k _ j o h; simp at h
  | cons x l ih =>
    intro k h j o hj
    cases j with
    | zero => simp at hj; subst hj; exact h.1
    | succ j =>
      have := ih (k + 1) h.2 j o (by simpa using hj)
      rwa [show k + 1 + j = k + (j + 1) by omega] at this
theorem put_sl (a : Act) (d : Option Nat) (v : Value) (t : Nat) (h : d ≠ some t) : sl (a.put d v) t = sl a t := by
  cases d with
  | none => rfl
  | some x =>
    have : x ≠ t := fun e => h (by rw [e])
    simp [sl, Act.put, Array.getD_eq_getD_getElem?, Array.getElem?_setIfInBounds, this]
theorem put_size (a : Act) (d : Option Nat) (v : Value) : (a.put d v).tmps.size = a.tmps.size := by
  cases d <;> simp [Act.put]
theorem put_defers (a : Act) (d : Option Nat) (v : Value) : (a.put d v).defers = a.defers := by
  cases d <;> simp [Act.put]
theorem put_same (a : Act) (x : Nat) (v : Value) (h : x < a.tmps.size) : sl (a.put (some x) v) x = v := by
  simp [sl, Act.put, Array.getD_eq_getD_getElem?, Array.getElem?_setIfInBounds, h]
/-- A REGION THAT DRAWS, by an invariant of each operation -/
theorem wp_region_each {id : Nat} {a0 : Act} {w0 : World} (hm : P.follows .mixedOrders = true) (hback : backB ops = true)
    (E : World → World → Prop) (R : Nat → World → World → Prop) (Inv : Nat → (Nat → Value) → World → Prop)
    (E0 : E w0.drew w0.drew) (ER : ∀ i w w', E w0.drew w → R i w w' → E w0.drew w')
    (stable : ∀ i j oi oj (σ σ' : Nat → Value) w w', i ≠ j → ops[i]? = some oi → ops[j]? = some oj → i ∉ preds oj ∨ True → Inv j σ w → R i w w' → (∀ t, oi.dst ≠ some t → σ' t = σ t) → (j ∉ preds oi → True) → (∀ d, oi.dst = some d → i ∈ preds oj → False) → Inv j σ' w')
    (each : Each P ops Q a0 w0.drew E R Inv ops.toList 0)
    (fin : ∀ a w, E w0.drew w → a.tmps.size = a0.tmps.size → a.defers = a0.defers → (∀ j, j < ops.size → Inv j (sl a) w) → (∀ t, (ops.toList.all fun o => o.dst != some t) = true → sl a t = sl a0 t) → Q .normal a w) :
    (Code.region id ops true).wp P Q a0 w0 := by
  refine wp_region_any hm ?_
  show wpAny P .any ops Q ops.size (Array.replicate ops.size false) a0 w0.drew
  have main : ∀ (fuel : Nat) (listed : Array Bool) (a : Act) (w : World), unl ops.size listed ≤ fuel → E w0.drew w → a.tmps.size = a0.tmps.size → a.defers = a0.defers →
      (∀ j o, listed.getD j false = true → ops[j]? = some o → ∀ k, k ∈ preds o → listed.getD k false = true) →
      (∀ j, j < ops.size → listed.getD j true = true → listed.getD j false = true) →
      (∀ j, j < ops.size → listed.getD j false = true → Inv j (sl a) w) →
      (∀ t, (∀ j o, j < ops.size → listed.getD j false = true → ops[j]? = some o → o.dst ≠ some t) → sl a t = sl a0 t) → wpAny P .any ops Q fuel listed a w := by
    intro fuel
    induction fuel with
    | zero =>
      intro listed a w hu hE hs hd hcl hlt hI ht
      have hall : ∀ j, j < ops.size → listed.getD j false = true := by
        intro j hj
        refine hlt j hj ?_
        have h0 : unl ops.size listed = 0 := by omega
        unfold unl at h0
        have := List.countP_eq_zero.1 h0 j (List.mem_range.2 hj)
        simpa using this
      refine ⟨?_, fin a w hE hs hd (fun j hj => hI j hj (hall j hj)) (fun t htt => ht t (fun j o _ _ ho => ?_))⟩
      · rw [List.eq_nil_iff_forall_not_mem]
        intro i hi
        obtain ⟨h1, h2, _⟩ := mem_ready.1 hi
        have hx := hall i h1
        rcases Nat.lt_or_ge i listed.size with h | h
        · simp [Array.getD_eq_getD_getElem?, h] at h2 hx; rw [h2] at hx; cases hx
        · simp [Array.getD_eq_getD_getElem?, Array.getElem?_eq_none h] at hx
      · have := List.all_eq_true.1 htt o (by rw [Array.mem_toList_iff]; exact Array.mem_of_getElem? ho)
        simpa using this
    | succ fuel ih =>
      intro listed a w hu hE hs hd hcl hlt hI ht
      refine ⟨fun hr => ?_, fun i hi => ?_⟩
      · have hall : ∀ n j, j < n → j < ops.size → listed.getD j false = true := by
          intro n
          induction n with
          | zero => intro j hj; omega
          | succ n ihn =>
            intro j hj hjs
            refine hlt j hjs ?_
            cases hb : listed.getD j true with
            | true => rfl
            | false =>
              exfalso
              have ho : ops[j]? = some ops[j] := Array.getElem?_eq_getElem hjs
              have : j ∈ Region.ready .any ops listed := mem_ready.2 ⟨hjs, hb, _, ho, fun k hk => by
                have hbk := List.all_eq_true.1 hback j (List.mem_range.2 hjs)
                rw [ho] at hbk
                have hkj := of_decide_eq_true (List.all_eq_true.1 hbk k hk)
                exact ihn k (by omega) (by omega)⟩
              rw [hr] at this; cases this
        exact fin a w hE hs hd (fun j hj => hI j hj (hall (j + 1) j (by omega) hj)) (fun t htt => ht t (fun j o _ _ ho => by
          have := List.all_eq_true.1 htt o (by rw [Array.mem_toList_iff]; exact Array.mem_of_getElem? ho)
          simpa using this))
      · obtain ⟨h1, h2, o, ho, h3⟩ := mem_ready.1 hi
        have hst := Each.get ops.toList 0 each i o (by simpa using ho)
        rw [Nat.zero_add] at hst
        have hnl : listed.getD i false ≠ true := by
          intro hx
          rcases Nat.lt_or_ge i listed.size with h | h
          · simp [Array.getD_eq_getD_getElem?, h] at h2 hx; rw [h2] at hx; cases hx
          · simp [Array.getD_eq_getD_getElem?, Array.getElem?_eq_none h] at hx
        have his : i < listed.size := by
          rcases Nat.lt_or_ge i listed.size with h | h
          · exact h
          · simp [Array.getD_eq_getD_getElem?, Array.getElem?_eq_none h] at h2
        have gset : ∀ j (d : Bool), (listed.setIfInBounds i true).getD j d = if i = j then true else listed.getD j d := by
          intro j d
          simp only [Array.getD_eq_getD_getElem?, Array.getElem?_setIfInBounds]
          by_cases e : i = j
          · subst e; simp [his]
          · simp [e]
        have hst' := hst a w hE hs (fun k hk => hI k (by
            have hbk := List.all_eq_true.1 hback i (List.mem_range.2 h1)
            rw [ho] at hbk
            have := of_decide_eq_true (List.all_eq_true.1 hbk k hk); omega) (h3 k hk)) (fun t hti => by
          refine ht t (fun j oj hj hlj hoj hdj => ?_)
          have := List.all_eq_true.1 hti j (List.mem_range.2 hj)
          rw [hoj] at this
          by_cases e : j = i
          · subst e; exact hnl hlj
          · simp [e, hdj] at this
            exact hnl (hcl j oj hlj hoj i this))
        have next : ∀ (v : Value) (w' : World), R i w w' → Inv i (sl (a.put o.dst v)) w' → wpAny P .any ops Q fuel (listed.setIfInBounds i true) (a.put o.dst v) w' := by
          intro v w' hR hIi
          refine ih _ _ _ (by have := unl_set (n := ops.size) h1 h2; omega) (ER i w w' hE hR) ((put_size _ _ _).trans hs) ((put_defers _ _ _).trans hd) ?_ ?_ ?_ ?_
          · intro j oj hj hoj k hk
            rw [gset] at hj ⊢
            by_cases e : i = k
            · rw [if_pos e]
            · rw [if_neg e]
              by_cases e' : i = j
              · subst e'; rw [ho] at hoj; cases hoj; exact h3 k hk
              · rw [if_neg e'] at hj; exact hcl j oj hj hoj k hk
          · intro j hj hl
            rw [gset] at hl ⊢
            by_cases e : i = j
            · rw [if_pos e]
            · rw [if_neg e] at hl ⊢; exact hlt j hj hl
          · intro j hj hl
            rw [gset] at hl
            by_cases e : i = j
            · subst e; exact hIi
            · rw [if_neg e] at hl
              have hoj : ops[j]? = some ops[j] := Array.getElem?_eq_getElem hj
              exact stable i j o _ (sl a) _ w w' e ho hoj (.inr trivial) (hI j hj hl) hR (fun t h => put_sl _ _ _ _ h) (fun _ => trivial) (fun d hdd hp => hnl (hcl j _ hl hoj i hp))
          · intro t htt
            have hdt : o.dst ≠ some t := htt i o h1 (by rw [gset, if_pos rfl]) ho
            rw [put_sl _ _ _ _ hdt]
            exact ht t (fun j oj hj hl hoj => htt j oj hj (by rw [gset]; split <;> simp [hl]) hoj)
        unfold wpOp
        rw [ho]
        show if Region.wanted o (yielded ops a.tmps) = true then _ else _
        split
        · rename_i hw
          rw [if_pos hw] at hst'
          exact .inl (Oper.wp_mono (fun a' w' ⟨v, e, hR, hIi⟩ => by rw [e] at hIi ⊢; exact next v w' hR hIi) hst')
        · rename_i hw
          rw [if_neg hw] at hst'
          exact next undef w hst'.1 hst'.2
  refine main ops.size _ a0 w0.drew ?_ E0 rfl rfl ?_ ?_ ?_ ?_
  · unfold unl; exact Nat.le_trans List.countP_le_length (by simp)
  · intro j o hj; simp [Array.getD_eq_getD_getElem?, Array.getElem?_replicate] at hj
    split at hj <;> simp at hj
  · intro j hj hl; simp [Array.getD_eq_getD_getElem?, Array.getElem?_replicate, hj] at hl
  · intro j hj hl; simp [Array.getD_eq_getD_getElem?, Array.getElem?_replicate, hj] at hl
  · intro t _; rfl
end
end Go.By
namespace Go.By
open Go.RowKit
/-- a byte as a value -/
abbrev B8 (x : UInt8) : Value := .int .u8 x.toNat
theorem bits_and (x y : UInt8) : bits .and .u8 (x.toNat : Int) (y.toNat : Int) = ((x &&& y).toNat : Int) := by
  rw [UInt8.toNat_and]; exact (bits_nat .u8 8 (by decide) wraps_u8 _ _ x.toNat_lt y.toNat_lt).1
theorem bits_or (x y : UInt8) : bits .or .u8 (x.toNat : Int) (y.toNat : Int) = ((x ||| y).toNat : Int) := by
  rw [UInt8.toNat_or]; exact (bits_nat .u8 8 (by decide) wraps_u8 _ _ x.toNat_lt y.toNat_lt).2
theorem bits_xor_nat (k : IntKind) (j : Nat) (hj : j ≤ k.bits) (hk : ∀ n : Int, 0 ≤ n → n < 2 ^ j → k.wrap n = n) (a b : Nat) (ha : a < 2 ^ j) (hb : b < 2 ^ j) :
    bits .xor k a b = ((a ^^^ b : Nat) : Int) := by
  have hp : 2 ^ j ≤ 2 ^ k.bits := Nat.pow_le_pow_right (by decide) hj
  have ha' : a % 2 ^ k.bits = a := Nat.mod_eq_of_lt (Nat.lt_of_lt_of_le ha hp)
  have hb' : b % 2 ^ k.bits = b := Nat.mod_eq_of_lt (Nat.lt_of_lt_of_le hb hp)
  have cast : ∀ n : Nat, n < 2 ^ j → ((n : Nat) : Int) < 2 ^ j := fun n h => by exact_mod_cast h
  simp only [bits, BitVec.ofInt_natCast, BitVec.toNat_xor, BitVec.toNat_ofNat, ha', hb']
  exact hk _ (Int.natCast_nonneg _) (cast _ (Nat.xor_lt_two_pow ha hb))
theorem bits_xor (x y : UInt8) : bits .xor .u8 (x.toNat : Int) (y.toNat : Int) = ((x ^^^ y).toNat : Int) := by
  rw [UInt8.toNat_xor]; exact bits_xor_nat .u8 8 (by decide) wraps_u8 _ _ x.toNat_lt y.toNat_lt
theorem nat_ne_zero (x : UInt8) : ((x.toNat : Int) != 0) = decide (x ≠ 0) := by
  have : x = 0 ↔ x.toNat = 0 := by rw [← UInt8.toNat_inj]; rfl
  by_cases h : x = 0
  · simp [h]
  · have := mt this.2 h; rw [bne_iff_ne (a := (x.toNat : Int)) |>.2 (by omega)]; simp [h]
theorem nat_eq_zero (x : UInt8) : ((x.toNat : Int) == 0) = decide (x = 0) := by
  have := nat_ne_zero x
  simp only [bne] at this
  by_cases h : x = 0 <;> simp [h] at this ⊢
  exact this
theorem shl1 (x : UInt8) : ((x.toNat : Int) * 2 % 256) = ((x <<< 1).toNat : Int) := by
  rw [UInt8.toNat_shiftLeft]
  simp [Nat.shiftLeft_eq]
theorem shr1 (x : UInt8) : ((x.toNat : Int) / 2) = ((x >>> 1).toNat : Int) := by
  rw [UInt8.toNat_shiftRight]
  simp [Nat.shiftRight_eq_div_pow]
theorem B8_congr {n : Int} {x : UInt8} (h : n = (x.toNat : Int)) : Value.int .u8 n = B8 x := by rw [h]

/-- a slice's cells, read as a list -/
def Rs {α : Type} (enc : α → Value) (w : World) (p : Option Addr) (xs : List α) : Prop :=
  ∀ i (hi : i < xs.length), ∃ b o, p = some ⟨b, o, none⟩ ∧ w.cell? ⟨b, o + i, none⟩ = some (enc xs[i])
theorem lt_of_cell {w : World} {b o : Nat} {v : Value} (h : w.cell? ⟨b, o, none⟩ = some v) : b < w.heap.size := by
  rcases Nat.lt_or_ge b w.heap.size with h' | h'
  · exact h'
  · simp [World.cell?, Array.getElem?_eq_none h'] at h
section
variable {α : Type} {enc : α → Value} {w w' : World} {p : Option Addr} {xs : List α}
theorem Rs.nil : Rs enc w p ([] : List α) := fun i hi => absurd hi (Nat.not_lt_zero i)
theorem Rs.lt (h : Rs enc w p xs) (h0 : 0 < xs.length) : ∃ b o, p = some ⟨b, o, none⟩ ∧ b < w.heap.size := by
  obtain ⟨b, o, hp, hc⟩ := h 0 h0
  exact ⟨b, o, hp, lt_of_cell hc⟩
theorem Rs.below {B : Nat} (h : Rs enc w p xs) (hb : Below B w w') (hB : ∀ a, p = some a → a.block < B) : Rs enc w' p xs := by
  intro i hi
  obtain ⟨b, o, hp, hc⟩ := h i hi
  exact ⟨b, o, hp, (hb.cell (p := ⟨b, o + i, none⟩) (hB ⟨b, o, none⟩ hp)).trans hc⟩
theorem Rs.keep (h : Rs enc w p xs) (hb : Below w.heap.size w w') : Rs enc w' p xs := by
  intro i hi
  obtain ⟨b, o, hp, hc⟩ := h i hi
  exact ⟨b, o, hp, (hb.cell (p := ⟨b, o + i, none⟩) (lt_of_cell hc)).trans hc⟩
theorem Rs.grown {row : Option Nat} (h : Rs enc w p xs) (hg : w.grownBy w' row) (hne : ∀ a, p = some a → some a.block ≠ row) : Rs enc w' p xs := by
  intro i hi
  obtain ⟨b, o, hp, hc⟩ := h i hi
  exact ⟨b, o, hp, (World.cell?_of_block (a := ⟨b, o + i, none⟩) (hg.block b (lt_of_cell hc) (hne _ hp))).trans hc⟩
theorem Rs.alloc (h : Rs enc w p xs) (o : Obj) : Rs enc (w.alloc o) p xs := h.keep ((Below.refl _ _).alloc (Nat.le_refl _) _)
theorem Rs.at (h : Rs enc w p xs) (i : Nat) (hi : i < xs.length) : ∃ b o x, p = some ⟨b, o, none⟩ ∧ w.cell? ⟨b, o + i, none⟩ = some (enc x) ∧ Hid (x = xs[i]) := by
  obtain ⟨b, o, hp, hc⟩ := h i hi
  exact ⟨b, o, _, hp, hc, rfl⟩
theorem Rs.of_owns {base e n c : Nat} (h : w.ownsRow base e 1 (.slice p n c) n (xs.map enc)) : Rs enc w p xs := by
  intro i hi
  rcases h.2 with h2 | ⟨g, cap, cur, hv, _⟩
  · have := h.1; simp [h2.2] at this; subst this; exact absurd hi (Nat.not_lt_zero i)
  · obtain ⟨rfl, rfl⟩ : p = some ⟨g, 0, none⟩ ∧ c = cap := by simpa using hv
    refine ⟨g, 0, rfl, ?_⟩
    have hn : n = xs.length := by have := h.1; simp at this; exact this.symm
    rw [Nat.zero_add, h.cellAt i (by omega), List.getElem?_eq_getElem (by simpa using hi)]
    simp
theorem owns_len {base e n c : Nat} {ys : List Value} (h : w.ownsRow base e 1 (.slice p n c) n ys) : ys.length = n := by simpa using h.1
theorem owns_cap {base e n c : Nat} {ys : List Value} (h : w.ownsRow base e 1 (.slice p n c) n ys) : n ≤ c ∧ c ≤ maxLen := by
  rcases h.2 with h2 | ⟨g, cap, cur, hv, _, _, h3, h4, _⟩
  · obtain ⟨h2, rfl⟩ := h2; simp at h2; simp [h2, maxLen]
  · obtain ⟨_, rfl⟩ : p = some ⟨g, 0, none⟩ ∧ c = cap := by simpa using hv
    exact ⟨h3, h4⟩
theorem owns_at {base e n c : Nat} {ys : List Value} (h : w.ownsRow base e 1 (.slice p n c) n ys) (h0 : 0 < n) : ∃ g, p = some ⟨g, 0, none⟩ ∧ base ≤ g ∧ g < w.heap.size := by
  rcases h.2 with h2 | ⟨g, cap, cur, hv, hb, hg, _⟩
  · omega
  · obtain ⟨rfl, _⟩ : p = some ⟨g, 0, none⟩ ∧ c = cap := by simpa using hv
    exact ⟨g, rfl, hb, lt_of_block hg⟩
end
theorem heap_alloc (w : World) (o : Obj) (i : Nat) : (w.alloc o).heap[i]? = if i = w.heap.size then some o else w.heap[i]? := by
  show (w.heap.push o)[i]? = _
  rw [Array.getElem?_push]
theorem hnew {w : World} {o : Obj} {i : Nat} (h : i = w.heap.size) : (w.alloc o).heap[i]? = some o := by rw [heap_alloc, if_pos h]
theorem hal {w : World} {o x : Obj} {i : Nat} (h : w.heap[i]? = some x) : (w.alloc o).heap[i]? = some x := by
  rw [heap_alloc, if_neg (by have := lt_of_block h; omega)]; exact h
theorem hsc {w : World} {a : Addr} {v : Value} {x : Obj} {i : Nat} (h : w.heap[i]? = some x) (hne : i ≠ a.block) : (w.setCell a v).heap[i]? = some x := by
  rw [Below.heap_setCell _ _ _ _ hne]; exact h
theorem hss {w : World} {g i : Nat} {cs : Array Value} {t : TypeId} {v : Value} (h : w.heap[g]? = some (.cells cs t (0, 0))) : (w.setCell ⟨g, i, none⟩ v).heap[g]? = some (.cells (cs.setIfInBounds i v) t (0, 0)) := heap_setCell_same w g i cs t v h
theorem hro {w : World} {g i : Nat} {cs : Array Value} {x : Obj} (h : w.heap[i]? = some x) (hne : i ≠ g) : (w.setRow g cs).heap[i]? = some x := by
  simp only [World.setRow, Array.getElem?_modify]
  rw [if_neg (by omega)]; exact h
theorem hrs {w : World} {g : Nat} {cs old : Array Value} {t : TypeId} {fr : Nat × Nat} (h : w.heap[g]? = some (.cells old t fr)) : (w.setRow g cs).heap[g]? = some (.cells cs t fr) := by
  simp only [World.setRow, Array.getElem?_modify]
  simp [h]
theorem step_load_row {P : Program} {ops : Array Oper} {o : Oper} {a : Act} {w : World} {K : Act → World → Prop} {Q : Exit → Act → World → Prop} {E : Prop} (hgd : o.guard = none) (ty : TypeId) (x : Operand) (ho : o.op = .load ty x)
    (g : Nat) (hx : a.eval x = .pointer (some ⟨g, 0, none⟩)) (t : TypeId) (cs : Array Value) (fr : Nat × Nat) (d : TypeDesc) (hg : w.heap[g]? = some (.cells cs t fr))
    (hu : P.underlying ty = some d) (hd : (match d with | .struct _ | .array _ _ => true | _ => false) = true) (hi : (P.info? ty).map (·.size) = some cs.size)
    (h : K (a.put o.dst (.agg cs)) w) : if Region.wanted o (yielded ops a.tmps) = true then Oper.wp P o a w K Q else E := by
  rw [if_pos (by simp [Region.wanted, hgd])]
  exact wp_load_row ty x ho g hx t cs fr d hg hu hd hi h
theorem step_store_row {P : Program} {ops : Array Oper} {o : Oper} {a : Act} {w : World} {K : Act → World → Prop} {Q : Exit → Act → World → Prop} {E : Prop} (hgd : o.guard = none) (ty : TypeId) (x y : Operand) (ho : o.op = .store ty x y)
    (g : Nat) (cells : Array Value) (hx : a.eval x = .pointer (some ⟨g, 0, none⟩)) (hy : a.eval y = .agg cells)
    (t : TypeId) (old : Array Value) (hg : w.heap[g]? = some (.cells old t (0, 0))) (hi : (P.info? ty).map (·.size) = some cells.size)
    (hold : old.size = cells.size) (h1 : cells.all (·.oneCell') = true)
    (h : K (a.put o.dst undef) (w.setRow g cells)) : if Region.wanted o (yielded ops a.tmps) = true then Oper.wp P o a w K Q else E := by
  rw [if_pos (by simp [Region.wanted, hgd])]
  exact wp_store_row ty x y ho g cells hx hy t old hg hi hold h1 h
theorem results_cell_row2 {P : Program} {fn : Func} {p q : Tmp} {ty : TypeId} (h : fn.results = #[.cell p ty, .cell q ty]) (tmps : Array Value) (w : World) (g g' : Nat) (t t' : TypeId) (cs cs' : Array Value) (fr fr' : Nat × Nat) (d : TypeDesc)
    (hp : tmps.getD p undef = .pointer (some ⟨g, 0, none⟩)) (hg : w.heap[g]? = some (.cells cs t fr))
    (hq : tmps.getD q undef = .pointer (some ⟨g', 0, none⟩)) (hg' : w.heap[g']? = some (.cells cs' t' fr'))
    (hu : P.underlying ty = some d) (hd : (match d with | .struct _ | .array _ _ => true | _ => false) = true) (hi : (P.info? ty).map (·.size) = some cs.size) (hi' : (P.info? ty).map (·.size) = some cs'.size) :
    (results fn tmps).run P w = .ok (.tuple #[.agg cs, .agg cs']) w := by
  have hp' : tmps[p]?.getD undef = .pointer (some ⟨g, 0, none⟩) := by simpa using hp
  have hq' : tmps[q]?.getD undef = .pointer (some ⟨g', 0, none⟩) := by simpa using hq
  simp [results, h, hp', hq', asAddr, run_loadVar_row w g t ty cs fr d hg hu hd hi, run_loadVar_row w g' t' ty cs' fr' d hg' hu hd hi']
theorem wpList_store_row {P : Program} {ops : Array Oper} {rest : List Oper} {o : Oper} {a : Act} {w : World} {Q : Exit → Act → World → Prop} (hgd : o.guard = none) (ty : TypeId) (x y : Operand) (ho : o.op = .store ty x y)
    (g : Nat) (cells : Array Value) (hx : a.eval x = .pointer (some ⟨g, 0, none⟩)) (hy : a.eval y = .agg cells)
    (t : TypeId) (old : Array Value) (hg : w.heap[g]? = some (.cells old t (0, 0))) (hi : (P.info? ty).map (·.size) = some cells.size)
    (hold : old.size = cells.size) (h1 : cells.all (·.oneCell') = true)
    (h : wpList P ops Q rest (a.put o.dst undef) (w.setRow g cells)) : wpList P ops Q (o :: rest) a w :=
  wpList_plain hgd fun _ hK => wp_store_row ty x y ho g cells hx hy t old hg hi hold h1 (hK _ _ h)
/-- the first k of Z, then S -/
def prog {α : Type} (Z S : List α) (k : Nat) : List α := Z.take k ++ S.drop k
theorem prog_zero {α : Type} (Z S : List α) : prog Z S 0 = S := by simp [prog]
theorem prog_full {α : Type} (Z S : List α) (n : Nat) (hz : Z.length = n) (hs : S.length = n) : prog Z S n = Z := by
  simp [prog, List.take_of_length_le (Nat.le_of_eq hz), List.drop_of_length_le (Nat.le_of_eq hs)]
theorem prog_length {α : Type} (Z S : List α) (k n : Nat) (hz : Z.length = n) (hs : S.length = n) (hk : k ≤ n) : (prog Z S k).length = n := by
  simp [prog]; omega
theorem prog_at {α : Type} (Z S : List α) (k n : Nat) (hz : Z.length = n) (hs : S.length = n) (hk : k < n) : (prog Z S k)[k]? = S[k]? := by
  simp only [prog]
  rw [List.getElem?_append_right (by simp; omega)]
  simp [show min k Z.length = k by omega]
theorem prog_succ {α : Type} (Z S : List α) (k n : Nat) (hz : Z.length = n) (hs : S.length = n) (hk : k < n) (z : α) (e : Z[k]? = some z) : (prog Z S k).set k z = prog Z S (k + 1) := by
  obtain ⟨hk', e⟩ := List.getElem?_eq_some_iff.1 e
  apply List.ext_getElem?
  intro j
  simp only [prog]
  rw [List.getElem?_set]
  by_cases h1 : k = j
  · subst h1
    rw [if_pos rfl, if_pos (by simp; omega), List.getElem?_append_left (by simp; omega)]
    rw [List.getElem?_take_of_lt (by omega), List.getElem?_eq_getElem hk', e]
  · rw [if_neg h1]
    by_cases h2 : j < k
    · rw [List.getElem?_append_left (by simp; omega), List.getElem?_append_left (by simp; omega), List.getElem?_take_of_lt h2, List.getElem?_take_of_lt (by omega)]
    · rw [List.getElem?_append_right (by simp; omega), List.getElem?_append_right (by simp; omega)]
      simp only [List.length_take, List.getElem?_drop]
      congr 1; omega
theorem foldl_take_succ {α β : Type} (f : β → α → β) (z : β) (xs : List α) (k : Nat) (h : k < xs.length) : (xs.take (k + 1)).foldl f z = f ((xs.take k).foldl f z) xs[k] := by
  rw [List.take_succ_eq_append_getElem h, List.foldl_append]; rfl
end Go.By
namespace Go.By
open Go.RowKit
theorem grown_trans {a b c : World} {row : Option Nat} (h : a.grownBy b row) (k : b.grownBy c row) : a.grownBy c row :=
  ⟨k.os.trans h.os, k.tape.trans h.tape, k.output.trans h.output, Nat.le_trans h.size k.size, fun i hi hr => (k.block i (Nat.lt_of_lt_of_le hi h.size) hr).trans (h.block i hi hr)⟩
/-- a slice value '.slice p n c' that reads as the list xs -/
structure Sl {α : Type} (enc : α → Value) (w : World) (p : Option Addr) (n c : Nat) (xs : List α) : Prop where
  len : xs.length = n
  le : n ≤ c
  max : c ≤ maxLen
  nil : p = none → n = 0 ∧ c = 0
  rs : Rs enc w p xs
/-- so many bytes may be made -/
def Room (n : Nat) : Prop := n ≤ 140737488355328
theorem Room.of {n : Nat} (h : n ≤ 140737488355328) : Room n := h
theorem Room.le {n m : Nat} (h : Room n) (hm : m ≤ n) : Room m := Nat.le_trans hm h
section
variable {α : Type} {enc : α → Value} {w w' : World} {p : Option Addr} {n c : Nat} {xs : List α}
theorem Sl.keep (h : Sl enc w p n c xs) (hb : Below w.heap.size w w') : Sl enc w' p n c xs := ⟨h.len, h.le, h.max, h.nil, h.rs.keep hb⟩
theorem Sl.below {B : Nat} (h : Sl enc w p n c xs) (hb : Below B w w') (hB : ∀ a, p = some a → a.block < B) : Sl enc w' p n c xs := ⟨h.len, h.le, h.max, h.nil, h.rs.below hb hB⟩
theorem Sl.grown {row : Option Nat} (h : Sl enc w p n c xs) (hg : w.grownBy w' row) (hne : ∀ a, p = some a → some a.block ≠ row) : Sl enc w' p n c xs := ⟨h.len, h.le, h.max, h.nil, h.rs.grown hg hne⟩
theorem Sl.bound (h : Sl enc w p n c xs) : n ≤ 9223372036854775807 := by have := h.le; have := h.max; unfold maxLen at this; omega
theorem Sl.nil0 (enc : α → Value) (w : World) : Sl enc w none 0 0 ([] : List α) := ⟨rfl, Nat.le_refl _, by simp [maxLen], fun _ => ⟨rfl, rfl⟩, Rs.nil⟩
theorem Sl.of_owns {base e : Nat} (h : w.ownsRow base e 1 (.slice p n c) n (xs.map enc)) : Sl enc w p n c xs := by
  have hc := owns_cap h
  refine ⟨by simpa using owns_len h, hc.1, hc.2, fun hp => ?_, Rs.of_owns h⟩
  rcases h.2 with h2 | ⟨g, cap, cur, hv, _⟩
  · obtain ⟨h2, rfl⟩ := h2; simp at h2; simp [h2]
  · simp [hp] at hv
theorem Sl.at (h : Sl enc w p n c xs) (i : Nat) (hi : i < n) : ∃ b o x, p = some ⟨b, o, none⟩ ∧ w.cell? ⟨b, o + i, none⟩ = some (enc x) ∧ Hid (xs[i]? = some x) := by
  have hi' : i < xs.length := by rw [h.len]; exact hi
  obtain ⟨b, o, hp, hc⟩ := h.rs i hi'
  exact ⟨b, o, _, hp, hc, List.getElem?_eq_getElem hi'⟩
theorem owns_shape {base e size n : Nat} {v : Value} {ys : List Value} (h : w.ownsRow base e size v n ys) : ∃ q c, v = .slice q n c := by
  rcases h.2 with h2 | ⟨g, cap, cur, hv, _⟩
  · obtain ⟨h2, rfl⟩ := h2; exact ⟨none, 0, h2⟩
  · exact ⟨_, _, hv⟩
theorem owns_new {base e size n c : Nat} {ys : List Value} (h : w.ownsRow base e size (.slice p n c) n ys) : ∀ a, p = some a → base ≤ a.block ∧ a.block < w.heap.size := by
  intro a ha
  exact h.lt a.block (by simp [Value.ownBlock, ha])
/-- what is owned stays owned where only old blocks, or another's, may have been written -/
theorem owns_below {base B e size n c : Nat} {ys : List Value} (h : w.ownsRow base e size (.slice p n c) n ys) (hb : Below B w w') (hB : ∀ a, p = some a → a.block < B) : w'.ownsRow base e size (.slice p n c) n ys := by
  refine ⟨h.1, ?_⟩
  rcases h.2 with h2 | ⟨g, cap, cur, hv, hg, hh, r⟩
  · exact Or.inl h2
  · obtain ⟨rfl, rfl⟩ : p = some ⟨g, 0, none⟩ ∧ c = cap := by simpa using hv
    exact Or.inr ⟨g, c, cur, rfl, hg, (hb.block g (hB ⟨g, 0, none⟩ rfl)).trans hh, r⟩
theorem owns_keep {base e size n c : Nat} {ys : List Value} (h : w.ownsRow base e size (.slice p n c) n ys) (hb : Below w.heap.size w w') : w'.ownsRow base e size (.slice p n c) n ys :=
  owns_below h hb (fun a ha => (owns_new h a ha).2)
theorem owns_mono {base base' e size n : Nat} {v : Value} {ys : List Value} (h : w.ownsRow base e size v n ys) (hb : base' ≤ base) : w.ownsRow base' e size v n ys := by
  refine ⟨h.1, ?_⟩
  rcases h.2 with h2 | ⟨g, cap, cur, hv, hg, hh, r⟩
  · exact Or.inl h2
  · exact Or.inr ⟨g, cap, cur, hv, Nat.le_trans hb hg, hh, r⟩
end
/-- where the first is of which f holds; -1 -/
def idxf {α : Type} (f : α → Bool) (xs : List α) : Int := match xs.findIdx? f with
  | some i => i
  | none => -1
theorem idxf_found {α : Type} {f : α → Bool} {xs : List α} {k : Nat} {x : α} (hx : xs[k]? = some x) (hf : f x = true) (hb : ∀ j y, j < k → xs[j]? = some y → f y = false) : idxf f xs = k := by
  obtain ⟨hk, hx⟩ := List.getElem?_eq_some_iff.1 hx
  have : xs.findIdx? f = some k := by
    rw [List.findIdx?_eq_some_iff_getElem]
    exact ⟨hk, by rw [hx]; exact hf, fun j hj => by simp [hb j xs[j] hj (List.getElem?_eq_getElem (by omega))]⟩
  simp [idxf, this]
theorem idxf_none {α : Type} {f : α → Bool} {xs : List α} {k : Nat} (hk : k = xs.length) (hb : ∀ j y, j < k → xs[j]? = some y → f y = false) : idxf f xs = -1 := by
  have : xs.findIdx? f = none := by
    rw [List.findIdx?_eq_none_iff]
    intro x hx
    obtain ⟨j, hj, rfl⟩ := List.getElem_of_mem hx
    exact hb j _ (by omega) (List.getElem?_eq_getElem hj)
  simp [idxf, this]
theorem idxf_ge {α : Type} (f : α → Bool) (xs : List α) : decide (0 ≤ idxf f xs) = xs.any f := by
  unfold idxf
  cases h : xs.findIdx? f with
  | none =>
    rw [List.findIdx?_eq_none_iff] at h
    have : xs.any f = false := by rw [List.any_eq_false]; intro x hx; simp [h x hx]
    simp [this]
  | some i =>
    obtain ⟨hi, hf, _⟩ := List.findIdx?_eq_some_iff_getElem.1 h
    have : xs.any f = true := List.any_eq_true.2 ⟨_, List.getElem_mem hi, hf⟩
    simp [this]
/-- append(out, xs...) , out the call's own, xs whatever reads -/
theorem wpList_append_rs {P : Program} (w : World) {ops : Array Oper} {rest : List Oper} {o : Oper} {a : Act} {Q : Exit → Act → World → Prop} (hgd : o.guard = none) (s x : Operand) (t : TypeId)
    (ho : o.op = .call { callee := .builtin .append, args := #[s, x], argTypes := #[t, t] })
    (base : Nat) (e : TypeId) (i : TypeInfo) (z : Value) (bytes : Nat) (ht : P.underlying t = some (.slice e)) (hi : P.info? e = some i) (hz : i.zero = some z)
    (hsize : i.size = 1) (hby : i.bytes = bytes) (hzs : z.cells.size = 1)
    (v : Value) (n : Nat) (ys : List Value) (hs : a.eval s = v) (hown : w.ownsRow base e 1 v n ys)
    {α : Type} (enc : α → Value) (p : Option Addr) (m c : Nat) (news : List α) (henc : ∀ x, x ∈ news → (enc x).oneCell' = true) (hx : a.eval x = .slice p m c) (hrs : Sl enc w p m c news)
    (h63 : n + m ≤ maxLen) (hbytes : (n + m) * bytes ≤ 140737488355328) (hbase : base ≤ w.heap.size)
    (h : ∀ v' w', w'.ownsRow base e 1 v' (n + m) (ys ++ news.map enc) → w.grownBy w' v.ownBlock → wpList P ops Q rest (a.put o.dst v') w') : wpList P ops Q (o :: rest) a w := by
  cases p with
  | none =>
    obtain ⟨rfl, rfl⟩ := hrs.nil rfl
    have : news = [] := List.eq_nil_of_length_eq_zero hrs.len
    subst this
    refine wpList_append_own_none hgd s x t ho base e i 1 ht hi v n ys hs hown hx (h v w (by simpa using hown) (World.grownBy.refl _ _))
  | some ad =>
    refine wpList_append_own w hgd s x t ho base e i z 1 bytes ht hi hz hsize hby hzs (by decide) v n ys hs hown ad m c (news.map enc) hx (by simpa using hrs.len) ?_ ?_ h63 hbytes hbase (fun v' w' h1 h2 _ => h v' w' h1 h2)
    · intro j u hu
      obtain ⟨hj, hu⟩ := List.getElem?_eq_some_iff.1 hu
      obtain ⟨b, o', hp, hc⟩ := hrs.rs j (by simpa using hj)
      obtain rfl := Option.some.inj hp
      rw [Addr.add_lit, hc, ← hu]; simp
    · intro u hu
      obtain ⟨x, hx', rfl⟩ := List.mem_map.1 hu
      exact henc x hx'
end Go.By
namespace Go.By
open Go.RowKit
/-- a slice value '.slice p n c' of byte slices that reads as the list xss -/
structure Sl2 (w : World) (p : Option Addr) (n c : Nat) (xss : List (List UInt8)) : Prop where
  len : xss.length = n
  le : n ≤ c
  max : c ≤ maxLen
  nil : p = none → n = 0 ∧ c = 0
  rs : ∀ i xs, xss[i]? = some xs → ∃ b o q c', p = some ⟨b, o, none⟩ ∧ w.cell? ⟨b, o + i, none⟩ = some (.slice q xs.length c') ∧ Sl B8 w q xs.length c' xs
section
variable {w w' : World} {p : Option Addr} {n c : Nat} {xss : List (List UInt8)}
theorem Sl2.keep (h : Sl2 w p n c xss) (hb : Below w.heap.size w w') : Sl2 w' p n c xss :=
  ⟨h.len, h.le, h.max, h.nil, fun i xs hi => by
    obtain ⟨b, o, q, c', hp, hc, hs⟩ := h.rs i xs hi
    exact ⟨b, o, q, c', hp, (hb.cell (p := ⟨b, o + i, none⟩) (lt_of_cell hc)).trans hc, hs.keep hb⟩⟩
theorem Sl2.bound (h : Sl2 w p n c xss) : n ≤ 9223372036854775807 := by have := h.le; have := h.max; unfold maxLen at this; omega
theorem Sl2.nil0 (w : World) : Sl2 w none 0 0 [] := ⟨rfl, Nat.le_refl _, by simp [maxLen], fun _ => ⟨rfl, rfl⟩, fun i xs hi => by simp at hi⟩
theorem Sl2.at (h : Sl2 w p n c xss) (i : Nat) (hi : i < n) : ∃ b o q m c' xs, p = some ⟨b, o, none⟩ ∧ w.cell? ⟨b, o + i, none⟩ = some (.slice q m c') ∧ Sl B8 w q m c' xs ∧ Hid (xss[i]? = some xs) := by
  have hi' : i < xss.length := by rw [h.len]; exact hi
  obtain ⟨b, o, q, c', hp, hc, hs⟩ := h.rs i _ (List.getElem?_eq_getElem hi')
  exact ⟨b, o, q, _, c', _, hp, hc, hs, List.getElem?_eq_getElem hi'⟩
/-- the values of the elements -/
theorem Sl2.vals (h : Sl2 w p n c xss) : ∃ vs : List Value, Sl id w p n c vs ∧ ∀ (i : Nat) (v : Value), vs[i]? = some v → ∃ xs q c', xss[i]? = some xs ∧ v = Value.slice q xs.length c' ∧ Sl B8 w q xs.length c' xs := by
  refine ⟨List.ofFn (fun i : Fin n => (p.bind fun a => w.cell? (a.add i.val)).getD undef), ⟨by simp, h.le, h.max, h.nil, ?_⟩, ?_⟩
  · intro i hi
    have hi' : i < xss.length := by rw [h.len]; simpa using hi
    obtain ⟨b, o, q, c', hp, hc, hs⟩ := h.rs i _ (List.getElem?_eq_getElem hi')
    refine ⟨b, o, hp, ?_⟩
    simp [hp, Addr.add_lit, hc]
  · intro i v hv
    obtain ⟨hi, hv⟩ := List.getElem?_eq_some_iff.1 hv
    have hi' : i < xss.length := by rw [h.len]; simpa using hi
    obtain ⟨b, o, q, c', hp, hc, hs⟩ := h.rs i _ (List.getElem?_eq_getElem hi')
    refine ⟨_, q, c', List.getElem?_eq_getElem hi', ?_, hs⟩
    rw [← hv]
    simp [hp, Addr.add_lit, hc]
end
theorem calloc {w : World} {a : Addr} {v : Value} {o : Obj} (h : w.cell? a = some v) : (w.alloc o).cell? a = some v := by
  refine (World.cell?_of_block (a := a) ?_).trans h
  have := World.block_lt_of_cell? w _ h
  rw [heap_alloc, if_neg (by omega)]
theorem sl_one {α : Type} {enc : α → Value} {w : World} {g : Nat} {v : Value} {T : TypeId} {x : α} (hg : g = w.heap.size) (hv : v = enc x) : Sl enc (w.alloc (.cells #[v] T)) (some ⟨g, 0, none⟩) 1 1 [x] := by
  refine ⟨rfl, Nat.le_refl _, by simp [maxLen], fun h => by simp at h, ?_⟩
  intro i hi
  refine ⟨g, 0, rfl, ?_⟩
  have : i = 0 := by simp at hi; exact hi
  subst this
  rw [Nat.zero_add, cell_of_row _ _ 0 #[v] T (0, 0) (hnew hg)]
  simp [hv]
/-- two results: a new row, and a code -/
def RetB (T : TypeId) (w : World) (ys : List UInt8) (code : Int) (e : Ending) (w' : World) : Prop :=
  ∃ q m c', Hid (ys.length = m) ∧ e = .returned (.tuple #[.slice q m c', .int .i64 code]) ∧ w'.ownsRow w.heap.size T 1 (.slice q m c') m (ys.map B8) ∧ Below w.heap.size w w'
/-- one result: a new row -/
def RetB1 (T : TypeId) (w : World) (ys : List UInt8) (e : Ending) (w' : World) : Prop :=
  ∃ q m c', Hid (ys.length = m) ∧ e = .returned (.slice q m c') ∧ w'.ownsRow w.heap.size T 1 (.slice q m c') m (ys.map B8) ∧ Below w.heap.size w w'
theorem RetB.nil (T : TypeId) (w w' : World) (code : Int) (hb : Below w.heap.size w w') : RetB T w [] code (.returned (.tuple #[.slice none 0 0, .int .i64 code])) w' :=
  ⟨none, 0, 0, rfl, rfl, World.ownsRow_nil _ _ _ _, hb⟩
/-- a block of other memory does not meet what is new -/
theorem ne_of_new {w w' : World} {base e size n c : Nat} {q : Option Addr} {ys : List Value} (h : w'.ownsRow base e size (.slice q n c) n ys) {b : Nat} (hb : b < base) : ∀ a, q = some a → some b ≠ some a.block := by
  intro a ha e
  have := (owns_new h a ha).1
  simp at e; omega
end Go.By
namespace Go.By
open Go.RowKit
theorem sl_block {α : Type} {enc : α → Value} {W : World} {g T : Nat} {cs : Array Value} {fr : Nat × Nat} (xs : List α) (n : Nat) (hW : W.heap[g]? = some (.cells cs T fr)) (hcs : cs = (xs.map enc).toArray) (hn : xs.length = n) (hm : n ≤ maxLen) : Sl enc W (some ⟨g, 0, none⟩) n n xs := by
  subst hcs
  refine ⟨hn, Nat.le_refl _, hm, fun h => by simp at h, ?_⟩
  intro i hi
  refine ⟨g, 0, rfl, ?_⟩
  rw [Nat.zero_add, cell_of_row _ _ i _ T fr hW]
  simp [hi]
theorem sl2_block {W : World} {g T : Nat} {cs : Array Value} {fr : Nat × Nat} (xss : List (List UInt8)) (n : Nat) (hW : W.heap[g]? = some (.cells cs T fr)) (hs : cs.size = n) (hn : xss.length = n) (hm : n ≤ maxLen)
    (h : ∀ (i : Nat) (xs : List UInt8), xss[i]? = some xs → ∃ q m c', cs[i]? = some (Value.slice q m c') ∧ Sl B8 W q m c' xs) : Sl2 W (some ⟨g, 0, none⟩) n n xss := by
  refine ⟨hn, Nat.le_refl _, hm, fun h => by simp at h, ?_⟩
  intro i xs hi
  obtain ⟨q, m, c', hc, hsl⟩ := h i xs hi
  refine ⟨g, 0, q, c', rfl, ?_, by rw [hsl.len]; exact hsl⟩
  rw [Nat.zero_add, cell_of_row _ _ i _ T fr hW, hc, hsl.len]
theorem sl2_pair {W : World} {g T : Nat} {fr : Nat × Nat} {p1 p2 : Option Addr} {n1 n2 c1 c2 : Nat} {xs ys : List UInt8} (hW : W.heap[g]? = some (.cells #[.slice p1 n1 c1, .slice p2 n2 c2] T fr)) (h1 : Sl B8 W p1 n1 c1 xs) (h2 : Sl B8 W p2 n2 c2 ys) :
    Sl2 W (some ⟨g, 0, none⟩) 2 2 [xs, ys] := by
  refine sl2_block [xs, ys] 2 hW rfl rfl (by simp [maxLen]) ?_
  intro i zs hi
  match i, hi with
  | 0, hi => simp at hi; subst hi; exact ⟨p1, n1, c1, rfl, h1⟩
  | 1, hi => simp at hi; subst hi; exact ⟨p2, n2, c2, rfl, h2⟩
/-- a cell of an older block is written -/
theorem owns_set {w : World} {base e size n c B i : Nat} {p : Option Addr} {ys : List Value} {u : Value} (h : w.ownsRow base e size (.slice p n c) n ys) (hB : B < base) : (w.setCell ⟨B, i, none⟩ u).ownsRow base e size (.slice p n c) n ys :=
  ownsRow_setCell_below h hB u
theorem stp {B C : Nat} {W a b : World} (h1 : Below B W a) (h2 : Below C a b) (hC : a.heap.size = C) (h3 : B ≤ W.heap.size) : Below B W b := h1.trans (h2.mono (hC ▸ Nat.le_trans h3 h1.size))
/-- one call more -/
theorem bl {B : Nat} {w0 w1 w2 : World} (h : Below B w0 w1) (h2 : Below w1.heap.size w1 w2) (hB : B ≤ w1.heap.size) : Below B w0 w2 := h.trans (h2.mono hB)
theorem al {B : Nat} {w0 w1 : World} {o : Obj} (h : Below B w0 w1) (hB : B ≤ w1.heap.size) : Below B w0 (w1.alloc o) := h.alloc hB o
end Go.By
namespace Go.By
open Go.RowKit
/-- a slice value that owns a row of byte slices, each of which owns its bytes -/
def Own2 (T2 T1 : TypeId) (w : World) (base : Nat) (v : Value) (n : Nat) (xss : List (List UInt8)) : Prop :=
  ∃ vs : List Value, w.ownsRow base T2 1 v n vs ∧ xss.length = n ∧ ∀ (j : Nat) (val : Value), vs[j]? = some val → ∃ xs q c', xss[j]? = some xs ∧ val = Value.slice q xs.length c' ∧ w.ownsRow base T1 1 (.slice q xs.length c') xs.length (xs.map B8)
section
variable {T2 T1 : TypeId} {w w' : World} {base n : Nat} {v : Value} {xss : List (List UInt8)}
theorem Own2.nil (T2 T1 : TypeId) (w : World) (base : Nat) : Own2 T2 T1 w base (.slice none 0 0) 0 [] := ⟨[], World.ownsRow_nil _ _ _ _, rfl, fun j val h => by simp at h⟩
theorem owns_kept {e size : Nat} {v : Value} {ys : List Value} {row : Option Nat} (h : w.ownsRow base e size v n ys) (hg : w.grownBy w' row) (hne : ∀ k, v.ownBlock = some k → some k ≠ row) : w'.ownsRow base e size v n ys :=
  h.kept hg (by
    cases hv : v.ownBlock with
    | none => exact .inl rfl
    | some k => exact .inr (fun e => hne k hv e))
/-- rows of unlike element types lie in unlike blocks -/
theorem owns_ne {b1 b2 e1 e2 s1 s2 n1 n2 : Nat} {v1 v2 : Value} {ys1 ys2 : List Value} (h1 : w.ownsRow b1 e1 s1 v1 n1 ys1) (h2 : w.ownsRow b2 e2 s2 v2 n2 ys2) (he : e1 ≠ e2) : ∀ k, v1.ownBlock = some k → some k ≠ v2.ownBlock := by
  intro k hk
  rcases h1.2 with ⟨rfl, _⟩ | ⟨g1, c1, cur1, rfl, _, hh1, _⟩
  · simp [Value.ownBlock] at hk
  · simp [Value.ownBlock] at hk; subst hk
    rcases h2.2 with ⟨rfl, _⟩ | ⟨g2, c2, cur2, rfl, _, hh2, _⟩
    · simp [Value.ownBlock]
    · simp only [Value.ownBlock]
      intro e
      cases e
      rw [hh1] at hh2
      cases hh2; exact he rfl
theorem owns_keepv {e size : Nat} {ys : List Value} (h : w.ownsRow base e size v n ys) (hb : Below w.heap.size w w') : w'.ownsRow base e size v n ys := by
  obtain ⟨q, c, rfl⟩ := owns_shape h
  exact owns_keep h hb
theorem Own2.keep (h : Own2 T2 T1 w base v n xss) (hb : Below w.heap.size w w') : Own2 T2 T1 w' base v n xss := by
  obtain ⟨vs, h1, h2, h3⟩ := h
  exact ⟨vs, owns_keepv h1 hb, h2, fun j val hj => by
    obtain ⟨xs, q, c', a, b, c⟩ := h3 j val hj
    exact ⟨xs, q, c', a, b, owns_keep c hb⟩⟩
theorem Own2.sl2 {p : Option Addr} {c : Nat} (h : Own2 T2 T1 w base (.slice p n c) n xss) : Sl2 w p n c xss := by
  obtain ⟨vs, h1, h2, h3⟩ := h
  have hs : Sl id w p n c vs := Sl.of_owns (by rw [List.map_id]; exact h1)
  refine ⟨h2, hs.le, hs.max, hs.nil, ?_⟩
  intro i xs hi
  have hlt : i < vs.length := by
    have := (List.getElem?_eq_some_iff.1 hi).1
    rw [hs.len]; omega
  obtain ⟨b, o, hp, hc⟩ := hs.rs i hlt
  obtain ⟨xs', q, c', a1, a2, a3⟩ := h3 i _ (List.getElem?_eq_getElem hlt)
  have e := hi.symm.trans a1
  cases e
  exact ⟨b, o, q, c', hp, by rw [hc, id, a2], Sl.of_owns a3⟩
/-- one row more: what the law on append leaves -/
theorem Own2.push {q : Option Addr} {m c : Nat} {xs : List UInt8} {vs : List Value} {v' : Value} (hT : T1 ≠ T2) (h2 : xss.length = n)
    (h3 : ∀ (j : Nat) (val : Value), vs[j]? = some val → ∃ xs q c', xss[j]? = some xs ∧ val = Value.slice q xs.length c' ∧ w.ownsRow base T1 1 (.slice q xs.length c') xs.length (xs.map B8))
    (h1 : w.ownsRow base T2 1 v n vs) (hr : w.ownsRow base T1 1 (.slice q m c) m (xs.map B8)) (ho : w'.ownsRow base T2 1 v' (n + 1) (vs ++ [.slice q m c])) (hg : w.grownBy w' v.ownBlock) : Own2 T2 T1 w' base v' (n + 1) (xss ++ [xs]) := by
  have hvl : vs.length = n := by simpa using h1.1
  have hml : m = xs.length := by have := hr.1; simp at this; exact this.symm
  refine ⟨_, ho, by simp [h2], ?_⟩
  intro j val hj
  by_cases hjn : j < n
  · rw [List.getElem?_append_left (by omega)] at hj
    obtain ⟨ys, q', c', a, b, d⟩ := h3 j val hj
    exact ⟨ys, q', c', by rw [List.getElem?_append_left (by omega)]; exact a, b, owns_kept d hg (owns_ne d h1 hT)⟩
  · rw [List.getElem?_append_right (by omega)] at hj
    have hj0 : j = n := by
      have := (List.getElem?_eq_some_iff.1 hj).1
      simp at this; omega
    subst hj0
    rw [hvl] at hj
    simp at hj
    subst hj
    refine ⟨xs, q, c, by rw [List.getElem?_append_right (by omega), h2]; simp, by rw [hml], ?_⟩
    have := owns_kept hr hg (owns_ne hr h1 hT)
    rwa [hml] at this
end
end Go.By
namespace Go.By
open Go.RowKit
/-- what is said of a value, and lasts while old memory stays -/
structure Shp where
  ok : Value → World → Prop
  keep : ∀ (v : Value) (w w' : World), ok v w → Below w.heap.size w w' → ok v w'
def Shp.val (u : Value) : Shp := ⟨fun v _ => v = u, fun _ _ _ h _ => h⟩
def Shp.any : Shp := ⟨fun _ _ => True, fun _ _ _ h _ => h⟩
def Shp.tru : Shp := Shp.val (.bool true)
def BytesIs (xs : List UInt8) (v : Value) (w : World) : Prop := ∃ p n c, v = .slice p n c ∧ Sl B8 w p n c xs
def RowIs (r : List UInt8 × List UInt8) (v : Value) (w : World) : Prop := ∃ p1 n1 c1 p2 n2 c2, v = .agg #[.slice p1 n1 c1, .slice p2 n2 c2] ∧ Sl B8 w p1 n1 c1 r.1 ∧ Sl B8 w p2 n2 c2 r.2
def RowsIs (xss : List (List UInt8)) (v : Value) (w : World) : Prop := ∃ p n c, v = .slice p n c ∧ Sl2 w p n c xss
def Shp.bytes (xs : List UInt8) : Shp := ⟨BytesIs xs, fun _ _ _ ⟨p, n, c, e, h⟩ hb => ⟨p, n, c, e, h.keep hb⟩⟩
def Shp.row (r : List UInt8 × List UInt8) : Shp := ⟨RowIs r, fun _ _ _ ⟨p1, n1, c1, p2, n2, c2, e, h1, h2⟩ hb => ⟨p1, n1, c1, p2, n2, c2, e, h1.keep hb, h2.keep hb⟩⟩
def Shp.rows (xss : List (List UInt8)) : Shp := ⟨RowsIs xss, fun _ _ _ ⟨p, n, c, e, h⟩ hb => ⟨p, n, c, e, h.keep hb⟩⟩
/-- the slots that the operations write are unlike -/
def distB (ops : Array Oper) : Bool := (List.range ops.size).all fun i => (List.range ops.size).all fun j => i == j || match ops[i]?, ops[j]? with
  | some oi, some oj => (match oi.dst, oj.dst with
    | some x, some y => x != y
    | _, _ => true)
  | _, _ => true
def dstOf (ops : Array Oper) (i : Nat) : Option Nat := (ops[i]?).bind (·.dst)
def InvS (ops : Array Oper) (sh : Nat → Shp) (i : Nat) (σ : Nat → Value) (w : World) : Prop := match dstOf ops i with
  | some d => (sh i).ok (σ d) w
  | none => True
/-- what is to be shown of one operation -/
def StepS (P : Program) (ops : Array Oper) (Q : Exit → Act → World → Prop) (a0 : Act) (W0 : World) (sh : Nat → Shp) (i : Nat) (o : Oper) : Prop :=
  ∀ (a : Act) (w : World), Below W0.heap.size W0 w → a.tmps.size = a0.tmps.size → (∀ k, k ∈ preds o → InvS ops sh k (sl a) w) → (∀ t, initAt ops i t = true → sl a t = sl a0 t) →
    if Region.wanted o (yielded ops a.tmps) = true then o.wp P a w (fun a' w' => ∃ v, a' = a.put o.dst v ∧ Below w.heap.size w w' ∧ (sh i).ok v w') Q
    else (sh i).ok undef w
def EachS (P : Program) (ops : Array Oper) (Q : Exit → Act → World → Prop) (a0 : Act) (W0 : World) (sh : Nat → Shp) : List Oper → Nat → Prop
  | [], _ => True
  | o :: rest, i => StepS P ops Q a0 W0 sh i o ∧ EachS P ops Q a0 W0 sh rest (i + 1)
/-- every operation writes a slot of the frame -/
def dstsB (ops : Array Oper) (n : Nat) : Bool := ops.toList.all fun o => match o.dst with
  | some d => decide (d < n)
  | none => false
theorem each_of {P : Program} {ops : Array Oper} {Q : Exit → Act → World → Prop} {a0 : Act} {W0 : World} {sh : Nat → Shp} {n : Nat} (hn : a0.tmps.size = n) : ∀ (l : List Oper) (k : Nat), (∀ j o, l[j]? = some o → ops[k + j]? = some o) → (l.all fun o => match o.dst with | some d => decide (d < n) | none => false) = true →
    EachS P ops Q a0 W0 sh l k → Each P ops Q a0 W0 (fun W w => Below W.heap.size W w) (fun _ w w' => Below w.heap.size w w') (InvS ops sh) l k := by
  intro l
  induction l with
  | nil => intro k _ _ _; trivial
  | cons o l ih =>
    intro k hk hd h
    simp only [List.all_cons, Bool.and_eq_true] at hd
    refine ⟨?_, ih (k + 1) (fun j o' hj => by have := hk (j + 1) o' (by simpa using hj); rwa [show k + (j + 1) = k + 1 + j by omega] at this) hd.2 h.2⟩
    intro a w hE hs hp hi
    have ho : ops[k]? = some o := by have := hk 0 o (by simp); simpa using this
    have hs1 := h.1 a w hE hs hp hi
    cases hdo : o.dst with
    | none => rw [hdo] at hd; simp at hd
    | some d =>
      rw [hdo] at hd
      have hd1 : d < n := of_decide_eq_true hd.1
      have hdn : d < a.tmps.size := by rw [hs, hn]; exact hd1
      have hdst : dstOf ops k = some d := by simp [dstOf, ho, hdo]
      split
      · rename_i hw
        rw [if_pos hw] at hs1
        refine Oper.wp_mono ?_ hs1
        rintro a' w' ⟨v, e, hb, hok⟩
        refine ⟨v, e.trans (by rw [hdo]), hb, ?_⟩
        unfold InvS
        rw [hdst]
        show (sh k).ok (sl a' d) w'
        rw [e, hdo, put_same _ _ _ hdn]; exact hok
      · rename_i hw
        rw [if_neg hw] at hs1
        refine ⟨Below.refl _ _, ?_⟩
        unfold InvS
        rw [hdst]
        show (sh k).ok (sl (a.put (some d) undef) d) w
        rw [put_same _ _ _ hdn]; exact hs1
theorem wp_region_shapes {P : Program} {ops : Array Oper} {Q : Exit → Act → World → Prop} {id : Nat} {a0 : Act} {w0 : World} (sh : Nat → Shp) (n : Nat) (hn : a0.tmps.size = n) (hm : P.follows .mixedOrders = true) (hback : backB ops = true) (hdist : distB ops = true) (hdsts : dstsB ops n = true)
    (each : EachS P ops Q a0 w0.drew sh ops.toList 0)
    (fin : ∀ a w, Below w0.heap.size w0 w → a.tmps.size = a0.tmps.size → a.defers = a0.defers → (∀ j, j < ops.size → InvS ops sh j (sl a) w) → (∀ t, (ops.toList.all fun o => o.dst != some t) = true → sl a t = sl a0 t) → Q .normal a w) :
    (Code.region id ops true).wp P Q a0 w0 := by
  refine wp_region_each hm hback (fun W w => Below W.heap.size W w) (fun _ w w' => Below w.heap.size w w') (InvS ops sh) (Below.refl _ _) (fun i w w' h hR => h.trans (hR.mono h.size)) ?_ (each_of hn _ 0 (fun j o hj => by simpa using hj) hdsts each) (fun a w hE hs hd hI ht => fin a w ⟨hE.os, hE.tape, hE.output, hE.size, hE.block⟩ hs hd hI ht)
  intro i j oi oj σ σ' w w' hij hoi hoj _ hI hR hσ _ _
  unfold InvS at hI ⊢
  cases hdj : dstOf ops j with
  | none => trivial
  | some d =>
    rw [hdj] at hI
    show (sh j).ok (σ' d) w'
    have hne : oi.dst ≠ some d := by
      intro e
      have hi' : i < ops.size := (Array.getElem?_eq_some_iff.1 hoi).1
      have hj' : j < ops.size := (Array.getElem?_eq_some_iff.1 hoj).1
      have := List.all_eq_true.1 (List.all_eq_true.1 hdist i (List.mem_range.2 hi')) j (List.mem_range.2 hj')
      rw [hoi, hoj] at this
      have hdj' : oj.dst = some d := by simpa [dstOf, hoj] using hdj
      simp [e, hdj', hij] at this
    rw [hσ d hne]
    exact (sh j).keep _ _ _ hI hR
/-- the guard says yes -/
theorem wanted_yes {ops : Array Oper} {o : Oper} {a : Act} {j : Nat} {b : Bool} {d : Nat} (hg : o.guard = some (j, b)) (hd : dstOf ops j = some d) (hs : d < a.tmps.size) (hv : sl a d = .bool b) : Region.wanted o (yielded ops a.tmps) = true := by
  have h1 : a.tmps[d]? = some (.bool b) := by
    have := hv
    simp only [sl, Array.getD_eq_getD_getElem?, Array.getElem?_eq_getElem hs, Option.getD_some] at this
    rw [Array.getElem?_eq_getElem hs, this]
  unfold dstOf at hd
  simp [Region.wanted, hg, yielded, hd, h1]
theorem ite_y {c : Prop} [Decidable c] {A B : Prop} (hc : c) (h : A) : if c then A else B := by rw [if_pos hc]; exact h
/-- an operation that gives a value -/
theorem wp_val {P : Program} {o : Oper} {a : Act} {w : World} {K : Act → World → Prop} {Q : Exit → Act → World → Prop} (v : Value) (hrun : (execOp a.eval o).run P w = .ok (.value v) w) (h : K (a.put o.dst v) w) : o.wp P a w K Q := by
  unfold Oper.wp; rw [hrun]; exact h
theorem wp_val' {P : Program} {o : Oper} {a : Act} {w w' : World} {K : Act → World → Prop} {Q : Exit → Act → World → Prop} (v : Value) (hrun : (execOp a.eval o).run P w = .ok (.value v) w') (h : K (a.put o.dst v) w') : o.wp P a w K Q := by
  unfold Oper.wp; rw [hrun]; exact h
/-- an operation that calls -/
theorem wp_enter {P : Program} {o : Oper} {a : Act} {w : World} {K : Act → World → Prop} {Q : Exit → Act → World → Prop} (f : FuncId) (args : Array Value) (hrun : (execOp a.eval o).run P w = .ok (.enter f args) w)
    {R : Ending → World → Prop} (hc : Calls P f args w R) (h : ∀ e w', R e w' → ∃ v, e = .returned v ∧ K (a.put o.dst v) w') : o.wp P a w K Q := by
  unfold Oper.wp; rw [hrun]
  show Calls P f args w _
  refine hc.mono ?_
  intro e w' hr
  obtain ⟨v, rfl, hk⟩ := h e w' hr
  exact hk
end Go.By
namespace Go.By
open Go.RowKit
/-- a store into a block of element type X, numbered B or more -/
structure StepX (B X : Nat) (w w' : World) : Prop where
  os : w'.os = w.os
  tape : w'.tape = w.tape
  output : w'.output = w.output
  size : w.heap.size ≤ w'.heap.size
  keep : ∀ k, k < w.heap.size → (k < B ∨ ∀ (cs : Array Value) fr, w.heap[k]? ≠ some (Obj.cells cs X fr)) → w'.heap[k]? = w.heap[k]?
  cells : ∀ (k : Nat) (cs : Array Value), w.heap[k]? = some (Obj.cells cs X (0, 0)) → ∃ cs' : Array Value, cs'.size = cs.size ∧ w'.heap[k]? = some (Obj.cells cs' X (0, 0))
/-- a slice whose cells no such store meets -/
def Away (B X : Nat) (w : World) (p : Option Addr) (n : Nat) : Prop := ∀ a, p = some a → 0 < n → a.block < B ∨ ∀ (cs : Array Value) fr, w.heap[a.block]? ≠ some (Obj.cells cs X fr)
section
variable {B X : Nat} {w w' : World}
theorem Away.keep {α : Type} {enc : α → Value} {p : Option Addr} {n c : Nat} {xs : List α} (h : Away B X w p n) (hs : Sl enc w p n c xs) (hb : Below w.heap.size w w') : Away B X w' p n := by
  intro a ha hn
  rcases h a ha hn with h | h
  · exact .inl h
  · right
    obtain ⟨b, o, hp, hlt⟩ := hs.rs.lt (by rw [hs.len]; exact hn)
    rw [ha] at hp; cases hp
    rw [hb.block b hlt]; exact h
theorem Away.step {α : Type} {enc : α → Value} {p : Option Addr} {n c : Nat} {xs : List α} (h : Away B X w p n) (hs : Sl enc w p n c xs) (hb : StepX B X w w') : Away B X w' p n ∧ Sl enc w' p n c xs := by
  have key : ∀ a, p = some a → 0 < n → w'.heap[a.block]? = w.heap[a.block]? := by
    intro a ha hn
    obtain ⟨b, o, hp, hlt⟩ := hs.rs.lt (by rw [hs.len]; exact hn)
    rw [ha] at hp; cases hp
    exact hb.keep b hlt (h _ ha hn)
  refine ⟨?_, hs.len, hs.le, hs.max, hs.nil, ?_⟩
  · intro a ha hn
    rcases h a ha hn with h | h
    · exact .inl h
    · exact .inr (by rw [key a ha hn]; exact h)
  · intro i hi
    obtain ⟨b, o, hp, hc⟩ := hs.rs i hi
    refine ⟨b, o, hp, (World.cell?_of_block (a := ⟨b, o + i, none⟩) ?_).trans hc⟩
    exact key ⟨b, o, none⟩ hp (by rw [← hs.len]; omega)
theorem Away.old {α : Type} {enc : α → Value} {W : World} {p : Option Addr} {n c : Nat} {xs : List α} (hs : Sl enc W p n c xs) (hB : W.heap.size ≤ B) : Away B X w p n := by
  intro a ha hn
  obtain ⟨b, o, hp, hlt⟩ := hs.rs.lt (by rw [hs.len]; exact hn)
  rw [ha] at hp; cases hp
  exact .inl (by show b < B; omega)
theorem Away.own {base e n c : Nat} {p : Option Addr} {ys : List Value} (h : w.ownsRow base e 1 (.slice p n c) n ys) (he : e ≠ X) : Away B X w p n := by
  intro a ha hn
  right
  intro cs fr hcs
  rcases h.2 with ⟨h2, _⟩ | ⟨g, cap, cur, hv, _, hh, _⟩
  · simp at h2; rw [h2.1] at ha; cases ha
  · obtain ⟨rfl, _⟩ : p = some ⟨g, 0, none⟩ ∧ c = cap := by simpa using hv
    cases ha
    rw [hh] at hcs; cases hcs; exact he rfl
end
structure ShX (B X : Nat) where
  ok : Value → World → Prop
  keep : ∀ (v : Value) (w w' : World), ok v w → Below w.heap.size w w' → ok v w'
  step : ∀ (v : Value) (w w' : World), ok v w → StepX B X w w' → ok v w'
def XBytes (B X : Nat) (xs : List UInt8) (v : Value) (w : World) : Prop := ∃ p n c, v = .slice p n c ∧ Sl B8 w p n c xs ∧ Away B X w p n
def XRow (B X : Nat) (r : List UInt8 × List UInt8) (v : Value) (w : World) : Prop := ∃ p1 n1 c1 p2 n2 c2, v = .agg #[.slice p1 n1 c1, .slice p2 n2 c2] ∧ (Sl B8 w p1 n1 c1 r.1 ∧ Away B X w p1 n1) ∧ (Sl B8 w p2 n2 c2 r.2 ∧ Away B X w p2 n2)
def XRowT (B X : Nat) (r : List UInt8 × List UInt8) (code : Int) (v : Value) (w : World) : Prop := ∃ u, v = .tuple #[u, .int .i64 code] ∧ XRow B X r u w
def XBox (B X size : Nat) (v : Value) (w : World) : Prop := ∃ b cs, v = .pointer (some ⟨b, 0, none⟩) ∧ B ≤ b ∧ cs.size = size ∧ w.heap[b]? = some (.cells cs X (0, 0))
section
variable (B X : Nat)
def ShX.val (u : Value) : ShX B X := ⟨fun v _ => v = u, fun _ _ _ h _ => h, fun _ _ _ h _ => h⟩
def ShX.any : ShX B X := ⟨fun _ _ => True, fun _ _ _ h _ => h, fun _ _ _ h _ => h⟩
def ShX.bytes (xs : List UInt8) : ShX B X := ⟨XBytes B X xs, fun _ _ _ ⟨p, n, c, e, h, k⟩ hb => ⟨p, n, c, e, h.keep hb, k.keep h hb⟩, fun _ _ _ ⟨p, n, c, e, h, k⟩ hb => ⟨p, n, c, e, (k.step h hb).2, (k.step h hb).1⟩⟩
theorem XRow.keep {B X : Nat} {r : List UInt8 × List UInt8} {v : Value} {w w' : World} (h : XRow B X r v w) (hb : Below w.heap.size w w') : XRow B X r v w' := by
  obtain ⟨p1, n1, c1, p2, n2, c2, e, ⟨h1, k1⟩, ⟨h2, k2⟩⟩ := h
  exact ⟨p1, n1, c1, p2, n2, c2, e, ⟨h1.keep hb, k1.keep h1 hb⟩, ⟨h2.keep hb, k2.keep h2 hb⟩⟩
theorem XRow.step {B X : Nat} {r : List UInt8 × List UInt8} {v : Value} {w w' : World} (h : XRow B X r v w) (hb : StepX B X w w') : XRow B X r v w' := by
  obtain ⟨p1, n1, c1, p2, n2, c2, e, ⟨h1, k1⟩, ⟨h2, k2⟩⟩ := h
  exact ⟨p1, n1, c1, p2, n2, c2, e, ⟨(k1.step h1 hb).2, (k1.step h1 hb).1⟩, ⟨(k2.step h2 hb).2, (k2.step h2 hb).1⟩⟩
def ShX.row (r : List UInt8 × List UInt8) : ShX B X := ⟨XRow B X r, fun _ _ _ h hb => h.keep hb, fun _ _ _ h hb => h.step hb⟩
def ShX.rowT (r : List UInt8 × List UInt8) (code : Int) : ShX B X := ⟨XRowT B X r code, fun _ _ _ ⟨u, e, h⟩ hb => ⟨u, e, h.keep hb⟩, fun _ _ _ ⟨u, e, h⟩ hb => ⟨u, e, h.step hb⟩⟩
def ShX.box (size : Nat) : ShX B X := ⟨XBox B X size, fun _ _ _ ⟨b, cs, e, hb, hs, hh⟩ hw => ⟨b, cs, e, hb, hs, (hw.block b (lt_of_block hh)).trans hh⟩,
  fun _ _ _ ⟨b, cs, e, hb, hs, hh⟩ hw => by
    obtain ⟨cs', h1, h2⟩ := hw.cells b cs hh
    exact ⟨b, cs', e, hb, h1.trans hs, h2⟩⟩
end
/-- behind the store: the box in slot t holds a value that reads so -/
def Boxed (B X t : Nat) (s : ShX B X) (σ : Nat → Value) (w : World) : Prop := ∃ b cs, σ t = .pointer (some ⟨b, 0, none⟩) ∧ B ≤ b ∧ w.heap[b]? = some (.cells cs X (0, 0)) ∧ s.ok (.agg cs) w
def InvX (ops : Array Oper) (B X : Nat) (sh : Nat → ShX B X) (st t : Nat) (s : ShX B X) (i : Nat) (σ : Nat → Value) (w : World) : Prop :=
  if i = st then Boxed B X t s σ w else match dstOf ops i with
  | some d => (sh i).ok (σ d) w
  | none => True
def RX (B X st : Nat) (i : Nat) (w w' : World) : Prop := if i = st then StepX B X w w' else Below w.heap.size w w'
/-- all that was there stays -/
def EX (B : Nat) (W w : World) : Prop := Below B W w ∧ W.heap.size ≤ w.heap.size
def StepXS (P : Program) (ops : Array Oper) (Q : Exit → Act → World → Prop) (a0 : Act) (W0 : World) (B X : Nat) (sh : Nat → ShX B X) (st t : Nat) (s : ShX B X) (i : Nat) (o : Oper) : Prop :=
  ∀ (a : Act) (w : World), Below B W0 w → a.tmps.size = a0.tmps.size → (∀ k, k ∈ preds o → InvX ops B X sh st t s k (sl a) w) → (∀ u, initAt ops i u = true → sl a u = sl a0 u) →
    if Region.wanted o (yielded ops a.tmps) = true then o.wp P a w (fun a' w' => ∃ v, a' = a.put o.dst v ∧ RX B X st i w w' ∧ (if i = st then Boxed B X t s (sl a) w' else (sh i).ok v w')) Q
    else i ≠ st ∧ (sh i).ok undef w
def EachX (P : Program) (ops : Array Oper) (Q : Exit → Act → World → Prop) (a0 : Act) (W0 : World) (B X : Nat) (sh : Nat → ShX B X) (st t : Nat) (s : ShX B X) : List Oper → Nat → Prop
  | [], _ => True
  | o :: rest, i => StepXS P ops Q a0 W0 B X sh st t s i o ∧ EachX P ops Q a0 W0 B X sh st t s rest (i + 1)
/-- the store writes no slot, all others do; the box's slot is written by one that the store waits for -/
def dstsX (ops : Array Oper) (n st t : Nat) : Bool := (List.range ops.size).all fun i => match ops[i]? with
  | some o => (match o.dst with
    | some d => decide (d < n) && i != st && (d != t || (match ops[st]? with
      | some os => (preds os).contains i
      | none => false))
    | none => i == st)
  | none => true
theorem eachX_of {P : Program} {ops : Array Oper} {Q : Exit → Act → World → Prop} {a0 : Act} {W0 : World} {B X : Nat} {sh : Nat → ShX B X} {st t : Nat} {s : ShX B X} {n : Nat} (hn : a0.tmps.size = n) (hd : dstsX ops n st t = true) : ∀ (l : List Oper) (k : Nat), (∀ j o, l[j]? = some o → ops[k + j]? = some o) →
    EachX P ops Q a0 W0 B X sh st t s l k → Each P ops Q a0 W0.drew (fun W w => Below B W w) (RX B X st) (InvX ops B X sh st t s) l k := by
  intro l
  induction l with
  | nil => intro k _ _; trivial
  | cons o l ih =>
    intro k hk h
    refine ⟨?_, ih (k + 1) (fun j o' hj => by have := hk (j + 1) o' (by simpa using hj); rwa [show k + (j + 1) = k + 1 + j by omega] at this) h.2⟩
    intro a w hE hs hp hi
    have ho : ops[k]? = some o := by have := hk 0 o (by simp); simpa using this
    have hks : k < ops.size := (Array.getElem?_eq_some_iff.1 ho).1
    have hdk := List.all_eq_true.1 hd k (List.mem_range.2 hks)
    rw [ho] at hdk
    dsimp only at hdk
    have hs1 := h.1 a w ⟨hE.os, hE.tape, hE.output, hE.size, hE.block⟩ hs hp hi
    cases hdo : o.dst with
    | none =>
      rw [hdo] at hdk
      dsimp only at hdk
      have hkst : k = st := by simpa using hdk
      split
      · rename_i hw
        rw [if_pos hw] at hs1
        refine Oper.wp_mono ?_ hs1
        rintro a' w' ⟨v, e, hb, hok⟩
        rw [if_pos hkst] at hok
        refine ⟨v, e.trans (by rw [hdo]), hb, ?_⟩
        unfold InvX
        rw [if_pos hkst, e, hdo]; exact hok
      · rename_i hw
        rw [if_neg hw] at hs1
        exact absurd hkst hs1.1
    | some d =>
      rw [hdo] at hdk
      dsimp only at hdk
      simp only [Bool.and_eq_true, decide_eq_true_eq, bne_iff_ne] at hdk
      have hkst : k ≠ st := hdk.1.2
      have hdn : d < a.tmps.size := by rw [hs, hn]; exact hdk.1.1
      have hdst : dstOf ops k = some d := by simp [dstOf, ho, hdo]
      split
      · rename_i hw
        rw [if_pos hw] at hs1
        refine Oper.wp_mono ?_ hs1
        rintro a' w' ⟨v, e, hb, hok⟩
        rw [if_neg hkst] at hok
        refine ⟨v, e.trans (by rw [hdo]), hb, ?_⟩
        unfold InvX
        rw [if_neg hkst, hdst]
        show (sh k).ok (sl a' d) w'
        rw [e, hdo, put_same _ _ _ hdn]; exact hok
      · rename_i hw
        rw [if_neg hw] at hs1
        refine ⟨?_, ?_⟩
        · unfold RX; rw [if_neg hkst]; exact Below.refl _ _
        · unfold InvX
          rw [if_neg hkst, hdst]
          show (sh k).ok (sl (a.put (some d) undef) d) w
          rw [put_same _ _ _ hdn]; exact hs1.2
theorem stepX_below {B X : Nat} {W w w' : World} (hE : Below B W w) (h : StepX B X w w') (hB : B ≤ W.heap.size) : Below B W w' :=
  hE.trans ⟨h.os, h.tape, h.output, h.size, fun k hk => h.keep k (by have := hE.size; omega) (.inl hk)⟩
theorem wp_region_boxed {P : Program} {ops : Array Oper} {Q : Exit → Act → World → Prop} {id : Nat} {a0 : Act} {w0 : World} (X : Nat) (sh : Nat → ShX w0.heap.size X) (st t : Nat) (s : ShX w0.heap.size X) (n : Nat) (hn : a0.tmps.size = n) (hm : P.follows .mixedOrders = true) (hback : backB ops = true) (hdist : distB ops = true) (hdsts : dstsX ops n st t = true)
    (each : EachX P ops Q a0 w0 w0.heap.size X sh st t s ops.toList 0)
    (fin : ∀ a w, Below w0.heap.size w0 w → a.tmps.size = a0.tmps.size → a.defers = a0.defers → (∀ j, j < ops.size → InvX ops w0.heap.size X sh st t s j (sl a) w) → (∀ u, (ops.toList.all fun o => o.dst != some u) = true → sl a u = sl a0 u) → Q .normal a w) :
    (Code.region id ops true).wp P Q a0 w0 := by
  refine wp_region_each hm hback (fun W w => Below w0.heap.size W w) (RX w0.heap.size X st) (InvX ops w0.heap.size X sh st t s) (Below.refl _ _) ?_ ?_ (eachX_of (W0 := w0) hn hdsts ops.toList 0 (fun j o hj => by simpa using hj) each) (fun a w hE hs hd hI ht => fin a w ⟨hE.os, hE.tape, hE.output, hE.size, hE.block⟩ hs hd hI ht)
  · intro i w w' h hR
    unfold RX at hR
    split at hR
    · exact stepX_below h hR (Nat.le_refl _)
    · exact h.trans (hR.mono h.size)
  intro i j oi oj σ σ' w w' hij hoi hoj _ hI hR hσ _ hord
  have hi' : i < ops.size := (Array.getElem?_eq_some_iff.1 hoi).1
  have hj' : j < ops.size := (Array.getElem?_eq_some_iff.1 hoj).1
  have hdi := List.all_eq_true.1 hdsts i (List.mem_range.2 hi')
  rw [hoi] at hdi
  dsimp only at hdi
  unfold InvX at hI ⊢
  by_cases hjs : j = st
  · rw [if_pos hjs] at hI ⊢
    obtain ⟨b, cs, hb, hBb, hh, hok⟩ := hI
    have his : i ≠ st := fun e => hij (e.trans hjs.symm)
    unfold RX at hR
    rw [if_neg his] at hR
    have hne : oi.dst ≠ some t := by
      intro e
      rw [e] at hdi
      dsimp only at hdi
      simp only [Bool.and_eq_true, decide_eq_true_eq, bne_self_eq_false, Bool.false_or] at hdi
      have h2 := hdi.2
      rw [← hjs, hoj] at h2
      exact hord t e (by simpa using h2)
    exact ⟨b, cs, by rw [hσ t hne]; exact hb, hBb, (hR.block b (lt_of_block hh)).trans hh, s.keep _ _ _ hok hR⟩
  · rw [if_neg hjs] at hI ⊢
    cases hdj : dstOf ops j with
    | none => trivial
    | some d =>
      rw [hdj] at hI
      show (sh j).ok (σ' d) w'
      have hne : oi.dst ≠ some d := by
        intro e
        have := List.all_eq_true.1 (List.all_eq_true.1 hdist i (List.mem_range.2 hi')) j (List.mem_range.2 hj')
        rw [hoi, hoj] at this
        have hdj' : oj.dst = some d := by simpa [dstOf, hoj] using hdj
        simp [e, hdj', hij] at this
      rw [hσ d hne]
      unfold RX at hR
      by_cases his : i = st
      · rw [if_pos his] at hR; exact (sh j).step _ _ _ hI hR
      · rw [if_neg his] at hR; exact (sh j).keep _ _ _ hI hR
/-- a store of a whole value into a box is such a step -/
theorem stepX_setRow {B X b : Nat} {w : World} {cs cs' : Array Value} (hb : B ≤ b) (h : w.heap[b]? = some (.cells cs X (0, 0))) (hs : cs'.size = cs.size) : StepX B X w (w.setRow b cs') := by
  refine ⟨rfl, rfl, rfl, by simp, ?_, ?_⟩
  · intro k hk hp
    simp only [World.setRow, Array.getElem?_modify]
    have : b ≠ k := by
      rintro rfl
      rcases hp with hp | hp
      · omega
      · exact hp _ _ h
    rw [if_neg this]
  · intro k cs1 h1
    by_cases e : k = b
    · subst e
      rw [h] at h1; cases h1
      exact ⟨cs', hs, hrs h⟩
    · exact ⟨cs1, rfl, hro h1 e⟩
end Go.By
namespace Go.By
open Go.RowKit
theorem putAll_size (a : Act) : ∀ (ws : List Nat) (b : Act), (ws.foldl (fun b t => b.put (some t) (sl a t)) b).tmps.size = b.tmps.size := by
  intro ws
  induction ws with
  | nil => intro b; rfl
  | cons t ws ih => intro b; rw [List.foldl_cons, ih]; simp [Act.put]
theorem putAll_sl (a : Act) : ∀ (ws : List Nat) (b : Act) (n : Nat), a.tmps.size = n → b.tmps.size = n → (∀ t, t < n → t ∉ ws → sl b t = sl a t) → ∀ t, t < n → sl (ws.foldl (fun b t => b.put (some t) (sl a t)) b) t = sl a t := by
  intro ws
  induction ws with
  | nil => intro b n ha hb h t ht; exact h t ht (by simp)
  | cons u ws ih =>
    intro b n ha hb h t ht
    rw [List.foldl_cons]
    refine ih _ n ha (by simp [Act.put, hb]) ?_ t ht
    intro s hs hn
    by_cases e : s = u
    · subst e; exact put_same _ _ _ (by rw [hb]; exact hs)
    · have h1 := h s hs (by simp [e, hn])
      rw [← h1]
      simp [sl, Act.put, Array.getD_eq_getD_getElem?, Array.getElem?_setIfInBounds, show ¬ u = s from fun h => e h.symm]
theorem putAll_defers (a : Act) : ∀ (ws : List Nat) (b : Act), (ws.foldl (fun b t => b.put (some t) (sl a t)) b).defers = b.defers := by
  intro ws
  induction ws with
  | nil => intro b; rfl
  | cons t ws ih => intro b; rw [List.foldl_cons, ih]; rfl
/-- the frame behind the region: the written slots, the others as before -/
theorem act_is {ops : Array Oper} {a a0 : Act} (ws : List Nat) (hs : a.tmps.size = a0.tmps.size) (hd : a.defers = a0.defers) (hrest : ∀ t, (ops.toList.all fun o => o.dst != some t) = true → sl a t = sl a0 t)
    (hws : (ops.toList.all fun o => match o.dst with | some t => ws.contains t | none => true) = true) : a = ws.foldl (fun b t => b.put (some t) (sl a t)) a0 := by
  have key := putAll_sl a ws a0 a.tmps.size rfl hs.symm (by
    intro t _ hn
    refine (hrest t ?_).symm
    refine List.all_eq_true.2 fun o ho => ?_
    have := List.all_eq_true.1 hws o ho
    cases hdo : o.dst with
    | none => simp
    | some u =>
      rw [hdo] at this
      have hu : u ∈ ws := by simpa using this
      have : u ≠ t := fun e => hn (e ▸ hu)
      simpa using this)
  have h1 := putAll_size a ws a0
  have h2 := putAll_defers a ws a0
  generalize ws.foldl (fun b t => b.put (some t) (sl a t)) a0 = b at key h1 h2
  obtain ⟨ta, da⟩ := a
  obtain ⟨tb, db⟩ := b
  simp only at h1 h2 hd key hs
  have e1 : ta = tb := by
    refine Array.ext (by omega) fun i hi hj => ?_
    have := key i hi
    simpa [sl, Array.getD_eq_getD_getElem?, hi, hj] using this.symm
  rw [e1, hd, h2]
/-- an operation whose operands' values are known runs as one whose operands are these values -/
theorem eval_tmp (a : Act) (t : Nat) : a.eval (.tmp t) = sl a t := rfl
theorem eval_const (a : Act) (v : Value) : a.eval (.const v) = v := rfl
theorem eval_func (a : Act) (f : FuncId) : a.eval (.func f) = .func (.func f) #[] #[] := rfl
theorem postX {B X st t i : Nat} {sh : Nat → ShX B X} {s : ShX B X} {a : Act} {w w' : World} {dst : Option Tmp} {v : Value} (hi : i ≠ st) (hb : Below w.heap.size w w') (hv : (sh i).ok v w') :
    ∃ u, a.put dst v = a.put dst u ∧ RX B X st i w w' ∧ (if i = st then Boxed B X t s (sl a) w' else (sh i).ok u w') := by
  refine ⟨v, rfl, ?_, ?_⟩
  · unfold RX; rw [if_neg hi]; exact hb
  · rw [if_neg hi]; exact hv
theorem postXs {B X st t i : Nat} {sh : Nat → ShX B X} {s : ShX B X} {a : Act} {w w' : World} {dst : Option Tmp} {v : Value} (hi : i = st) (hb : StepX B X w w') (hv : Boxed B X t s (sl a) w') :
    ∃ u, a.put dst v = a.put dst u ∧ RX B X st i w w' ∧ (if i = st then Boxed B X t s (sl a) w' else (sh i).ok u w') := by
  refine ⟨v, rfl, ?_, ?_⟩
  · unfold RX; rw [if_pos hi]; exact hb
  · rw [if_pos hi]; exact hv
theorem undrew {w W : World} (h : Below w.drew.heap.size w.drew W) : Below w.heap.size w W := ⟨h.os, h.tape, h.output, h.size, h.block⟩
/-- the cells of a struct of two -/
theorem cells2 {w : World} {b T : Nat} {u v : Value} (h : w.heap[b]? = some (.cells #[u, v] T (0, 0))) : w.cell? ⟨b, 0, none⟩ = some u ∧ w.cell? ⟨b, 1, none⟩ = some v :=
  ⟨cell_of_row _ _ 0 _ _ _ h, cell_of_row _ _ 1 _ _ _ h⟩
/-- an owned row is of another element type than the box -/
theorem XRow.of_owns {B X base e : Nat} {w : World} {r : List UInt8 × List UInt8} {q1 q2 : Option Addr} {m1 k1 m2 k2 : Nat} (he : e ≠ X) (h1 : w.ownsRow base e 1 (.slice q1 m1 k1) m1 (r.1.map B8)) (h2 : w.ownsRow base e 1 (.slice q2 m2 k2) m2 (r.2.map B8)) :
    XRow B X r (.agg #[.slice q1 m1 k1, .slice q2 m2 k2]) w := ⟨q1, m1, k1, q2, m2, k2, rfl, ⟨Sl.of_owns h1, Away.own h1 he⟩, ⟨Sl.of_owns h2, Away.own h2 he⟩⟩
theorem stepX_cell {B X b i : Nat} {w : World} {cs : Array Value} {v : Value} (hb : B ≤ b) (h : w.heap[b]? = some (.cells cs X (0, 0))) : StepX B X w (w.setCell ⟨b, i, none⟩ v) := by
  refine ⟨rfl, rfl, rfl, by simp [World.setCell], ?_, ?_⟩
  · intro k hk hp
    refine Below.heap_setCell _ _ _ _ fun e => ?_
    have e : k = b := e
    subst e
    rcases hp with hp | hp
    · omega
    · exact hp _ _ h
  · intro k cs1 h1
    by_cases e : k = b
    · subst e
      rw [h] at h1; cases h1
      exact ⟨cs.setIfInBounds i v, by simp, hss h⟩
    · exact ⟨cs1, rfl, hsc h1 e⟩
theorem StepX.trans {B X : Nat} {w1 w2 w3 : World} (h : StepX B X w1 w2) (g : StepX B X w2 w3) : StepX B X w1 w3 := by
  refine ⟨g.os.trans h.os, g.tape.trans h.tape, g.output.trans h.output, Nat.le_trans h.size g.size, ?_, ?_⟩
  · intro k hk hp
    have h1 := h.keep k hk hp
    rw [g.keep k (by have := h.size; omega) (by rcases hp with hp | hp; exact .inl hp; exact .inr (by rw [h1]; exact hp)), h1]
  · intro k cs hc
    obtain ⟨c1, e1, h1⟩ := h.cells k cs hc
    obtain ⟨c2, e2, h2⟩ := g.cells k c1 h1
    exact ⟨c2, e2.trans e1, h2⟩
theorem stepX_set2 {B X b : Nat} {w : World} {u0 u1 v0 v1 : Value} (hb : B ≤ b) (h : w.heap[b]? = some (.cells #[u0, u1] X (0, 0))) : StepX B X w ((w.setCell ⟨b, 0, none⟩ v0).setCell ⟨b, 1, none⟩ v1) :=
  (stepX_cell hb h).trans (stepX_cell hb (hss h))
theorem heap_set2 {X b : Nat} {w : World} {u0 u1 v0 v1 : Value} (h : w.heap[b]? = some (.cells #[u0, u1] X (0, 0))) : ((w.setCell ⟨b, 0, none⟩ v0).setCell ⟨b, 1, none⟩ v1).heap[b]? = some (.cells #[v0, v1] X (0, 0)) := hss (hss h)
/-- an operation that stores -/
theorem wp_skipX {P : Program} {o : Oper} {a : Act} {w w' : World} {K : Act → World → Prop} {Q : Exit → Act → World → Prop} (hrun : (execOp a.eval o).run P w = .ok .skip w') (h : K (a.put o.dst undef) w') : o.wp P a w K Q := by
  unfold Oper.wp; rw [hrun]; exact h
theorem ite_n {c : Prop} [Decidable c] {A B : Prop} (hc : ¬ c) (h : B) : if c then A else B := by rw [if_neg hc]; exact h
/-- the guard says no -/
theorem wanted_no {ops : Array Oper} {o : Oper} {a : Act} {j : Nat} {b c : Bool} {d : Nat} (hg : o.guard = some (j, b)) (hd : dstOf ops j = some d) (hs : d < a.tmps.size) (hv : sl a d = .bool c) (hn : c ≠ b) : ¬ Region.wanted o (yielded ops a.tmps) = true := by
  have h1 : a.tmps[d]? = some (.bool c) := by
    have := hv
    simp only [sl, Array.getD_eq_getD_getElem?, Array.getElem?_eq_getElem hs, Option.getD_some] at this
    rw [Array.getElem?_eq_getElem hs, this]
  unfold dstOf at hd
  simp [Region.wanted, hg, yielded, hd, h1, hn]
theorem size2 {cs : Array Value} (h : cs.size = 2) : ∃ u v, cs = #[u, v] := by
  obtain ⟨l⟩ := cs
  match l, h with
  | [u, v], _ => exact ⟨u, v, rfl⟩
end Go.By
namespace Go.By
open Go.RowKit
theorem wanted_undef {ops : Array Oper} {o : Oper} {a : Act} {j : Nat} {b : Bool} {d : Nat} (hg : o.guard = some (j, b)) (hd : dstOf ops j = some d) (hs : d < a.tmps.size) (hv : sl a d = undef) : ¬ Region.wanted o (yielded ops a.tmps) = true := by
  have h1 : a.tmps[d]? = some undef := by
    have := hv
    simp only [sl, Array.getD_eq_getD_getElem?, Array.getElem?_eq_getElem hs, Option.getD_some] at this
    rw [Array.getElem?_eq_getElem hs, this]
  unfold dstOf at hd
  simp [Region.wanted, hg, yielded, hd, h1, undef]
theorem cells5 {w : World} {b T : Nat} {u v x y z : Value} (h : w.heap[b]? = some (.cells #[u, v, x, y, z] T (0, 0))) : w.cell? ⟨b, 0, none⟩ = some u ∧ w.cell? ⟨b, 1, none⟩ = some v ∧ w.cell? ⟨b, 2, none⟩ = some x ∧ w.cell? ⟨b, 3, none⟩ = some y ∧ w.cell? ⟨b, 4, none⟩ = some z :=
  ⟨cell_of_row _ _ 0 _ _ _ h, cell_of_row _ _ 1 _ _ _ h, cell_of_row _ _ 2 _ _ _ h, cell_of_row _ _ 3 _ _ _ h, cell_of_row _ _ 4 _ _ _ h⟩
theorem blk_lt {w : World} {b : Nat} {o : Obj} (h : w.heap[b]? = some o) : b < w.heap.size := (Array.getElem?_eq_some_iff.1 h).1
theorem Sl2.at0 {W : World} {g n c : Nat} {xss : List (List UInt8)} (h : Sl2 W (some ⟨g, 0, none⟩) n c xss) (i : Nat) (hi : i < n) : ∃ q m c' xs, W.cell? ⟨g, i, none⟩ = some (.slice q m c') ∧ Sl B8 W q m c' xs ∧ Hid (xss[i]? = some xs) := by
  obtain ⟨b, o, q, m, c', xs, hp, hc, hs, hx⟩ := h.at i hi
  obtain ⟨rfl, rfl⟩ : b = g ∧ o = 0 := by simp at hp; omega
  exact ⟨q, m, c', xs, by simpa using hc, hs, hx⟩
end Go.By
namespace Go.By
/-- the digits of a number, the lowest first -/
def digs (b : Nat) (n : Nat) : List Nat := if h : n = 0 ∨ b ≤ 1 then [] else n % b :: digs b (n / b)
termination_by n
decreasing_by exact Nat.div_lt_self (by omega) (by omega)
theorem digs_zero (b : Nat) : digs b 0 = [] := by unfold digs; simp
theorem digs_pos {b n : Nat} (hb : 2 ≤ b) (hn : 0 < n) : digs b n = n % b :: digs b (n / b) := by
  conv => lhs; unfold digs
  rw [dif_neg (by omega)]
/-- the number that digits are -/
def valD (b : Nat) : List Nat → Nat
  | [] => 0
  | x :: xs => x + b * valD b xs
theorem valD_append (b : Nat) : ∀ (xs ys : List Nat), valD b (xs ++ ys) = valD b xs + b ^ xs.length * valD b ys
  | [], ys => by simp [valD]
  | x :: xs, ys => by
    show x + b * valD b (xs ++ ys) = x + b * valD b xs + b ^ (xs.length + 1) * valD b ys
    rw [valD_append b xs ys, Nat.mul_add, Nat.pow_succ, Nat.add_assoc]
    congr 2
    rw [← Nat.mul_assoc, Nat.mul_comm b]
theorem valD_zeros (b : Nat) : ∀ k, valD b (List.replicate k 0) = 0
  | 0 => rfl
  | k + 1 => by rw [List.replicate_succ]; show 0 + b * valD b (List.replicate k 0) = 0; rw [valD_zeros b k]; simp
theorem valD_digs {b : Nat} (hb : 2 ≤ b) (n : Nat) : valD b (digs b n) = n := by
  induction n using Nat.strongRecOn with
  | ind n ih =>
    rcases Nat.eq_zero_or_pos n with h | h
    · subst h; rw [digs_zero]; rfl
    · rw [digs_pos hb h]
      show n % b + b * valD b (digs b (n / b)) = n
      rw [ih (n / b) (Nat.div_lt_self h hb)]
      exact Nat.mod_add_div n b
theorem digs_lt {b : Nat} (hb : 2 ≤ b) (n : Nat) : ∀ x, x ∈ digs b n → x < b := by
  induction n using Nat.strongRecOn with
  | ind n ih =>
    intro x hx
    rcases Nat.eq_zero_or_pos n with h | h
    · subst h; rw [digs_zero] at hx; cases hx
    · rw [digs_pos hb h] at hx
      rcases List.mem_cons.1 hx with rfl | hx
      · exact Nat.mod_lt _ (by omega)
      · exact ih (n / b) (Nat.div_lt_self h hb) x hx
theorem valD_lt {b : Nat} (hb : 2 ≤ b) : ∀ (xs : List Nat), (∀ x, x ∈ xs → x < b) → valD b xs < b ^ xs.length
  | [], _ => by simp [valD]
  | x :: xs, h => by
    have h1 := h x (by simp)
    have h2 := valD_lt hb xs (fun y hy => h y (by simp [hy]))
    show x + b * valD b xs < b ^ (xs.length + 1)
    rw [Nat.pow_succ, Nat.mul_comm (b ^ xs.length)]
    have h3 : b * (valD b xs + 1) ≤ b * b ^ xs.length := Nat.mul_le_mul_left b h2
    rw [Nat.mul_add] at h3
    omega
/-- digits whose last isn't 0 are those of their number -/
theorem digs_valD {b : Nat} (hb : 2 ≤ b) : ∀ (xs : List Nat), (∀ x, x ∈ xs → x < b) → xs.getLast? ≠ some 0 → digs b (valD b xs) = xs
  | [], _, _ => digs_zero b
  | x :: xs, h, hl => by
    have h1 := h x (by simp)
    have ih := digs_valD hb xs (fun y hy => h y (by simp [hy]))
    have hpos : 0 < valD b (x :: xs) := by
      show 0 < x + b * valD b xs
      cases xs with
      | nil =>
        have : x ≠ 0 := by simpa using hl
        omega
      | cons y ys =>
        have hl2 : (y :: ys).getLast? ≠ some 0 := by simpa [List.getLast?_cons_cons] using hl
        have h2 := ih hl2
        have : valD b (y :: ys) ≠ 0 := fun e => by rw [e, digs_zero] at h2; cases h2
        have : 0 < b * valD b (y :: ys) := Nat.mul_pos (by omega) (by omega)
        omega
    rw [digs_pos hb hpos]
    have e1 : valD b (x :: xs) % b = x := by
      show (x + b * valD b xs) % b = x
      rw [Nat.add_mul_mod_self_left, Nat.mod_eq_of_lt h1]
    have e2 : valD b (x :: xs) / b = valD b xs := by
      show (x + b * valD b xs) / b = _
      rw [Nat.add_mul_div_left _ _ (by omega), Nat.div_eq_of_lt h1, Nat.zero_add]
    rw [e1, e2]
    cases xs with
    | nil => rw [show valD b [] = 0 from rfl, digs_zero]
    | cons y ys => rw [ih (by simpa [List.getLast?_cons_cons] using hl)]
/-- the last digit isn't 0 -/
theorem digs_last {b : Nat} (hb : 2 ≤ b) (n : Nat) : (digs b n).getLast? ≠ some 0 := by
  induction n using Nat.strongRecOn with
  | ind n ih =>
    rcases Nat.eq_zero_or_pos n with h | h
    · subst h; rw [digs_zero]; simp
    · rw [digs_pos hb h]
      have hlt := Nat.div_lt_self h hb
      rcases Nat.eq_zero_or_pos (n / b) with h2 | h2
      · rw [h2, digs_zero]
        have : n % b = n := by have := Nat.mod_add_div n b; rw [h2] at this; omega
        simp; omega
      · have := ih _ hlt
        rw [digs_pos hb h2] at this ⊢
        simpa [List.getLast?_cons_cons] using this
theorem digs_inj {b : Nat} (hb : 2 ≤ b) {m n : Nat} (h : digs b m = digs b n) : m = n := by
  rw [← valD_digs hb m, h, valD_digs hb n]
/-- the low k digits -/
def lowD (b : Nat) : Nat → Nat → List Nat
  | 0, _ => []
  | k + 1, n => n % b :: lowD b k (n / b)
theorem lowD_len (b : Nat) : ∀ k n, (lowD b k n).length = k
  | 0, _ => rfl
  | k + 1, n => by show (lowD b k (n / b)).length + 1 = _; rw [lowD_len]
theorem lowD_zero (b : Nat) : ∀ k, lowD b k 0 = List.replicate k 0
  | 0 => rfl
  | k + 1 => by show 0 % b :: lowD b k (0 / b) = _; rw [Nat.zero_mod, Nat.zero_div, lowD_zero b k]; rfl
/-- a number below b^k, with noughts behind -/
theorem lowD_pad {b : Nat} (hb : 2 ≤ b) : ∀ k n, n < b ^ k → lowD b k n = digs b n ++ List.replicate (k - (digs b n).length) 0 ∧ (digs b n).length ≤ k
  | 0, n, h => by
    have : n = 0 := by simpa using h
    subst this
    rw [digs_zero]; exact ⟨rfl, Nat.le_refl _⟩
  | k + 1, n, h => by
    rcases Nat.eq_zero_or_pos n with h0 | h0
    · subst h0; rw [digs_zero, lowD_zero]; exact ⟨rfl, Nat.zero_le _⟩
    · have h1 : n / b < b ^ k := Nat.div_lt_of_lt_mul (by rw [Nat.pow_succ, Nat.mul_comm] at h; exact h)
      obtain ⟨e, hl⟩ := lowD_pad hb k (n / b) h1
      rw [digs_pos hb h0]
      show n % b :: lowD b k (n / b) = _ ∧ _
      rw [e]
      refine ⟨?_, by simpa using hl⟩
      simp
/-- a number of two parts -/
theorem digs_join {b : Nat} (hb : 2 ≤ b) : ∀ k w n, w < b ^ k → 0 < n → digs b (w + b ^ k * n) = lowD b k w ++ digs b n
  | 0, w, n, h, hn => by
    have : w = 0 := by simpa using h
    subst this
    simp [lowD]
  | k + 1, w, n, h, hn => by
    have hp : 0 < b ^ (k + 1) * n := Nat.mul_pos (Nat.pow_pos (by omega)) hn
    rw [digs_pos hb (by omega)]
    have h1 : w / b < b ^ k := Nat.div_lt_of_lt_mul (by rw [Nat.pow_succ, Nat.mul_comm] at h; exact h)
    have e0 : b ^ (k + 1) * n = b * (b ^ k * n) := by rw [Nat.pow_succ, Nat.mul_comm (b ^ k), Nat.mul_assoc]
    have e1 : (w + b ^ (k + 1) * n) % b = w % b := by rw [e0, Nat.add_mul_mod_self_left]
    have e2 : (w + b ^ (k + 1) * n) / b = w / b + b ^ k * n := by rw [e0, Nat.add_mul_div_left _ _ (by omega)]
    rw [e1, e2, digs_join hb k (w / b) n h1 hn]
    rfl
end Go.By
namespace Go.By
theorem valD_snoc (b : Nat) (xs : List Nat) (x : Nat) : valD b (xs ++ [x]) = valD b xs + b ^ xs.length * x := by
  rw [valD_append]; show _ + _ * (x + b * 0) = _; rw [Nat.mul_zero, Nat.add_zero]
theorem valD_take {b i : Nat} {xs : List Nat} {x : Nat} (h : xs[i]? = some x) : valD b (xs.take (i + 1)) = valD b (xs.take i) + b ^ i * x := by
  have hi := (List.getElem?_eq_some_iff.1 h).1
  rw [List.take_add_one, h]
  show valD b (xs.take i ++ [x]) = _
  rw [valD_snoc, List.length_take, Nat.min_eq_left (by omega)]
theorem valD_take_none {b i : Nat} {xs : List Nat} (h : xs.length ≤ i) : valD b (xs.take (i + 1)) = valD b (xs.take i) := by
  rw [List.take_of_length_le (by omega), List.take_of_length_le h]
/-- a digit, or 0 behind the end -/
def digAt (xs : List Nat) (i : Nat) : Nat := xs.getD i 0
theorem valD_takeD (b i : Nat) (xs : List Nat) : valD b (xs.take (i + 1)) = valD b (xs.take i) + b ^ i * digAt xs i := by
  unfold digAt
  rcases Nat.lt_or_ge i xs.length with h | h
  · rw [valD_take (List.getElem?_eq_getElem h), List.getD_eq_getElem?_getD, List.getElem?_eq_getElem h]; rfl
  · rw [valD_take_none h, List.getD_eq_getElem?_getD, List.getElem?_eq_none h]; simp
theorem valD_set {b : Nat} : ∀ (xs : List Nat) (i x y : Nat), xs[i]? = some y → valD b (xs.set i x) + b ^ i * y = valD b xs + b ^ i * x
  | [], i, x, y, h => by simp at h
  | a :: xs, 0, x, y, h => by
    have : a = y := by simpa using h
    subst this
    show x + b * valD b xs + 1 * a = a + b * valD b xs + 1 * x
    omega
  | a :: xs, i + 1, x, y, h => by
    have ih := valD_set (b := b) xs i x y (by simpa using h)
    show a + b * valD b (xs.set i x) + b ^ (i + 1) * y = a + b * valD b xs + b ^ (i + 1) * x
    have e1 : b ^ (i + 1) * y = b * (b ^ i * y) := by rw [Nat.pow_succ, Nat.mul_comm (b ^ i), Nat.mul_assoc]
    have e2 : b ^ (i + 1) * x = b * (b ^ i * x) := by rw [Nat.pow_succ, Nat.mul_comm (b ^ i), Nat.mul_assoc]
    rw [e1, e2, Nat.add_assoc, ← Nat.mul_add, ih, Nat.mul_add, Nat.add_assoc]
/-- one step of a sum -/
theorem add_step {b i c x y S A B c' s' : Nat} (h : S + b ^ i * c = A + B) (hs : s' = (x + y + c) % b) (hc : c' = (x + y + c) / b) : (S + b ^ i * s') + b ^ (i + 1) * c' = (A + b ^ i * x) + (B + b ^ i * y) := by
  have h1 : s' + b * c' = x + y + c := by rw [hs, hc]; exact Nat.mod_add_div _ _
  have h2 : b ^ (i + 1) * c' = b ^ i * (b * c') := by rw [Nat.pow_succ, Nat.mul_assoc]
  have h3 : b ^ i * s' + b ^ i * (b * c') = b ^ i * x + b ^ i * y + b ^ i * c := by rw [← Nat.mul_add, h1, Nat.mul_add, Nat.mul_add]
  rw [h2]; omega
/-- one step of a difference: with a borrow, or none -/
theorem sub_step {b i x y c S A B c' s' : Nat} (hi : S + B = A + b ^ i * c) (hs : s' + y + c = x + b * c') : (S + b ^ i * s') + (B + b ^ i * y) = (A + b ^ i * x) + b ^ (i + 1) * c' := by
  have h2 : b ^ (i + 1) * c' = b ^ i * (b * c') := by rw [Nat.pow_succ, Nat.mul_assoc]
  have h3 : b ^ i * s' + b ^ i * y + b ^ i * c = b ^ i * x + b ^ i * (b * c') := by rw [← Nat.mul_add, ← Nat.mul_add, hs, Nat.mul_add]
  rw [h2]; omega
/-- which is greater: the longer one -/
theorem val_len {b : Nat} (hb : 2 ≤ b) {xs ys : List Nat} (hx : ∀ x, x ∈ xs → x < b) (hl : ys.getLast? ≠ some 0) (h : xs.length < ys.length) : valD b xs < valD b ys := by
  have h1 := valD_lt hb xs hx
  have hne : ys ≠ [] := fun e => by rw [e] at h; simp at h
  obtain ⟨zs, z, rfl⟩ : ∃ zs z, ys = zs ++ [z] := ⟨ys.dropLast, ys.getLast hne, (List.dropLast_concat_getLast hne).symm⟩
  rw [List.length_append, List.length_singleton] at h
  have hz : z ≠ 0 := by simpa using hl
  rw [valD_snoc]
  have h2 : b ^ xs.length ≤ b ^ zs.length := Nat.pow_le_pow_right (by omega) (by omega)
  have h3 : b ^ zs.length * 1 ≤ b ^ zs.length * z := Nat.mul_le_mul_left _ (by omega)
  omega
/-- .. of one length: the one whose highest unlike digit is greater -/
theorem val_top {b : Nat} (hb : 2 ≤ b) {xs ys hs : List Nat} {x y : Nat} (hx : ∀ a, a ∈ xs → a < b) (hl : xs.length = ys.length) (h : x < y) : valD b (xs ++ x :: hs) < valD b (ys ++ y :: hs) := by
  rw [valD_append, valD_append, hl]
  have h1 := valD_lt hb xs hx
  rw [hl] at h1
  have h2 : b ^ ys.length * valD b (x :: hs) + b ^ ys.length ≤ b ^ ys.length * valD b (y :: hs) := by
    rw [← Nat.mul_succ]
    refine Nat.mul_le_mul_left _ ?_
    show x + b * valD b hs + 1 ≤ y + b * valD b hs
    omega
  omega
end Go.By
namespace Go.By
/-- digits are those of their number, with noughts behind -/
theorem digs_trim {b : Nat} (hb : 2 ≤ b) : ∀ (n : Nat) (xs : List Nat), xs.length = n → (∀ x, x ∈ xs → x < b) → ∃ k, xs = digs b (valD b xs) ++ List.replicate k 0
  | 0, xs, hl, _ => by
    have : xs = [] := List.length_eq_zero_iff.1 hl
    subst this
    exact ⟨0, by simp [valD, digs_zero]⟩
  | n + 1, xs, hl, h => by
    have hne : xs ≠ [] := fun e => by rw [e] at hl; simp at hl
    obtain ⟨ys, y, rfl⟩ : ∃ ys y, xs = ys ++ [y] := ⟨xs.dropLast, xs.getLast hne, (List.dropLast_concat_getLast hne).symm⟩
    by_cases hy : y = 0
    · subst hy
      obtain ⟨k, e⟩ := digs_trim hb n ys (by simpa using hl) (fun x hx => h x (List.mem_append.2 (.inl hx)))
      refine ⟨k + 1, ?_⟩
      rw [valD_snoc, Nat.mul_zero, Nat.add_zero, List.replicate_succ', ← List.append_assoc, ← e]
    · exact ⟨0, by rw [digs_valD hb _ h (by simpa using hy)]; simp⟩
/-- a digit of base 16, as a letter -/
def hexc (d : Nat) : UInt8 := UInt8.ofNat (if d < 10 then 48 + d else 87 + d)
def hexText (n : Nat) : List UInt8 := if n = 0 then [48] else (digs 16 n).reverse.map hexc
theorem hexc_zero {d : Nat} (hd : d < 16) : hexc d = 48 ↔ d = 0 := by
  have : ∀ d : Fin 16, hexc d.val = 48 ↔ d.val = 0 := by decide
  exact this ⟨d, hd⟩
theorem hexc_inj {d e : Nat} (hd : d < 16) (he : e < 16) (h : hexc d = hexc e) : d = e := by
  have : ∀ d e : Fin 16, hexc d.val = hexc e.val → d.val = e.val := by decide
  exact this ⟨d, hd⟩ ⟨e, he⟩ h
theorem map_inj {α β : Type} {f : α → β} {p : α → Prop} (hf : ∀ a b, p a → p b → f a = f b → a = b) : ∀ {xs ys : List α}, (∀ x, x ∈ xs → p x) → (∀ y, y ∈ ys → p y) → xs.map f = ys.map f → xs = ys
  | [], [], _, _, _ => rfl
  | [], _ :: _, _, _, h => by simp at h
  | _ :: _, [], _, _, h => by simp at h
  | x :: xs, y :: ys, hx, hy, h => by
    rw [List.map_cons, List.map_cons] at h
    injection h with h1 h2
    rw [hf x y (hx x (by simp)) (hy y (by simp)) h1, map_inj hf (fun z hz => hx z (by simp [hz])) (fun z hz => hy z (by simp [hz])) h2]
theorem hexText_inj {m n : Nat} (h : hexText m = hexText n) : m = n := by
  have one : ∀ n : Nat, n ≠ 0 → hexText n ≠ [48] := fun n hn e => by
    unfold hexText at e
    rw [if_neg hn] at e
    have h1 := congrArg List.reverse e
    rw [List.map_reverse, List.reverse_reverse] at h1
    rw [digs_pos (by decide) (by omega)] at h1
    rw [List.map_cons] at h1
    injection h1 with h1 h2
    have h3 : n % 16 = 0 := (hexc_zero (Nat.mod_lt _ (by decide))).1 h1
    have h4 : digs 16 (n / 16) = [] := by simpa using h2
    have h5 := valD_digs (b := 16) (by decide) (n / 16)
    rw [h4] at h5
    have h6 : n / 16 = 0 := h5.symm
    omega
  by_cases hm : m = 0
  · by_cases hn : n = 0
    · rw [hm, hn]
    · exact absurd (by rw [← h, hm]; rfl) (one n hn)
  · by_cases hn : n = 0
    · exact absurd (by rw [h, hn]; rfl) (one m hm)
    · unfold hexText at h
      rw [if_neg hm, if_neg hn] at h
      have h1 := map_inj (p := fun d => d < 16) (fun a b ha hb e => hexc_inj ha hb e) (fun x hx => digs_lt (by decide) m x (List.mem_reverse.1 hx)) (fun x hx => digs_lt (by decide) n x (List.mem_reverse.1 hx)) h
      exact digs_inj (b := 16) (by decide) (by have h2 := congrArg List.reverse h1; rwa [List.reverse_reverse, List.reverse_reverse] at h2)
/-- a word more ahead of a number's text: sixteen letters -/
theorem hexText_join {k w n : Nat} (hw : w < 16 ^ k) (hn : 0 < n) : hexText (w + 16 ^ k * n) = hexText n ++ (lowD 16 k w).reverse.map hexc := by
  have h1 : w + 16 ^ k * n ≠ 0 := by have : 0 < 16 ^ k * n := Nat.mul_pos (Nat.pow_pos (by decide)) hn; omega
  unfold hexText
  rw [if_neg h1, if_neg (by omega), digs_join (by decide) k w n hw hn, List.reverse_append, List.map_append]
/-- .. a word's letters, with noughts ahead -/
theorem hex_pad {k w : Nat} (hk : 1 ≤ k) (hw : w < 16 ^ k) : (lowD 16 k w).reverse.map hexc = List.replicate (k - (hexText w).length) 48 ++ hexText w ∧ (hexText w).length ≤ k := by
  obtain ⟨e, hl⟩ := lowD_pad (b := 16) (by decide) k w hw
  by_cases h0 : w = 0
  · subst h0
    rw [lowD_zero]
    refine ⟨?_, by simpa [hexText] using hk⟩
    show _ = List.replicate (k - 1) 48 ++ [48]
    rw [List.reverse_replicate, List.map_replicate, ← List.replicate_succ', show k - 1 + 1 = k by omega]
    rfl
  · have hlen : (hexText w).length = (digs 16 w).length := by unfold hexText; rw [if_neg h0, List.length_map, List.length_reverse]
    refine ⟨?_, by rw [hlen]; exact hl⟩
    rw [hlen, e, List.reverse_append, List.map_append, List.reverse_replicate, List.map_replicate]
    unfold hexText
    rw [if_neg h0]; rfl
/-- noughts ahead struck, but for one letter -/
def strip0 : List UInt8 → List UInt8
  | [] => []
  | [x] => [x]
  | x :: y :: l => if x = 48 then strip0 (y :: l) else x :: y :: l
theorem strip0_head {x : UInt8} {l : List UInt8} (h : x ≠ 48) : strip0 (x :: l) = x :: l := by
  cases l with
  | nil => rfl
  | cons y l => unfold strip0; rw [if_neg h]
theorem strip0_zeros : ∀ (k : Nat) {x : UInt8} {l : List UInt8}, x ≠ 48 → strip0 (List.replicate k 48 ++ x :: l) = x :: l
  | 0, x, l, h => strip0_head h
  | k + 1, x, l, h => by
    have ih := strip0_zeros k (l := l) h
    rw [List.replicate_succ, List.cons_append]
    cases hk : List.replicate k 48 ++ x :: l with
    | nil => simp at hk
    | cons y m =>
      unfold strip0
      rw [if_pos rfl, ← hk]; exact ih
theorem strip0_all : ∀ k, strip0 (List.replicate (k + 1) 48) = [48]
  | 0 => rfl
  | k + 1 => by
    have ih := strip0_all k
    rw [List.replicate_succ]
    cases hk : List.replicate (k + 1) (48 : UInt8) with
    | nil => simp at hk
    | cons y m =>
      unfold strip0
      rw [if_pos rfl, ← hk]; exact ih
/-- the text of digits, whatever noughts they have behind -/
theorem strip_hex {xs : List Nat} (h : ∀ x, x ∈ xs → x < 16) : (if strip0 (xs.reverse.map hexc) = [] then [48] else strip0 (xs.reverse.map hexc)) = hexText (valD 16 xs) := by
  obtain ⟨k, e⟩ := digs_trim (b := 16) (by decide) _ xs rfl h
  obtain ⟨n, hn⟩ : ∃ n, n = valD 16 xs := ⟨_, rfl⟩
  rw [← hn] at e ⊢
  rw [e, List.reverse_append, List.reverse_replicate, List.map_append, List.map_replicate, show hexc 0 = 48 from rfl]
  by_cases h0 : n = 0
  · subst h0
    rw [digs_zero]
    cases k with
    | zero => simp [strip0, hexText]
    | succ k => simp [strip0_all, hexText]
  · have hl := digs_last (b := 16) (by decide) n
    cases hr : (digs 16 n).reverse with
    | nil =>
      have : digs 16 n = [] := by simpa using hr
      rw [digs_pos (by decide) (by omega)] at this; cases this
    | cons x l =>
      have hx : (digs 16 n).getLast? = some x := by rw [← List.head?_reverse, hr]; rfl
      have hx0 : x ≠ 0 := fun e => by rw [hx, e] at hl; exact hl rfl
      have hx16 : x < 16 := digs_lt (by decide) n x (by have : x ∈ (digs 16 n).reverse := by rw [hr]; simp
                                                        exact List.mem_reverse.1 this)
      rw [List.map_cons, strip0_zeros k (fun e => hx0 ((hexc_zero hx16).1 e))]
      rw [if_neg (by simp)]
      unfold hexText
      rw [if_neg h0, hr]; rfl
/-- bytes as half bytes -/
def nibs : List Nat → List Nat
  | [] => []
  | x :: xs => x % 16 :: x / 16 :: nibs xs
theorem valD_nibs : ∀ xs, valD 16 (nibs xs) = valD 256 xs
  | [] => rfl
  | x :: xs => by
    show x % 16 + 16 * (x / 16 + 16 * valD 16 (nibs xs)) = x + 256 * valD 256 xs
    rw [valD_nibs xs]; omega
theorem nibs_lt : ∀ {xs : List Nat}, (∀ x, x ∈ xs → x < 256) → ∀ y, y ∈ nibs xs → y < 16
  | [], _, y, h => by cases h
  | x :: xs, h, y, hy => by
    have hx := h x (by simp)
    have hy' : y = x % 16 ∨ y = x / 16 ∨ y ∈ nibs xs := by simpa [nibs] using hy
    rcases hy' with rfl | rfl | hy
    · omega
    · omega
    · exact nibs_lt (fun z hz => h z (by simp [hz])) y hy
end Go.By
namespace Go.By
/-- a letter's digit -/
def hexd (c : UInt8) : Nat := if c.toNat < 58 then c.toNat - 48 else c.toNat - 87
def isHex (c : UInt8) : Bool := decide (48 ≤ c.toNat ∧ c.toNat ≤ 57) || decide (97 ≤ c.toNat ∧ c.toNat ≤ 102)
theorem hexd_lt {c : UInt8} (h : isHex c = true) : hexd c < 16 := by
  unfold isHex at h
  rw [Bool.or_eq_true, decide_eq_true_eq, decide_eq_true_eq] at h
  unfold hexd; split <;> omega
theorem hexd_hexc {d : Nat} (h : d < 16) : hexd (hexc d) = d ∧ isHex (hexc d) = true := by
  have : ∀ d : Fin 16, hexd (hexc d.val) = d.val ∧ isHex (hexc d.val) = true := by decide
  exact this ⟨d, h⟩
/-- the number of a text of base 16 -/
def valT (s : List UInt8) : Nat := valD 16 (s.reverse.map hexd)
theorem valT_append (s t : List UInt8) : valT (s ++ t) = valT t + 16 ^ t.length * valT s := by
  unfold valT
  rw [List.reverse_append, List.map_append, valD_append, List.length_map, List.length_reverse]
theorem valT_snoc (s : List UInt8) (c : UInt8) : valT (s ++ [c]) = hexd c + 16 * valT s := by
  rw [valT_append]
  show valD 16 [hexd c] + 16 ^ 1 * valT s = _
  show hexd c + 16 * 0 + _ = _
  rw [Nat.mul_zero, Nat.add_zero, Nat.pow_one]
theorem valT_lt {s : List UInt8} (h : ∀ c, c ∈ s → isHex c = true) : valT s < 16 ^ s.length := by
  have := valD_lt (b := 16) (by decide) (s.reverse.map hexd) (fun x hx => by
    obtain ⟨c, hc, rfl⟩ := List.mem_map.1 hx
    exact hexd_lt (h c (List.mem_reverse.1 hc)))
  rwa [List.length_map, List.length_reverse] at this
theorem hexText_hex (n : Nat) : ∀ c, c ∈ hexText n → isHex c = true := by
  intro c hc
  unfold hexText at hc
  split at hc
  · rw [List.mem_singleton] at hc; rw [hc]; decide
  · obtain ⟨d, hd, rfl⟩ := List.mem_map.1 hc
    exact (hexd_hexc (digs_lt (by decide) n d (List.mem_reverse.1 hd))).2
theorem valT_hexText (n : Nat) : valT (hexText n) = n := by
  unfold hexText
  split
  · rename_i h; subst h; rfl
  · unfold valT
    rw [← List.map_reverse, List.reverse_reverse, List.map_map]
    have : (digs 16 n).map (hexd ∘ hexc) = (digs 16 n).map id := List.map_congr_left fun d hd => (hexd_hexc (digs_lt (by decide) n d hd)).1
    rw [this, List.map_id, valD_digs (by decide)]
theorem hexText_ne (n : Nat) : hexText n ≠ [] := by
  unfold hexText
  split
  · simp
  · rename_i h
    rw [digs_pos (by decide) (by omega)]; simp
/-- a number's text begins with no nought, but for 0 itself -/
theorem hexText_head {n : Nat} {c : UInt8} {l : List UInt8} (h : hexText n = c :: l) : c ≠ 48 ∨ l = [] := by
  unfold hexText at h
  split at h
  · injection h with h1 h2; exact .inr h2.symm
  · rename_i hn
    left
    have hl := digs_last (b := 16) (by decide) n
    cases hr : (digs 16 n).reverse with
    | nil => rw [hr] at h; cases h
    | cons x m =>
      rw [hr, List.map_cons] at h
      injection h with h1 h2
      have hx : (digs 16 n).getLast? = some x := by rw [← List.head?_reverse, hr]; rfl
      have hx16 : x < 16 := digs_lt (by decide) n x (by have : x ∈ (digs 16 n).reverse := by rw [hr]; simp
                                                        exact List.mem_reverse.1 this)
      intro e
      rw [← h1] at e
      have := (hexc_zero hx16).1 e
      rw [hx, this] at hl; exact hl rfl
/-- how long a number's text is: a bound -/
theorem hexText_len {n k : Nat} (hk : 1 ≤ k) (h : n < 16 ^ k) : (hexText n).length ≤ k := (hex_pad hk h).2
/-- a text so built is its number's -/
theorem hexText_valT {s : List UInt8} (hne : s ≠ []) (h : ∀ c, c ∈ s → isHex c = true) (h0 : ∀ c l, s = c :: l → c ≠ 48 ∨ l = []) : hexText (valT s) = s := by
  have hc : ∀ c : UInt8, isHex c = true → hexc (hexd c) = c := by
    intro c
    have : ∀ x : Fin 256, isHex (UInt8.ofNat x.val) = true → hexc (hexd (UInt8.ofNat x.val)) = UInt8.ofNat x.val := by decide +kernel
    have h2 := this ⟨c.toNat, c.toNat_lt⟩
    simpa using h2
  have back : ∀ l : List UInt8, (∀ c, c ∈ l → isHex c = true) → (l.map hexd).map hexc = l := by
    intro l hl
    rw [List.map_map]
    have : l.map (hexc ∘ hexd) = l.map id := List.map_congr_left fun c hcl => hc c (hl c hcl)
    rw [this, List.map_id]
  have hall : ∀ x, x ∈ s.reverse.map hexd → x < 16 := fun x hx => by
    obtain ⟨c, hcs, rfl⟩ := List.mem_map.1 hx
    exact hexd_lt (h c (List.mem_reverse.1 hcs))
  have hst := strip_hex hall
  rw [← List.map_reverse, List.reverse_reverse, back s h] at hst
  show hexText (valD 16 (s.reverse.map hexd)) = s
  rw [← hst]
  cases s with
  | nil => exact absurd rfl hne
  | cons c l =>
    rcases h0 c l rfl with e | e
    · rw [strip0_head e, if_neg (by simp)]
    · subst e
      rw [show strip0 [c] = [c] from rfl, if_neg (by simp)]
/-- the number of bytes, of words -/
def valB (bs : List UInt8) : Nat := valD 256 (bs.map UInt8.toNat)
def valW (ws : List UInt64) : Nat := valD 18446744073709551616 (ws.map UInt64.toNat)
theorem bytes_lt (bs : List UInt8) : ∀ x, x ∈ bs.map UInt8.toNat → x < 256 := fun x hx => by
  obtain ⟨b, _, rfl⟩ := List.mem_map.1 hx
  exact b.toNat_lt
theorem words_lt (ws : List UInt64) : ∀ x, x ∈ ws.map UInt64.toNat → x < 18446744073709551616 := fun x hx => by
  obtain ⟨b, _, rfl⟩ := List.mem_map.1 hx
  exact b.toNat_lt
theorem valB_lt (bs : List UInt8) : valB bs < 256 ^ bs.length := by
  have := valD_lt (b := 256) (by decide) _ (bytes_lt bs)
  rwa [List.length_map] at this
theorem valW_lt (ws : List UInt64) : valW ws < 18446744073709551616 ^ ws.length := by
  have := valD_lt (b := 18446744073709551616) (by decide) _ (words_lt ws)
  rwa [List.length_map] at this
/-- words, the last not 0 -/
def NormW (ws : List UInt64) : Prop := ws.getLast? ≠ some 0
theorem NormW.digs {ws : List UInt64} (h : NormW ws) : digs 18446744073709551616 (valW ws) = ws.map UInt64.toNat :=
  digs_valD (by decide) _ (words_lt ws) (by
    rw [List.getLast?_map]
    cases e : ws.getLast? with
    | none => simp
    | some x =>
      intro hx
      have : x.toNat = 0 := by simpa using hx
      have : x = 0 := UInt64.toNat_inj.1 (by simpa using this)
      exact h (by rw [e, this]))
theorem NormW.inj {ws vs : List UInt64} (h : NormW ws) (g : NormW vs) (e : valW ws = valW vs) : ws = vs := by
  have h1 := h.digs
  rw [e, g.digs] at h1
  exact (map_inj (p := fun _ => True) (f := UInt64.toNat) (fun a b _ _ hab => UInt64.toNat_inj.1 hab) (fun _ _ => trivial) (fun _ _ => trivial) h1).symm
/-- words are so many just where the number is so great -/
theorem NormW.len {ws : List UInt64} (h : NormW ws) {k : Nat} (hv : valW ws < 18446744073709551616 ^ k) : ws.length ≤ k := by
  have h1 := congrArg List.length h.digs
  rw [List.length_map] at h1
  rw [← h1]
  exact (lowD_pad (b := 18446744073709551616) (by decide) k (valW ws) hv).2
end Go.By
namespace Go.By
/-- one step of a row of a product: digit y of the second number, p what stands there, c the carry -/
theorem mul_step {b i j a y p c V V' V0 S s' c' : Nat} (h : V + b ^ (i + j) * c = V0 + b ^ i * (a * S)) (hs : s' = (a * y + p + c) % b) (hc : c' = (a * y + p + c) / b) (hv : V' + b ^ (i + j) * p = V + b ^ (i + j) * s') : V' + b ^ (i + (j + 1)) * c' = V0 + b ^ i * (a * (S + b ^ j * y)) := by
  have h1 : s' + b * c' = a * y + p + c := by rw [hs, hc]; exact Nat.mod_add_div _ _
  have h2 : b ^ (i + (j + 1)) * c' = b ^ (i + j) * (b * c') := by rw [← Nat.add_assoc, Nat.pow_succ, Nat.mul_assoc]
  have h3 : b ^ (i + j) * s' + b ^ (i + j) * (b * c') = b ^ (i + j) * (a * y) + b ^ (i + j) * p + b ^ (i + j) * c := by rw [← Nat.mul_add, h1, Nat.mul_add, Nat.mul_add]
  have h4 : b ^ i * (a * (S + b ^ j * y)) = b ^ i * (a * S) + b ^ (i + j) * (a * y) := by
    rw [Nat.mul_add, Nat.mul_add, Nat.pow_add, Nat.mul_assoc, Nat.mul_left_comm a]
  rw [h2, h4]; omega
/-- the row's end: the carry goes where a nought stood -/
theorem mul_row {b i n a c V V' V0 S : Nat} (h : V + b ^ (i + n) * c = V0 + b ^ i * (a * S)) (hv : V' + b ^ (i + n) * 0 = V + b ^ (i + n) * c) : V' = V0 + b ^ i * (a * S) := by
  rw [Nat.mul_zero, Nat.add_zero] at hv; omega
/-- .. and the next row -/
theorem mul_next {b i a S A V : Nat} (h : V = A * S) : V + b ^ i * (a * S) = (A + b ^ i * a) * S := by
  rw [h, Nat.add_mul, Nat.mul_assoc]
/-- a digit fits -/
theorem mul_fits {a y p c : Nat} {B : Nat} (ha : a < B) (hy : y < B) (hp : p < B) (hc : c < B) : (a * y + p + c) / B < B := by
  rw [Nat.div_lt_iff_lt_mul (by omega)]
  have h1 : a * y ≤ (B - 1) * (B - 1) := Nat.mul_le_mul (by omega) (by omega)
  obtain ⟨m, rfl⟩ : ∃ m, B = m + 1 := ⟨B - 1, by omega⟩
  have h2 : (m + 1) * (m + 1) = m * m + m + m + 1 := by rw [Nat.add_mul, Nat.mul_add]; omega
  rw [h2]
  have h3 : m + 1 - 1 = m := by omega
  rw [h3] at h1
  omega
/-- a text by words: what is ahead of the last sixteen letters, and these -/
theorem valT_cut {s : List UInt8} {e : Nat} (he : e ≤ s.length) : valT s = valT (s.drop e) + 16 ^ (s.length - e) * valT (s.take e) := by
  conv => lhs; rw [← List.take_append_drop e s]
  rw [valT_append, List.length_drop]
/-- one word more, read from a text's end: V the words' number, s so much of the text is left -/
theorem parse_step {s t : List UInt8} {V k N : Nat} (h : V + 18446744073709551616 ^ k * valT (s ++ t) = N) (ht : t.length = 16) : (V + 18446744073709551616 ^ k * valT t) + 18446744073709551616 ^ (k + 1) * valT s = N := by
  rw [← h, valT_append, ht, Nat.mul_add, Nat.pow_succ, Nat.add_assoc, Nat.mul_assoc]
theorem parse_last {t : List UInt8} {V k N : Nat} (h : V + 18446744073709551616 ^ k * valT t = N) : (V + 18446744073709551616 ^ k * valT t) + 18446744073709551616 ^ (k + 1) * valT [] = N := by
  rw [← h, show valT [] = 0 from rfl, Nat.mul_zero, Nat.add_zero]
/-- a word more ahead of a text -/
theorem text_step {w n : Nat} (hw : w < 18446744073709551616) (hn : 0 < n) : hexText (w + 18446744073709551616 * n) = hexText n ++ (List.replicate (16 - (hexText w).length) 48 ++ hexText w) ∧ (hexText w).length ≤ 16 := by
  have h := hexText_join (k := 16) (w := w) (n := n) (by simpa using hw) hn
  obtain ⟨e, hl⟩ := hex_pad (k := 16) (w := w) (by decide) (by simpa using hw)
  rw [← e]
  exact ⟨by simpa using h, hl⟩
theorem valW_drop {ws : List UInt64} {i : Nat} {x : UInt64} (h : ws[i]? = some x) : valW (ws.drop i) = x.toNat + 18446744073709551616 * valW (ws.drop (i + 1)) := by
  obtain ⟨hi, e⟩ := List.getElem?_eq_some_iff.1 h
  have : ws.drop i = x :: ws.drop (i + 1) := by rw [← e, List.getElem_cons_drop hi]
  rw [this]; rfl
/-- the highest words of a number that is none are none: never 0 -/
theorem NormW.drop_pos {ws : List UInt64} (h : NormW ws) {i : Nat} (hi : i < ws.length) : 0 < valW (ws.drop i) := by
  have hn : NormW (ws.drop i) := by
    show (ws.drop i).getLast? ≠ some 0
    rw [List.getLast?_drop, if_neg (by omega)]; exact h
  rcases Nat.eq_zero_or_pos (valW (ws.drop i)) with h0 | h0
  · have h1 := hn.digs
    rw [h0, digs_zero] at h1
    have h2 : (ws.drop i).length = 0 := by have := congrArg List.length h1; simp at this ⊢; omega
    rw [List.length_drop] at h2; omega
  · exact h0
end Go.By
namespace Go.By
theorem digs_len {b n L : Nat} (hb : 2 ≤ b) (h1 : b ^ L ≤ n) (h2 : n < b ^ (L + 1)) : (digs b n).length = L + 1 := by
  have hu := (lowD_pad hb (L + 1) n h2).2
  have hl := valD_lt hb (digs b n) (digs_lt hb n)
  rw [valD_digs hb] at hl
  have : L < (digs b n).length := (Nat.pow_lt_pow_iff_right (by omega : 1 < b)).1 (Nat.lt_of_le_of_lt h1 hl)
  omega
/-- the bytes of a word -/
theorem digs_bitLen {x : Nat} (hx : x ≠ 0) (h : x < 18446744073709551616) : (digs 256 x).length = (Lib.bitLen x + 7) / 8 ∧ 1 ≤ Lib.bitLen x ∧ Lib.bitLen x ≤ 64 := by
  obtain ⟨h1, h2, h3⟩ := Lib.bitLenAux_bounds 64 x (by simpa using h) hx
  have h4 : Lib.bitLen x ≤ 64 := Lib.bitLen_le x 64 (by decide) (by simpa using h)
  have h1 : 1 ≤ Lib.bitLen x := h1
  have h2 : 2 ^ (Lib.bitLen x - 1) ≤ x := h2
  have h3 : x < 2 ^ Lib.bitLen x := h3
  refine ⟨?_, h1, h4⟩
  obtain ⟨m, hm⟩ : ∃ m, Lib.bitLen x = m := ⟨_, rfl⟩
  rw [hm] at h1 h2 h3 h4 ⊢
  have e : (m + 7) / 8 = (m - 1) / 8 + 1 := by omega
  rw [e]
  have p : ∀ k, (256 : Nat) ^ k = 2 ^ (8 * k) := fun k => by rw [show (256 : Nat) = 2 ^ 8 from rfl, ← Nat.pow_mul]
  refine digs_len (by decide) ?_ ?_
  · rw [p]; exact Nat.le_trans (Nat.pow_le_pow_right (by decide) (by omega)) h2
  · rw [p]; exact Nat.lt_of_lt_of_le h3 (Nat.pow_le_pow_right (by decide) (by omega))
theorem digs_len_bounds {b n : Nat} (hb : 2 ≤ b) (hn : 0 < n) : ∃ L, (digs b n).length = L + 1 ∧ b ^ L ≤ n ∧ n < b ^ (L + 1) := by
  have hl := valD_lt hb (digs b n) (digs_lt hb n)
  rw [valD_digs hb] at hl
  obtain ⟨L, hL⟩ : ∃ L, (digs b n).length = L + 1 := ⟨(digs b n).length - 1, by rw [digs_pos hb hn]; simp⟩
  rw [hL] at hl
  refine ⟨L, hL, ?_, hl⟩
  rcases Nat.lt_or_ge n (b ^ L) with h | h
  · have := (lowD_pad hb L n h).2; omega
  · exact h
/-- how many bytes a number of words needs -/
theorem normW_bytes {ws : List UInt64} {k : Nat} {x : UInt64} (h : NormW ws) (hk : ws.length = k + 1) (hx : ws[k]? = some x) : (digs 256 (valW ws)).length = k * 8 + (Lib.bitLen x.toNat + 7) / 8 ∧ 1 ≤ Lib.bitLen x.toNat ∧ Lib.bitLen x.toNat ≤ 64 := by
  have hx0 : x.toNat ≠ 0 := fun e => by
    have : x = 0 := UInt64.toNat_inj.1 (by simpa using e)
    apply h
    rw [List.getLast?_eq_getElem?, hk, Nat.add_sub_cancel, hx, this]
  have hx64 : x.toNat < 18446744073709551616 := x.toNat_lt
  obtain ⟨e, h1, h2⟩ := digs_bitLen hx0 hx64
  refine ⟨?_, h1, h2⟩
  obtain ⟨L, hL, g1, g2⟩ := digs_len_bounds (b := 256) (by decide) (Nat.pos_of_ne_zero hx0)
  rw [← e, hL]
  have hv : valW ws = valD 18446744073709551616 ((ws.map UInt64.toNat).take k) + 18446744073709551616 ^ k * x.toNat := by
    have := valD_take (b := 18446744073709551616) (i := k) (xs := ws.map UInt64.toNat) (x := x.toNat) (by rw [List.getElem?_map, hx]; rfl)
    rw [← this, List.take_of_length_le (by rw [List.length_map]; omega)]; rfl
  have hlow : valD 18446744073709551616 ((ws.map UInt64.toNat).take k) < 18446744073709551616 ^ k := by
    have := valD_lt (b := 18446744073709551616) (by decide) ((ws.map UInt64.toNat).take k) (fun y hy => words_lt ws y (List.mem_of_mem_take hy))
    rwa [List.length_take, List.length_map, Nat.min_eq_left (by omega)] at this
  have p : (18446744073709551616 : Nat) ^ k = 256 ^ (8 * k) := by rw [show (18446744073709551616 : Nat) = 256 ^ 8 from rfl, ← Nat.pow_mul]
  rw [p] at hv hlow
  obtain ⟨V, hV⟩ : ∃ V, V = valD 18446744073709551616 ((ws.map UInt64.toNat).take k) := ⟨_, rfl⟩
  rw [← hV] at hv hlow
  rw [hv, show k * 8 + (L + 1) = (8 * k + L) + 1 by omega]
  refine digs_len (by decide) ?_ ?_
  · rw [Nat.pow_add]
    have := Nat.mul_le_mul_left (256 ^ (8 * k)) g1
    omega
  · rw [show 8 * k + L + 1 = 8 * k + (L + 1) by omega, Nat.pow_add]
    have : 256 ^ (8 * k) * (x.toNat + 1) ≤ 256 ^ (8 * k) * 256 ^ (L + 1) := Nat.mul_le_mul_left _ g2
    rw [Nat.mul_add] at this
    omega
/-- a number's bytes, the lowest first, the last not 0 -/
def bytesN (N : Nat) : List UInt8 := (digs 256 N).map UInt8.ofNat
theorem bytesN_toNat (N : Nat) : (bytesN N).map UInt8.toNat = digs 256 N := by
  unfold bytesN
  rw [List.map_map]
  have : (digs 256 N).map (UInt8.toNat ∘ UInt8.ofNat) = (digs 256 N).map id := List.map_congr_left fun d hd => by
    have := digs_lt (b := 256) (by decide) N d hd
    show (UInt8.ofNat d).toNat = d
    simp; omega
  rw [this, List.map_id]
theorem valB_bytesN (N : Nat) : valB (bytesN N) = N := by unfold valB; rw [bytesN_toNat, valD_digs (by decide)]
theorem bytesN_len (N : Nat) : (bytesN N).length = (digs 256 N).length := by unfold bytesN; rw [List.length_map]
theorem bytesN_zero : bytesN 0 = [] := by unfold bytesN; rw [digs_zero]; rfl
theorem bytesN_inj {M N : Nat} (h : bytesN M = bytesN N) : M = N := by rw [← valB_bytesN M, h, valB_bytesN]
/-- bytes whose last isn't 0 are those of their number -/
theorem bytesN_valB {bs : List UInt8} (h : bs.getLast? ≠ some 0) : bytesN (valB bs) = bs := by
  have e : digs 256 (valB bs) = bs.map UInt8.toNat := digs_valD (by decide) _ (bytes_lt bs) (by
    rw [List.getLast?_map]
    cases e : bs.getLast? with
    | none => simp
    | some x =>
      intro hx
      have : x.toNat = 0 := by simpa using hx
      have : x = 0 := UInt8.toNat_inj.1 (by simpa using this)
      exact h (by rw [e, this]))
  unfold bytesN
  rw [e, List.map_map]
  have : bs.map (UInt8.ofNat ∘ UInt8.toNat) = bs.map id := List.map_congr_left fun b _ => by simp
  rw [this, List.map_id]
theorem bytesN_last (N : Nat) : (bytesN N).getLast? ≠ some 0 := by
  intro h
  have := digs_last (b := 256) (by decide) N
  rw [← bytesN_toNat, List.getLast?_map, h] at this
  exact this rfl
/-- one more byte 0 behind is nothing -/
theorem valB_take_zero {bs : List UInt8} {k : Nat} {x : UInt8} (hx : bs[k]? = some x) (h0 : x.toNat = 0) : valB (bs.take (k + 1)) = valB (bs.take k) := by
  unfold valB
  rw [List.map_take, List.map_take, valD_take (x := 0) (by rw [List.getElem?_map, hx]; simp [h0])]; simp
theorem bytesN_take {bs : List UInt8} {k : Nat} {x : UInt8} (hx : bs[k]? = some x) (h0 : x.toNat ≠ 0) : bytesN (valB (bs.take (k + 1))) = bs.take (k + 1) := by
  refine bytesN_valB ?_
  rw [List.take_add_one, hx]
  simp only [Option.toList_some, List.getLast?_append, List.getLast?_singleton]
  intro h
  have : x = 0 := by simpa using h
  rw [this] at h0; exact h0 rfl
theorem valW_take_zero {ws : List UInt64} {k : Nat} {x : UInt64} (hx : ws[k]? = some x) (h0 : x.toNat = 0) : valW (ws.take (k + 1)) = valW (ws.take k) := by
  unfold valW
  rw [List.map_take, List.map_take, valD_take (x := 0) (by rw [List.getElem?_map, hx]; simp [h0])]; simp
theorem NormW_take {ws : List UInt64} {k : Nat} {x : UInt64} (hx : ws[k]? = some x) (h0 : x.toNat ≠ 0) : NormW (ws.take (k + 1)) := by
  show (ws.take (k + 1)).getLast? ≠ some 0
  rw [List.take_add_one, hx]
  simp only [Option.toList_some, List.getLast?_append, List.getLast?_singleton]
  intro h
  have : x = 0 := by simpa using h
  rw [this] at h0; exact h0 rfl
/-- so many words just where the number is so great -/
theorem NormW.big {ws : List UInt64} (h : NormW ws) {k : Nat} (hl : k < ws.length) : 18446744073709551616 ^ k ≤ valW ws := by
  rcases Nat.lt_or_ge (valW ws) (18446744073709551616 ^ k) with h1 | h1
  · have := h.len h1; omega
  · exact h1
end Go.By
namespace Go.By
open Go.RowKit
/-- a word as a value -/
abbrev W64 (x : UInt64) : Value := .int .u64 x.toNat
/-- how great a number may be -/
def powW (k : Nat) : Nat := 18446744073709551616 ^ k
theorem powW_mono {j k : Nat} (h : j ≤ k) : powW j ≤ powW k := Nat.pow_le_pow_right (by decide) h
theorem powW_lt (ws : List UInt64) : valW ws < powW ws.length := valW_lt ws
theorem powW_big {ws : List UInt64} (h : NormW ws) {k : Nat} (hl : k < ws.length) : powW k ≤ valW ws := h.big hl
def capN : Nat := powW 512
/-- where a slice's cells lie: a block of elements of type T -/
def Lies (T : TypeId) (w : World) (q : Option Addr) : Prop := ∀ a, q = some a → ∃ cs fr, w.heap[a.block]? = some (.cells cs T fr)
theorem Lies.keep {T : TypeId} {w w' : World} {q : Option Addr} (h : Lies T w q) (hb : Below w.heap.size w w') : Lies T w' q := fun a ha => by
  obtain ⟨cs, fr, hc⟩ := h a ha
  exact ⟨cs, fr, (hb.block _ (lt_of_block hc)).trans hc⟩
theorem Lies.none (T : TypeId) (w : World) : Lies T w none := fun _ h => by cases h
theorem Lies.at {T : TypeId} {w : World} {g o : Nat} {cs : Array Value} {fr : Nat × Nat} (h : w.heap[g]? = some (.cells cs T fr)) : Lies T w (some ⟨g, o, .none⟩) := fun a ha => by
  obtain rfl := Option.some.inj ha
  exact ⟨cs, fr, h⟩
/-- a block of another kind is written -/
theorem Lies.set {T T' : TypeId} {w : World} {q : Option Addr} (h : Lies T w q) {g i : Nat} {cs : Array Value} {fr : Nat × Nat} {v : Value} (hg : w.heap[g]? = some (.cells cs T' fr)) (hne : T' ≠ T) : Lies T (w.setCell ⟨g, i, .none⟩ v) q := fun a ha => by
  obtain ⟨ds, fr', hc⟩ := h a ha
  have : a.block ≠ g := fun e => by rw [e, hg] at hc; cases hc; exact hne rfl
  exact ⟨ds, fr', hsc hc this⟩
theorem Sl.setT {α : Type} {enc : α → Value} {T T' : TypeId} {w : World} {q : Option Addr} {n c : Nat} {xs : List α} (h : Sl enc w q n c xs) (hl : Lies T w q) {g i : Nat} {cs : Array Value} {fr : Nat × Nat} {v : Value} (hg : w.heap[g]? = some (.cells cs T' fr)) (hne : T' ≠ T) : Sl enc (w.setCell ⟨g, i, .none⟩ v) q n c xs := by
  refine ⟨h.len, h.le, h.max, h.nil, fun j hj => ?_⟩
  obtain ⟨b, o, hp, hc⟩ := h.rs j hj
  obtain ⟨ds, fr', hd⟩ := hl _ hp
  have : b ≠ g := fun e => by rw [show (⟨b, o, .none⟩ : Addr).block = b from rfl, e, hg] at hd; cases hd; exact hne rfl
  exact ⟨b, o, hp, (World.cell?_of_block (a := ⟨b, o + j, .none⟩) (Below.heap_setCell _ _ _ _ this)).trans hc⟩
/-- words in memory that read as a number -/
structure Ws (T : TypeId) (w : World) (q : Option Addr) (n c : Nat) (N : Nat) : Prop where
  ex : ∃ ws, Sl W64 w q n c ws ∧ NormW ws ∧ valW ws = N
  le : n ≤ 512
  lies : Lies T w q
theorem Ws.keep {T : TypeId} {w w' : World} {q : Option Addr} {n c N : Nat} (h : Ws T w q n c N) (hb : Below w.heap.size w w') : Ws T w' q n c N := by
  obtain ⟨ws, hs, hn, hv⟩ := h.ex
  exact ⟨⟨ws, hs.keep hb, hn, hv⟩, h.le, h.lies.keep hb⟩
theorem Ws.set {T T' : TypeId} {w : World} {q : Option Addr} {n c N : Nat} (h : Ws T w q n c N) {g i : Nat} {cs : Array Value} {fr : Nat × Nat} {v : Value} (hg : w.heap[g]? = some (.cells cs T' fr)) (hne : T' ≠ T) : Ws T (w.setCell ⟨g, i, none⟩ v) q n c N := by
  obtain ⟨ws, hs, hn, hv⟩ := h.ex
  exact ⟨⟨ws, hs.setT h.lies hg hne, hn, hv⟩, h.le, h.lies.set hg hne⟩
theorem Ws.lt {T : TypeId} {w : World} {q : Option Addr} {n c N : Nat} (h : Ws T w q n c N) : N < capN := by
  obtain ⟨ws, hs, hn, rfl⟩ := h.ex
  have := powW_lt ws
  rw [hs.len] at this
  exact Nat.lt_of_lt_of_le this (powW_mono h.le)
theorem Ws.zero (T : TypeId) (w : World) : Ws T w none 0 0 0 := ⟨⟨[], Sl.nil0 _ _, by simp [NormW], rfl⟩, by omega, Lies.none _ _⟩
/-- a number, and what went wrong -/
def RetN (T : TypeId) (w : World) (N : Nat) (e : Ending) (w' : World) : Prop :=
  ∃ q n c, e = .returned (.tuple #[.agg #[.slice q n c], .int .i64 0]) ∧ Ws T w' q n c N ∧ Below w.heap.size w w'
def Ret0 (w : World) (code : Int) (e : Ending) (w' : World) : Prop :=
  e = .returned (.tuple #[.agg #[.slice none 0 0], .int .i64 code]) ∧ Below w.heap.size w w'
def RetM (T : TypeId) (w : World) (N : Nat) (e : Ending) (w' : World) : Prop := (N < capN ∧ RetN T w N e w') ∨ (capN ≤ N ∧ Ret0 w 16 e w')
theorem RetM.ok {T : TypeId} {w w' : World} {N : Nat} {e : Ending} (h : RetM T w N e w') (hN : N < capN) : RetN T w N e w' := by
  rcases h with h | h
  · exact h.2
  · omega
theorem RetM.long {T : TypeId} {w w' : World} {N : Nat} {e : Ending} (h : RetM T w N e w') (hN : capN ≤ N) : Ret0 w 16 e w' := by
  rcases h with h | h
  · omega
  · exact h.2
/-- a number alone -/
def RetN1 (T : TypeId) (w : World) (N : Nat) (e : Ending) (w' : World) : Prop :=
  ∃ q n c, e = .returned (.agg #[.slice q n c]) ∧ Ws T w' q n c N ∧ Below w.heap.size w w'
theorem Sl.front {α : Type} {enc : α → Value} {w : World} {p : Option Addr} {n c k : Nat} {xs : List α} (h : Sl enc w p n c xs) (hk : k ≤ n) : Sl enc w p k c (xs.take k) := by
  have h1 := h.len; have h2 := h.le; have h3 := h.max
  refine ⟨by rw [List.length_take]; omega, by omega, h3, fun e => ⟨by have := (h.nil e).1; omega, (h.nil e).2⟩, ?_⟩
  intro i hi
  have hi' : i < xs.length := by rw [List.length_take] at hi; omega
  obtain ⟨b', o', hp, hc⟩ := h.rs i hi'
  exact ⟨b', o', hp, by rw [hc]; simp⟩
/-- what is left of words without noughts behind -/
theorem made_end {T : TypeId} {w : World} {q : Option Addr} {n c k : Nat} {ws : List UInt64} (h : Sl W64 w q n c ws) (hT : Lies T w q) (hk : k ≤ n) (hn : NormW (ws.take k)) (hv : valW (ws.take k) = valW ws) : (k ≤ 512 → Ws T w q k c (valW ws) ∧ valW ws < capN) ∧ (512 < k → capN ≤ valW ws) := by
  have hl : (ws.take k).length = k := by rw [List.length_take, h.len]; omega
  constructor
  · intro h1
    have : Ws T w q k c (valW ws) := ⟨⟨_, h.front hk, hn, hv⟩, h1, hT⟩
    exact ⟨this, this.lt⟩
  · intro h1
    rw [← hv]
    exact powW_big hn (by omega)
theorem res_cell_tmp {P : Program} {fn : Func} {p u : Tmp} {ty : TypeId} (h : fn.results = #[.cell p ty, .tmp u]) (tmps : Array Value) (w : World) (g : Nat) (t : TypeId) (cs : Array Value) (fr : Nat × Nat) (d : TypeDesc) (v : Value)
    (hp : tmps.getD p undef = .pointer (some ⟨g, 0, none⟩)) (hg : w.heap[g]? = some (.cells cs t fr)) (hv : tmps.getD u undef = v)
    (hu : P.underlying ty = some d) (hd : (match d with | .struct _ | .array _ _ => true | _ => false) = true) (hi : (P.info? ty).map (·.size) = some cs.size) :
    (results fn tmps).run P w = .ok (.tuple #[.agg cs, v]) w := by
  have hp' : tmps[p]?.getD undef = .pointer (some ⟨g, 0, none⟩) := by simpa using hp
  have hv' : tmps[u]?.getD undef = v := by simpa using hv
  simp [results, h, hp', hv', asAddr, run_loadVar_row w g t ty cs fr d hg hu hd hi]
theorem hal_eq {w : World} {ob : Obj} {i : Nat} (h : i < w.heap.size) : (w.alloc ob).heap[i]? = w.heap[i]? := by rw [heap_alloc, if_neg (by omega)]
/-- a block of one cell, behind further blocks -/
structure One (w : World) (g : Nat) (v : Value) (T : TypeId) : Prop where
  box : w.heap[g]? = some (.cells #[v] T (0, 0))
  cell : w.cell? ⟨g, 0, none⟩ = some v
  free : w.frozen? ⟨g, 0, none⟩ = false
  acell : ∀ o, (w.alloc o).cell? ⟨g, 0, none⟩ = some v
  afree : ∀ o, (w.alloc o).frozen? ⟨g, 0, none⟩ = false
theorem One.of {w : World} {g : Nat} {v : Value} {T : TypeId} (h : w.heap[g]? = some (.cells #[v] T (0, 0))) : One w g v T :=
  ⟨h, cell_of_row _ _ 0 _ _ _ h, frozen_of_row _ _ _ _ _ h, fun _ => cell_of_row _ _ 0 _ _ _ (hal h), fun _ => frozen_of_row _ _ _ _ _ (hal h)⟩
theorem NormW_nil : NormW [] := by simp [NormW]
end Go.By
namespace Go.Proofs.YtbfmdfbnhakolaaDoor
open Go.RowKit Go.By
theorem info_nat : (Tryd.prog.info? 29).map (·.size) = some 1 := by kernel_rfl
theorem info_u64 : (Tryd.prog.info? 34).map (fun i => (i.zero, i.size, i.bytes)) = some (some (.int .u64 0), 1, 8) := by kernel_rfl
set_option maxRecDepth 100000 in
set_option maxHeartbeats 1000000 in
theorem made_any (q : Option Addr) (n c : Nat) (ws : List UInt64) (w : World) (h : Sl W64 w q n c ws) (hT : Lies 34 w q) :
    Calls Tryd.prog 33 #[.slice q n c] w (RetM 34 w (valW ws)) := by
  have hn := h.bound
  have hnc := h.le
  have hinfo := info_nat
  have HA : Hid (∀ o, Sl W64 (w.alloc o) q n c ws) := fun o => h.keep (al (Below.refl _ _) (Nat.le_refl _))
  have HT : Hid (∀ o, Lies 34 (w.alloc o) q) := fun o => hT.keep (al (Below.refl _ _) (Nat.le_refl _))
  have HT0 := Lib.hid hT; clear hT
  have HB : Hid (∀ o, Below w.heap.size w (w.alloc o)) := fun o => al (Below.refl _ _) (Nat.le_refl _)
  have HX : Hid (∀ o, (w.alloc o).heap[w.heap.size]? = some o) := fun o => hnew rfl
  have H := Lib.hid h; clear h
  go_enter Tryd.func33, Tryd.ntmps33
  go_wp2
  go_loop [4] (fun i => ∃ k : Nat, k ≤ n ∧ i = .int .i64 k ∧ Hid (valW (ws.take k) = valW ws)) (fun i => (intOf i).toNat)
  case atStart => exact ⟨n, Nat.le_refl _, rfl, by show valW (ws.take n) = valW ws; rw [← H.out.len, List.take_length]⟩
  case round =>
    obtain ⟨k, hk, rfl, hr⟩ := hrel
    by_cases hk0 : k = 0
    · subst hk0
      have HE : Hid (∀ o, Ws 34 (w.alloc o) q 0 c (valW ws)) := fun o => ((made_end (HA.out o) (HT.out o) (Nat.zero_le n) (by simpa using NormW_nil) hr.out).1 (by omega)).1
      have HL : Hid (valW ws < capN) := ((made_end H.out HT0.out (Nat.zero_le n) (by simpa using NormW_nil) hr.out).1 (by omega)).2
      cases q with
      | none =>
        obtain ⟨rfl, rfl⟩ := H.out.nil rfl
        go_wp2
        exact bodyPost_ret (res_cell_tmp rfl _ _ _ 29 #[.slice none 0 0] (0, 0) _ (.int .i64 0) rfl (HX.out _) rfl Tryd.underlying29 rfl hinfo) rfl (Or.inl ⟨HL.out, _, _, _, rfl, HE.out _, HB.out _⟩)
      | some ad =>
        go_wp2
        exact bodyPost_ret (res_cell_tmp rfl _ _ _ 29 #[.slice (some ad) 0 c] (0, 0) _ (.int .i64 0) rfl (HX.out _) rfl Tryd.underlying29 rfl hinfo) rfl (Or.inl ⟨HL.out, _, _, _, rfl, HE.out _, HB.out _⟩)
    · obtain ⟨j, rfl⟩ : ∃ j, k = j + 1 := ⟨k - 1, by omega⟩
      obtain ⟨b, o, x, rfl, hc, hx⟩ := H.out.at j (by omega)
      have hc' : ∀ ob, (w.alloc ob).cell? ⟨b, o + j, none⟩ = some (W64 x) := fun ob => (World.cell?_of_block (a := ⟨b, o + j, none⟩) (hal_eq (lt_of_cell hc))).trans hc
      clear hc hk0
      by_cases hx0 : x.toNat = 0
      · have HV : Hid (valW (ws.take j) = valW ws) := (valW_take_zero hx.out hx0).symm.trans hr.out
        rw [show W64 x = .int .u64 0 by show Value.int .u64 (x.toNat : Int) = _; rw [hx0]; rfl] at hc'
        clear hx0
        go_wp2
        go_round
        case rel => exact ⟨j, by omega, by go_num, HV⟩
        case measure => simp [intOf]
      · have HN : Hid (NormW (ws.take (j + 1))) := NormW_take hx.out hx0
        have hx1 : ((x.toNat : Int) == 0) = false := by simpa using hx0
        clear hx0
        by_cases h512 : j + 1 ≤ 512
        · have HE : Hid (∀ ob, Ws 34 (w.alloc ob) (some ⟨b, o, none⟩) (j + 1) c (valW ws)) := fun ob => ((made_end (HA.out ob) (HT.out ob) hk HN.out hr.out).1 h512).1
          have HL : Hid (valW ws < capN) := ((made_end H.out HT0.out hk HN.out hr.out).1 h512).2
          have h512' : ¬ ((512 : Int) < (j : Int) + 1) := by omega
          clear h512
          go_wp2
          exact bodyPost_ret (res_cell_tmp rfl _ _ _ 29 #[.slice (some ⟨b, o, none⟩) (j + 1) c] (0, 0) _ (.int .i64 0) rfl (HX.out _) rfl Tryd.underlying29 rfl hinfo) rfl (Or.inl ⟨HL.out, _, _, _, rfl, HE.out _, HB.out _⟩)
        · have HL : Hid (capN ≤ valW ws) := (made_end H.out HT0.out hk HN.out hr.out).2 (by omega)
          have h512' : (512 : Int) < (j : Int) + 1 := by omega
          clear h512
          go_wp2
          exact bodyPost_ret (res_cell_tmp rfl _ _ _ 29 #[.slice none 0 0] (0, 0) _ (.int .i64 16) rfl (HX.out _) rfl Tryd.underlying29 rfl hinfo) rfl (Or.inr ⟨HL.out, rfl, HB.out _⟩)
theorem valW_one (x : UInt64) : valW [x] = x.toNat := by show x.toNat + _ * 0 = _; omega
theorem small_cap (x : UInt64) : x.toNat < capN := Nat.lt_of_lt_of_le (by have := powW_lt [x]; rw [valW_one] at this; exact this) (powW_mono (show 1 ≤ 512 by decide))
set_option maxRecDepth 100000 in
set_option maxHeartbeats 1000000 in
theorem OfN_any (x : UInt64) (w : World) : Calls Tryd.prog 10 #[W64 x] w (RetN1 34 w x.toNat) := by
  have hinfo := info_nat
  have hm : (1 : Nat) ≤ maxLen := by simp [maxLen]
  go_enter Tryd.func10, Tryd.ntmps10
  go_wp2_with fail
  refine Calls.mono (made_any _ 1 1 [x] _ (sl_block [x] 1 (hnew (by simp)) rfl rfl hm) (Lies.at (hnew (by simp)))) ?_
  rintro e w1 hr
  rw [valW_one] at hr
  obtain ⟨q, n, c, rfl, hws, hb⟩ := hr.ok (small_cap x)
  have hone : One w1 w.heap.size (.slice none 0 0) 29 := One.of ((hb.block _ (by simp <;> omega)).trans (hal (hnew rfl)))
  have HO : Hid (∀ o, (w1.alloc o).heap[w.heap.size]? = some (.cells #[.slice none 0 0] 29 (0, 0))) := fun o => hal hone.box
  obtain ⟨_, a1, a2, a3, a4⟩ := hone
  have hsz := hb.size
  simp at hsz
  have HB : Hid (Below w.heap.size w w1) := bl (al (al (Below.refl _ _) (Nat.le_refl _)) (by simp)) hb (by simp <;> omega)
  have HF : Hid (∀ o v, Below w.heap.size w ((w1.alloc o).setCell ⟨w.heap.size, 0, none⟩ v) ∧ Below w1.heap.size w1 (w1.alloc o)) := fun o v => ⟨(al HB.out (by omega)).setCell (Nat.le_refl _) _, al (Below.refl _ _) (Nat.le_refl _)⟩
  have HW : Hid (∀ o v, Ws 34 ((w1.alloc o).setCell ⟨w.heap.size, 0, none⟩ v) q n c x.toNat) := fun o v => (hws.keep (al (Below.refl _ _) (Nat.le_refl _))).set (HO.out o) (by decide)
  clear hr hws hb hsz
  go_wp2
  exact bodyPost_ret (results_cell_row rfl _ _ _ 29 #[.slice q n c] (0, 0) _ rfl (hss (HO.out _)) Tryd.underlying29 rfl hinfo) rfl ⟨_, _, _, rfl, HW.out _ _, (HF.out _ _).1⟩
end Go.Proofs.YtbfmdfbnhakolaaDoor
