/- A region that draws its order, op by op: an invariant in place of the orders. Any program. Slices of byte slices that the call itself makes. A region that draws its order and stores nothing: each operation has a shape that lasts. A region that draws its order, with one store into a block of its own: each operation has a shape that lasts. The frame behind a region that draws its order; one operation with its operands known. A guard that never ran says no. The contracts of a grid's parts: blank, row, Width, Height, Same. The contracts of grid.Of, and of the reference's Of; Few. The contracts of grid.Unit and Rows. A slice of rows that the call owns. The contracts of the reference's functions of layer 2: Dot, Scale. The contract of the reference's combination. The walk of the law KernPairs. The contracts of the reference's functions of layer 3, and its inverse. The contracts of the reference's functions of layer 3. The contracts of the reference's Less and Same of layer 3, of the law's helpers, and of Unit. The plain law of VecLeads: what is normed leads with a 1, and so on. -/
import Derived.Test.YtofhdakggapahaaZq1
import Derived.RegionTactic
import Derived.WalkKit
import Derived.Deep.AppendLies
namespace Go.By
open Go.RowKit
/-- the operations that must come ahead of this one -/
def preds (o : Oper) : List Nat := (o.after.toList.filter (fun e => Region.binds .any e)).map (·.on)
/-- a slot of the frame -/
def sl (a : Act) (t : Nat) : Value := a.tmps.getD t undef
/-- at operation i the slot t holds what it held at first -/
def initAt (ops : Array Oper) (i t : Nat) : Bool := (List.range ops.size).all fun j => j == i || match ops[j]? with
  | some o => (o.dst != some t) || (preds o).contains i
  | none => true
/-- the edges lead backwards -/
def backB (ops : Array Oper) : Bool := (List.range ops.size).all fun i => match ops[i]? with
  | some o => (preds o).all (fun k => decide (k < i))
  | none => true
theorem mem_ready {ops : Array Oper} {listed : Array Bool} {i : Nat} : i ∈ Region.ready .any ops listed ↔ i < ops.size ∧ listed.getD i true = false ∧ ∃ o, ops[i]? = some o ∧ ∀ k, k ∈ preds o → listed.getD k false = true := by
  simp only [Region.ready, List.mem_filter, List.mem_range, Bool.and_eq_true, Bool.not_eq_true', preds]
  constructor
  · rintro ⟨h1, h2, h3⟩
    refine ⟨h1, h2, ?_⟩
    have ho : ops[i]? = some ops[i] := Array.getElem?_eq_getElem h1
    refine ⟨_, ho, ?_⟩
    rw [ho] at h3
    simp only [Option.map_some, Option.getD_some, Array.all_eq_true_iff_forall_mem, Bool.or_eq_true, Bool.not_eq_true'] at h3
    intro k hk
    obtain ⟨e, he, rfl⟩ := List.mem_map.1 hk
    obtain ⟨he1, he2⟩ := List.mem_filter.1 he
    rcases h3 e (by simpa using he1) with h | h
    · rw [h] at he2; cases he2
    · exact h
  · rintro ⟨h1, h2, o, ho, h3⟩
    refine ⟨h1, h2, ?_⟩
    rw [ho]
    simp only [Option.map_some, Option.getD_some, Array.all_eq_true_iff_forall_mem, Bool.or_eq_true, Bool.not_eq_true']
    intro e he
    by_cases hb : Region.binds .any e = true
    · right
      exact h3 e.on (List.mem_map.2 ⟨e, List.mem_filter.2 ⟨by simpa using he, hb⟩, rfl⟩)
    · left; simpa using hb
/-- how many are not listed yet -/
def unl (n : Nat) (listed : Array Bool) : Nat := (List.range n).countP (fun i => !listed.getD i true)
theorem countP_lt {l : List Nat} {p q : Nat → Bool} (h : ∀ x, x ∈ l → q x = true → p x = true) {i : Nat} (hi : i ∈ l) (hp : p i = true) (hq : q i = false) : l.countP q < l.countP p := by
  induction l with
  | nil => simp at hi
  | cons x l ih =>
    have hmono : l.countP q ≤ l.countP p := List.countP_mono_left (fun y hy hqy => h y (List.mem_cons_of_mem _ hy) hqy)
    rw [List.countP_cons, List.countP_cons]
    rcases List.mem_cons.1 hi with rfl | hi'
    · simp [hp, hq]; omega
    · have := ih (fun y hy => h y (List.mem_cons_of_mem _ hy)) hi'
      have hx := h x List.mem_cons_self
      by_cases hqx : q x = true
      · simp [hqx, hx hqx]; omega
      · simp [hqx]; split <;> omega
theorem unl_set {n : Nat} {listed : Array Bool} {i : Nat} (hi : i < n) (hl : listed.getD i true = false) : unl n (listed.setIfInBounds i true) < unl n listed := by
  refine countP_lt (i := i) ?_ (List.mem_range.2 hi) (by simpa using hl) ?_
  · intro x _ hx
    by_cases e : i = x
    · subst e; simpa using hl
    · simp only [Array.getD_eq_getD_getElem?, Array.getElem?_setIfInBounds, if_neg e] at hx ⊢
      exact hx
  · have hs : i < listed.size := by
      rcases Nat.lt_or_ge i listed.size with h | h
      · exact h
      · simp [Array.getD_eq_getD_getElem?, Array.getElem?_eq_none h] at hl
    simp [Array.getD_eq_getD_getElem?, Array.getElem?_setIfInBounds, hs]
section
variable {P : Program} {ops : Array Oper} {Q : Exit → Act → World → Prop}
/-- what is to be shown of one operation -/
def StepOf (P : Program) (ops : Array Oper) (Q : Exit → Act → World → Prop) (a0 : Act) (w0 : World) (E : World → World → Prop) (R : Nat → World → World → Prop) (Inv : Nat → (Nat → Value) → World → Prop) (i : Nat) (o : Oper) : Prop :=
  ∀ (a : Act) (w : World), E w0 w → a.tmps.size = a0.tmps.size → (∀ k, k ∈ preds o → Inv k (sl a) w) → (∀ t, initAt ops i t = true → sl a t = sl a0 t) →
    if Region.wanted o (yielded ops a.tmps) = true then o.wp P a w (fun a' w' => ∃ v, a' = a.put o.dst v ∧ R i w w' ∧ Inv i (sl a') w') Q
    else R i w w ∧ Inv i (sl (a.put o.dst undef)) w
def Each (P : Program) (ops : Array Oper) (Q : Exit → Act → World → Prop) (a0 : Act) (w0 : World) (E : World → World → Prop) (R : Nat → World → World → Prop) (Inv : Nat → (Nat → Value) → World → Prop) : List Oper → Nat → Prop
  | [], _ => True
  | o :: rest, i => StepOf P ops Q a0 w0 E R Inv i o ∧ Each P ops Q a0 w0 E R Inv rest (i + 1)
theorem Each.get {a0 : Act} {w0 : World} {E : World → World → Prop} {R : Nat → World → World → Prop} {Inv : Nat → (Nat → Value) → World → Prop} : ∀ (l : List Oper) (k : Nat), Each P ops Q a0 w0 E R Inv l k → ∀ j o, l[j]? = some o → StepOf P ops Q a0 w0 E R Inv (k + j) o := by
  intro l
  induction l with
  | nil => intro k _ j o h; simp at h
  | cons x l ih =>
    intro k h j o hj
    cases j with
    | zero => simp at hj; subst hj; exact h.1
    | succ j =>
      have := ih (k + 1) h.2 j o (by simpa using hj)
      rwa [show k + 1 + j = k + (j + 1) by omega] at this
theorem put_sl (a : Act) (d : Option Nat) (v : Value) (t : Nat) (h : d ≠ some t) : sl (a.put d v) t = sl a t := by
  cases d with
  | none => rfl
  | some x =>
    have : x ≠ t := fun e => h (by rw [e])
    simp [sl, Act.put, Array.getD_eq_getD_getElem?, Array.getElem?_setIfInBounds, this]
theorem put_size (a : Act) (d : Option Nat) (v : Value) : (a.put d v).tmps.size = a.tmps.size := by
  cases d <;> simp [Act.put]
theorem put_defers (a : Act) (d : Option Nat) (v : Value) : (a.put d v).defers = a.defers := by
  cases d <;> simp [Act.put]
theorem put_same (a : Act) (x : Nat) (v : Value) (h : x < a.tmps.size) : sl (a.put (some x) v) x = v := by
  simp [sl, Act.put, Array.getD_eq_getD_getElem?, Array.getElem?_setIfInBounds, h]
/-- A REGION THAT DRAWS, by an invariant of each operation -/
theorem wp_region_each {id : Nat} {a0 : Act} {w0 : World} (hm : P.follows .mixedOrders = true) (hback : backB ops = true)
    (E : World → World → Prop) (R : Nat → World → World → Prop) (Inv : Nat → (Nat → Value) → World → Prop)
    (E0 : E w0.drew w0.drew) (ER : ∀ i w w', E w0.drew w → R i w w' → E w0.drew w')
    (stable : ∀ i j oi oj (σ σ' : Nat → Value) w w', i ≠ j → ops[i]? = some oi → ops[j]? = some oj → i ∉ preds oj ∨ True → Inv j σ w → R i w w' → (∀ t, oi.dst ≠ some t → σ' t = σ t) → (j ∉ preds oi → True) → (∀ d, oi.dst = some d → i ∈ preds oj → False) → Inv j σ' w')
    (each : Each P ops Q a0 w0.drew E R Inv ops.toList 0)
    (fin : ∀ a w, E w0.drew w → a.tmps.size = a0.tmps.size → a.defers = a0.defers → (∀ j, j < ops.size → Inv j (sl a) w) → (∀ t, (ops.toList.all fun o => o.dst != some t) = true → sl a t = sl a0 t) → Q .normal a w) :
    (Code.region id ops true).wp P Q a0 w0 := by
  refine wp_region_any hm ?_
  show wpAny P .any ops Q ops.size (Array.replicate ops.size false) a0 w0.drew
  have main : ∀ (fuel : Nat) (listed : Array Bool) (a : Act) (w : World), unl ops.size listed ≤ fuel → E w0.drew w → a.tmps.size = a0.tmps.size → a.defers = a0.defers →
      (∀ j o, listed.getD j false = true → ops[j]? = some o → ∀ k, k ∈ preds o → listed.getD k false = true) →
      (∀ j, j < ops.size → listed.getD j true = true → listed.getD j false = true) →
      (∀ j, j < ops.size → listed.getD j false = true → Inv j (sl a) w) →
      (∀ t, (∀ j o, j < ops.size → listed.getD j false = true → ops[j]? = some o → o.dst ≠ some t) → sl a t = sl a0 t) → wpAny P .any ops Q fuel listed a w := by
    intro fuel
    induction fuel with
    | zero =>
      intro listed a w hu hE hs hd hcl hlt hI ht
      have hall : ∀ j, j < ops.size → listed.getD j false = true := by
        intro j hj
        refine hlt j hj ?_
        have h0 : unl ops.size listed = 0 := by omega
        unfold unl at h0
        have := List.countP_eq_zero.1 h0 j (List.mem_range.2 hj)
        simpa using this
      refine ⟨?_, fin a w hE hs hd (fun j hj => hI j hj (hall j hj)) (fun t htt => ht t (fun j o _ _ ho => ?_))⟩
      · rw [List.eq_nil_iff_forall_not_mem]
        intro i hi
        obtain ⟨h1, h2, _⟩ := mem_ready.1 hi
        have hx := hall i h1
        rcases Nat.lt_or_ge i listed.size with h | h
        · simp [Array.getD_eq_getD_getElem?, h] at h2 hx; rw [h2] at hx; cases hx
        · simp [Array.getD_eq_getD_getElem?, Array.getElem?_eq_none h] at hx
      · have := List.all_eq_true.1 htt o (by rw [Array.mem_toList_iff]; exact Array.mem_of_getElem? ho)
        simpa using this
    | succ fuel ih =>
      intro listed a w hu hE hs hd hcl hlt hI ht
      refine ⟨fun hr => ?_, fun i hi => ?_⟩
      · have hall : ∀ n j, j < n → j < ops.size → listed.getD j false = true := by
          intro n
          induction n with
          | zero => intro j hj; omega
          | succ n ihn =>
            intro j hj hjs
            refine hlt j hjs ?_
            cases hb : listed.getD j true with
            | true => rfl
            | false =>
              exfalso
              have ho : ops[j]? = some ops[j] := Array.getElem?_eq_getElem hjs
              have : j ∈ Region.ready .any ops listed := mem_ready.2 ⟨hjs, hb, _, ho, fun k hk => by
                have hbk := List.all_eq_true.1 hback j (List.mem_range.2 hjs)
                rw [ho] at hbk
                have hkj := of_decide_eq_true (List.all_eq_true.1 hbk k hk)
                exact ihn k (by omega) (by omega)⟩
              rw [hr] at this; cases this
        exact fin a w hE hs hd (fun j hj => hI j hj (hall (j + 1) j (by omega) hj)) (fun t htt => ht t (fun j o _ _ ho => by
          have := List.all_eq_true.1 htt o (by rw [Array.mem_toList_iff]; exact Array.mem_of_getElem? ho)
          simpa using this))
      · obtain ⟨h1, h2, o, ho, h3⟩ := mem_ready.1 hi
        have hst := Each.get ops.toList 0 each i o (by simpa using ho)
        rw [Nat.zero_add] at hst
        have hnl : listed.getD i false ≠ true := by
          intro hx
          rcases Nat.lt_or_ge i listed.size with h | h
          · simp [Array.getD_eq_getD_getElem?, h] at h2 hx; rw [h2] at hx; cases hx
          · simp [Array.getD_eq_getD_getElem?, Array.getElem?_eq_none h] at hx
        have his : i < listed.size := by
          rcases Nat.lt_or_ge i listed.size with h | h
          · exact h
          · simp [Array.getD_eq_getD_getElem?, Array.getElem?_eq_none h] at h2
        have gset : ∀ j (d : Bool), (listed.setIfInBounds i true).getD j d = if i = j then true else listed.getD j d := by
          intro j d
          simp only [Array.getD_eq_getD_getElem?, Array.getElem?_setIfInBounds]
          by_cases e : i = j
          · subst e; simp [his]
          · simp [e]
        have hst' := hst a w hE hs (fun k hk => hI k (by
            have hbk := List.all_eq_true.1 hback i (List.mem_range.2 h1)
            rw [ho] at hbk
            have := of_decide_eq_true (List.all_eq_true.1 hbk k hk); omega) (h3 k hk)) (fun t hti => by
          refine ht t (fun j oj hj hlj hoj hdj => ?_)
          have := List.all_eq_true.1 hti j (List.mem_range.2 hj)
          rw [hoj] at this
          by_cases e : j = i
          · subst e; exact hnl hlj
          · simp [e, hdj] at this
            exact hnl (hcl j oj hlj hoj i this))
        have next : ∀ (v : Value) (w' : World), R i w w' → Inv i (sl (a.put o.dst v)) w' → wpAny P .any ops Q fuel (listed.setIfInBounds i true) (a.put o.dst v) w' := by
          intro v w' hR hIi
          refine ih _ _ _ (by have := unl_set (n := ops.size) h1 h2; omega) (ER i w w' hE hR) ((put_size _ _ _).trans hs) ((put_defers _ _ _).trans hd) ?_ ?_ ?_ ?_
          · intro j oj hj hoj k hk
            rw [gset] at hj ⊢
            by_cases e : i = k
            · rw [if_pos e]
            · rw [if_neg e]
              by_cases e' : i = j
              · subst e'; rw [ho] at hoj; cases hoj; exact h3 k hk
              · rw [if_neg e'] at hj; exact hcl j oj hj hoj k hk
          · intro j hj hl
            rw [gset] at hl ⊢
            by_cases e : i = j
            · rw [if_pos e]
            · rw [if_neg e] at hl ⊢; exact hlt j hj hl
          · intro j hj hl
            rw [gset] at hl
            by_cases e : i = j
            · subst e; exact hIi
            · rw [if_neg e] at hl
              have hoj : ops[j]? = some ops[j] := Array.getElem?_eq_getElem hj
              exact stable i j o _ (sl a) _ w w' e ho hoj (.inr trivial) (hI j hj hl) hR (fun t h => put_sl _ _ _ _ h) (fun _ => trivial) (fun d hdd hp => hnl (hcl j _ hl hoj i hp))
          · intro t htt
            have hdt : o.dst ≠ some t := htt i o h1 (by rw [gset, if_pos rfl]) ho
            rw [put_sl _ _ _ _ hdt]
            exact ht t (fun j oj hj hl hoj => htt j oj hj (by rw [gset]; split <;> simp [hl]) hoj)
        unfold wpOp
        rw [ho]
        show if Region.wanted o (yielded ops a.tmps) = true then _ else _
        split
        · rename_i hw
          rw [if_pos hw] at hst'
          exact .inl (Oper.wp_mono (fun a' w' ⟨v, e, hR, hIi⟩ => by rw [e] at hIi ⊢; exact next v w' hR hIi) hst')
        · rename_i hw
          rw [if_neg hw] at hst'
          exact next undef w hst'.1 hst'.2
  refine main ops.size _ a0 w0.drew ?_ E0 rfl rfl ?_ ?_ ?_ ?_
  · unfold unl; exact Nat.le_trans List.countP_le_length (by simp)
  · intro j o hj; simp [Array.getD_eq_getD_getElem?, Array.getElem?_replicate] at hj
    split at hj <;> simp at hj
  · intro j hj hl; simp [Array.getD_eq_getD_getElem?, Array.getElem?_replicate, hj] at hl
  · intro j hj hl; simp [Array.getD_eq_getD_getElem?, Array.getElem?_replicate, hj] at hl
  · intro t _; rfl
end
end Go.By
namespace Go.By
open Go.RowKit
/-- a slice value that owns a row of byte slices, each of which owns its bytes -/
def Own2 (T2 T1 : TypeId) (w : World) (base : Nat) (v : Value) (n : Nat) (xss : List (List UInt8)) : Prop :=
  ∃ vs : List Value, w.ownsRow base T2 1 v n vs ∧ xss.length = n ∧ ∀ (j : Nat) (val : Value), vs[j]? = some val → ∃ xs q c', xss[j]? = some xs ∧ val = Value.slice q xs.length c' ∧ w.ownsRow base T1 1 (.slice q xs.length c') xs.length (xs.map B8)
section
variable {T2 T1 : TypeId} {w w' : World} {base n : Nat} {v : Value} {xss : List (List UInt8)}
theorem Own2.nil (T2 T1 : TypeId) (w : World) (base : Nat) : Own2 T2 T1 w base (.slice none 0 0) 0 [] := ⟨[], World.ownsRow_nil _ _ _ _, rfl, fun j val h => by simp at h⟩
theorem owns_kept {e size : Nat} {v : Value} {ys : List Value} {row : Option Nat} (h : w.ownsRow base e size v n ys) (hg : w.grownBy w' row) (hne : ∀ k, v.ownBlock = some k → some k ≠ row) : w'.ownsRow base e size v n ys :=
  h.kept hg (by
    cases hv : v.ownBlock with
    | none => exact .inl rfl
    | some k => exact .inr (fun e => hne k hv e))
/-- rows of unlike element types lie in unlike blocks -/
theorem owns_ne {b1 b2 e1 e2 s1 s2 n1 n2 : Nat} {v1 v2 : Value} {ys1 ys2 : List Value} (h1 : w.ownsRow b1 e1 s1 v1 n1 ys1) (h2 : w.ownsRow b2 e2 s2 v2 n2 ys2) (he : e1 ≠ e2) : ∀ k, v1.ownBlock = some k → some k ≠ v2.ownBlock := by
  intro k hk
  rcases h1.2 with ⟨rfl, _⟩ | ⟨g1, c1, cur1, rfl, _, hh1, _⟩
  · simp [Value.ownBlock] at hk
  · simp [Value.ownBlock] at hk; subst hk
    rcases h2.2 with ⟨rfl, _⟩ | ⟨g2, c2, cur2, rfl, _, hh2, _⟩
    · simp [Value.ownBlock]
    · simp only [Value.ownBlock]
      intro e
      cases e
      rw [hh1] at hh2
      cases hh2; exact he rfl
theorem owns_keepv {e size : Nat} {ys : List Value} (h : w.ownsRow base e size v n ys) (hb : Below w.heap.size w w') : w'.ownsRow base e size v n ys := by
  obtain ⟨q, c, rfl⟩ := owns_shape h
  exact owns_keep h hb
theorem Own2.keep (h : Own2 T2 T1 w base v n xss) (hb : Below w.heap.size w w') : Own2 T2 T1 w' base v n xss := by
  obtain ⟨vs, h1, h2, h3⟩ := h
  exact ⟨vs, owns_keepv h1 hb, h2, fun j val hj => by
    obtain ⟨xs, q, c', a, b, c⟩ := h3 j val hj
    exact ⟨xs, q, c', a, b, owns_keep c hb⟩⟩
theorem Own2.sl2 {p : Option Addr} {c : Nat} (h : Own2 T2 T1 w base (.slice p n c) n xss) : Sl2 w p n c xss := by
  obtain ⟨vs, h1, h2, h3⟩ := h
  have hs : Sl id w p n c vs := Sl.of_owns (by rw [List.map_id]; exact h1)
  refine ⟨h2, hs.le, hs.max, hs.nil, ?_⟩
  intro i xs hi
  have hlt : i < vs.length := by
    have := (List.getElem?_eq_some_iff.1 hi).1
    rw [hs.len]; omega
  obtain ⟨b, o, hp, hc⟩ := hs.rs i hlt
  obtain ⟨xs', q, c', a1, a2, a3⟩ := h3 i _ (List.getElem?_eq_getElem hlt)
  have e := hi.symm.trans a1
  cases e
  exact ⟨b, o, q, c', hp, by rw [hc, id, a2], Sl.of_owns a3⟩
/-- one row more: what the law on append leaves -/
theorem Own2.push {q : Option Addr} {m c : Nat} {xs : List UInt8} {vs : List Value} {v' : Value} (hT : T1 ≠ T2) (h2 : xss.length = n)
    (h3 : ∀ (j : Nat) (val : Value), vs[j]? = some val → ∃ xs q c', xss[j]? = some xs ∧ val = Value.slice q xs.length c' ∧ w.ownsRow base T1 1 (.slice q xs.length c') xs.length (xs.map B8))
    (h1 : w.ownsRow base T2 1 v n vs) (hr : w.ownsRow base T1 1 (.slice q m c) m (xs.map B8)) (ho : w'.ownsRow base T2 1 v' (n + 1) (vs ++ [.slice q m c])) (hg : w.grownBy w' v.ownBlock) : Own2 T2 T1 w' base v' (n + 1) (xss ++ [xs]) := by
  have hvl : vs.length = n := by simpa using h1.1
  have hml : m = xs.length := by have := hr.1; simp at this; exact this.symm
  refine ⟨_, ho, by simp [h2], ?_⟩
  intro j val hj
  by_cases hjn : j < n
  · rw [List.getElem?_append_left (by omega)] at hj
    obtain ⟨ys, q', c', a, b, d⟩ := h3 j val hj
    exact ⟨ys, q', c', by rw [List.getElem?_append_left (by omega)]; exact a, b, owns_kept d hg (owns_ne d h1 hT)⟩
  · rw [List.getElem?_append_right (by omega)] at hj
    have hj0 : j = n := by
      have := (List.getElem?_eq_some_iff.1 hj).1
      simp at this; omega
    subst hj0
    rw [hvl] at hj
    simp at hj
    subst hj
    refine ⟨xs, q, c, by rw [List.getElem?_append_right (by omega), h2]; simp, by rw [hml], ?_⟩
    have := owns_kept hr hg (owns_ne hr h1 hT)
    rwa [hml] at this
end
end Go.By
namespace Go.By
open Go.RowKit
/-- what is said of a value, and lasts while old memory stays -/
structure Shp where
  ok : Value → World → Prop
  keep : ∀ (v : Value) (w w' : World), ok v w → Below w.heap.size w w' → ok v w'
def Shp.val (u : Value) : Shp := ⟨fun v _ => v = u, fun _ _ _ h _ => h⟩
def Shp.any : Shp := ⟨fun _ _ => True, fun _ _ _ h _ => h⟩
def Shp.tru : Shp := Shp.val (.bool true)
def BytesIs (xs : List UInt8) (v : Value) (w : World) : Prop := ∃ p n c, v = .slice p n c ∧ Sl B8 w p n c xs
def RowIs (r : List UInt8 × List UInt8) (v : Value) (w : World) : Prop := ∃ p1 n1 c1 p2 n2 c2, v = .agg #[.slice p1 n1 c1, .slice p2 n2 c2] ∧ Sl B8 w p1 n1 c1 r.1 ∧ Sl B8 w p2 n2 c2 r.2
def RowsIs (xss : List (List UInt8)) (v : Value) (w : World) : Prop := ∃ p n c, v = .slice p n c ∧ Sl2 w p n c xss
def Shp.bytes (xs : List UInt8) : Shp := ⟨BytesIs xs, fun _ _ _ ⟨p, n, c, e, h⟩ hb => ⟨p, n, c, e, h.keep hb⟩⟩
def Shp.row (r : List UInt8 × List UInt8) : Shp := ⟨RowIs r, fun _ _ _ ⟨p1, n1, c1, p2, n2, c2, e, h1, h2⟩ hb => ⟨p1, n1, c1, p2, n2, c2, e, h1.keep hb, h2.keep hb⟩⟩
def Shp.rows (xss : List (List UInt8)) : Shp := ⟨RowsIs xss, fun _ _ _ ⟨p, n, c, e, h⟩ hb => ⟨p, n, c, e, h.keep hb⟩⟩
/-- the slots that the operations write are unlike -/
def distB (ops : Array Oper) : Bool := (List.range ops.size).all fun i => (List.range ops.size).all fun j => i == j || match ops[i]?, ops[j]? with
  | some oi, some oj => (match oi.dst, oj.dst with
    | some x, some y => x != y
    | _, _ => true)
  | _, _ => true
def dstOf (ops : Array Oper) (i : Nat) : Option Nat := (ops[i]?).bind (·.dst)
def InvS (ops : Array Oper) (sh : Nat → Shp) (i : Nat) (σ : Nat → Value) (w : World) : Prop := match dstOf ops i with
  | some d => (sh i).ok (σ d) w
  | none => True
/-- what is to be shown of one operation -/
def StepS (P : Program) (ops : Array Oper) (Q : Exit → Act → World → Prop) (a0 : Act) (W0 : World) (sh : Nat → Shp) (i : Nat) (o : Oper) : Prop :=
  ∀ (a : Act) (w : World), Below W0.heap.size W0 w → a.tmps.size = a0.tmps.size → (∀ k, k ∈ preds o → InvS ops sh k (sl a) w) → (∀ t, initAt ops i t = true → sl a t = sl a0 t) →
    if Region.wanted o (yielded ops a.tmps) = true then o.wp P a w (fun a' w' => ∃ v, a' = a.put o.dst v ∧ Below w.heap.size w w' ∧ (sh i).ok v w') Q
    else (sh i).ok undef w
def EachS (P : Program) (ops : Array Oper) (Q : Exit → Act → World → Prop) (a0 : Act) (W0 : World) (sh : Nat → Shp) : List Oper → Nat → Prop
  | [], _ => True
  | o :: rest, i => StepS P ops Q a0 W0 sh i o ∧ EachS P ops Q a0 W0 sh rest (i + 1)
/-- every operation writes a slot of the frame -/
def dstsB (ops : Array Oper) (n : Nat) : Bool := ops.toList.all fun o => match o.dst with
  | some d => decide (d < n)
  | none => false
theorem each_of {P : Program} {ops : Array Oper} {Q : Exit → Act → World → Prop} {a0 : Act} {W0 : World} {sh : Nat → Shp} {n : Nat} (hn : a0.tmps.size = n) : ∀ (l : List Oper) (k : Nat), (∀ j o, l[j]? = some o → ops[k + j]? = some o) → (l.all fun o => match o.dst with | some d => decide (d < n) | none => false) = true →
    EachS P ops Q a0 W0 sh l k → Each P ops Q a0 W0 (fun W w => Below W.heap.size W w) (fun _ w w' => Below w.heap.size w w') (InvS ops sh) l k := by
  intro l
  induction l with
  | nil => intro k _ _ _; trivial
  | cons o l ih =>
    intro k hk hd h
    simp only [List.all_cons, Bool.and_eq_true] at hd
    refine ⟨?_, ih (k + 1) (fun j o' hj => by have := hk (j + 1) o' (by simpa using hj); rwa [show k + (j + 1) = k + 1 + j by omega] at this) hd.2 h.2⟩
    intro a w hE hs hp hi
    have ho : ops[k]? = some o := by have := hk 0 o (by simp); simpa using this
    have hs1 := h.1 a w hE hs hp hi
    cases hdo : o.dst with
    | none => rw [hdo] at hd; simp at hd
    | some d =>
      rw [hdo] at hd
      have hd1 : d < n := of_decide_eq_true hd.1
      have hdn : d < a.tmps.size := by rw [hs, hn]; exact hd1
      have hdst : dstOf ops k = some d := by simp [dstOf, ho, hdo]
      split
      · rename_i hw
        rw [if_pos hw] at hs1
        refine Oper.wp_mono ?_ hs1
        rintro a' w' ⟨v, e, hb, hok⟩
        refine ⟨v, e.trans (by rw [hdo]), hb, ?_⟩
        unfold InvS
        rw [hdst]
        show (sh k).ok (sl a' d) w'
        rw [e, hdo, put_same _ _ _ hdn]; exact hok
      · rename_i hw
        rw [if_neg hw] at hs1
        refine ⟨Below.refl _ _, ?_⟩
        unfold InvS
        rw [hdst]
        show (sh k).ok (sl (a.put (some d) undef) d) w
        rw [put_same _ _ _ hdn]; exact hs1
theorem wp_region_shapes {P : Program} {ops : Array Oper} {Q : Exit → Act → World → Prop} {id : Nat} {a0 : Act} {w0 : World} (sh : Nat → Shp) (n : Nat) (hn : a0.tmps.size = n) (hm : P.follows .mixedOrders = true) (hback : backB ops = true) (hdist : distB ops = true) (hdsts : dstsB ops n = true)
    (each : EachS P ops Q a0 w0.drew sh ops.toList 0)
    (fin : ∀ a w, Below w0.heap.size w0 w → a.tmps.size = a0.tmps.size → a.defers = a0.defers → (∀ j, j < ops.size → InvS ops sh j (sl a) w) → (∀ t, (ops.toList.all fun o => o.dst != some t) = true → sl a t = sl a0 t) → Q .normal a w) :
    (Code.region id ops true).wp P Q a0 w0 := by
  refine wp_region_each hm hback (fun W w => Below W.heap.size W w) (fun _ w w' => Below w.heap.size w w') (InvS ops sh) (Below.refl _ _) (fun i w w' h hR => h.trans (hR.mono h.size)) ?_ (each_of hn _ 0 (fun j o hj => by simpa using hj) hdsts each) (fun a w hE hs hd hI ht => fin a w ⟨hE.os, hE.tape, hE.output, hE.size, hE.block⟩ hs hd hI ht)
  intro i j oi oj σ σ' w w' hij hoi hoj _ hI hR hσ _ _
  unfold InvS at hI ⊢
  cases hdj : dstOf ops j with
  | none => trivial
  | some d =>
    rw [hdj] at hI
    show (sh j).ok (σ' d) w'
    have hne : oi.dst ≠ some d := by
      intro e
      have hi' : i < ops.size := (Array.getElem?_eq_some_iff.1 hoi).1
      have hj' : j < ops.size := (Array.getElem?_eq_some_iff.1 hoj).1
      have := List.all_eq_true.1 (List.all_eq_true.1 hdist i (List.mem_range.2 hi')) j (List.mem_range.2 hj')
      rw [hoi, hoj] at this
      have hdj' : oj.dst = some d := by simpa [dstOf, hoj] using hdj
      simp [e, hdj', hij] at this
    rw [hσ d hne]
    exact (sh j).keep _ _ _ hI hR
/-- the guard says yes -/
theorem wanted_yes {ops : Array Oper} {o : Oper} {a : Act} {j : Nat} {b : Bool} {d : Nat} (hg : o.guard = some (j, b)) (hd : dstOf ops j = some d) (hs : d < a.tmps.size) (hv : sl a d = .bool b) : Region.wanted o (yielded ops a.tmps) = true := by
  have h1 : a.tmps[d]? = some (.bool b) := by
    have := hv
    simp only [sl, Array.getD_eq_getD_getElem?, Array.getElem?_eq_getElem hs, Option.getD_some] at this
    rw [Array.getElem?_eq_getElem hs, this]
  unfold dstOf at hd
  simp [Region.wanted, hg, yielded, hd, h1]
theorem ite_y {c : Prop} [Decidable c] {A B : Prop} (hc : c) (h : A) : if c then A else B := by rw [if_pos hc]; exact h
/-- an operation that gives a value -/
theorem wp_val {P : Program} {o : Oper} {a : Act} {w : World} {K : Act → World → Prop} {Q : Exit → Act → World → Prop} (v : Value) (hrun : (execOp a.eval o).run P w = .ok (.value v) w) (h : K (a.put o.dst v) w) : o.wp P a w K Q := by
  unfold Oper.wp; rw [hrun]; exact h
theorem wp_val' {P : Program} {o : Oper} {a : Act} {w w' : World} {K : Act → World → Prop} {Q : Exit → Act → World → Prop} (v : Value) (hrun : (execOp a.eval o).run P w = .ok (.value v) w') (h : K (a.put o.dst v) w') : o.wp P a w K Q := by
  unfold Oper.wp; rw [hrun]; exact h
/-- an operation that calls -/
theorem wp_enter {P : Program} {o : Oper} {a : Act} {w : World} {K : Act → World → Prop} {Q : Exit → Act → World → Prop} (f : FuncId) (args : Array Value) (hrun : (execOp a.eval o).run P w = .ok (.enter f args) w)
    {R : Ending → World → Prop} (hc : Calls P f args w R) (h : ∀ e w', R e w' → ∃ v, e = .returned v ∧ K (a.put o.dst v) w') : o.wp P a w K Q := by
  unfold Oper.wp; rw [hrun]
  show Calls P f args w _
  refine hc.mono ?_
  intro e w' hr
  obtain ⟨v, rfl, hk⟩ := h e w' hr
  exact hk
end Go.By
namespace Go.By
open Go.RowKit
/-- a store into a block of element type X, numbered B or more -/
structure StepX (B X : Nat) (w w' : World) : Prop where
  os : w'.os = w.os
  tape : w'.tape = w.tape
  output : w'.output = w.output
  size : w.heap.size ≤ w'.heap.size
  keep : ∀ k, k < w.heap.size → (k < B ∨ ∀ (cs : Array Value) fr, w.heap[k]? ≠ some (Obj.cells cs X fr)) → w'.heap[k]? = w.heap[k]?
  cells : ∀ (k : Nat) (cs : Array Value), w.heap[k]? = some (Obj.cells cs X (0, 0)) → ∃ cs' : Array Value, cs'.size = cs.size ∧ w'.heap[k]? = some (Obj.cells cs' X (0, 0))
/-- a slice whose cells no such store meets -/
def Away (B X : Nat) (w : World) (p : Option Addr) (n : Nat) : Prop := ∀ a, p = some a → 0 < n → a.block < B ∨ ∀ (cs : Array Value) fr, w.heap[a.block]? ≠ some (Obj.cells cs X fr)
section
variable {B X : Nat} {w w' : World}
theorem Away.keep {α : Type} {enc : α → Value} {p : Option Addr} {n c : Nat} {xs : List α} (h : Away B X w p n) (hs : Sl enc w p n c xs) (hb : Below w.heap.size w w') : Away B X w' p n := by
  intro a ha hn
  rcases h a ha hn with h | h
  · exact .inl h
  · right
    obtain ⟨b, o, hp, hlt⟩ := hs.rs.lt (by rw [hs.len]; exact hn)
    rw [ha] at hp; cases hp
    rw [hb.block b hlt]; exact h
theorem Away.step {α : Type} {enc : α → Value} {p : Option Addr} {n c : Nat} {xs : List α} (h : Away B X w p n) (hs : Sl enc w p n c xs) (hb : StepX B X w w') : Away B X w' p n ∧ Sl enc w' p n c xs := by
  have key : ∀ a, p = some a → 0 < n → w'.heap[a.block]? = w.heap[a.block]? := by
    intro a ha hn
    obtain ⟨b, o, hp, hlt⟩ := hs.rs.lt (by rw [hs.len]; exact hn)
    rw [ha] at hp; cases hp
    exact hb.keep b hlt (h _ ha hn)
  refine ⟨?_, hs.len, hs.le, hs.max, hs.nil, ?_⟩
  · intro a ha hn
    rcases h a ha hn with h | h
    · exact .inl h
    · exact .inr (by rw [key a ha hn]; exact h)
  · intro i hi
    obtain ⟨b, o, hp, hc⟩ := hs.rs i hi
    refine ⟨b, o, hp, (World.cell?_of_block (a := ⟨b, o + i, none⟩) ?_).trans hc⟩
    exact key ⟨b, o, none⟩ hp (by rw [← hs.len]; omega)
theorem Away.old {α : Type} {enc : α → Value} {W : World} {p : Option Addr} {n c : Nat} {xs : List α} (hs : Sl enc W p n c xs) (hB : W.heap.size ≤ B) : Away B X w p n := by
  intro a ha hn
  obtain ⟨b, o, hp, hlt⟩ := hs.rs.lt (by rw [hs.len]; exact hn)
  rw [ha] at hp; cases hp
  exact .inl (by show b < B; omega)
theorem Away.own {base e n c : Nat} {p : Option Addr} {ys : List Value} (h : w.ownsRow base e 1 (.slice p n c) n ys) (he : e ≠ X) : Away B X w p n := by
  intro a ha hn
  right
  intro cs fr hcs
  rcases h.2 with ⟨h2, _⟩ | ⟨g, cap, cur, hv, _, hh, _⟩
  · simp at h2; rw [h2.1] at ha; cases ha
  · obtain ⟨rfl, _⟩ : p = some ⟨g, 0, none⟩ ∧ c = cap := by simpa using hv
    cases ha
    rw [hh] at hcs; cases hcs; exact he rfl
end
structure ShX (B X : Nat) where
  ok : Value → World → Prop
  keep : ∀ (v : Value) (w w' : World), ok v w → Below w.heap.size w w' → ok v w'
  step : ∀ (v : Value) (w w' : World), ok v w → StepX B X w w' → ok v w'
def XBytes (B X : Nat) (xs : List UInt8) (v : Value) (w : World) : Prop := ∃ p n c, v = .slice p n c ∧ Sl B8 w p n c xs ∧ Away B X w p n
def XRow (B X : Nat) (r : List UInt8 × List UInt8) (v : Value) (w : World) : Prop := ∃ p1 n1 c1 p2 n2 c2, v = .agg #[.slice p1 n1 c1, .slice p2 n2 c2] ∧ (Sl B8 w p1 n1 c1 r.1 ∧ Away B X w p1 n1) ∧ (Sl B8 w p2 n2 c2 r.2 ∧ Away B X w p2 n2)
def XRowT (B X : Nat) (r : List UInt8 × List UInt8) (code : Int) (v : Value) (w : World) : Prop := ∃ u, v = .tuple #[u, .int .i64 code] ∧ XRow B X r u w
def XBox (B X size : Nat) (v : Value) (w : World) : Prop := ∃ b cs, v = .pointer (some ⟨b, 0, none⟩) ∧ B ≤ b ∧ cs.size = size ∧ w.heap[b]? = some (.cells cs X (0, 0))
section
variable (B X : Nat)
def ShX.val (u : Value) : ShX B X := ⟨fun v _ => v = u, fun _ _ _ h _ => h, fun _ _ _ h _ => h⟩
def ShX.any : ShX B X := ⟨fun _ _ => True, fun _ _ _ h _ => h, fun _ _ _ h _ => h⟩
def ShX.bytes (xs : List UInt8) : ShX B X := ⟨XBytes B X xs, fun _ _ _ ⟨p, n, c, e, h, k⟩ hb => ⟨p, n, c, e, h.keep hb, k.keep h hb⟩, fun _ _ _ ⟨p, n, c, e, h, k⟩ hb => ⟨p, n, c, e, (k.step h hb).2, (k.step h hb).1⟩⟩
theorem XRow.keep {B X : Nat} {r : List UInt8 × List UInt8} {v : Value} {w w' : World} (h : XRow B X r v w) (hb : Below w.heap.size w w') : XRow B X r v w' := by
  obtain ⟨p1, n1, c1, p2, n2, c2, e, ⟨h1, k1⟩, ⟨h2, k2⟩⟩ := h
  exact ⟨p1, n1, c1, p2, n2, c2, e, ⟨h1.keep hb, k1.keep h1 hb⟩, ⟨h2.keep hb, k2.keep h2 hb⟩⟩
theorem XRow.step {B X : Nat} {r : List UInt8 × List UInt8} {v : Value} {w w' : World} (h : XRow B X r v w) (hb : StepX B X w w') : XRow B X r v w' := by
  obtain ⟨p1, n1, c1, p2, n2, c2, e, ⟨h1, k1⟩, ⟨h2, k2⟩⟩ := h
  exact ⟨p1, n1, c1, p2, n2, c2, e, ⟨(k1.step h1 hb).2, (k1.step h1 hb).1⟩, ⟨(k2.step h2 hb).2, (k2.step h2 hb).1⟩⟩
def ShX.row (r : List UInt8 × List UInt8) : ShX B X := ⟨XRow B X r, fun _ _ _ h hb => h.keep hb, fun _ _ _ h hb => h.step hb⟩
def ShX.rowT (r : List UInt8 × List UInt8) (code : Int) : ShX B X := ⟨XRowT B X r code, fun _ _ _ ⟨u, e, h⟩ hb => ⟨u, e, h.keep hb⟩, fun _ _ _ ⟨u, e, h⟩ hb => ⟨u, e, h.step hb⟩⟩
def ShX.box (size : Nat) : ShX B X := ⟨XBox B X size, fun _ _ _ ⟨b, cs, e, hb, hs, hh⟩ hw => ⟨b, cs, e, hb, hs, (hw.block b (lt_of_block hh)).trans hh⟩,
  fun _ _ _ ⟨b, cs, e, hb, hs, hh⟩ hw => by
    obtain ⟨cs', h1, h2⟩ := hw.cells b cs hh
    exact ⟨b, cs', e, hb, h1.trans hs, h2⟩⟩
end
/-- behind the store: the box in slot t holds a value that reads so -/
def Boxed (B X t : Nat) (s : ShX B X) (σ : Nat → Value) (w : World) : Prop := ∃ b cs, σ t = .pointer (some ⟨b, 0, none⟩) ∧ B ≤ b ∧ w.heap[b]? = some (.cells cs X (0, 0)) ∧ s.ok (.agg cs) w
def InvX (ops : Array Oper) (B X : Nat) (sh : Nat → ShX B X) (st t : Nat) (s : ShX B X) (i : Nat) (σ : Nat → Value) (w : World) : Prop :=
  if i = st then Boxed B X t s σ w else match dstOf ops i with
  | some d => (sh i).ok (σ d) w
  | none => True
def RX (B X st : Nat) (i : Nat) (w w' : World) : Prop := if i = st then StepX B X w w' else Below w.heap.size w w'
/-- all that was there stays -/
def EX (B : Nat) (W w : World) : Prop := Below B W w ∧ W.heap.size ≤ w.heap.size
def StepXS (P : Program) (ops : Array Oper) (Q : Exit → Act → World → Prop) (a0 : Act) (W0 : World) (B X : Nat) (sh : Nat → ShX B X) (st t : Nat) (s : ShX B X) (i : Nat) (o : Oper) : Prop :=
  ∀ (a : Act) (w : World), Below B W0 w → a.tmps.size = a0.tmps.size → (∀ k, k ∈ preds o → InvX ops B X sh st t s k (sl a) w) → (∀ u, initAt ops i u = true → sl a u = sl a0 u) →
    if Region.wanted o (yielded ops a.tmps) = true then o.wp P a w (fun a' w' => ∃ v, a' = a.put o.dst v ∧ RX B X st i w w' ∧ (if i = st then Boxed B X t s (sl a) w' else (sh i).ok v w')) Q
    else i ≠ st ∧ (sh i).ok undef w
def EachX (P : Program) (ops : Array Oper) (Q : Exit → Act → World → Prop) (a0 : Act) (W0 : World) (B X : Nat) (sh : Nat → ShX B X) (st t : Nat) (s : ShX B X) : List Oper → Nat → Prop
  | [], _ => True
  | o :: rest, i => StepXS P ops Q a0 W0 B X sh st t s i o ∧ EachX P ops Q a0 W0 B X sh st t s rest (i + 1)
/-- the store writes no slot, all others do; the box's slot is written by one that the store waits for -/
def dstsX (ops : Array Oper) (n st t : Nat) : Bool := (List.range ops.size).all fun i => match ops[i]? with
  | some o => (match o.dst with
    | some d => decide (d < n) && i != st && (d != t || (match ops[st]? with
      | some os => (preds os).contains i
      | none => false))
    | none => i == st)
  | none => true
theorem eachX_of {P : Program} {ops : Array Oper} {Q : Exit → Act → World → Prop} {a0 : Act} {W0 : World} {B X : Nat} {sh : Nat → ShX B X} {st t : Nat} {s : ShX B X} {n : Nat} (hn : a0.tmps.size = n) (hd : dstsX ops n st t = true) : ∀ (l : List Oper) (k : Nat), (∀ j o, l[j]? = some o → ops[k + j]? = some o) →
    EachX P ops Q a0 W0 B X sh st t s l k → Each P ops Q a0 W0.drew (fun W w => Below B W w) (RX B X st) (InvX ops B X sh st t s) l k := by
  intro l
  induction l with
  | nil => intro k _ _; trivial
  | cons o l ih =>
    intro k hk h
    refine ⟨?_, ih (k + 1) (fun j o' hj => by have := hk (j + 1) o' (by simpa using hj); rwa [show k + (j + 1) = k + 1 + j by omega] at this) h.2⟩
    intro a w hE hs hp hi
    have ho : ops[k]? = some o := by have := hk 0 o (by simp); simpa using this
    have hks : k < ops.size := (Array.getElem?_eq_some_iff.1 ho).1
    have hdk := List.all_eq_true.1 hd k (List.mem_range.2 hks)
    rw [ho] at hdk
    dsimp only at hdk
    have hs1 := h.1 a w ⟨hE.os, hE.tape, hE.output, hE.size, hE.block⟩ hs hp hi
    cases hdo : o.dst with
    | none =>
      rw [hdo] at hdk
      dsimp only at hdk
      have hkst : k = st := by simpa using hdk
      split
      · rename_i hw
        rw [if_pos hw] at hs1
        refine Oper.wp_mono ?_ hs1
        rintro a' w' ⟨v, e, hb, hok⟩
        rw [if_pos hkst] at hok
        refine ⟨v, e.trans (by rw [hdo]), hb, ?_⟩
        unfold InvX
        rw [if_pos hkst, e, hdo]; exact hok
      · rename_i hw
        rw [if_neg hw] at hs1
        exact absurd hkst hs1.1
    | some d =>
      rw [hdo] at hdk
      dsimp only at hdk
      simp only [Bool.and_eq_true, decide_eq_true_eq, bne_iff_ne] at hdk
      have hkst : k ≠ st := hdk.1.2
      have hdn : d < a.tmps.size := by rw [hs, hn]; exact hdk.1.1
      have hdst : dstOf ops k = some d := by simp [dstOf, ho, hdo]
      split
      · rename_i hw
        rw [if_pos hw] at hs1
        refine Oper.wp_mono ?_ hs1
        rintro a' w' ⟨v, e, hb, hok⟩
        rw [if_neg hkst] at hok
        refine ⟨v, e.trans (by rw [hdo]), hb, ?_⟩
        unfold InvX
        rw [if_neg hkst, hdst]
        show (sh k).ok (sl a' d) w'
        rw [e, hdo, put_same _ _ _ hdn]; exact hok
      · rename_i hw
        rw [if_neg hw] at hs1
        refine ⟨?_, ?_⟩
        · unfold RX; rw [if_neg hkst]; exact Below.refl _ _
        · unfold InvX
          rw [if_neg hkst, hdst]
          show (sh k).ok (sl (a.put (some d) undef) d) w
          rw [put_same _ _ _ hdn]; exact hs1.2
theorem stepX_below {B X : Nat} {W w w' : World} (hE : Below B W w) (h : StepX B X w w') (hB : B ≤ W.heap.size) : Below B W w' :=
  hE.trans ⟨h.os, h.tape, h.output, h.size, fun k hk => h.keep k (by have := hE.size; omega) (.inl hk)⟩
theorem wp_region_boxed {P : Program} {ops : Array Oper} {Q : Exit → Act → World → Prop} {id : Nat} {a0 : Act} {w0 : World} (X : Nat) (sh : Nat → ShX w0.heap.size X) (st t : Nat) (s : ShX w0.heap.size X) (n : Nat) (hn : a0.tmps.size = n) (hm : P.follows .mixedOrders = true) (hback : backB ops = true) (hdist : distB ops = true) (hdsts : dstsX ops n st t = true)
    (each : EachX P ops Q a0 w0 w0.heap.size X sh st t s ops.toList 0)
    (fin : ∀ a w, Below w0.heap.size w0 w → a.tmps.size = a0.tmps.size → a.defers = a0.defers → (∀ j, j < ops.size → InvX ops w0.heap.size X sh st t s j (sl a) w) → (∀ u, (ops.toList.all fun o => o.dst != some u) = true → sl a u = sl a0 u) → Q .normal a w) :
    (Code.region id ops true).wp P Q a0 w0 := by
  refine wp_region_each hm hback (fun W w => Below w0.heap.size W w) (RX w0.heap.size X st) (InvX ops w0.heap.size X sh st t s) (Below.refl _ _) ?_ ?_ (eachX_of (W0 := w0) hn hdsts ops.toList 0 (fun j o hj => by simpa using hj) each) (fun a w hE hs hd hI ht => fin a w ⟨hE.os, hE.tape, hE.output, hE.size, hE.block⟩ hs hd hI ht)
  · intro i w w' h hR
    unfold RX at hR
    split at hR
    · exact stepX_below h hR (Nat.le_refl _)
    · exact h.trans (hR.mono h.size)
  intro i j oi oj σ σ' w w' hij hoi hoj _ hI hR hσ _ hord
  have hi' : i < ops.size := (Array.getElem?_eq_some_iff.1 hoi).1
  have hj' : j < ops.size := (Array.getElem?_eq_some_iff.1 hoj).1
  have hdi := List.all_eq_true.1 hdsts i (List.mem_range.2 hi')
  rw [hoi] at hdi
  dsimp only at hdi
  unfold InvX at hI ⊢
  by_cases hjs : j = st
  · rw [if_pos hjs] at hI ⊢
    obtain ⟨b, cs, hb, hBb, hh, hok⟩ := hI
    have his : i ≠ st := fun e => hij (e.trans hjs.symm)
    unfold RX at hR
    rw [if_neg his] at hR
    have hne : oi.dst ≠ some t := by
      intro e
      rw [e] at hdi
      dsimp only at hdi
      simp only [Bool.and_eq_true, decide_eq_true_eq, bne_self_eq_false, Bool.false_or] at hdi
      have h2 := hdi.2
      rw [← hjs, hoj] at h2
      exact hord t e (by simpa using h2)
    exact ⟨b, cs, by rw [hσ t hne]; exact hb, hBb, (hR.block b (lt_of_block hh)).trans hh, s.keep _ _ _ hok hR⟩
  · rw [if_neg hjs] at hI ⊢
    cases hdj : dstOf ops j with
    | none => trivial
    | some d =>
      rw [hdj] at hI
      show (sh j).ok (σ' d) w'
      have hne : oi.dst ≠ some d := by
        intro e
        have := List.all_eq_true.1 (List.all_eq_true.1 hdist i (List.mem_range.2 hi')) j (List.mem_range.2 hj')
        rw [hoi, hoj] at this
        have hdj' : oj.dst = some d := by simpa [dstOf, hoj] using hdj
        simp [e, hdj', hij] at this
      rw [hσ d hne]
      unfold RX at hR
      by_cases his : i = st
      · rw [if_pos his] at hR; exact (sh j).step _ _ _ hI hR
      · rw [if_neg his] at hR; exact (sh j).keep _ _ _ hI hR
/-- a store of a whole value into a box is such a step -/
theorem stepX_setRow {B X b : Nat} {w : World} {cs cs' : Array Value} (hb : B ≤ b) (h : w.heap[b]? = some (.cells cs X (0, 0))) (hs : cs'.size = cs.size) : StepX B X w (w.setRow b cs') := by
  refine ⟨rfl, rfl, rfl, by simp, ?_, ?_⟩
  · intro k hk hp
    simp only [World.setRow, Array.getElem?_modify]
    have : b ≠ k := by
      rintro rfl
      rcases hp with hp | hp
      · omega
      · exact hp _ _ h
    rw [if_neg this]
  · intro k cs1 h1
    by_cases e : k = b
    · subst e
      rw [h] at h1; cases h1
      exact ⟨cs', hs, hrs h⟩
    · exact ⟨cs1, rfl, hro h1 e⟩
end Go.By
namespace Go.By
open Go.RowKit
theorem putAll_size (a : Act) : ∀ (ws : List Nat) (b : Act), (ws.foldl (fun b t => b.put (some t) (sl a t)) b).tmps.size = b.tmps.size := by
  intro ws
  induction ws with
  | nil => intro b; rfl
  | cons t ws ih => intro b; rw [List.foldl_cons, ih]; simp [Act.put]
theorem putAll_sl (a : Act) : ∀ (ws : List Nat) (b : Act) (n : Nat), a.tmps.size = n → b.tmps.size = n → (∀ t, t < n → t ∉ ws → sl b t = sl a t) → ∀ t, t < n → sl (ws.foldl (fun b t => b.put (some t) (sl a t)) b) t = sl a t := by
  intro ws
  induction ws with
  | nil => intro b n ha hb h t ht; exact h t ht (by simp)
  | cons u ws ih =>
    intro b n ha hb h t ht
    rw [List.foldl_cons]
    refine ih _ n ha (by simp [Act.put, hb]) ?_ t ht
    intro s hs hn
    by_cases e : s = u
    · subst e; exact put_same _ _ _ (by rw [hb]; exact hs)
    · have h1 := h s hs (by simp [e, hn])
      rw [← h1]
      simp [sl, Act.put, Array.getD_eq_getD_getElem?, Array.getElem?_setIfInBounds, show ¬ u = s from fun h => e h.symm]
theorem putAll_defers (a : Act) : ∀ (ws : List Nat) (b : Act), (ws.foldl (fun b t => b.put (some t) (sl a t)) b).defers = b.defers := by
  intro ws
  induction ws with
  | nil => intro b; rfl
  | cons t ws ih => intro b; rw [List.foldl_cons, ih]; rfl
/-- the frame behind the region: the written slots, the others as before -/
theorem act_is {ops : Array Oper} {a a0 : Act} (ws : List Nat) (hs : a.tmps.size = a0.tmps.size) (hd : a.defers = a0.defers) (hrest : ∀ t, (ops.toList.all fun o => o.dst != some t) = true → sl a t = sl a0 t)
    (hws : (ops.toList.all fun o => match o.dst with | some t => ws.contains t | none => true) = true) : a = ws.foldl (fun b t => b.put (some t) (sl a t)) a0 := by
  have key := putAll_sl a ws a0 a.tmps.size rfl hs.symm (by
    intro t _ hn
    refine (hrest t ?_).symm
    refine List.all_eq_true.2 fun o ho => ?_
    have := List.all_eq_true.1 hws o ho
    cases hdo : o.dst with
    | none => simp
    | some u =>
      rw [hdo] at this
      have hu : u ∈ ws := by simpa using this
      have : u ≠ t := fun e => hn (e ▸ hu)
      simpa using this)
  have h1 := putAll_size a ws a0
  have h2 := putAll_defers a ws a0
  generalize ws.foldl (fun b t => b.put (some t) (sl a t)) a0 = b at key h1 h2
  obtain ⟨ta, da⟩ := a
  obtain ⟨tb, db⟩ := b
  simp only at h1 h2 hd key hs
  have e1 : ta = tb := by
    refine Array.ext (by omega) fun i hi hj => ?_
    have := key i hi
    simpa [sl, Array.getD_eq_getD_getElem?, hi, hj] using this.symm
  rw [e1, hd, h2]
/-- an operation whose operands' values are known runs as one whose operands are these values -/
theorem eval_tmp (a : Act) (t : Nat) : a.eval (.tmp t) = sl a t := rfl
theorem eval_const (a : Act) (v : Value) : a.eval (.const v) = v := rfl
theorem eval_func (a : Act) (f : FuncId) : a.eval (.func f) = .func (.func f) #[] #[] := rfl
theorem postX {B X st t i : Nat} {sh : Nat → ShX B X} {s : ShX B X} {a : Act} {w w' : World} {dst : Option Tmp} {v : Value} (hi : i ≠ st) (hb : Below w.heap.size w w') (hv : (sh i).ok v w') :
    ∃ u, a.put dst v = a.put dst u ∧ RX B X st i w w' ∧ (if i = st then Boxed B X t s (sl a) w' else (sh i).ok u w') := by
  refine ⟨v, rfl, ?_, ?_⟩
  · unfold RX; rw [if_neg hi]; exact hb
  · rw [if_neg hi]; exact hv
theorem postXs {B X st t i : Nat} {sh : Nat → ShX B X} {s : ShX B X} {a : Act} {w w' : World} {dst : Option Tmp} {v : Value} (hi : i = st) (hb : StepX B X w w') (hv : Boxed B X t s (sl a) w') :
    ∃ u, a.put dst v = a.put dst u ∧ RX B X st i w w' ∧ (if i = st then Boxed B X t s (sl a) w' else (sh i).ok u w') := by
  refine ⟨v, rfl, ?_, ?_⟩
  · unfold RX; rw [if_pos hi]; exact hb
  · rw [if_pos hi]; exact hv
theorem undrew {w W : World} (h : Below w.drew.heap.size w.drew W) : Below w.heap.size w W := ⟨h.os, h.tape, h.output, h.size, h.block⟩
/-- the cells of a struct of two -/
theorem cells2 {w : World} {b T : Nat} {u v : Value} (h : w.heap[b]? = some (.cells #[u, v] T (0, 0))) : w.cell? ⟨b, 0, none⟩ = some u ∧ w.cell? ⟨b, 1, none⟩ = some v :=
  ⟨cell_of_row _ _ 0 _ _ _ h, cell_of_row _ _ 1 _ _ _ h⟩
/-- an owned row is of another element type than the box -/
theorem XRow.of_owns {B X base e : Nat} {w : World} {r : List UInt8 × List UInt8} {q1 q2 : Option Addr} {m1 k1 m2 k2 : Nat} (he : e ≠ X) (h1 : w.ownsRow base e 1 (.slice q1 m1 k1) m1 (r.1.map B8)) (h2 : w.ownsRow base e 1 (.slice q2 m2 k2) m2 (r.2.map B8)) :
    XRow B X r (.agg #[.slice q1 m1 k1, .slice q2 m2 k2]) w := ⟨q1, m1, k1, q2, m2, k2, rfl, ⟨Sl.of_owns h1, Away.own h1 he⟩, ⟨Sl.of_owns h2, Away.own h2 he⟩⟩
theorem stepX_cell {B X b i : Nat} {w : World} {cs : Array Value} {v : Value} (hb : B ≤ b) (h : w.heap[b]? = some (.cells cs X (0, 0))) : StepX B X w (w.setCell ⟨b, i, none⟩ v) := by
  refine ⟨rfl, rfl, rfl, by simp [World.setCell], ?_, ?_⟩
  · intro k hk hp
    refine Below.heap_setCell _ _ _ _ fun e => ?_
    have e : k = b := e
    subst e
    rcases hp with hp | hp
    · omega
    · exact hp _ _ h
  · intro k cs1 h1
    by_cases e : k = b
    · subst e
      rw [h] at h1; cases h1
      exact ⟨cs.setIfInBounds i v, by simp, hss h⟩
    · exact ⟨cs1, rfl, hsc h1 e⟩
theorem StepX.trans {B X : Nat} {w1 w2 w3 : World} (h : StepX B X w1 w2) (g : StepX B X w2 w3) : StepX B X w1 w3 := by
  refine ⟨g.os.trans h.os, g.tape.trans h.tape, g.output.trans h.output, Nat.le_trans h.size g.size, ?_, ?_⟩
  · intro k hk hp
    have h1 := h.keep k hk hp
    rw [g.keep k (by have := h.size; omega) (by rcases hp with hp | hp; exact .inl hp; exact .inr (by rw [h1]; exact hp)), h1]
  · intro k cs hc
    obtain ⟨c1, e1, h1⟩ := h.cells k cs hc
    obtain ⟨c2, e2, h2⟩ := g.cells k c1 h1
    exact ⟨c2, e2.trans e1, h2⟩
theorem stepX_set2 {B X b : Nat} {w : World} {u0 u1 v0 v1 : Value} (hb : B ≤ b) (h : w.heap[b]? = some (.cells #[u0, u1] X (0, 0))) : StepX B X w ((w.setCell ⟨b, 0, none⟩ v0).setCell ⟨b, 1, none⟩ v1) :=
  (stepX_cell hb h).trans (stepX_cell hb (hss h))
theorem heap_set2 {X b : Nat} {w : World} {u0 u1 v0 v1 : Value} (h : w.heap[b]? = some (.cells #[u0, u1] X (0, 0))) : ((w.setCell ⟨b, 0, none⟩ v0).setCell ⟨b, 1, none⟩ v1).heap[b]? = some (.cells #[v0, v1] X (0, 0)) := hss (hss h)
/-- an operation that stores -/
theorem wp_skipX {P : Program} {o : Oper} {a : Act} {w w' : World} {K : Act → World → Prop} {Q : Exit → Act → World → Prop} (hrun : (execOp a.eval o).run P w = .ok .skip w') (h : K (a.put o.dst undef) w') : o.wp P a w K Q := by
  unfold Oper.wp; rw [hrun]; exact h
theorem ite_n {c : Prop} [Decidable c] {A B : Prop} (hc : ¬ c) (h : B) : if c then A else B := by rw [if_neg hc]; exact h
/-- the guard says no -/
theorem wanted_no {ops : Array Oper} {o : Oper} {a : Act} {j : Nat} {b c : Bool} {d : Nat} (hg : o.guard = some (j, b)) (hd : dstOf ops j = some d) (hs : d < a.tmps.size) (hv : sl a d = .bool c) (hn : c ≠ b) : ¬ Region.wanted o (yielded ops a.tmps) = true := by
  have h1 : a.tmps[d]? = some (.bool c) := by
    have := hv
    simp only [sl, Array.getD_eq_getD_getElem?, Array.getElem?_eq_getElem hs, Option.getD_some] at this
    rw [Array.getElem?_eq_getElem hs, this]
  unfold dstOf at hd
  simp [Region.wanted, hg, yielded, hd, h1, hn]
theorem size2 {cs : Array Value} (h : cs.size = 2) : ∃ u v, cs = #[u, v] := by
  obtain ⟨l⟩ := cs
  match l, h with
  | [u, v], _ => exact ⟨u, v, rfl⟩
end Go.By
namespace Go.By
open Go.RowKit
theorem wanted_undef {ops : Array Oper} {o : Oper} {a : Act} {j : Nat} {b : Bool} {d : Nat} (hg : o.guard = some (j, b)) (hd : dstOf ops j = some d) (hs : d < a.tmps.size) (hv : sl a d = undef) : ¬ Region.wanted o (yielded ops a.tmps) = true := by
  have h1 : a.tmps[d]? = some undef := by
    have := hv
    simp only [sl, Array.getD_eq_getD_getElem?, Array.getElem?_eq_getElem hs, Option.getD_some] at this
    rw [Array.getElem?_eq_getElem hs, this]
  unfold dstOf at hd
  simp [Region.wanted, hg, yielded, hd, h1, undef]
theorem cells5 {w : World} {b T : Nat} {u v x y z : Value} (h : w.heap[b]? = some (.cells #[u, v, x, y, z] T (0, 0))) : w.cell? ⟨b, 0, none⟩ = some u ∧ w.cell? ⟨b, 1, none⟩ = some v ∧ w.cell? ⟨b, 2, none⟩ = some x ∧ w.cell? ⟨b, 3, none⟩ = some y ∧ w.cell? ⟨b, 4, none⟩ = some z :=
  ⟨cell_of_row _ _ 0 _ _ _ h, cell_of_row _ _ 1 _ _ _ h, cell_of_row _ _ 2 _ _ _ h, cell_of_row _ _ 3 _ _ _ h, cell_of_row _ _ 4 _ _ _ h⟩
theorem blk_lt {w : World} {b : Nat} {o : Obj} (h : w.heap[b]? = some o) : b < w.heap.size := (Array.getElem?_eq_some_iff.1 h).1
theorem Sl2.at0 {W : World} {g n c : Nat} {xss : List (List UInt8)} (h : Sl2 W (some ⟨g, 0, none⟩) n c xss) (i : Nat) (hi : i < n) : ∃ q m c' xs, W.cell? ⟨g, i, none⟩ = some (.slice q m c') ∧ Sl B8 W q m c' xs ∧ Hid (xss[i]? = some xs) := by
  obtain ⟨b, o, q, m, c', xs, hp, hc, hs, hx⟩ := h.at i hi
  obtain ⟨rfl, rfl⟩ : b = g ∧ o = 0 := by simp at hp; omega
  exact ⟨q, m, c', xs, by simpa using hc, hs, hx⟩
end Go.By
namespace Go.By
open Go.RowKit
theorem cells3 {w : World} {b T : Nat} {u v x : Value} (h : w.heap[b]? = some (.cells #[u, v, x] T (0, 0))) : w.cell? ⟨b, 0, none⟩ = some u ∧ w.cell? ⟨b, 1, none⟩ = some v ∧ w.cell? ⟨b, 2, none⟩ = some x :=
  ⟨cell_of_row _ _ 0 _ _ _ h, cell_of_row _ _ 1 _ _ _ h, cell_of_row _ _ 2 _ _ _ h⟩
theorem Sl.mid {α : Type} {enc : α → Value} {w : World} {b o n c k m : Nat} {xs : List α} (h : Sl enc w (some ⟨b, o, none⟩) n c xs) (hk : k + m ≤ n) : Sl enc w (some ⟨b, o + k, none⟩) m (c - k) ((xs.drop k).take m) := by
  have h1 := h.len; have h2 := h.le; have h3 := h.max
  refine ⟨by rw [List.length_take, List.length_drop]; omega, by omega, by omega, fun e => (by cases e), ?_⟩
  intro i hi
  have hi' : k + i < xs.length := by rw [List.length_take, List.length_drop] at hi; omega
  obtain ⟨b', o', hp, hc⟩ := h.rs (k + i) hi'
  cases hp
  exact ⟨b, o + k, rfl, by rw [show o + k + i = o + (k + i) by omega, hc]; simp⟩
theorem Sl.empty {α : Type} {enc : α → Value} {w : World} {p : Option Addr} {n c : Nat} {xs : List α} (h : Sl enc w p n c xs) : Sl enc w p 0 c ([] : List α) :=
  ⟨rfl, Nat.zero_le _, h.max, fun e => ⟨rfl, (h.nil e).2⟩, Rs.nil⟩
end Go.By
namespace Go.Proofs.Ytofhdakggapahaa
open Go.RowKit Go.By
theorem info_grid : (Try.prog.info? 27).map (·.size) = some 3 := by kernel_rfl
def rowF (wd : Nat) (cells : List UInt8) (i : Nat) : List UInt8 := (cells.drop (i * wd)).take wd
/-- a row, not copied -/
def RetRow (w : World) (p : Option Addr) (wd i : Nat) (cells : List UInt8) (e : Ending) (w' : World) : Prop :=
  ∃ q c', e = .returned (.slice q wd c') ∧ Sl B8 w' q wd c' (rowF wd cells i) ∧ (0 < wd → ∀ g o, p = some ⟨g, o, none⟩ → q = some ⟨g, o + i * wd, none⟩) ∧ Below w.heap.size w w'
set_option maxRecDepth 100000 in
set_option maxHeartbeats 1000000 in
theorem row_any (h wd i : Nat) (p : Option Addr) (n c : Nat) (cells : List UInt8) (w : World) (hs : Sl B8 w p n c cells) (hn : n = h * wd) (hi : i < h) (hb : h ≤ 9223372036854775807) :
    Calls Try.prog 57 #[.agg #[.int .i64 h, .int .i64 wd, .slice p n c], .int .i64 i] w (RetRow w p wd i cells) := by
  have hB : ∀ o, Below w.heap.size w (w.alloc o) := fun o => al (Below.refl _ _) (Nat.le_refl _)
  have HB := Lib.hid hB
  have hmul : (i + 1) * wd ≤ n := by rw [hn]; exact Nat.mul_le_mul_right _ hi
  have hmul2 : (i + 1) * wd = i * wd + wd := Nat.succ_mul _ _
  have hbd := hs.bound
  have w1 : IntKind.i64.wrap ((i : Int) * (wd : Int)) = ((i * wd : Nat) : Int) := by rw [← Int.natCast_mul]; exact Go.IntWalk.i64_in _ (by omega)
  have w2 : IntKind.i64.wrap (((i : Int) + 1) * (wd : Int)) = ((i * wd + wd : Nat) : Int) := by
    rw [← hmul2, Int.natCast_mul, Int.natCast_add]; exact Go.IntWalk.i64_in _ (by rw [← Int.natCast_one, ← Int.natCast_add, ← Int.natCast_mul]; omega)
  have hle := hs.le
  have HS := Lib.hid hs
  have HN := Lib.hid hn
  obtain ⟨k, hk⟩ : ∃ k, k = i * wd := ⟨_, rfl⟩
  rw [← hk] at w1 w2 hmul2
  have HK := Lib.hid hk
  have hk2 : k + wd ≤ n := by omega
  by_cases hw0 : wd = 0
  · subst hw0
    have hk0 : k = 0 := by rw [hk]; simp
    subst hk0
    have HE : Hid (rowF 0 cells i = []) := by show rowF 0 cells i = []; simp [rowF]
    cases p with
    | none =>
      obtain ⟨rfl, rfl⟩ := hs.nil rfl
      clear hs hn hB hk hmul hmul2 hle hk2
      go_enter Try.func57, Try.ntmps57
      go_wp2
      go_ret
      exact ⟨none, 0, rfl, by rw [HE.out]; exact Sl.nil0 _ _, fun h => by omega, HB.out _⟩
    | some ad =>
      clear hs hn hB hk hmul hmul2
      by_cases hc0 : c = 0
      · subst hc0
        go_enter Try.func57, Try.ntmps57
        go_wp2
        go_ret
        exact ⟨_, _, rfl, by rw [HE.out]; simpa using (HS.out.keep (HB.out _)).empty, fun h => by omega, HB.out _⟩
      · have hcp : 0 < c := by omega
        go_enter Try.func57, Try.ntmps57
        go_wp2
        go_ret
        refine ⟨_, _, rfl, by rw [HE.out]; exact ⟨rfl, Nat.zero_le _, by have := HS.out.max; omega, fun e => (by cases e), Rs.nil⟩, fun h => by omega, HB.out _⟩
  · cases p with
    | none => have := hs.nil rfl; omega
    | some ad =>
      obtain ⟨b, o, hp, hc0⟩ := hs.rs 0 (by rw [hs.len]; omega)
      obtain rfl : ad = ⟨b, o, none⟩ := by simpa using hp
      clear hc0 hs hn hB hk hmul hmul2
      have hkc : k < c := by omega
      go_enter Try.func57, Try.ntmps57
      go_wp2
      go_ret
      refine ⟨some ⟨b, o + k, none⟩, c - k, rfl, ?_, fun _ g o' e => by cases e; rw [HK.out], HB.out _⟩
      unfold rowF
      rw [← HK.out]
      exact (HS.out.keep (HB.out _)).mid hk2
set_option maxHeartbeats 400000 in
theorem Width_any (h wd : Nat) (v : Value) (w : World) : Calls Try.prog 14 #[.agg #[.int .i64 h, .int .i64 wd, v]] w fun e w' => e = .returned (.int .i64 wd) ∧ Below w.heap.size w w' := by
  go_enter Try.func14, Try.ntmps14
  go_wp2
  go_ret
  exact ⟨rfl, al (Below.refl _ _) (Nat.le_refl _)⟩
set_option maxHeartbeats 400000 in
theorem Height_any (h wd : Nat) (v : Value) (w : World) : Calls Try.prog 15 #[.agg #[.int .i64 h, .int .i64 wd, v]] w fun e w' => e = .returned (.int .i64 h) ∧ Below w.heap.size w w' := by
  go_enter Try.func15, Try.ntmps15
  go_wp2
  go_ret
  exact ⟨rfl, al (Below.refl _ _) (Nat.le_refl _)⟩
set_option maxRecDepth 100000 in
set_option maxHeartbeats 1000000 in
theorem GSame_any (h1 w1 h2 w2 : Nat) (p1 p2 : Option Addr) (n1 c1 n2 c2 : Nat) (xs ys : List UInt8) (w : World) (s1 : Sl B8 w p1 n1 c1 xs) (s2 : Sl B8 w p2 n2 c2 ys) :
    Calls Try.prog 18 #[.agg #[.int .i64 h1, .int .i64 w1, .slice p1 n1 c1], .agg #[.int .i64 h2, .int .i64 w2, .slice p2 n2 c2]] w fun e w' => e = .returned (.bool (decide (w1 = w2 ∧ h1 = h2 ∧ xs = ys))) ∧ Below w.heap.size w w' := by
  have hB : ∀ o1 o2, Below w.heap.size w ((w.alloc o1).alloc o2) := fun o1 o2 => al (al (Below.refl _ _) (Nat.le_refl _)) (by simp)
  have HB := Lib.hid hB; have S1 := Lib.hid s1; have S2 := Lib.hid s2
  clear hB s1 s2
  by_cases e1 : w1 = w2
  · by_cases e2 : h1 = h2
    · subst e1; subst e2
      have HE : Hid (decide (w1 = w1 ∧ h1 = h1 ∧ xs = ys) = decide (xs = ys)) := by simp [Hid]
      go_enter Try.func18, Try.ntmps18
      go_wp2_with fail
      refine (EqualB_d _ _ _ _ _ _ xs ys _ (S1.out.keep (HB.out _ _)) (S2.out.keep (HB.out _ _))).mono ?_; rintro e w1 ⟨rfl, q, rfl⟩
      generalize decide (xs = ys) = z at HE ⊢
      go_wp2
      go_ret
      exact ⟨by rw [HE.out]; rfl, bdn (HB.out _ _)⟩
    · have HE : Hid (decide (w1 = w2 ∧ h1 = h2 ∧ xs = ys) = false) := by simp [Hid, e2]
      have d1 : ((w1 : Int) == (w2 : Int)) = true := by simp [e1]
      have d2 : ((h1 : Int) == (h2 : Int)) = false := by simp; omega
      clear e1 e2
      go_enter Try.func18, Try.ntmps18
      go_wp2
      go_ret
      exact ⟨by rw [HE.out]; rfl, HB.out _ _⟩
  · have HE : Hid (decide (w1 = w2 ∧ h1 = h2 ∧ xs = ys) = false) := by simp [Hid, e1]
    have d1 : ((w1 : Int) == (w2 : Int)) = false := by simp; omega
    clear e1
    go_enter Try.func18, Try.ntmps18
    go_wp2
    go_ret
    exact ⟨by rw [HE.out]; rfl, HB.out _ _⟩
/-- a grid in new memory -/
def RetG (T : TypeId) (w : World) (h wd : Nat) (cells : List UInt8) (e : Ending) (w' : World) : Prop :=
  ∃ q n c, n = h * wd ∧ e = .returned (.agg #[.int .i64 h, .int .i64 wd, .slice q n c]) ∧ w'.ownsRow w.heap.size T 1 (.slice q n c) n (cells.map B8) ∧ Below w.heap.size w w'
/-- a grid in new memory, and a code -/
def RetG2 (T : TypeId) (w : World) (h wd : Nat) (cells : List UInt8) (code : Int) (e : Ending) (w' : World) : Prop :=
  ∃ q n c, n = h * wd ∧ e = .returned (.tuple #[.agg #[.int .i64 h, .int .i64 wd, .slice q n c], .int .i64 code]) ∧ w'.ownsRow w.heap.size T 1 (.slice q n c) n (cells.map B8) ∧ Below w.heap.size w w'
set_option maxRecDepth 100000 in
set_option maxHeartbeats 1000000 in
theorem blank_any (h wd : Nat) (w : World) (hn : Room (h * wd)) (b1 : h ≤ 9223372036854775807) (b2 : wd ≤ 9223372036854775807) :
    Calls Try.prog 56 #[.int .i64 h, .int .i64 wd] w (RetG 5 w h wd (List.replicate (h * wd) 0)) := by
  obtain ⟨i0, hi, hz0, hz1, hz2⟩ := info_parts info_u8
  have hinfo := info_grid
  obtain ⟨n, hN⟩ : ∃ n, n = h * wd := ⟨_, rfl⟩
  rw [← hN] at hn ⊢
  unfold Room at hn
  have wm : IntKind.i64.wrap ((h : Int) * (wd : Int)) = ((n : Nat) : Int) := by rw [hN, ← Int.natCast_mul]; exact Go.IntWalk.i64_in _ (by rw [← hN]; omega)
  have HM1 : Hid (n ≤ maxLen) := by show n ≤ maxLen; unfold maxLen; omega
  have HM2 : Hid (1 * n ≤ 281474976710656) := by show 1 * n ≤ _; omega
  have HNN := Lib.hid hN
  have HB : Hid (∀ o, Below w.heap.size w (w.alloc o)) := fun o => al (Below.refl _ _) (Nat.le_refl _)
  clear hN
  go_enter Try.func56, Try.ntmps56
  go_wp2_with (at_make; refine wpList_make_full _ rfl _ _ 25 rfl (w.heap.size + 1) 5 i0 (.int .u8 0) 1 Try.underlying25 hi hz0 hz1 .i64 .i64 _ _ n rfl rfl rfl rfl (by rw [hz2]; exact HM2.out) HM1.out (by simp) ?_)
  intro w1 ho hg
  have ho' : w1.ownsRow (w.heap.size + 1) 5 1 (.slice (some ⟨w.heap.size + 1, 0, none⟩) n n) n ((List.replicate n (0 : UInt8)).map B8) := by
    have e : (madeCells #[Value.int .u8 0] n).toList = (List.replicate n (0 : UInt8)).map B8 := by
      rw [List.map_replicate]; exact toList_madeCells_one _ _
    rw [← e]; simpa using ho
  have hb : Below w.heap.size w w1 := (HB.out _).grown hg (by simp) (by simp)
  have e2 : w1.heap[w.heap.size]? = some (.cells #[.int .i64 0, .int .i64 0, .slice none 0 0] 27 (0, 0)) := by
    rw [hg.block _ (by simp) (by simp)]; exact hnew rfl
  obtain ⟨f0, f1, f2⟩ := cells3 e2
  have g0 : w1.frozen? ⟨w.heap.size, 0, none⟩ = false := frozen_of_row _ _ 0 _ _ e2
  have g1 : w1.frozen? ⟨w.heap.size, 1, none⟩ = false := frozen_of_row _ _ 1 _ _ e2
  have g2 : w1.frozen? ⟨w.heap.size, 2, none⟩ = false := frozen_of_row _ _ 2 _ _ e2
  have E2 := Lib.hid e2; have HO := Lib.hid ho'; have HBB := Lib.hid hb
  clear e2 ho ho' hg hb
  go_wp2
  refine bodyPost_ret (results_cell_row rfl _ _ _ 27 #[.int .i64 h, .int .i64 wd, .slice (some ⟨w.heap.size + 1, 0, none⟩) n n] (0, 0) _ rfl (hss (hss (hss E2.out))) Try.underlying27 rfl hinfo) rfl ⟨_, n, n, HNN.out, rfl, ?_, ((HBB.out.setCell (Nat.le_refl _) _).setCell (Nat.le_refl _) _).setCell (Nat.le_refl _) _⟩
  exact owns_mono (owns_set (owns_set (owns_set HO.out (by simp)) (by simp)) (by simp)) (by simp)
end Go.Proofs.Ytofhdakggapahaa
namespace Go.Proofs.Ytofhdakggapahaa
open Go.RowKit Go.By
def gofS (width : Int) (rows : List (List UInt8)) : Int :=
  if width < 0 ∨ 65536 < width then 2 else if (65536 : Int) < rows.length ∨ (65536 : Int) < rows.length * width then 5 else if rows.all (fun y => decide (y.length = width.toNat)) then 0 else 4
theorem enters_of1 : Enters Try.prog 53 := enters_of Try.func53 (by kernel_rfl) rfl
set_option maxHeartbeats 400000 in
theorem Of1_any (q : Option Addr) (m c B s : Nat) (w : World) (hB : w.cell? ⟨B, 0, none⟩ = some (.int .i64 s)) :
    Calls Try.prog 53 #[.slice q m c, .pointer (some ⟨B, 0, none⟩)] w fun e w' => e = .returned (.bool ((m : Int) != s)) ∧ w = w' := by
  go_enter Try.func53, Try.ntmps53
  go_wp2
  go_ret
  exact ⟨rfl, rfl⟩
theorem RetG2.zero {T : TypeId} {w w' : World} {code : Int} (hb : Below w.heap.size w w') : RetG2 T w 0 0 [] code (.returned (.tuple #[.agg #[.int .i64 0, .int .i64 0, .slice none 0 0], .int .i64 code])) w' :=
  ⟨none, 0, 0, rfl, rfl, World.ownsRow_nil _ _ _ _, hb⟩
set_option maxRecDepth 100000 in
set_option maxHeartbeats 1000000 in
theorem GOf_bad (width : Int) (p : Option Addr) (m c : Nat) (w : World) (code : Int) (hc : (width < 0 ∨ 65536 < width) ∧ code = 2 ∨ (0 ≤ width ∧ width ≤ 65536 ∧ 65536 < m ∧ code = 5) ∨ (0 ≤ width ∧ width ≤ 65536 ∧ m ≤ 65536 ∧ (65536 : Int) < (m : Int) * width ∧ code = 5)) (hm : m ≤ 9223372036854775807) (hw : width ≤ 9223372036854775807) :
    Calls Try.prog 11 #[.int .i64 width, .slice p m c] w (RetG2 5 w 0 0 [] code) := by
  have hinfo := info_grid
  have HB : Hid (∀ o1 o2, Below w.heap.size w ((w.alloc o1).alloc o2)) := fun o1 o2 => al (al (Below.refl _ _) (Nat.le_refl _)) (by simp)
  have HX : Hid (∀ o1, ((w.alloc o1).alloc (.cells #[.int .i64 0, .int .i64 0, .slice none 0 0] 27)).heap[w.heap.size + 1]? = some (.cells #[.int .i64 0, .int .i64 0, .slice none 0 0] 27 (0, 0))) := fun o1 => hnew (by simp)
  rcases hc with ⟨h1 | h1, rfl⟩ | ⟨h0, h1, h2, rfl⟩ | ⟨h0, h1, h2, h3, rfl⟩
  · go_enter Try.func11, Try.ntmps11
    go_wp2
    refine bodyPost_ret (results_cell_tmp rfl _ _ _ 27 #[.int .i64 0, .int .i64 0, .slice none 0 0] (0, 0) _ (.int .i64 2) rfl (HX.out _) rfl Try.underlying27 rfl hinfo) rfl (RetG2.zero (HB.out _ _))
  · have h0 : 0 ≤ width := by omega
    go_enter Try.func11, Try.ntmps11
    go_wp2
    refine bodyPost_ret (results_cell_tmp rfl _ _ _ 27 #[.int .i64 0, .int .i64 0, .slice none 0 0] (0, 0) _ (.int .i64 2) rfl (HX.out _) rfl Try.underlying27 rfl hinfo) rfl (RetG2.zero (HB.out _ _))
  · have h3 : (65536 : Int) < (m : Int) := by omega
    go_enter Try.func11, Try.ntmps11
    go_wp2
    refine bodyPost_ret (results_cell_tmp rfl _ _ _ 27 #[.int .i64 0, .int .i64 0, .slice none 0 0] (0, 0) _ (.int .i64 5) rfl (HX.out _) rfl Try.underlying27 rfl hinfo) rfl (RetG2.zero (HB.out _ _))
  · obtain ⟨wd, rfl⟩ := Int.eq_ofNat_of_zero_le h0
    have h4 : (m : Int) ≤ 65536 := by omega
    have hle : m * wd ≤ 65536 * 65536 := Nat.mul_le_mul h2 (by omega)
    obtain ⟨k, hk⟩ : ∃ k, k = m * wd := ⟨_, rfl⟩
    have wm : IntKind.i64.wrap ((m : Int) * (wd : Int)) = ((k : Nat) : Int) := by rw [hk, ← Int.natCast_mul]; exact Go.IntWalk.i64_in _ (by omega)
    have h5 : (65536 : Int) < (k : Int) := by rw [hk, Int.natCast_mul]; exact h3
    clear h3 hk hle
    go_enter Try.func11, Try.ntmps11
    go_wp2
    refine bodyPost_ret (results_cell_tmp rfl _ _ _ 27 #[.int .i64 0, .int .i64 0, .slice none 0 0] (0, 0) _ (.int .i64 5) rfl (HX.out _) rfl Try.underlying27 rfl hinfo) rfl (RetG2.zero (HB.out _ _))
set_option maxRecDepth 100000 in
set_option maxHeartbeats 1000000 in
theorem RGOf_bad (width : Int) (p : Option Addr) (m c : Nat) (w : World) (code : Int) (hc : (width < 0 ∨ 65536 < width) ∧ code = 2 ∨ (0 ≤ width ∧ width ≤ 65536 ∧ 65536 < m ∧ code = 5) ∨ (0 ≤ width ∧ width ≤ 65536 ∧ m ≤ 65536 ∧ (65536 : Int) < (m : Int) * width ∧ code = 5)) (hm : m ≤ 9223372036854775807) (hw : width ≤ 9223372036854775807) :
    Calls Try.prog 13 #[.int .i64 width, .slice p m c] w fun e w' => e = .returned (.int .i64 code) ∧ w = w' := by
  rcases hc with ⟨h1 | h1, rfl⟩ | ⟨h0, h1, h2, rfl⟩ | ⟨h0, h1, h2, h3, rfl⟩
  · go_enter Try.func13, Try.ntmps13
    go_wp2
    go_ret
    exact ⟨rfl, rfl⟩
  · have h0 : 0 ≤ width := by omega
    go_enter Try.func13, Try.ntmps13
    go_wp2
    go_ret
    exact ⟨rfl, rfl⟩
  · have h3 : (65536 : Int) < (m : Int) := by omega
    go_enter Try.func13, Try.ntmps13
    go_wp2
    go_ret
    exact ⟨rfl, rfl⟩
  · obtain ⟨wd, rfl⟩ := Int.eq_ofNat_of_zero_le h0
    have h4 : (m : Int) ≤ 65536 := by omega
    have hle : m * wd ≤ 65536 * 65536 := Nat.mul_le_mul h2 (by omega)
    obtain ⟨k, hk⟩ : ∃ k, k = m * wd := ⟨_, rfl⟩
    have wm : IntKind.i64.wrap ((m : Int) * (wd : Int)) = ((k : Nat) : Int) := by rw [hk, ← Int.natCast_mul]; exact Go.IntWalk.i64_in _ (by omega)
    have h5 : (65536 : Int) < (k : Int) := by rw [hk, Int.natCast_mul]; exact h3
    clear h3 hk hle
    go_enter Try.func13, Try.ntmps13
    go_wp2
    go_ret
    exact ⟨rfl, rfl⟩
set_option maxRecDepth 100000 in
set_option maxHeartbeats 1000000 in
theorem RGOf_good (wd : Nat) (p : Option Addr) (m c : Nat) (xss : List (List UInt8)) (w : World) (h : Sl2 w p m c xss) (h1 : wd ≤ 65536) (h2 : m ≤ 65536) (h3 : m * wd ≤ 65536) :
    Calls Try.prog 13 #[.int .i64 wd, .slice p m c] w fun e w' => e = .returned (.int .i64 (if xss.all (fun y => decide (y.length = wd)) then 0 else 4)) ∧ w = w' := by
  obtain ⟨k, hk⟩ : ∃ k, k = m * wd := ⟨_, rfl⟩
  have wm : IntKind.i64.wrap ((m : Int) * (wd : Int)) = ((k : Nat) : Int) := by rw [hk, ← Int.natCast_mul]; exact Go.IntWalk.i64_in _ (by omega)
  rw [← hk] at h3
  have H := Lib.hid h
  have HL := Lib.hid h.len
  obtain ⟨R, hR⟩ : ∃ R : Int, R = if xss.all (fun y => decide (y.length = wd)) then 0 else 4 := ⟨_, rfl⟩
  rw [← hR]
  have HR := Lib.hid hR
  clear hk h hR
  go_enter Try.func13, Try.ntmps13
  go_wp2
  go_loop [25] (fun i => ∃ k : Nat, k ≤ m ∧ i = .int .i64 k ∧ Hid (∀ (j : Nat) (x : List UInt8), j < k → xss[j]? = some x → x.length = wd)) (fun i => m - (intOf i).toNat)
  case atStart => exact ⟨0, Nat.zero_le _, rfl, fun j x hj => by omega⟩
  case round =>
    obtain ⟨k, hk, rfl, hj⟩ := hrel
    by_cases hlt : k < m
    · obtain ⟨b, o, q, mx, cx, xs, rfl, hc, hs, hx⟩ := H.out.at k hlt
      have hmx := hs.len
      have hmb := hs.bound
      by_cases e : mx = wd
      · subst e
        have HX := Lib.hid hmx
        clear hs hmx
        go_wp2
        go_round
        case rel => exact ⟨k + 1, by omega, by go_num, fun j x hjk hx' => by
          rcases Nat.lt_or_ge j k with h | h
          · exact hj.out j x h hx'
          · obtain rfl : j = k := by omega
            have := hx.out; rw [hx'] at this; cases this; exact HX.out⟩
        case measure => simp [intOf]; omega
      · have d1 : ((mx : Int) != (wd : Int)) = true := by simp; omega
        have hR4 : Hid (R = 4) := by
          show R = 4
          rw [HR.out, if_neg]
          intro hall
          have := List.all_eq_true.1 hall xs (List.mem_of_getElem? hx.out)
          simp at this; omega
        clear hs hmx e
        go_wp2
        go_ret
        exact ⟨by rw [hR4.out]; rfl, rfl⟩
    · have hkm : k = m := by omega
      have hR0 : Hid (R = 0) := by
        show R = 0
        rw [HR.out, if_pos]
        rw [List.all_eq_true]
        intro x hx
        obtain ⟨i, hi, rfl⟩ := List.getElem_of_mem hx
        exact decide_eq_true (hj.out i _ (by rw [hkm, ← HL.out]; exact hi) (List.getElem?_eq_getElem hi))
      have hge : (m : Int) ≤ (k : Int) := by omega
      clear hkm
      go_wp2
      go_ret
      exact ⟨by rw [hR0.out]; rfl, rfl⟩
set_option maxRecDepth 100000 in
set_option maxHeartbeats 1000000 in
theorem Few7_any (p : Option Addr) (m c : Nat) (xss : List (List UInt8)) (w : World) (h : Sl2 w p m c xss) :
    Calls Try.prog 10 #[.slice p m c] w fun e w' => e = .returned (.bool (xss.all (fun y => decide (y.length ≤ 30)) && decide (m ≤ 30))) ∧ w = w' := by
  have H := Lib.hid h
  have HL := Lib.hid h.len
  have hmb := h.bound
  obtain ⟨R, hR⟩ : ∃ R : Bool, R = (xss.all (fun y => decide (y.length ≤ 30)) && decide (m ≤ 30)) := ⟨_, rfl⟩
  rw [← hR]
  have HR := Lib.hid hR
  clear h hR
  go_enter Try.func10, Try.ntmps10
  go_wp2
  go_loop [7] (fun i => ∃ k : Nat, k ≤ m ∧ i = .int .i64 k ∧ Hid (∀ (j : Nat) (x : List UInt8), j < k → xss[j]? = some x → x.length ≤ 30)) (fun i => m - (intOf i).toNat)
  case atStart => exact ⟨0, Nat.zero_le _, rfl, fun j x hj => by omega⟩
  case round =>
    obtain ⟨k, hk, rfl, hj⟩ := hrel
    by_cases hlt : k < m
    · obtain ⟨b, o, q, mx, cx, xs, rfl, hc, hs, hx⟩ := H.out.at k hlt
      have hmx := hs.len
      have hxb := hs.bound
      by_cases e : mx ≤ 30
      · have HX := Lib.hid hmx
        clear hs hmx
        have e' : (mx : Int) ≤ 30 := by omega
        go_wp2
        go_round
        case rel => exact ⟨k + 1, by omega, by go_num, fun j x hjk hx' => by
          rcases Nat.lt_or_ge j k with h | h
          · exact hj.out j x h hx'
          · obtain rfl : j = k := by omega
            have := hx.out; rw [hx'] at this; cases this; rw [HX.out]; exact e⟩
        case measure => simp [intOf]; omega
      · have e' : (30 : Int) < (mx : Int) := by omega
        have hRf : Hid (R = false) := by
          show R = false
          rw [HR.out]
          have : xss.all (fun y => decide (y.length ≤ 30)) = false := by
            rw [List.all_eq_false]
            exact ⟨xs, List.mem_of_getElem? hx.out, by simp; omega⟩
          rw [this]; rfl
        clear hs hmx e
        go_wp2
        go_ret
        exact ⟨by rw [hRf.out]; rfl, rfl⟩
    · have hkm : k = m := by omega
      have hRt : Hid (R = decide ((m : Int) ≤ 30)) := by
        show R = _
        rw [HR.out]
        have : xss.all (fun y => decide (y.length ≤ 30)) = true := by
          rw [List.all_eq_true]
          intro x hx
          obtain ⟨i, hi, rfl⟩ := List.getElem_of_mem hx
          exact decide_eq_true (hj.out i _ (by rw [hkm, ← HL.out]; exact hi) (List.getElem?_eq_getElem hi))
        rw [this, Bool.true_and]
        by_cases h30 : m ≤ 30
        · rw [decide_eq_true h30, decide_eq_true (by omega)]
        · rw [decide_eq_false h30, decide_eq_false (by omega)]
      have hge : (m : Int) ≤ (k : Int) := by omega
      clear hkm
      go_wp2
      go_ret
      exact ⟨by rw [hRt.out]; rfl, rfl⟩
end Go.Proofs.Ytofhdakggapahaa
namespace Go.By
theorem list_set_succ {α : Type} (vs : List α) (n : Nat) (z u : α) : (vs ++ List.replicate (n + 1) z).set vs.length u = (vs ++ [u]) ++ List.replicate n z := by
  rw [List.set_append_right _ _ (Nat.le_refl _), Nat.sub_self, List.replicate_succ, List.set_cons_zero, List.append_assoc]; rfl
end Go.By
namespace Go.Proofs.Ytofhdakggapahaa
open Go.RowKit Go.By
/-- the cells of a unit behind so many rounds -/
def unitC (n : Nat) : Nat → List UInt8
  | 0 => List.replicate (n * n) 0
  | k + 1 => (unitC n k).set (k * n + k) 1
theorem unitC_len (n : Nat) : ∀ k, (unitC n k).length = n * n
  | 0 => by simp [unitC]
  | k + 1 => by simp [unitC, unitC_len n k]
theorem info_rows : (Try.prog.info? 25).map (fun i => (i.zero, i.size, i.bytes)) = some (some (.slice none 0 0), 1, 24) := by kernel_rfl
set_option maxRecDepth 100000 in
set_option maxHeartbeats 1000000 in
theorem Unit_bad (n : Int) (w : World) (h : n < 0 ∨ 256 < n) : Calls Try.prog 12 #[.int .i64 n] w (RetG2 5 w 0 0 [] 2) := by
  have hinfo := info_grid
  have HB : Hid (∀ o1, Below w.heap.size w (w.alloc o1)) := fun o1 => al (Below.refl _ _) (Nat.le_refl _)
  have HX : Hid ((w.alloc (.cells #[.int .i64 0, .int .i64 0, .slice none 0 0] 27)).heap[w.heap.size]? = some (.cells #[.int .i64 0, .int .i64 0, .slice none 0 0] 27 (0, 0))) := hnew rfl
  rcases h with h | h
  · go_enter Try.func12, Try.ntmps12
    go_wp2
    refine bodyPost_ret (results_cell_tmp rfl _ _ _ 27 #[.int .i64 0, .int .i64 0, .slice none 0 0] (0, 0) _ (.int .i64 2) rfl HX.out rfl Try.underlying27 rfl hinfo) rfl (RetG2.zero (HB.out _))
  · have h0 : 0 ≤ n := by omega
    go_enter Try.func12, Try.ntmps12
    go_wp2
    refine bodyPost_ret (results_cell_tmp rfl _ _ _ 27 #[.int .i64 0, .int .i64 0, .slice none 0 0] (0, 0) _ (.int .i64 2) rfl HX.out rfl Try.underlying27 rfl hinfo) rfl (RetG2.zero (HB.out _))
set_option maxRecDepth 100000 in
set_option maxHeartbeats 2000000 in
theorem Unit_good (n : Nat) (w : World) (hn : n ≤ 256) : Calls Try.prog 12 #[.int .i64 n] w (RetG2 5 w n n (unitC n n) 0) := by
  have hinfo := info_grid
  have hnn : n * n ≤ 256 * 256 := Nat.mul_le_mul hn hn
  have HBL := Lib.hid (fun W => blank_any n n W (show Room (n * n) by unfold Room; omega) (by omega) (by omega))
  obtain ⟨N, hN⟩ : ∃ N, N = n * n := ⟨_, rfl⟩
  have HNE := Lib.hid hN
  have HL : Hid (∀ k, (unitC n k).length = N) := fun k => by rw [hN]; exact unitC_len n k
  rw [← hN] at hnn
  clear hN
  go_enter Try.func12, Try.ntmps12
  go_wp2_with fail
  refine Calls.mono (HBL.out _) ?_; rintro e w1 ⟨q, n1, c, hn1, rfl, ho, hb⟩
  obtain rfl : n1 = N := hn1.trans HNE.out.symm
  have E0 : Hid (w1.heap[w.heap.size]? = some (.cells #[.int .i64 0, .int .i64 0, .slice none 0 0] 27 (0, 0))) := (hb.block _ (by simp)).trans (hnew rfl)
  have K1 : Hid (Below w.heap.size w w1) := bl (al (Below.refl _ _) (Nat.le_refl _)) hb (by simp)
  have hs1 := hb.size
  have HS1 : Hid (w.heap.size + 1 ≤ w1.heap.size) := by show _ ≤ _; simp at hs1; omega
  have HO : Hid (w1.ownsRow (w.heap.size + 1) 5 1 (.slice q n1 c) n1 ((unitC n 0).map B8)) := by
    show World.ownsRow _ _ _ _ _ _ _
    unfold unitC
    have ho2 := owns_mono ho (show w.heap.size + 1 ≤ _ by simp)
    exact ho2
  clear ho hb hs1 hn1
  go_wp2
  go_loopw [17] (fun i wr => ∃ k : Nat, k ≤ n ∧ i = .int .i64 k ∧ Hid (wr.ownsRow (w.heap.size + 1) 5 1 (.slice q n1 c) n1 ((unitC n k).map B8)) ∧ Hid (Below w.heap.size w wr) ∧
    Hid (wr.heap[w1.heap.size]? = some (.cells #[.int .i64 n, .int .i64 n, .slice q n1 c] 27 (0, 0))) ∧ Hid (wr.heap[w.heap.size]? = some (.cells #[.int .i64 0, .int .i64 0, .slice none 0 0] 27 (0, 0)))) (fun i _ => n - (intOf i).toNat)
  case atStart => exact ⟨0, Nat.zero_le _, rfl, owns_keep HO.out (al (Below.refl _ _) (Nat.le_refl _)), al K1.out K1.out.size, hnew rfl, hal E0.out⟩
  case round =>
    obtain ⟨k, hk, rfl, hO, hB, hX, hZ⟩ := hrel
    by_cases hlt : k < n
    · obtain ⟨x0, x1, x2⟩ := cells3 hX.out
      have hpos : 0 < n1 := by rw [HNE.out]; exact Nat.mul_pos (by omega) (by omega)
      obtain ⟨g, rfl, hg1, hg2⟩ := owns_at hO.out hpos
      have hidx : k * n + k < n1 := by
        have h1 : (k + 1) * n ≤ n * n := Nat.mul_le_mul_right _ hlt
        rw [Nat.add_mul, Nat.one_mul, ← HNE.out] at h1; omega
      have hg : w1.heap.size ≠ g := fun e => by
        subst e
        rcases hO.out.2 with ⟨h', _⟩ | ⟨g', cap, cur, hv, _, hh, _⟩
        · cases h'
        · cases hv
          rw [hX.out] at hh; cases hh
      have hz : w.heap.size ≠ g := by omega
      go_wp2_with fail
      refine Calls.mono (row_any n n k _ n1 c (unitC n k) wr (Sl.of_owns hO.out) HNE.out hlt (by omega)) ?_
      rintro e w2 ⟨q', c', rfl, hs', hq', hb'⟩
      have hq2 := hq' (by omega) g 0 rfl
      rw [Nat.zero_add] at hq2
      subst hq2
      have hO2 : Hid (w2.ownsRow (w.heap.size + 1) 5 1 (.slice (some ⟨g, 0, none⟩) n1 c) n1 ((unitC n k).map B8)) := owns_keep hO.out hb'
      have hB2 : Hid (Below w.heap.size w w2) := bl hB.out hb' hB.out.size
      have hX2 : Hid (w2.heap[w1.heap.size]? = some (.cells #[.int .i64 n, .int .i64 n, .slice (some ⟨g, 0, none⟩) n1 c] 27 (0, 0))) := (hb'.block _ (blk_lt hX.out)).trans hX.out
      have hZ2 : Hid (w2.heap[w.heap.size]? = some (.cells #[.int .i64 0, .int .i64 0, .slice none 0 0] 27 (0, 0))) := (hb'.block _ (blk_lt hZ.out)).trans hZ.out
      obtain ⟨y, hy⟩ : ∃ y, (unitC n k)[k * n + k]? = some y := ⟨_, List.getElem?_eq_getElem (by rw [HL.out]; exact hidx)⟩
      have cx : w2.cell? ⟨g, k * n + k, none⟩ = some (B8 y) := by rw [hO2.out.cellAt _ (by omega), List.getElem?_map, hy]; rfl
      have zx : w2.frozen? ⟨g, k * n + k, none⟩ = false := hO2.out.frozenAt _
      have kn : (k : Int) < (n : Int) := by omega
      clear hO hB hX hZ hs' hq' hb' x0 x1 x2 hy hidx
      have P2 : Hid ((w2.setCell ⟨g, k * n + k, none⟩ (.int .u8 1)).ownsRow (w.heap.size + 1) 5 1 (.slice (some ⟨g, 0, none⟩) n1 c) n1 ((unitC n (k + 1)).map B8) ∧ Below w.heap.size w (w2.setCell ⟨g, k * n + k, none⟩ (.int .u8 1)) ∧
          (w2.setCell ⟨g, k * n + k, none⟩ (.int .u8 1)).heap[w1.heap.size]? = some (.cells #[.int .i64 n, .int .i64 n, .slice (some ⟨g, 0, none⟩) n1 c] 27 (0, 0)) ∧
          (w2.setCell ⟨g, k * n + k, none⟩ (.int .u8 1)).heap[w.heap.size]? = some (.cells #[.int .i64 0, .int .i64 0, .slice none 0 0] 27 (0, 0))) := by
        refine ⟨?_, hB2.out.setCell (by show w.heap.size ≤ g; omega) _, hsc hX2.out hg, hsc hZ2.out hz⟩
        have e : unitC n (k + 1) = (unitC n k).set (k * n + k) 1 := rfl
        rw [e, List.map_set]
        exact (hO2.out.stored (k * n + k) (B8 1)).1
      clear hO2 hB2 hX2 hZ2
      go_wp2
      go_roundw
      case rel => exact ⟨k + 1, by omega, by go_num, P2.out.1, P2.out.2.1, P2.out.2.2.1, P2.out.2.2.2⟩
      case measure => simp [intOf]; omega
    · have hkn : k = n := by omega
      obtain ⟨x0, x1, x2⟩ := cells3 hX.out
      obtain ⟨f0, f1, f2⟩ := cells3 hZ.out
      have z0 := frozen_of_row _ _ 0 _ _ hZ.out
      have z1 := frozen_of_row _ _ 1 _ _ hZ.out
      have z2 := frozen_of_row _ _ 2 _ _ hZ.out
      have hge : (n : Int) ≤ (k : Int) := by omega
      have HKN := Lib.hid hkn
      clear hkn
      go_wp2
      refine bodyPost_ret (results_cell_tmp rfl _ _ _ 27 #[.int .i64 n, .int .i64 n, .slice q n1 c] (0, 0) _ (.int .i64 0) rfl (hss (hss (hss hZ.out))) rfl Try.underlying27 rfl hinfo) rfl ⟨q, n1, c, HNE.out, rfl, ?_, ((hB.out.setCell (Nat.le_refl _) _).setCell (Nat.le_refl _) _).setCell (Nat.le_refl _) _⟩
      rw [← HKN.out]
      rw [HKN.out] at hO ⊢
      exact owns_mono (owns_set (owns_set (owns_set hO.out (by simp)) (by simp)) (by simp)) (by simp)
set_option maxRecDepth 100000 in
set_option maxHeartbeats 2000000 in
theorem GRows_any (h wd : Nat) (p : Option Addr) (n c : Nat) (cells : List UInt8) (w : World) (hs : Sl B8 w p n c cells) (hn : n = h * wd) (hr : Room wd) (hh : Room (h * 24)) :
    Calls Try.prog 17 #[.agg #[.int .i64 h, .int .i64 wd, .slice p n c]] w fun e w' => ∃ q c', e = .returned (.slice q h c') ∧ Own2 25 5 w' w.heap.size (.slice q h c') h ((List.range h).map (rowF wd cells)) ∧ Below w.heap.size w w' := by
  obtain ⟨r0, hr0, hrz, hr1, hr2⟩ := info_parts info_rows
  have HS := Lib.hid hs; have HN := Lib.hid hn
  unfold Room at hh
  have hb : h ≤ 9223372036854775807 := by omega
  have HM1 : Hid (h ≤ maxLen) := by show h ≤ maxLen; unfold maxLen; omega
  have HM2 : Hid (24 * h ≤ 281474976710656) := by show 24 * h ≤ _; omega
  have HR := Lib.hid hr
  have HB : Hid (∀ o, Below w.heap.size w (w.alloc o)) := fun o => al (Below.refl _ _) (Nat.le_refl _)
  clear hs hn hr
  go_enter Try.func17, Try.ntmps17
  go_wp2_with (at_make; refine wpList_make_full _ rfl _ _ 22 rfl (w.heap.size + 1) 25 r0 (.slice none 0 0) 1 Try.underlying22 hr0 hrz hr1 .i64 .i64 _ _ h rfl rfl rfl rfl (by rw [hr2]; exact HM2.out) HM1.out (by simp) ?_)
  intro w1 ho hg
  have HO : Hid (w1.ownsRow (w.heap.size + 1) 25 1 (.slice (some ⟨w.heap.size + 1, 0, none⟩) h h) h ([] ++ List.replicate (h - 0) (Value.slice none 0 0))) := by
    have e : (madeCells #[Value.slice none 0 0] h).toList = List.replicate h (Value.slice none 0 0) := toList_madeCells_one _ _
    show World.ownsRow _ _ _ _ _ _ _
    rw [List.nil_append, Nat.sub_zero, ← e]; simpa using ho
  have hb1 : Below w.heap.size w w1 := (HB.out _).grown hg (by simp) (by simp)
  have E0 : Hid (w1.heap[w.heap.size]? = some (.cells #[.int .i64 h, .int .i64 wd, .slice p n c] 27 (0, 0))) := by
    show _ = _
    rw [hg.block _ (by simp) (by simp)]; exact hnew rfl
  have K1 := Lib.hid hb1
  obtain ⟨y0, y1, y2⟩ := cells3 E0.out
  clear ho hg hb1
  go_wp2
  clear y0 y1 y2
  go_loopw [10] (fun i wr => ∃ (k : Nat) (vs : List Value), k ≤ h ∧ i = .int .i64 k ∧ Hid (vs.length = k) ∧ Hid (wr.ownsRow (w.heap.size + 1) 25 1 (.slice (some ⟨w.heap.size + 1, 0, none⟩) h h) h (vs ++ List.replicate (h - k) (Value.slice none 0 0))) ∧
    Hid (∀ (j : Nat) (v : Value), vs[j]? = some v → ∃ q c', v = .slice q wd c' ∧ wr.ownsRow (w.heap.size + 1) 5 1 (.slice q wd c') wd ((rowF wd cells j).map B8)) ∧ Hid (Below w.heap.size w wr) ∧
    Hid (wr.heap[w.heap.size]? = some (.cells #[.int .i64 h, .int .i64 wd, .slice p n c] 27 (0, 0)))) (fun i _ => h - (intOf i).toNat)
  case atStart => exact ⟨0, [], Nat.zero_le _, rfl, rfl, HO.out, fun j v hj => by simp at hj, K1.out, E0.out⟩
  case round =>
    obtain ⟨k, vs, hk, rfl, hl, hO, hV, hBw, hX⟩ := hrel
    by_cases hlt : k < h
    · obtain ⟨x0, x1, x2⟩ := cells3 hX.out
      go_wp2_with fail
      refine Calls.mono (row_any h wd k p n c cells wr (HS.out.keep hBw.out) HN.out hlt hb) ?_
      rintro e w2 ⟨q', c', rfl, hs', -, hb'⟩
      have hB2 : Hid (Below w.heap.size w w2) := bl hBw.out hb' hBw.out.size
      have HS' := Lib.hid hs'
      have hs2 := hb'.size
      have hsz := hBw.out.size
      clear x0 x1 x2 hs'
      go_wp2_with fail
      refine Calls.mono (CloneB_any q' wd c' (rowF wd cells k) w2 HS'.out HR.out) ?_
      rintro e w3 ⟨q3, c3, rfl, ho3, hb3⟩
      have hb23 := bl hb' hb3 hs2
      have hO3 : Hid (w3.ownsRow (w.heap.size + 1) 25 1 (.slice (some ⟨w.heap.size + 1, 0, none⟩) h h) h (vs ++ List.replicate (h - k) (Value.slice none 0 0))) := owns_keep hO.out hb23
      have hlt0 := (hO.out.lt (w.heap.size + 1) rfl).2
      have hR3 : Hid (w3.ownsRow (w.heap.size + 1) 5 1 (.slice q3 wd c3) wd ((rowF wd cells k).map B8)) := owns_mono ho3 (by omega)
      have hV3 : Hid (∀ (j : Nat) (v : Value), vs[j]? = some v → ∃ q c', v = .slice q wd c' ∧ w3.ownsRow (w.heap.size + 1) 5 1 (.slice q wd c') wd ((rowF wd cells j).map B8)) := fun j v hj => by
        obtain ⟨q, c', e, ho⟩ := hV.out j v hj
        exact ⟨q, c', e, owns_keep ho hb23⟩
      have hB3 : Hid (Below w.heap.size w w3) := bl hBw.out hb23 hBw.out.size
      have hX3 : Hid (w3.heap[w.heap.size]? = some (.cells #[.int .i64 h, .int .i64 wd, .slice p n c] 27 (0, 0))) := (hb23.block _ (blk_lt hX.out)).trans hX.out
      have cx : w3.cell? ⟨w.heap.size + 1, k, none⟩ = some (.slice none 0 0) := by
        rw [hO3.out.cellAt _ (by omega), List.getElem?_append_right (by rw [hl.out]; exact Nat.le_refl _), hl.out, Nat.sub_self]
        exact List.getElem?_replicate_of_lt (by omega)
      have zx : w3.frozen? ⟨w.heap.size + 1, k, none⟩ = false := hO3.out.frozenAt _
      have kn : (k : Int) < (h : Int) := by omega
      have P2 : Hid ((w3.setCell ⟨w.heap.size + 1, k, none⟩ (.slice q3 wd c3)).ownsRow (w.heap.size + 1) 25 1 (.slice (some ⟨w.heap.size + 1, 0, none⟩) h h) h ((vs ++ [.slice q3 wd c3]) ++ List.replicate (h - (k + 1)) (Value.slice none 0 0)) ∧
          (∀ (j : Nat) (v : Value), (vs ++ [.slice q3 wd c3])[j]? = some v → ∃ q c', v = .slice q wd c' ∧ (w3.setCell ⟨w.heap.size + 1, k, none⟩ (.slice q3 wd c3)).ownsRow (w.heap.size + 1) 5 1 (.slice q wd c') wd ((rowF wd cells j).map B8)) ∧
          Below w.heap.size w (w3.setCell ⟨w.heap.size + 1, k, none⟩ (.slice q3 wd c3)) ∧
          (w3.setCell ⟨w.heap.size + 1, k, none⟩ (.slice q3 wd c3)).heap[w.heap.size]? = some (.cells #[.int .i64 h, .int .i64 wd, .slice p n c] 27 (0, 0))) := by
        have hst := hO3.out.stored k (.slice q3 wd c3)
        have hkeep : ∀ (q : Option Addr) (c' j : Nat), w3.ownsRow (w.heap.size + 1) 5 1 (.slice q wd c') wd ((rowF wd cells j).map B8) → (w3.setCell ⟨w.heap.size + 1, k, none⟩ (.slice q3 wd c3)).ownsRow (w.heap.size + 1) 5 1 (.slice q wd c') wd ((rowF wd cells j).map B8) := fun q c' j hh =>
          owns_kept hh hst.2 (owns_ne hh hO3.out (by decide))
        refine ⟨?_, ?_, hB3.out.setCell (by show w.heap.size ≤ w.heap.size + 1; omega) _, hsc hX3.out (by show w.heap.size ≠ w.heap.size + 1; omega)⟩
        · have e := list_set_succ vs (h - (k + 1)) (Value.slice none 0 0) (.slice q3 wd c3)
          rw [hl.out, show h - (k + 1) + 1 = h - k by omega] at e
          rw [← e]; exact hst.1
        · intro j v hj
          by_cases hjk : j < vs.length
          · rw [List.getElem?_append_left hjk] at hj
            obtain ⟨q, c', e, ho⟩ := hV3.out j v hj
            exact ⟨q, c', e, hkeep _ _ _ ho⟩
          · have hj2 := (List.getElem?_eq_some_iff.1 hj).1
            rw [List.length_append, List.length_singleton] at hj2
            obtain rfl : j = vs.length := by omega
            rw [List.getElem?_append_right (Nat.le_refl _), Nat.sub_self] at hj
            have hv : Value.slice q3 wd c3 = v := by simpa using hj
            exact ⟨q3, c3, hv.symm, by rw [hl.out]; exact hkeep _ _ _ hR3.out⟩
      have HL2 : Hid ((vs ++ [Value.slice q3 wd c3]).length = k + 1) := by show _ = _; rw [List.length_append, hl.out]; rfl
      clear hO hV hBw hX ho3 hb3 hb23 hO3 hR3 hV3 hB3 hX3 hB2 hs2 hlt0 HS' hb' hsz
      go_wp2
      go_roundw
      case rel => exact ⟨k + 1, vs ++ [Value.slice q3 wd c3], by omega, by go_num, HL2.out, P2.out.1, P2.out.2.1, P2.out.2.2.1, P2.out.2.2.2⟩
      case measure => simp [intOf]; omega
    · have hkh : k = h := by omega
      have hge : (h : Int) ≤ (k : Int) := by omega
      have HF : Hid (Own2 25 5 wr w.heap.size (.slice (some ⟨w.heap.size + 1, 0, none⟩) h h) h ((List.range h).map (rowF wd cells))) := by
        have hO' := hO.out
        rw [hkh, Nat.sub_self, List.replicate_zero, List.append_nil] at hO'
        refine ⟨vs, owns_mono hO' (by omega), by simp, ?_⟩
        intro j v hj
        have hj2 := (List.getElem?_eq_some_iff.1 hj).1
        rw [hl.out] at hj2
        obtain ⟨q, c', e, ho⟩ := hV.out j v hj
        have hlen : (rowF wd cells j).length = wd := by have := owns_len ho; simpa using this
        refine ⟨rowF wd cells j, q, c', by rw [List.getElem?_map, List.getElem?_range (by omega)]; rfl, by rw [hlen]; exact e, ?_⟩
        rw [hlen]; exact owns_mono ho (by omega)
      have HBF := Lib.hid hBw.out
      clear hkh hO hV hX hBw hl
      go_wp2
      go_ret
      exact ⟨_, _, rfl, HF.out, HBF.out⟩
end Go.Proofs.Ytofhdakggapahaa
namespace Go.By
open Go.RowKit
def fl2 (vs : List (Value × Value)) : List Value := vs.flatMap fun u => [u.1, u.2]
theorem fl2_append (a b : List (Value × Value)) : fl2 (a ++ b) = fl2 a ++ fl2 b := by simp [fl2]
theorem fl2_length (vs : List (Value × Value)) : (fl2 vs).length = vs.length * 2 := by
  induction vs with
  | nil => rfl
  | cons u vs ih => show (u.1 :: u.2 :: fl2 vs).length = _; simp only [List.length_cons, ih]; omega
theorem fl2_at : ∀ {vs : List (Value × Value)} {i : Nat} {u : Value × Value}, vs[i]? = some u → (fl2 vs)[i * 2]? = some u.1 ∧ (fl2 vs)[i * 2 + 1]? = some u.2
  | v :: vs, 0, u, h => by obtain rfl : v = u := by simpa using h
                           exact ⟨rfl, rfl⟩
  | v :: vs, i + 1, u, h => by
    have ih := fl2_at (vs := vs) (i := i) (u := u) (by simpa using h)
    have e : fl2 (v :: vs) = v.1 :: v.2 :: fl2 vs := rfl
    rw [e, show (i + 1) * 2 = i * 2 + 2 by omega]
    exact ⟨by simpa using ih.1, by simpa using ih.2⟩
/-- a slice value that owns these bytes -/
def Bw (T1 : TypeId) (w : World) (base : Nat) (v : Value) (xs : List UInt8) : Prop := ∃ q m c, v = .slice q m c ∧ xs.length = m ∧ w.ownsRow base T1 1 (.slice q m c) m (xs.map B8)
/-- rows, each with bytes of its own -/
def RwL (T2 T1 : TypeId) (w : World) (base : Nat) (v : Value) (n : Nat) (K : List (List UInt8 × List UInt8)) : Prop :=
  ∃ vs : List (Value × Value), vs.length = n ∧ K.length = n ∧ w.ownsRow base T2 2 v n (fl2 vs) ∧ ∀ (j : Nat) (u : Value × Value), vs[j]? = some u → ∃ k, K[j]? = some k ∧ Bw T1 w base u.1 k.1 ∧ Bw T1 w base u.2 k.2
section
variable {T2 T1 : TypeId} {w w' : World} {base n : Nat} {v : Value} {K : List (List UInt8 × List UInt8)}
theorem Bw.keep {xs : List UInt8} (h : Bw T1 w base v xs) (hb : Below w.heap.size w w') : Bw T1 w' base v xs := by
  obtain ⟨q, m, c, e, l, o⟩ := h; exact ⟨q, m, c, e, l, owns_keep o hb⟩
theorem Bw.sl {xs : List UInt8} (h : Bw T1 w base v xs) : ∃ q m c, v = .slice q m c ∧ Sl B8 w q m c xs := by
  obtain ⟨q, m, c, e, l, o⟩ := h; exact ⟨q, m, c, e, Sl.of_owns o⟩
theorem Bw.grown {xs : List UInt8} {u : Value} {L : List Value} {m : Nat} (h : Bw T1 w base v xs) (hT : T1 ≠ T2) (ho : w.ownsRow base T2 2 u m L) (hg : w.grownBy w' u.ownBlock) : Bw T1 w' base v xs := by
  obtain ⟨q, m, c, e, l, o⟩ := h; exact ⟨q, m, c, e, l, owns_kept o hg (owns_ne o ho hT)⟩
theorem RwL.nil (T2 T1 : TypeId) (w : World) (base : Nat) : RwL T2 T1 w base (.slice none 0 0) 0 [] := ⟨[], rfl, rfl, World.ownsRow_nil _ _ _ _, fun j u h => by simp at h⟩
theorem RwL.keep (h : RwL T2 T1 w base v n K) (hb : Below w.heap.size w w') : RwL T2 T1 w' base v n K := by
  obtain ⟨vs, a, b, o, r⟩ := h
  exact ⟨vs, a, b, owns_keepv o hb, fun j u hj => by obtain ⟨k, hk, g1, g2⟩ := r j u hj; exact ⟨k, hk, g1.keep hb, g2.keep hb⟩⟩
theorem RwL.len (h : RwL T2 T1 w base v n K) : K.length = n := by obtain ⟨vs, a, b, o, r⟩ := h; exact b
theorem RwL.shape (h : RwL T2 T1 w base v n K) : ∃ q c, v = .slice q n c := by obtain ⟨vs, a, b, o, r⟩ := h; exact owns_shape o
/-- one row, in memory -/
theorem RwL.at {q : Option Addr} {c : Nat} (h : RwL T2 T1 w base (.slice q n c) n K) {j : Nat} (hj : j < n) : ∃ g k q1 m1 c1 q2 m2 c2, q = some ⟨g, 0, none⟩ ∧ w.cell? ⟨g, j * 2, none⟩ = some (.slice q1 m1 c1) ∧ w.cell? ⟨g, j * 2 + 1, none⟩ = some (.slice q2 m2 c2) ∧
    Hid (K[j]? = some k) ∧ Sl B8 w q1 m1 c1 k.1 ∧ Sl B8 w q2 m2 c2 k.2 := by
  obtain ⟨vs, a, b, o, r⟩ := h
  obtain ⟨u, hu⟩ : ∃ u, vs[j]? = some u := ⟨_, List.getElem?_eq_getElem (by omega)⟩
  obtain ⟨k, hk, g1, g2⟩ := r j u hu
  obtain ⟨q1, m1, c1, e1, s1⟩ := g1.sl
  obtain ⟨q2, m2, c2, e2, s2⟩ := g2.sl
  rcases o.2 with ⟨hv, _⟩ | ⟨g, cap, cur, hv, _⟩
  · simp at hv; omega
  · obtain ⟨rfl, rfl⟩ : q = some ⟨g, 0, none⟩ ∧ c = cap := by simpa using hv
    obtain ⟨f1, f2⟩ := fl2_at hu
    refine ⟨g, k, q1, m1, c1, q2, m2, c2, rfl, ?_, ?_, hk, s1, s2⟩
    · rw [o.cellAt _ (by omega), f1, e1]
    · rw [o.cellAt _ (by omega), f2, e2]
theorem RwL.lt (h : RwL T2 T1 w base v n K) : ∀ k, v.ownBlock = some k → base ≤ k ∧ k < w.heap.size := by
  obtain ⟨vs, a, b, o, r⟩ := h; exact fun k hk => o.lt k hk
theorem Bw.set {xs : List UInt8} {g o : Nat} {u : Value} (h : Bw T1 w base v xs) (hne : ∀ k, v.ownBlock = some k → k ≠ g) (hg : w.grownBy w' (some g)) : Bw T1 w' base v xs := by
  obtain ⟨q, m, c, rfl, l, ho⟩ := h; exact ⟨q, m, c, rfl, l, owns_kept ho hg (fun k hk e => hne k hk (by injection e))⟩
/-- what is written into a block of another type leaves them -/
theorem RwL.set {g TX : Nat} {cs : Array Value} {fr : Nat × Nat} (h : RwL T2 T1 w base v n K) (hX : w.heap[g]? = some (.cells cs TX fr)) (h1 : T1 ≠ TX) (h2 : v.ownBlock ≠ some g) (hg : w.grownBy w' (some g)) : RwL T2 T1 w' base v n K := by
  obtain ⟨vs, a, b, o, r⟩ := h
  have hB : ∀ (u : Value) (xs : List UInt8), Bw T1 w base u xs → Bw T1 w' base u xs := fun u xs hu => by
    refine hu.set (g := g) (o := 0) (u := u) (fun k hk e => ?_) hg
    obtain ⟨q, m, c, rfl, l, ho⟩ := hu
    rcases ho.2 with ⟨hv, _⟩ | ⟨g', cap, cur, hv, _, hh, _⟩
    · rw [hv] at hk; simp [Value.ownBlock] at hk
    · rw [hv] at hk; simp [Value.ownBlock] at hk
      rw [e] at hk; rw [hk, hX] at hh
      injection hh with hh; injection hh with _ hh _; exact h1 hh.symm
  exact ⟨vs, a, b, owns_kept o hg (fun k hk e => h2 (by rw [hk, e])), fun j u hj => by obtain ⟨k, hk, g1, g2⟩ := r j u hj; exact ⟨k, hk, hB _ _ g1, hB _ _ g2⟩⟩
/-- one more -/
theorem RwL.push {w1 : World} {v' : Value} {u1 u2 : Value} {k : List UInt8 × List UInt8} {vs : List (Value × Value)} (a : vs.length = n) (b : K.length = n) (o : w.ownsRow base T2 2 v n (fl2 vs))
    (r : ∀ (j : Nat) (u : Value × Value), vs[j]? = some u → ∃ k, K[j]? = some k ∧ Bw T1 w base u.1 k.1 ∧ Bw T1 w base u.2 k.2) (hT : T1 ≠ T2) (h1 : Bw T1 w base u1 k.1) (h2 : Bw T1 w base u2 k.2)
    (ho : w1.ownsRow base T2 2 v' (n + 1) (fl2 vs ++ [u1, u2])) (hg : w.grownBy w1 v.ownBlock) : RwL T2 T1 w1 base v' (n + 1) (K ++ [k]) := by
  refine ⟨vs ++ [(u1, u2)], by simp [a], by simp [b], by rw [fl2_append]; exact ho, ?_⟩
  intro j u hj
  by_cases hjn : j < vs.length
  · rw [List.getElem?_append_left hjn] at hj
    obtain ⟨k', hk, g1, g2⟩ := r j u hj
    exact ⟨k', by rw [List.getElem?_append_left (by omega)]; exact hk, g1.grown hT o hg, g2.grown hT o hg⟩
  · have hj2 := (List.getElem?_eq_some_iff.1 hj).1
    rw [List.length_append, List.length_singleton] at hj2
    obtain rfl : j = vs.length := by omega
    rw [List.getElem?_append_right (Nat.le_refl _), Nat.sub_self] at hj
    have hu : (u1, u2) = u := by simpa using hj
    subst hu
    exact ⟨k, by rw [a, ← b, List.getElem?_append_right (Nat.le_refl _), Nat.sub_self]; rfl, h1.grown hT o hg, h2.grown hT o hg⟩
end
end Go.By
namespace Go.Proofs.Ytofhdakggapahaa
open Go.RowKit Go.By
theorem RefMul_q (a b : UInt8) (w : World) : Calls Try.prog 65 #[B8 a, B8 b] w fun e w' => e = .returned (B8 (Gf.gmul a b)) ∧ w' = w :=
  (RefMul_any a b w).mono fun _ _ ⟨h1, h2⟩ => ⟨h1, h2.symm⟩
theorem map_take_succ {α β : Type} (f : α → β) {xs : List α} {k : Nat} {x : α} (hx : xs[k]? = some x) : (xs.take (k + 1)).map f = (xs.take k).map f ++ [f x] := by
  obtain ⟨hk, hx⟩ := List.getElem?_eq_some_iff.1 hx
  rw [List.take_succ_eq_append_getElem hk, List.map_append, hx]; rfl
set_option maxHeartbeats 400000 in
theorem RScale_any (c : UInt8) (p : Option Addr) (n cc : Nat) (xs : List UInt8) (w : World) (h : Sl B8 w p n cc xs) (hn : Room n) :
    Calls Try.prog 102 #[B8 c, .slice p n cc] w (RetB1 5 w (xs.map (Gf.gmul c))) := by
  obtain ⟨i0, hi, hz0, hz1, hz2⟩ := info_parts info_u8
  have hb := h.bound
  have hm := h.max
  have hle := h.le
  have HL := Lib.hid (show n ≤ maxLen by omega)
  clear hm hle
  have H := Lib.hid h; clear h
  go_enter Try.func102, Try.ntmps102
  go_wp2
  go_loopw [5, 6] (fun v i wr => ∃ k : Nat, k ≤ n ∧ i = .int .i64 k ∧ wr.ownsRow w.heap.size 5 1 v k (((xs.take k).map (Gf.gmul c)).map B8) ∧ Below w.heap.size w wr) (fun _ i _ => n - (intOf i).toNat)
  case atStart => exact ⟨0, Nat.zero_le _, rfl, World.ownsRow_nil _ _ _ _, Below.refl _ _⟩
  case round =>
    obtain ⟨k, hk, rfl, ho, hw⟩ := hrel
    obtain ⟨L, eL⟩ : ∃ L, L = ((xs.take k).map (Gf.gmul c)).map B8 := ⟨_, rfl⟩
    rw [← eL] at ho
    have HO := Lib.hid ho; have HEL := Lib.hid eL; clear ho eL
    by_cases hlt : k < n
    · obtain ⟨b, o, x, rfl, hc, hx⟩ := (H.out.keep hw).at k hlt
      go_wp2_with (first
        | (go_at_call 65; refine (RefMul_any _ _ _).mono ?_; rintro e w' ⟨rfl, rfl⟩)
        | (at_builtin; refine wpList_append_rs _ rfl _ _ 25 rfl w.heap.size 5 i0 (.int .u8 0) 1 Try.underlying25 hi hz0 hz1 hz2 rfl _ k _ rfl (HO.out.alloc _) B8 _ _ _ [Gf.gmul c x] (fun _ _ => rfl) rfl (sl_one rfl rfl) ?c1 ?c2 ?c3 ?_))
      case c1 => have := HL.out; omega
      case c2 => unfold Room at hn; omega
      case c3 => have := hw.size; simp; omega
      intro v' w' ho hg
      have HO' := Lib.hid ho; clear ho
      have HB := Lib.hid ((hw.alloc hw.size _).grown hg (by have := hw.size; simp; omega) (fun j hj => (HO.out.lt j hj).1))
      clear hg
      go_wp2
      go_roundw
      case rel => exact ⟨k + 1, by omega, by go_num, by rw [map_take_succ _ hx.out, List.map_append, ← HEL.out]; exact HO'.out, HB.out⟩
      case measure => simp [intOf]; omega
    · go_wp2
      go_ret
      obtain ⟨q, c', hv⟩ := owns_shape HO.out
      have := HO.out
      rw [hv, HEL.out] at this
      have e : xs.take k = xs := List.take_of_length_le (by have := H.out.len; omega)
      rw [e] at this
      exact ⟨q, k, c', by have := H.out.len; show _ = _; rw [List.length_map]; omega, by rw [← hv]; rfl, this, hw⟩
end Go.Proofs.Ytofhdakggapahaa
namespace Go.Proofs.Ytofhdakggapahaa
open Go.RowKit Go.By
/-- the sum of the products in one place -/
def col (cs : List UInt8) (xss : List (List UInt8)) (i : Nat) (s : UInt8) : UInt8 := (List.zip cs xss).foldl (fun s r => s ^^^ Gf.gmul r.1 (r.2.getD i 0)) s
theorem combF_get (i m : Nat) (hi : i < m) (xss : List (List UInt8)) (h : ∀ xs, xs ∈ xss → xs.length = m) : ∀ (cs z : List UInt8), z.length = m → (combF z cs xss)[i]? = some (col cs xss i (z.getD i 0)) := by
  induction xss with
  | nil => intro cs z hz; simp [combF, col, List.getElem?_eq_getElem (show i < z.length by omega)]
  | cons x l ih =>
    intro cs z hz
    cases cs with
    | nil => simp [combF, col, List.getElem?_eq_getElem (show i < z.length by omega)]
    | cons c cs =>
      have hx := h x List.mem_cons_self
      have := ih (fun xs hx => h xs (List.mem_cons_of_mem _ hx)) cs (axpy c x z) (by rw [axpy_length _ _ _ (hx.trans hz.symm)]; exact hz)
      have e : (axpy c x z).getD i 0 = z.getD i 0 ^^^ Gf.gmul c (x.getD i 0) := by
        simp [axpy, List.getD, List.getElem?_zipWith, List.getElem?_eq_getElem (show i < z.length by omega), List.getElem?_eq_getElem (show i < x.length by omega)]
      rw [e] at this
      simpa [combF, col] using this
theorem col_step {cs : List UInt8} {xss : List (List UInt8)} {k i : Nat} {c y s : UInt8} {x : List UInt8} (hc : cs[k]? = some c) (hx : xss[k]? = some x) (hy : x[i]? = some y) :
    col (cs.take (k + 1)) (xss.take (k + 1)) i s = col (cs.take k) (xss.take k) i s ^^^ Gf.gmul c y := by
  have e : ∀ j, List.zip (cs.take j) (xss.take j) = (List.zip cs xss).take j := fun j => by simp [List.zip, List.take_zipWith]
  have hz : (List.zip cs xss)[k]? = some (c, x) := by simp [List.zip, List.getElem?_zipWith, hc, hx]
  obtain ⟨hk, hz⟩ := List.getElem?_eq_some_iff.1 hz
  simp only [col, e]
  rw [foldl_take_succ _ _ _ _ hk, hz]
  simp [List.getD, hy]
theorem take_snoc_of {α : Type} {xs : List α} {k : Nat} {x : α} (hx : xs[k]? = some x) : xs.take (k + 1) = xs.take k ++ [x] := by
  obtain ⟨hk, hx⟩ := List.getElem?_eq_some_iff.1 hx
  rw [List.take_succ_eq_append_getElem hk, hx]
theorem noughtS_of {xss : List (List UInt8)} {x0 : List UInt8} {m : Nat} (h0 : xss[0]? = some x0) (hm : x0.length = m) (h : ∀ xs, xs ∈ xss → xs.length = m) : noughtS xss = (List.replicate m 0, 0) := by
  cases xss with
  | nil => simp at h0
  | cons x l =>
    simp at h0; subst h0; subst hm
    simp only [noughtS]
    rw [if_pos (List.all_eq_true.2 fun xs hx => by simpa using h xs hx)]
theorem noughtS_not {xss : List (List UInt8)} {x0 x : List UInt8} (h0 : xss[0]? = some x0) (hx : x ∈ xss) (h : x.length ≠ x0.length) : noughtS xss = ([], 4) := by
  cases xss with
  | nil => simp at h0
  | cons y l =>
    simp at h0; subst h0
    simp only [noughtS]
    rw [if_neg]
    intro ha
    have := List.all_eq_true.1 ha x hx
    simp at this; exact h this
set_option maxRecDepth 100000 in
set_option maxHeartbeats 1000000 in
theorem RComb_any (p1 p2 : Option Addr) (n1 n2 c1 c2 : Nat) (cs : List UInt8) (xss : List (List UInt8)) (w : World) (h1 : Sl B8 w p1 n1 c1 cs) (h2 : Sl2 w p2 n2 c2 xss) (hr : ∀ xs, xs ∈ xss → Room xs.length) :
    Calls Try.prog 95 #[.slice p1 n1 c1, .slice p2 n2 c2] w (RetB 5 w (combS cs xss).1 (combS cs xss).2) := by
  obtain ⟨i0, hi, hz0, hz1, hz2⟩ := info_parts info_u8
  have b1 := h1.bound; have b2 := h2.bound
  by_cases he : n1 = n2
  · obtain rfl := he
    by_cases h0 : n1 = 0
    · subst h0
      have e1 : cs = [] := List.eq_nil_of_length_eq_zero h1.len
      have e2 : xss = [] := List.eq_nil_of_length_eq_zero h2.len
      subst e1; subst e2
      clear h1 h2 hr
      go_enter Try.func95, Try.ntmps95
      go_wp2
      go_ret2
      exact RetB.nil _ _ _ _ (Below.refl _ _)
    · obtain ⟨b, o, q0, m0, c0, x0, rfl, hc0, hs0, hx0⟩ := h2.at 0 (by omega)
      have hS : Hid (combS cs xss = if (noughtS xss).2 = 0 then (combF (noughtS xss).1 cs xss, 0) else ([], 4)) := by unfold combS; rw [if_pos (h1.len.trans h2.len.symm)]; rfl
      have hrm : Hid (Room m0) := by have := hr x0 (List.mem_of_getElem? hx0.out); rw [hs0.len] at this; exact this
      have hm0 := hs0.bound
      have hmm := Lib.hid (show m0 ≤ maxLen by have := hs0.le; have := hs0.max; omega)
      have HL0 := Lib.hid hs0.len
      have H1 := Lib.hid h1; have H2 := Lib.hid h2
      have hn0 : ((n1 : Int) == 0) = false := by simp; omega
      have hnp : (0 : Int) < (n1 : Int) := by omega
      rw [Nat.add_zero] at hc0
      clear h1 h2 hr hs0 h0
      go_enter Try.func95, Try.ntmps95
      go_wp2
      go_loopw [6] (fun i wr => ∃ k : Nat, k ≤ n1 ∧ i = .int .i64 k ∧ Below w.heap.size w wr ∧ Hid (∀ j x, j < k → xss[j]? = some x → x.length = m0)) (fun i _ => n1 - (intOf i).toNat)
      case atStart => exact ⟨0, Nat.zero_le _, rfl, Below.refl _ _, fun j x hj => by omega⟩
      case round =>
        obtain ⟨k, hk, rfl, hw, hj⟩ := hrel
        have hcz : wr.cell? ⟨b, o, none⟩ = some (.slice q0 m0 c0) := (hw.cell (p := ⟨b, o, none⟩) (lt_of_cell hc0)).trans hc0
        by_cases hlt : k < n1
        · obtain ⟨b', o', q, m, c', row, hp, hc, hs, hy⟩ := H2.out.at k hlt
          cases hp
          have hc' := (hw.cell (p := ⟨b, o + k, none⟩) (lt_of_cell hc)).trans hc
          have hml := Lib.hid hs.len
          have hmb := hs.bound
          have i1 : (k : Int) < (n1 : Int) := by omega
          clear hc hs
          by_cases hm : m = m0
          · subst hm
            go_wp2
            go_quiet (fail)
            go_wp2
            go_roundw
            case rel => exact ⟨k + 1, by omega, by go_num, ⟨hw.os, hw.tape, hw.output, hw.size, hw.block⟩, fun j x hj' hx => by
              by_cases e : j = k
              · subst e; have := hy.out.symm.trans hx; cases this; exact hml.out
              · exact hj.out j x (by omega) hx⟩
            case measure => simp [intOf]; omega
          · have hne : ((m : Int) != (m0 : Int)) = true := by simp; omega
            have HN := Lib.hid hm; clear hm
            go_wp2
            go_quiet (fail)
            go_wp2
            go_ret2
            rw [hS.out, noughtS_not hx0.out (List.mem_of_getElem? hy.out) (by rw [hml.out, HL0.out]; exact HN.out)]
            exact RetB.nil _ _ _ _ ⟨hw.os, hw.tape, hw.output, hw.size, hw.block⟩
        · have HALL : Hid (∀ xs, xs ∈ xss → xs.length = m0) := fun xs hx => by
            obtain ⟨j, hj', e⟩ := List.getElem_of_mem hx
            exact hj.out j xs (by have := H2.out.len; omega) (by rw [List.getElem?_eq_getElem hj', e])
          have HS : Hid (combS cs xss = (combF (List.replicate m0 0) cs xss, 0)) := by
            have := hS.out
            rw [noughtS_of hx0.out HL0.out HALL.out] at this
            exact this
          have HG : Hid (∀ i, i < m0 → (combF (List.replicate m0 0) cs xss)[i]? = some (col cs xss i 0)) := fun i hi' => by
            have := combF_get i m0 hi' xss HALL.out cs (List.replicate m0 0) (by simp)
            rw [this]; simp [List.getD, hi']
          have HLen : Hid ((combF (List.replicate m0 0) cs xss).length = m0) := combF_len cs xss m0 HALL.out _ (by simp)
          clear hS hj
          generalize combF (List.replicate m0 0) cs xss = Y at *
          go_wp2
          go_loopw [7, 8] (fun v i wr2 => ∃ k : Nat, k ≤ m0 ∧ i = .int .i64 k ∧ wr2.ownsRow w.heap.size 5 1 v k ((Y.take k).map B8) ∧ Below w.heap.size w wr2) (fun _ i _ => m0 - (intOf i).toNat)
          case atStart => exact ⟨0, Nat.zero_le _, rfl, by simpa using World.ownsRow_nil _ _ _ _, hw⟩
          case round =>
            clear hw hcz
            obtain ⟨k2, hk2, rfl, ho, hw⟩ := hrel
            have hcz : wr.cell? ⟨b, o, none⟩ = some (.slice q0 m0 c0) := (hw.cell (p := ⟨b, o, none⟩) (lt_of_cell hc0)).trans hc0
            obtain ⟨L, eL⟩ : ∃ L, L = (Y.take k2).map B8 := ⟨_, rfl⟩
            rw [← eL] at ho
            have HO := Lib.hid ho; have HEL := Lib.hid eL; clear ho eL
            by_cases hlt2 : k2 < m0
            · go_wp2
              go_loopw [9, 10] (fun s i wr3 => ∃ j : Nat, j ≤ n1 ∧ i = .int .i64 j ∧ s = B8 (col (cs.take j) (xss.take j) k2 0) ∧ wr3.ownsRow w.heap.size 5 1 u7 k2 L ∧ Below w.heap.size w wr3) (fun _ i _ => n1 - (intOf i).toNat)
              case atStart => exact ⟨0, Nat.zero_le _, rfl, by simp [col], HO.out, hw⟩
              case round =>
                clear hw hcz
                obtain ⟨j, hj, rfl, rfl, ho, hw⟩ := hrel
                have HO3 := Lib.hid ho; clear ho
                by_cases hlt3 : j < n1
                · obtain ⟨b1', o1', cj, rfl, hcj, hcx⟩ := (H1.out.keep hw).at j hlt3
                  obtain ⟨b', o', q, m, c', row, hp, hc, hs, hy⟩ := H2.out.at j hlt3
                  cases hp
                  have hc' := (hw.cell (p := ⟨b, o + j, none⟩) (lt_of_cell hc)).trans hc
                  have hmm' : m = m0 := by rw [← hs.len]; exact HALL.out row (List.mem_of_getElem? hy.out)
                  subst hmm'
                  obtain ⟨b2', o2', x, rfl, hcxx, hxx⟩ := (hs.keep hw).at k2 hlt2
                  have HZ := Lib.hid (col_step (s := 0) hcx.out hy.out hxx.out)
                  generalize col (cs.take j) (xss.take j) k2 0 = s at HZ ⊢
                  have i1 : (j : Int) < (n1 : Int) := by omega
                  have i2 : (k2 : Int) < (m : Int) := by omega
                  clear hc hs
                  go_wp2
                  go_quiet ((go_at_call 65; exact Calls.quiet_of_same (RefMul_q _ _ _)))
                  go_wp2
                  go_roundw
                  case rel => exact ⟨j + 1, by omega, by go_num, by rw [HZ.out]; exact B8_congr (bits_xor _ _), HO3.out, ⟨hw.os, hw.tape, hw.output, hw.size, hw.block⟩⟩
                  case measure => simp [intOf]; omega
                · have e1 : cs.take j = cs := List.take_of_length_le (by have := H1.out.len; omega)
                  have e2 : xss.take j = xss := List.take_of_length_le (by have := H2.out.len; omega)
                  rw [e1, e2]
                  have HY := Lib.hid (HG.out k2 hlt2)
                  generalize col cs xss k2 0 = s at HY ⊢
                  clear e1 e2
                  go_wp2_with (at_builtin; refine wpList_append_rs _ rfl _ _ 25 rfl w.heap.size 5 i0 (.int .u8 0) 1 Try.underlying25 hi hz0 hz1 hz2 rfl _ k2 _ rfl (HO3.out.alloc _) B8 _ _ _ [s] (fun _ _ => rfl) rfl (sl_one rfl rfl) ?c1 ?c2 ?c3 ?_)
                  case c1 => have := hmm.out; omega
                  case c2 => have := hrm.out; unfold Room at this; omega
                  case c3 => have := hw.size; simp; omega
                  intro v' w' ho hg
                  have HO' := Lib.hid ho; clear ho
                  have HB := Lib.hid ((hw.alloc hw.size _).grown hg (by have := hw.size; simp; omega) (fun j hj => (HO3.out.lt j hj).1))
                  clear hg
                  go_wp2
                  go_roundw
                  case rel => exact ⟨k2 + 1, by omega, by go_num, by rw [take_snoc_of HY.out, List.map_append, ← HEL.out]; exact HO'.out, HB.out⟩
                  case measure => simp [intOf]; omega
            · have hkm : k2 = m0 := by omega
              have HKM := Lib.hid hkm; clear hkm
              go_wp2
              go_ret2
              rw [HS.out]
              obtain ⟨q, c', hv⟩ := owns_shape HO.out
              have := HO.out
              rw [hv, HEL.out] at this
              have e : Y.take k2 = Y := List.take_of_length_le (by have := HLen.out; have := HKM.out; omega)
              rw [e] at this
              exact ⟨q, k2, c', by have := HLen.out; have := HKM.out; show Y.length = k2; omega, by rw [← hv]; rfl, this, hw⟩
  · have HR := Lib.hid (show combS cs xss = ([], 4) by simp [combS, h1.len, h2.len, he])
    have hne : ((n1 : Int) != (n2 : Int)) = true := by simp; omega
    clear h1 h2 hr
    go_enter Try.func95, Try.ntmps95
    go_wp2
    go_ret2
    rw [HR.out]
    exact RetB.nil _ _ _ _ (Below.refl _ _)
end Go.Proofs.Ytofhdakggapahaa
namespace Go.Proofs.Ytofhdakggapahaa
open Go.RowKit Go.By
theorem axpy_comb (c : UInt8) (xs ys : List UInt8) : combS [c, 1] [xs, ys] = axpyS c xs ys := by
  unfold combS axpyS
  rw [if_pos (show [c, 1].length = [xs, ys].length from rfl)]
  by_cases h : xs.length = ys.length
  · rw [if_pos h, noughtS_of (x0 := xs) (m := xs.length) rfl rfl (by intro zs hz; simp at hz; rcases hz with rfl | rfl <;> simp [h])]
    simp only [if_true]
    congr 1
    have e1 : axpy c xs (List.replicate xs.length 0) = xs.map (Gf.gmul c) := by
      apply List.ext_getElem?
      intro j
      simp only [axpy, List.getElem?_zipWith, List.getElem?_map]
      by_cases hj : j < xs.length
      · simp [hj]
      · simp [show xs.length ≤ j by omega]
    simp only [combF, List.zip, List.zipWith, List.foldl, e1]
    apply List.ext_getElem?
    intro j
    simp only [axpy, List.getElem?_zipWith, List.getElem?_map]
    by_cases hj : j < xs.length
    · simp [hj, show j < ys.length by omega, Gf.one_gmul, Gf.xor_comm]
    · simp [show xs.length ≤ j by omega, show ys.length ≤ j by omega]
  · rw [if_neg h, noughtS_not (x0 := xs) (x := ys) rfl (by simp) (by simpa using fun e => h e.symm)]
    simp
end Go.Proofs.Ytofhdakggapahaa
namespace Go.Proofs.Ytofhdakggapahaa
open Go.RowKit Go.By
def invOf (a : UInt8) : UInt8 := if a = 0 then 0 else Gf.ginv a
theorem inv_unique {a b : UInt8} (h : Gf.gmul a b = 1) : b = invOf a := by
  have ha : a ≠ 0 := by rintro rfl; rw [Gf.zero_gmul] at h; exact absurd h (by decide)
  rw [invOf, if_neg ha]
  have := congrArg (Gf.gmul (Gf.ginv a)) h
  rwa [← Gf.gmul_assoc, Gf.ginv_gmul a ha, Gf.one_gmul, Gf.gmul_one] at this
theorem inv_none {a : UInt8} (h : ∀ j : Nat, 1 ≤ j → j < 256 → Gf.gmul a (UInt8.ofNat j) ≠ 1) : invOf a = 0 := by
  by_cases ha : a = 0
  · simp [invOf, ha]
  · exfalso
    have h1 := Gf.ginv_ne a ha
    refine h (Gf.ginv a).toNat ?_ (Gf.ginv a).toNat_lt ?_
    · have : (Gf.ginv a).toNat ≠ 0 := fun e => h1 (UInt8.toNat_inj.1 e)
      omega
    · rw [UInt8.ofNat_toNat]; exact Gf.gmul_ginv a ha
set_option maxRecDepth 100000 in
set_option maxHeartbeats 400000 in
theorem RInv_any (a : UInt8) (w : World) : Calls Try.prog 101 #[B8 a] w fun e w' => e = .returned (B8 (invOf a)) ∧ w = w' := by
  go_enter Try.func101, Try.ntmps101
  go_wp2
  go_loop [3] (fun i => ∃ k : Nat, 1 ≤ k ∧ k ≤ 256 ∧ i = .int .i64 k ∧ Hid (∀ j : Nat, 1 ≤ j → j < k → Gf.gmul a (UInt8.ofNat j) ≠ 1)) (fun i => 256 - (intOf i).toNat)
  case atStart => exact ⟨1, by omega, by omega, rfl, fun j h1 h2 => by omega⟩
  case round =>
    obtain ⟨k, hk1, hk, rfl, hj⟩ := hrel
    by_cases hlt : k < 256
    · have C := fun W => RefMul_any a (UInt8.ofNat k) W
      rw [← byte_nat hlt] at C
      have HC := Lib.hid C; clear C
      by_cases h1 : Gf.gmul a (UInt8.ofNat k) = 1
      · have HU := Lib.hid (inv_unique h1)
        rw [h1] at HC
        clear h1
        go_wp2_with fail
        refine (HC.out _).mono ?_; rintro e w' ⟨rfl, rfl⟩
        go_wp2
        go_ret
        refine ⟨?_, rfl⟩
        rw [← HU.out, ← byte_nat hlt]; rfl
      · have ht : (((Gf.gmul a (UInt8.ofNat k)).toNat : Int) == 1) = false := by
          rw [beq_eq_false_iff_ne]; intro e; exact h1 (UInt8.toNat_inj.1 (by have : (1 : UInt8).toNat = 1 := rfl; omega))
        have HN := Lib.hid h1; clear h1
        generalize Gf.gmul a (UInt8.ofNat k) = g at HC ht
        go_wp2_with fail
        refine (HC.out _).mono ?_; rintro e w' ⟨rfl, rfl⟩
        go_wp2
        go_round
        case rel => exact ⟨k + 1, by omega, by omega, by go_num, fun j h1 h2 => by
          by_cases e : j = k
          · subst e; exact HN.out
          · exact hj.out j h1 (by omega)⟩
        case measure => simp [intOf]; omega
    · go_wp2
      go_ret
      exact ⟨by rw [inv_none (fun j h1 h2 => hj.out j h1 (by omega))]; rfl, rfl⟩
end Go.Proofs.Ytofhdakggapahaa
namespace Go.Proofs.Ytofhdakggapahaa
open Go.RowKit Go.By
set_option maxHeartbeats 400000 in
theorem RLead_any (p : Option Addr) (n c : Nat) (v : List UInt8) (w : World) (h : Sl B8 w p n c v) :
    Calls Try.prog 75 #[.slice p n c] w fun e w' => e = .returned (.int .i64 (leadS v)) ∧ w = w' := by
  have hb := h.bound
  have H := Lib.hid h; clear h
  go_enter Try.func75, Try.ntmps75
  go_wp2
  go_loop [3] (fun i => ∃ k : Nat, k ≤ n ∧ i = .int .i64 k ∧ Hid (∀ j y, j < k → v[j]? = some y → decide (y ≠ 0) = false)) (fun i => n - (intOf i).toNat)
  case atStart => exact ⟨0, Nat.zero_le _, rfl, fun j y hj => by omega⟩
  case round =>
    obtain ⟨k, hk, rfl, hj⟩ := hrel
    by_cases hlt : k < n
    · obtain ⟨b, o, x, rfl, hc, hx⟩ := H.out.at k hlt
      have ht := nat_ne_zero x
      by_cases h0 : x = 0
      · rw [decide_eq_false (by simpa using h0)] at ht
        have H0 := Lib.hid h0; clear h0
        go_wp2
        go_round
        case rel => exact ⟨k + 1, by omega, by go_num, fun j y hj' hy => by
          by_cases e : j = k
          · subst e; have := hx.out.symm.trans hy; cases this; simp [H0.out]
          · exact hj.out j y (by omega) hy⟩
        case measure => simp [intOf]; omega
      · rw [decide_eq_true (by simpa using h0)] at ht
        have H0 := Lib.hid h0; clear h0
        go_wp2
        go_ret
        exact ⟨by rw [leadS, idxf_found hx.out (by simpa using H0.out) hj.out]; rfl, rfl⟩
    · go_wp2
      go_ret
      exact ⟨by rw [leadS, idxf_none (k := k) (by have := H.out.len; omega) hj.out]; rfl, rfl⟩
/-- where a vector leads: nowhere, or at a place with a byte that isn't 0 -/
theorem leadS_cases (v : List UInt8) : (leadS v = -1 ∧ atS v (leadS v) = 0 ∧ ∀ x, x ∈ v → x = 0) ∨ ∃ (k : Nat) (x : UInt8), leadS v = (k : Int) ∧ v[k]? = some x ∧ x ≠ 0 ∧ atS v (leadS v) = x ∧ ∀ (j : Nat) (y : UInt8), j < k → v[j]? = some y → y = 0 := by
  unfold leadS idxf
  cases h : v.findIdx? (fun b => decide (b ≠ 0)) with
  | none =>
    left
    refine ⟨rfl, by simp [atS], ?_⟩
    rw [List.findIdx?_eq_none_iff] at h
    intro x hx
    have := h x hx
    simpa using this
  | some i =>
    right
    obtain ⟨hi, hf, hb⟩ := List.findIdx?_eq_some_iff_getElem.1 h
    refine ⟨i, v[i], rfl, List.getElem?_eq_getElem hi, by simpa using hf, by simp [atS, List.getD, hi], ?_⟩
    intro j y hj hy
    obtain ⟨hj', e⟩ := List.getElem?_eq_some_iff.1 hy
    have := hb j hj
    rw [e] at this
    simpa using this
theorem info_ref : (Try.prog.info? 68).map (·.size) = some 2 := by kernel_rfl
/-- one result: a row that reads so -/
def RetS (w : World) (r : List UInt8 × List UInt8) (e : Ending) (w' : World) : Prop :=
  ∃ q1 m1 c1 q2 m2 c2, e = .returned (.agg #[.slice q1 m1 c1, .slice q2 m2 c2]) ∧ Sl B8 w' q1 m1 c1 r.1 ∧ Sl B8 w' q2 m2 c2 r.2 ∧ Below w.heap.size w w'
set_option maxRecDepth 100000 in
set_option maxHeartbeats 1000000 in
theorem RNorm_any (p1 p2 : Option Addr) (n1 c1 n2 c2 : Nat) (v d : List UInt8) (w : World) (h1 : Sl B8 w p1 n1 c1 v) (h2 : Sl B8 w p2 n2 c2 d) (r1 : Room n1) (r2 : Room n2) :
    Calls Try.prog 91 #[.agg #[.slice p1 n1 c1, .slice p2 n2 c2]] w (RetS w (normS (v, d))) := by
  have hi := info_ref
  have H1 := Lib.hid h1; have H2 := Lib.hid h2
  have b1 := h1.bound
  have hB : ∀ o1 o2, Below w.heap.size w ((w.alloc o1).alloc o2) := fun o1 o2 => al (al (Below.refl _ _) (Nat.le_refl _)) (by simp)
  rcases leadS_cases v with ⟨e1, e2, -⟩ | ⟨k, x, e1, e2, e3, e4, -⟩
  · have HN : Hid (normS (v, d) = (v, d)) := if_pos e2
    have CL := Lib.hid (fun W a => RLead_any p1 n1 c1 v W a)
    rw [e1] at CL
    clear h1 h2 e1 e2
    go_enter Try.func91, Try.ntmps91
    go_wp2_with fail
    refine (CL.out _ (H1.out.keep (hB _ _))).mono ?_; rintro e w' ⟨rfl, rfl⟩
    go_wp2
    rw [HN.out]
    refine bodyPost_ret (results_cell_row rfl _ _ _ 68 #[.slice p1 n1 c1, .slice p2 n2 c2] (0, 0) _ rfl (hnew (by simp)) Try.underlying68 rfl hi) rfl ⟨p1, n1, c1, p2, n2, c2, rfl, H1.out.keep (hB _ _), H2.out.keep (hB _ _), hB _ _⟩
  · have HN : Hid (normS (v, d) = (v.map (Gf.gmul (invOf x)), d.map (Gf.gmul (invOf x)))) := by
      show _ = _
      simp only [normS, e4, if_neg e3, invOf]
    have CL := Lib.hid (fun W a => RLead_any p1 n1 c1 v W a)
    rw [e1] at CL
    have hk : k < n1 := by have := (List.getElem?_eq_some_iff.1 e2).1; rw [h1.len] at this; exact this
    obtain ⟨b, o, x', rfl, hc, hx⟩ := h1.at k hk
    have hxx : x' = x := Option.some.inj (hx.out.symm.trans e2)
    subst hxx
    have hcc : ∀ o1 o2, ((w.alloc o1).alloc o2).cell? ⟨b, o + k, none⟩ = some (B8 x') := fun o1 o2 => calloc (calloc hc)
    have kp : ¬ ((k : Int) < 0) := by omega
    have kn : (k : Int) < (n1 : Int) := by omega
    have HI := Lib.hid (fun W => RInv_any x' W)
    generalize invOf x' = g at *
    clear h1 h2 e1 e2 e3 e4 hx hc
    go_enter Try.func91, Try.ntmps91
    go_wp2_with fail
    refine (CL.out _ (H1.out.keep (hB _ _))).mono ?_; rintro e w' ⟨rfl, rfl⟩
    go_wp2_with fail
    refine (HI.out _).mono ?_; rintro e w' ⟨rfl, rfl⟩
    have hB' := hB (.cells #[.slice (some ⟨b, o, none⟩) n1 c1, .slice p2 n2 c2] 68) (.cells #[.slice none 0 0, .slice none 0 0] 68)
    have e1 : ((w.alloc (.cells #[.slice (some ⟨b, o, none⟩) n1 c1, .slice p2 n2 c2] 68)).alloc (.cells #[.slice none 0 0, .slice none 0 0] 68)).heap[w.heap.size]? = some (.cells #[.slice (some ⟨b, o, none⟩) n1 c1, .slice p2 n2 c2] 68 (0, 0)) := hal (hnew rfl)
    have e2 : ((w.alloc (.cells #[.slice (some ⟨b, o, none⟩) n1 c1, .slice p2 n2 c2] 68)).alloc (.cells #[.slice none 0 0, .slice none 0 0] 68)).heap[w.heap.size + 1]? = some (.cells #[.slice none 0 0, .slice none 0 0] 68 (0, 0)) := hnew (w := w.alloc _) (by simp)
    have esz : w.heap.size + 2 ≤ ((w.alloc (.cells #[.slice (some ⟨b, o, none⟩) n1 c1, .slice p2 n2 c2] 68)).alloc (.cells #[.slice none 0 0, .slice none 0 0] 68)).heap.size := by simp
    clear hB hcc
    go_wp2_with fail
    generalize (w.alloc (.cells #[.slice (some ⟨b, o, none⟩) n1 c1, .slice p2 n2 c2] 68)).alloc (.cells #[.slice none 0 0, .slice none 0 0] 68) = W at *
    have R0 : ∀ W', Below (w.heap.size + 2) W W' → W'.cell? ⟨w.heap.size, 0, none⟩ = some (.slice (some ⟨b, o, none⟩) n1 c1) := fun W' h => cell_of_row _ _ 0 _ _ _ ((h.block _ (by omega)).trans e1)
    have R1 : ∀ W', Below (w.heap.size + 2) W W' → W'.cell? ⟨w.heap.size, 1, none⟩ = some (.slice p2 n2 c2) := fun W' h => cell_of_row _ _ 1 _ _ _ ((h.block _ (by omega)).trans e1)
    have R2 : ∀ W', Below (w.heap.size + 2) W W' → W'.cell? ⟨w.heap.size + 1, 0, none⟩ = some (.slice none 0 0) := fun W' h => cell_of_row _ _ 0 _ _ _ ((h.block _ (by omega)).trans e2)
    have R3 : ∀ W', Below (w.heap.size + 2) W W' → W'.cell? ⟨w.heap.size + 1, 1, none⟩ = some (.slice none 0 0) := fun W' h => cell_of_row _ _ 1 _ _ _ ((h.block _ (by omega)).trans e2)
    have Z2 : ∀ W', Below (w.heap.size + 2) W W' → W'.frozen? ⟨w.heap.size + 1, 0, none⟩ = false := fun W' h => frozen_of_row _ _ 0 _ _ ((h.block _ (by omega)).trans e2)
    have Z3 : ∀ W', Below (w.heap.size + 2) W W' → W'.frozen? ⟨w.heap.size + 1, 1, none⟩ = false := fun W' h => frozen_of_row _ _ 1 _ _ ((h.block _ (by omega)).trans e2)
    have E2 := Lib.hid e2
    clear e1 e2
    have hd : Below (w.heap.size + 2) W W.drew := (Below.refl _ _).drew
    have C1 : Hid (∀ W', Below (w.heap.size + 2) W W' → Calls Try.prog 102 #[B8 g, .slice (some ⟨b, o, none⟩) n1 c1] W' (RetB1 5 W' (v.map (Gf.gmul g)))) := fun W' h => RScale_any g _ n1 c1 v W' (H1.out.keep (hB'.trans (h.mono (by omega)))) r1
    have C2 : Hid (∀ W', Below (w.heap.size + 2) W W' → Calls Try.prog 102 #[B8 g, .slice p2 n2 c2] W' (RetB1 5 W' (d.map (Gf.gmul g)))) := fun W' h => RScale_any g p2 n2 c2 d W' (H2.out.keep (hB'.trans (h.mono (by omega)))) r2
    have hB2 := Lib.hid hB'
    clear hB'
    go_region_with (first
      | (go_at_call 102; (with_reducible refine Calls.mono (C1.out _ (by assumption)) ?_); rintro e w1 ⟨q1, m1, c1', hm1, rfl, ho1, hb1⟩; have hw1 := stp (by assumption) hb1 rfl esz)
      | (go_at_call 102; (with_reducible refine Calls.mono (C2.out _ (by assumption)) ?_); rintro e w2 ⟨q2, m2, c2', hm2, rfl, ho2, hb2⟩; have hw2 := stp (by assumption) hb2 rfl esz))
    all_goals go_wp2
    all_goals rw [HN.out]
    all_goals first
      | (refine bodyPost_ret (results_cell_row rfl _ _ _ 68 #[.slice q1 m1 c1', .slice q2 m2 c2'] (0, 0) _ rfl (hss (hss ((hw2.block _ (by omega)).trans E2.out))) Try.underlying68 rfl hi) rfl ⟨q1, m1, c1', q2, m2, c2', rfl, Sl.of_owns (owns_set (owns_set (owns_keep ho1 hb2) (show w.heap.size + 1 < _ by have := hw1.size; simp; omega)) (show w.heap.size + 1 < _ by have := hw1.size; simp; omega)), Sl.of_owns (owns_set (owns_set ho2 (show w.heap.size + 1 < _ by have := hw1.size; simp; omega)) (show w.heap.size + 1 < _ by have := hw1.size; simp; omega)), ((hB2.out.trans (hw2.mono (by omega))).setCell (by simp) _).setCell (by simp) _⟩)
      | (refine bodyPost_ret (results_cell_row rfl _ _ _ 68 #[.slice q1 m1 c1', .slice q2 m2 c2'] (0, 0) _ rfl (hss (hss ((hw1.block _ (by omega)).trans E2.out))) Try.underlying68 rfl hi) rfl ⟨q1, m1, c1', q2, m2, c2', rfl, Sl.of_owns (owns_set (owns_set ho1 (show w.heap.size + 1 < _ by have := hw2.size; simp; omega)) (show w.heap.size + 1 < _ by have := hw2.size; simp; omega)), Sl.of_owns (owns_set (owns_set (owns_keep ho2 hb1) (show w.heap.size + 1 < _ by have := hw2.size; simp; omega)) (show w.heap.size + 1 < _ by have := hw2.size; simp; omega)), ((hB2.out.trans (hw1.mono (by omega))).setCell (by simp) _).setCell (by simp) _⟩)
end Go.Proofs.Ytofhdakggapahaa
namespace Go.Proofs.Ytofhdakggapahaa
open Go.RowKit Go.By
theorem comb_axpy (c : UInt8) (r o : List UInt8) : combS [1, c] [r, o] = axpyS c o r := by
  unfold combS axpyS
  rw [if_pos (show [1, c].length = [r, o].length from rfl)]
  by_cases h : o.length = r.length
  · rw [if_pos h, noughtS_of (x0 := r) (m := r.length) rfl rfl (by intro zs hz; simp at hz; rcases hz with rfl | rfl <;> simp [h])]
    simp only [if_true]
    congr 1
    have e1 : axpy 1 r (List.replicate r.length 0) = r := by
      apply List.ext_getElem?
      intro j
      simp only [axpy, List.getElem?_zipWith]
      by_cases hj : j < r.length
      · simp [hj, Gf.one_gmul]
      · simp [show r.length ≤ j by omega]
    simp only [combF, List.zip, List.zipWith, List.foldl, e1]
  · rw [if_neg h, noughtS_not (x0 := r) (x := o) rfl (by simp) h]
    simp
/-- two results: a row that reads so, and a code -/
def RetS2 (w : World) (r : List UInt8 × List UInt8) (code : Int) (e : Ending) (w' : World) : Prop :=
  ∃ q1 m1 c1 q2 m2 c2, e = .returned (.tuple #[.agg #[.slice q1 m1 c1, .slice q2 m2 c2], .int .i64 code]) ∧ Sl B8 w' q1 m1 c1 r.1 ∧ Sl B8 w' q2 m2 c2 r.2 ∧ Below w.heap.size w w'
set_option maxRecDepth 100000 in
set_option maxHeartbeats 1000000 in
theorem RLess_any (p1 p2 p3 p4 : Option Addr) (n1 c1 n2 c2 n3 c3 n4 c4 : Nat) (v d x y : List UInt8) (c : UInt8) (w : World) (h1 : Sl B8 w p1 n1 c1 v) (h2 : Sl B8 w p2 n2 c2 d) (h3 : Sl B8 w p3 n3 c3 x) (h4 : Sl B8 w p4 n4 c4 y) (r1 : Room n1) (r2 : Room n2) (r3 : Room n3) (r4 : Room n4) :
    Calls Try.prog 74 #[.agg #[.slice p1 n1 c1, .slice p2 n2 c2], B8 c, .agg #[.slice p3 n3 c3, .slice p4 n4 c4]] w (RetR2 5 w (lessS (v, d) c (x, y)).1 (lessS (v, d) c (x, y)).2) := by
  have hi := info_ref
  have H1 := Lib.hid h1; have H2 := Lib.hid h2; have H3 := Lib.hid h3; have H4 := Lib.hid h4
  have hB : ∀ o1 o2 o3, Below w.heap.size w (((w.alloc o1).alloc o2).alloc o3) := fun o1 o2 o3 => al (al (al (Below.refl _ _) (Nat.le_refl _)) (by simp)) (by simp; omega)
  have F : ∀ (w1 : World), (Below (w.heap.size + 3) (((w.alloc (.cells #[.slice p1 n1 c1, .slice p2 n2 c2] 68)).alloc (.cells #[.slice p3 n3 c3, .slice p4 n4 c4] 68)).alloc (.cells #[.slice none 0 0, .slice none 0 0] 68)) w1) →
      w1.heap[w.heap.size]? = some (.cells #[.slice p1 n1 c1, .slice p2 n2 c2] 68 (0, 0)) ∧ w1.heap[w.heap.size + 1]? = some (.cells #[.slice p3 n3 c3, .slice p4 n4 c4] 68 (0, 0)) ∧ w1.heap[w.heap.size + 1 + 1]? = some (.cells #[.slice none 0 0, .slice none 0 0] 68 (0, 0)) := fun w1 h =>
    ⟨(h.block _ (by omega)).trans (hal (hal (hnew rfl))), (h.block _ (by omega)).trans (hal (hnew (by simp))), (h.block _ (by omega)).trans (hnew (by simp))⟩
  have hr1 : ∀ zs, zs ∈ [v, x] → Room zs.length := fun zs hz => by
    simp at hz; rcases hz with rfl | rfl
    · rw [h1.len]; exact r1
    · rw [h3.len]; exact r3
  have hr2 : ∀ zs, zs ∈ [d, y] → Room zs.length := fun zs hz => by
    simp at hz; rcases hz with rfl | rfl
    · rw [h2.len]; exact r2
    · rw [h4.len]; exact r4
  have d1 := fun p p' k k' W a b => RComb_any p p' 2 2 k k' [1, c] [v, x] W a b hr1
  have d2 := fun p p' k k' W a b => RComb_any p p' 2 2 k k' [1, c] [d, y] W a b hr2
  rw [comb_axpy] at d1 d2
  have D1 := Lib.hid d1; have D2 := Lib.hid d2
  have HF := Lib.hid F
  have L1 := Lib.hid h1.len; have L2 := Lib.hid h2.len; have L3 := Lib.hid h3.len; have L4 := Lib.hid h4.len
  clear F h1 h2 h3 h4 d1 d2 hr1 hr2
  have cA := show axpyS c x v = (axpy c x v, 0) ∨ axpyS c x v = ([], 4) by unfold axpyS; split <;> simp
  have cB := show axpyS c y d = (axpy c y d, 0) ∨ axpyS c y d = ([], 4) by unfold axpyS; split <;> simp
  have HR : Hid (lessS (v, d) c (x, y) = if (axpyS c x v).2 = 0 ∧ (axpyS c y d).2 = 0 then (((axpyS c x v).1, (axpyS c y d).1), 0) else (([], []), 4)) := by
    show _ = _
    unfold lessS axpyS
    by_cases e1 : x.length = v.length <;> by_cases e2 : y.length = d.length <;> simp [e1, e2]
  have CA := Lib.hid cA; have CB := Lib.hid cB; clear cA cB
  generalize axpyS c x v = A at *
  generalize axpyS c y d = B at *
  go_enter Try.func74, Try.ntmps74
  go_wp2_with fail
  refine Calls.mono (D1.out _ _ _ _ _ ?_ ?_) ?_
  · exact sl_block [1, c] 2 (hal (hnew (by simp))) rfl rfl (by simp [maxLen])
  · exact sl2_pair (hnew (by simp)) (H1.out.keep (al (al (hB _ _ _) (by simp; omega)) (by simp; omega))) (H3.out.keep (al (al (hB _ _ _) (by simp; omega)) (by simp; omega)))
  rintro e w1 ⟨q1, m1, k1, g1, rfl, ho1, hb1⟩
  have HO1 := Lib.hid ho1; clear ho1
  have kb : Below (w.heap.size + 3) (((w.alloc (.cells #[.slice p1 n1 c1, .slice p2 n2 c2] 68)).alloc (.cells #[.slice p3 n3 c3, .slice p4 n4 c4] 68)).alloc (.cells #[.slice none 0 0, .slice none 0 0] 68)) w1 := bl (al (al (Below.refl _ _) (by simp)) (by simp)) hb1 (by simp)
  obtain ⟨f0, f1, f2⟩ := HF.out w1 kb
  have l0 : w1.cell? ⟨w.heap.size, 1, none⟩ = some (.slice p2 n2 c2) := cell_of_row _ _ 1 _ _ _ f0
  have l1 : w1.cell? ⟨w.heap.size + 1, 1, none⟩ = some (.slice p4 n4 c4) := cell_of_row _ _ 1 _ _ _ f1
  have l0' : ∀ o1, (w1.alloc o1).cell? ⟨w.heap.size, 1, none⟩ = some (.slice p2 n2 c2) := fun o1 => calloc l0
  have l1' : ∀ o1, (w1.alloc o1).cell? ⟨w.heap.size + 1, 1, none⟩ = some (.slice p4 n4 c4) := fun o1 => calloc l1
  have hw1 : Below w.heap.size w w1 := bl (al (al (hB _ _ _) (by simp; omega)) (by simp; omega)) hb1 (by simp; omega)
  have hs1 : w.heap.size + 5 ≤ w1.heap.size := by have := hb1.size; simp at this; omega
  clear f0 f1 f2 hB
  go_wp2_with fail
  refine Calls.mono (D2.out _ _ _ _ _ ?_ ?_) ?_
  · exact sl_block [1, c] 2 (hal (hnew (by simp))) rfl rfl (by simp [maxLen])
  · exact sl2_pair (hnew (by simp)) (H2.out.keep (al (al hw1 hw1.size) (by have := hw1.size; simp; omega))) (H4.out.keep (al (al hw1 hw1.size) (by have := hw1.size; simp; omega)))
  rintro e w2 ⟨q2, m2, k2, g2, rfl, ho2, hb2⟩
  have HO2 := Lib.hid ho2; clear ho2
  have hx2 : Below w1.heap.size w1 w2 := bl (al (al (Below.refl _ _) (Nat.le_refl _)) (by simp)) hb2 (by simp; omega)
  have kb2 := kb.trans (hx2.mono (by omega))
  have hw2 := bl hw1 hx2 hw1.size
  obtain ⟨_, _, f2⟩ := HF.out w2 kb2
  have t0 : w2.cell? ⟨w.heap.size + 1 + 1, 0, none⟩ = some (.slice none 0 0) := cell_of_row _ _ 0 _ _ _ f2
  have t1 : w2.cell? ⟨w.heap.size + 1 + 1, 1, none⟩ = some (.slice none 0 0) := cell_of_row _ _ 1 _ _ _ f2
  have z0 : w2.frozen? ⟨w.heap.size + 1 + 1, 0, none⟩ = false := frozen_of_row _ _ 0 _ _ f2
  have z1 : w2.frozen? ⟨w.heap.size + 1 + 1, 1, none⟩ = false := frozen_of_row _ _ 1 _ _ f2
  have E2 := Lib.hid f2; clear f2 kb kb2
  have O1 : Hid (w2.ownsRow (w.heap.size + 3) 5 1 (.slice q1 m1 k1) m1 (A.1.map B8)) := owns_mono (owns_keep HO1.out hx2) (by simp)
  have O2 : Hid (w2.ownsRow (w.heap.size + 3) 5 1 (.slice q2 m2 k2) m2 (B.1.map B8)) := owns_mono HO2.out (by simp; omega)
  clear HO1 HO2 hb1 hb2
  have hwb := Lib.hid hw2
  rcases CA.out with eA | eA <;> rcases CB.out with eB | eB
  · rw [eA, eB] at HR; rw [eA] at O1 g1; rw [eB] at O2 g2
    rw [eA, eB]
    go_wp2
    rw [HR.out]
    exact bodyPost_ret (results_cell_tmp rfl _ _ _ 68 #[.slice q1 m1 k1, .slice q2 m2 k2] (0, 0) _ (.int .i64 0) rfl (hss (hss E2.out)) rfl Try.underlying68 rfl hi) rfl ⟨q1, m1, k1, q2, m2, k2, g1, g2, rfl, owns_mono (owns_set (owns_set O1.out (by omega)) (by omega)) (by omega), owns_mono (owns_set (owns_set O2.out (by omega)) (by omega)) (by omega), (hwb.out.setCell (by simp; omega) _).setCell (by simp; omega) _⟩
  all_goals
    rw [eA, eB] at HR
    rw [eA, eB]
    go_wp2
    rw [HR.out]
    exact bodyPost_ret (results_cell_tmp rfl _ _ _ 68 #[.slice none 0 0, .slice none 0 0] (0, 0) _ (.int .i64 4) rfl (hss (hss E2.out)) rfl Try.underlying68 rfl hi) rfl ⟨none, 0, 0, none, 0, 0, rfl, rfl, rfl, World.ownsRow_nil _ _ _ _, World.ownsRow_nil _ _ _ _, (hwb.out.setCell (by simp; omega) _).setCell (by simp; omega) _⟩
end Go.Proofs.Ytofhdakggapahaa
namespace Go.Proofs.Ytofhdakggapahaa
open Go.By
theorem lead_is {v : List UInt8} {k : Nat} {x : UInt8} (h : v[k]? = some x) (hx : x ≠ 0) (hj : ∀ (j : Nat) (y : UInt8), j < k → v[j]? = some y → y = 0) : leadS v = (k : Int) := by
  rcases leadS_cases v with ⟨_, _, h3⟩ | ⟨k', x', e, h1, h2, _, h4⟩
  · exact absurd (h3 x (List.mem_of_getElem? h)) hx
  · rw [e]
    rcases Nat.lt_trichotomy k' k with g | g | g
    · exact absurd (hj k' x' g h1) h2
    · rw [g]
    · exact absurd (h4 k x g h) hx
theorem norm_cases (v d : List UInt8) : (leadS v = -1 ∧ normS (v, d) = (v, d)) ∨
    ∃ (k : Nat) (x : UInt8), leadS v = (k : Int) ∧ x ≠ 0 ∧ v[k]? = some x ∧ (∀ (j : Nat) (y : UInt8), j < k → v[j]? = some y → y = 0) ∧ normS (v, d) = (v.map (Gf.gmul (Gf.ginv x)), d.map (Gf.gmul (Gf.ginv x))) := by
  rcases leadS_cases v with ⟨h1, h2, _⟩ | ⟨k, x, e, h1, h2, h3, h4⟩
  · exact .inl ⟨h1, if_pos h2⟩
  · right
    refine ⟨k, x, e, h2, h1, h4, ?_⟩
    unfold normS
    simp only [h3, if_neg h2]
theorem norm_lead (v d : List UInt8) : leadS (normS (v, d)).1 = leadS v := by
  rcases norm_cases v d with ⟨_, h⟩ | ⟨k, x, e, hx, hk, hj, h⟩
  · rw [h]
  · rw [h, e]
    refine lead_is (x := 1) ?_ (by decide) ?_
    · simp [List.getElem?_map, hk, Gf.ginv_gmul x hx]
    · intro j y hjk hy
      simp only [List.getElem?_map, Option.map_eq_some_iff] at hy
      obtain ⟨z, hz, rfl⟩ := hy
      rw [hj j z hjk hz, Gf.gmul_zero]
theorem at_of {v : List UInt8} {k : Nat} {x : UInt8} (h : v[k]? = some x) : atS v (k : Int) = x := by
  simp [atS, List.getD_eq_getElem?_getD, h]
theorem norm_at (v d : List UInt8) (h : 0 ≤ leadS v) : atS (normS (v, d)).1 (leadS v) = 1 := by
  rcases norm_cases v d with ⟨h1, _⟩ | ⟨k, x, e, hx, hk, hj, g⟩
  · omega
  · rw [g, e]
    exact at_of (by simp [List.getElem?_map, hk, Gf.ginv_gmul x hx])
theorem norm_norm (v d : List UInt8) : normS (normS (v, d)) = normS (v, d) := by
  obtain ⟨a, b, e⟩ : ∃ a b, normS (v, d) = (a, b) := ⟨_, _, rfl⟩
  have hl := norm_lead v d
  rcases norm_cases v d with ⟨h1, g⟩ | ⟨k, x, ek, hx, hk, hj, g⟩
  · rw [g, g]
  · have ha := norm_at v d (by omega)
    rw [e] at hl ha ⊢
    simp only at hl ha
    unfold normS
    simp only [hl, ha]
    have e1 : Gf.ginv 1 = 1 := by decide +kernel
    rw [if_neg (by decide), e1]
    have : ∀ l : List UInt8, l.map (Gf.gmul 1) = l := fun l => by
      conv => rhs; rw [← List.map_id l]
      exact List.map_congr_left fun y _ => Gf.one_gmul y
    rw [this, this]
theorem norm_len (v d : List UInt8) : (normS (v, d)).1.length = v.length ∧ (normS (v, d)).2.length = d.length := by
  rcases norm_cases v d with ⟨_, h⟩ | ⟨_, _, _, _, _, _, h⟩ <;> rw [h] <;> simp
theorem axpy_back (c : UInt8) (n x : List UInt8) (h : n.length = x.length) : axpy c n (axpy c n x) = x := by
  apply List.ext_getElem?
  intro j
  simp only [axpy, List.getElem?_zipWith]
  by_cases hj : j < x.length
  · have hn : j < n.length := by omega
    simp [hj, hn, Gf.xor_cancel]
  · simp [show x.length ≤ j by omega, show n.length ≤ j by omega]
/-- what is left leads later, or is zero, and has 0 at that place -/
theorem less_later (n x : List UInt8) (k : Nat) (hn : n.length = x.length) (hl : leadS n = (k : Int)) (h1 : atS n (k : Int) = 1) (hx : leadS x = (k : Int)) :
    atS (axpy (atS x (k : Int)) n x) (k : Int) = 0 ∧ ((k : Int) < leadS (axpy (atS x (k : Int)) n x) ∨ zeroS (axpy (atS x (k : Int)) n x) = true) := by
  rcases leadS_cases n with ⟨h, _⟩ | ⟨k1, n1, e1, g1, _, _, g4⟩
  · omega
  rcases leadS_cases x with ⟨h, _⟩ | ⟨k2, x1, e2, f1, _, _, f4⟩
  · omega
  have i1 : k1 = k := by omega
  have i2 : k2 = k := by omega
  subst i1; subst i2
  rw [at_of g1] at h1
  subst h1
  rw [at_of f1]
  have z : ∀ j, j ≤ k2 → ∀ y, (axpy x1 n x)[j]? = some y → y = 0 := by
    intro j hj y hy
    simp only [axpy, List.getElem?_zipWith] at hy
    by_cases e : j = k2
    · subst e
      rw [g1, f1] at hy
      simpa [Gf.gmul_one, Gf.xor_self] using hy.symm
    · have hlt : j < k2 := by omega
      cases en : n[j]? with
      | none => rw [en] at hy; simp at hy
      | some a =>
        cases ex : x[j]? with
        | none => rw [en, ex] at hy; simp at hy
        | some b =>
          rw [en, ex, g4 j a hlt en, f4 j b hlt ex] at hy
          simpa [Gf.gmul_zero] using hy.symm
  have hk : ∃ y, (axpy x1 n x)[k2]? = some y := by
    simp only [axpy, List.getElem?_zipWith, g1, f1]; exact ⟨_, rfl⟩
  obtain ⟨y, hy⟩ := hk
  refine ⟨by rw [at_of hy]; exact z k2 (Nat.le_refl _) y hy, ?_⟩
  rcases leadS_cases (axpy x1 n x) with ⟨_, _, h3⟩ | ⟨k3, x3, e3, q1, q2, _, _⟩
  · right
    simp only [zeroS, List.all_eq_true, decide_eq_true_eq]
    exact h3
  · left
    rw [e3]
    by_cases c : k3 ≤ k2
    · exact absurd (z k3 c x3 q1) q2
    · omega
end Go.Proofs.Ytofhdakggapahaa
