/- The frame behind a region that draws its order; one operation with its operands known. -/
import Derived.Test.YtnlfohbmdmeodaaR3
namespace Go.By
open Go.RowKit
theorem putAll_size (a : Act) : ∀ (ws : List Nat) (b : Act), (ws.foldl (fun b t => b.put (some t) (sl a t)) b).tmps.size = b.tmps.size := by
  intro ws
  induction ws with
  | nil => intro b; rfl
  | cons t ws ih => intro b; rw [List.foldl_cons, ih]; simp [Act.put]
theorem putAll_sl (a : Act) : ∀ (ws : List Nat) (b : Act) (n : Nat), a.tmps.size = n → b.tmps.size = n → (∀ t, t < n → t ∉ ws → sl b t = sl a t) → ∀ t, t < n → sl (ws.foldl (fun b t => b.put (some t) (sl a t)) b) t = sl a t := by
  intro ws
  induction ws with
  | nil => intro b n ha hb h t ht; exact h t ht (by simp)
  | cons u ws ih =>
    intro b n ha hb h t ht
    rw [List.foldl_cons]
    refine ih _ n ha (by simp [Act.put, hb]) ?_ t ht
    intro s hs hn
    by_cases e : s = u
    · subst e; exact put_same _ _ _ (by rw [hb]; exact hs)
    · have h1 := h s hs (by simp [e, hn])
      rw [← h1]
      simp [sl, Act.put, Array.getD_eq_getD_getElem?, Array.getElem?_setIfInBounds, show ¬ u = s from fun h => e h.symm]
theorem putAll_defers (a : Act) : ∀ (ws : List Nat) (b : Act), (ws.foldl (fun b t => b.put (some t) (sl a t)) b).defers = b.defers := by
  intro ws
  induction ws with
  | nil => intro b; rfl
  | cons t ws ih => intro b; rw [List.foldl_cons, ih]; rfl
/-- the frame behind the region: the written slots, the others as before -/
theorem act_is {ops : Array Oper} {a a0 : Act} (ws : List Nat) (hs : a.tmps.size = a0.tmps.size) (hd : a.defers = a0.defers) (hrest : ∀ t, (ops.toList.all fun o => o.dst != some t) = true → sl a t = sl a0 t)
    (hws : (ops.toList.all fun o => match o.dst with | some t => ws.contains t | none => true) = true) : a = ws.foldl (fun b t => b.put (some t) (sl a t)) a0 := by
  have key := putAll_sl a ws a0 a.tmps.size rfl hs.symm (by
    intro t _ hn
    refine (hrest t ?_).symm
    refine List.all_eq_true.2 fun o ho => ?_
    have := List.all_eq_true.1 hws o ho
    cases hdo : o.dst with
    | none => simp
    | some u =>
      rw [hdo] at this
      have hu : u ∈ ws := by simpa using this
      have : u ≠ t := fun e => hn (e ▸ hu)
      simpa using this)
  have h1 := putAll_size a ws a0
  have h2 := putAll_defers a ws a0
  generalize ws.foldl (fun b t => b.put (some t) (sl a t)) a0 = b at key h1 h2
  obtain ⟨ta, da⟩ := a
  obtain ⟨tb, db⟩ := b
  simp only at h1 h2 hd key hs
  have e1 : ta = tb := by
    refine Array.ext (by omega) fun i hi hj => ?_
    have := key i hi
    simpa [sl, Array.getD_eq_getD_getElem?, hi, hj] using this.symm
  rw [e1, hd, h2]
/-- an operation whose operands' values are known runs as one whose operands are these values -/
theorem eval_tmp (a : Act) (t : Nat) : a.eval (.tmp t) = sl a t := rfl
theorem eval_const (a : Act) (v : Value) : a.eval (.const v) = v := rfl
theorem eval_func (a : Act) (f : FuncId) : a.eval (.func f) = .func (.func f) #[] #[] := rfl
theorem postX {B X st t i : Nat} {sh : Nat → ShX B X} {s : ShX B X} {a : Act} {w w' : World} {dst : Option Tmp} {v : Value} (hi : i ≠ st) (hb : Below w.heap.size w w') (hv : (sh i).ok v w') :
    ∃ u, a.put dst v = a.put dst u ∧ RX B X st i w w' ∧ (if i = st then Boxed B X t s (sl a) w' else (sh i).ok u w') := by
  refine ⟨v, rfl, ?_, ?_⟩
  · unfold RX; rw [if_neg hi]; exact hb
  · rw [if_neg hi]; exact hv
theorem postXs {B X st t i : Nat} {sh : Nat → ShX B X} {s : ShX B X} {a : Act} {w w' : World} {dst : Option Tmp} {v : Value} (hi : i = st) (hb : StepX B X w w') (hv : Boxed B X t s (sl a) w') :
    ∃ u, a.put dst v = a.put dst u ∧ RX B X st i w w' ∧ (if i = st then Boxed B X t s (sl a) w' else (sh i).ok u w') := by
  refine ⟨v, rfl, ?_, ?_⟩
  · unfold RX; rw [if_pos hi]; exact hb
  · rw [if_pos hi]; exact hv
theorem undrew {w W : World} (h : Below w.drew.heap.size w.drew W) : Below w.heap.size w W := ⟨h.os, h.tape, h.output, h.size, h.block⟩
/-- the cells of a struct of two -/
theorem cells2 {w : World} {b T : Nat} {u v : Value} (h : w.heap[b]? = some (.cells #[u, v] T (0, 0))) : w.cell? ⟨b, 0, none⟩ = some u ∧ w.cell? ⟨b, 1, none⟩ = some v :=
  ⟨cell_of_row _ _ 0 _ _ _ h, cell_of_row _ _ 1 _ _ _ h⟩
/-- an owned row is of another element type than the box -/
theorem XRow.of_owns {B X base e : Nat} {w : World} {r : List UInt8 × List UInt8} {q1 q2 : Option Addr} {m1 k1 m2 k2 : Nat} (he : e ≠ X) (h1 : w.ownsRow base e 1 (.slice q1 m1 k1) m1 (r.1.map B8)) (h2 : w.ownsRow base e 1 (.slice q2 m2 k2) m2 (r.2.map B8)) :
    XRow B X r (.agg #[.slice q1 m1 k1, .slice q2 m2 k2]) w := ⟨q1, m1, k1, q2, m2, k2, rfl, ⟨Sl.of_owns h1, Away.own h1 he⟩, ⟨Sl.of_owns h2, Away.own h2 he⟩⟩
theorem stepX_cell {B X b i : Nat} {w : World} {cs : Array Value} {v : Value} (hb : B ≤ b) (h : w.heap[b]? = some (.cells cs X (0, 0))) : StepX B X w (w.setCell ⟨b, i, none⟩ v) := by
  refine ⟨rfl, rfl, rfl, by simp [World.setCell], ?_, ?_⟩
  · intro k hk hp
    refine Below.heap_setCell _ _ _ _ fun e => ?_
    have e : k = b := e
    subst e
    rcases hp with hp | hp
    · omega
    · exact hp _ _ h
  · intro k cs1 h1
    by_cases e : k = b
    · subst e
      rw [h] at h1; cases h1
      exact ⟨cs.setIfInBounds i v, by simp, hss h⟩
    · exact ⟨cs1, rfl, hsc h1 e⟩
theorem StepX.trans {B X : Nat} {w1 w2 w3 : World} (h : StepX B X w1 w2) (g : StepX B X w2 w3) : StepX B X w1 w3 := by
  refine ⟨g.os.trans h.os, g.tape.trans h.tape, g.output.trans h.output, Nat.le_trans h.size g.size, ?_, ?_⟩
  · intro k hk hp
    have h1 := h.keep k hk hp
    rw [g.keep k (by have := h.size; omega) (by rcases hp with hp | hp; exact .inl hp; exact .inr (by rw [h1]; exact hp)), h1]
  · intro k cs hc
    obtain ⟨c1, e1, h1⟩ := h.cells k cs hc
    obtain ⟨c2, e2, h2⟩ := g.cells k c1 h1
    exact ⟨c2, e2.trans e1, h2⟩
theorem stepX_set2 {B X b : Nat} {w : World} {u0 u1 v0 v1 : Value} (hb : B ≤ b) (h : w.heap[b]? = some (.cells #[u0, u1] X (0, 0))) : StepX B X w ((w.setCell ⟨b, 0, none⟩ v0).setCell ⟨b, 1, none⟩ v1) :=
  (stepX_cell hb h).trans (stepX_cell hb (hss h))
theorem heap_set2 {X b : Nat} {w : World} {u0 u1 v0 v1 : Value} (h : w.heap[b]? = some (.cells #[u0, u1] X (0, 0))) : ((w.setCell ⟨b, 0, none⟩ v0).setCell ⟨b, 1, none⟩ v1).heap[b]? = some (.cells #[v0, v1] X (0, 0)) := hss (hss h)
/-- an operation that stores -/
theorem wp_skipX {P : Program} {o : Oper} {a : Act} {w w' : World} {K : Act → World → Prop} {Q : Exit → Act → World → Prop} (hrun : (execOp a.eval o).run P w = .ok .skip w') (h : K (a.put o.dst undef) w') : o.wp P a w K Q := by
  unfold Oper.wp; rw [hrun]; exact h
theorem ite_n {c : Prop} [Decidable c] {A B : Prop} (hc : ¬ c) (h : B) : if c then A else B := by rw [if_neg hc]; exact h
/-- the guard says no -/
theorem wanted_no {ops : Array Oper} {o : Oper} {a : Act} {j : Nat} {b c : Bool} {d : Nat} (hg : o.guard = some (j, b)) (hd : dstOf ops j = some d) (hs : d < a.tmps.size) (hv : sl a d = .bool c) (hn : c ≠ b) : ¬ Region.wanted o (yielded ops a.tmps) = true := by
  have h1 : a.tmps[d]? = some (.bool c) := by
    have := hv
    simp only [sl, Array.getD_eq_getD_getElem?, Array.getElem?_eq_getElem hs, Option.getD_some] at this
    rw [Array.getElem?_eq_getElem hs, this]
  unfold dstOf at hd
  simp [Region.wanted, hg, yielded, hd, h1, hn]
theorem size2 {cs : Array Value} (h : cs.size = 2) : ∃ u v, cs = #[u, v] := by
  obtain ⟨l⟩ := cs
  match l, h with
  | [u, v], _ => exact ⟨u, v, rfl⟩
end Go.By
