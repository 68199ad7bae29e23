/- A region that draws its order and stores nothing: each operation has a shape that lasts. -/
import Derived.Test.YtnlfohbmdmeodaaR1
import Derived.Test.YtnlfohbmdmeodaaB7
namespace Go.By
open Go.RowKit
/-- what is said of a value, and lasts while old memory stays -/
structure Shp where
  ok : Value → World → Prop
  keep : ∀ (v : Value) (w w' : World), ok v w → Below w.heap.size w w' → ok v w'
def Shp.val (u : Value) : Shp := ⟨fun v _ => v = u, fun _ _ _ h _ => h⟩
def Shp.any : Shp := ⟨fun _ _ => True, fun _ _ _ h _ => h⟩
def Shp.tru : Shp := Shp.val (.bool true)
def BytesIs (xs : List UInt8) (v : Value) (w : World) : Prop := ∃ p n c, v = .slice p n c ∧ Sl B8 w p n c xs
def RowIs (r : List UInt8 × List UInt8) (v : Value) (w : World) : Prop := ∃ p1 n1 c1 p2 n2 c2, v = .agg #[.slice p1 n1 c1, .slice p2 n2 c2] ∧ Sl B8 w p1 n1 c1 r.1 ∧ Sl B8 w p2 n2 c2 r.2
def RowsIs (xss : List (List UInt8)) (v : Value) (w : World) : Prop := ∃ p n c, v = .slice p n c ∧ Sl2 w p n c xss
def Shp.bytes (xs : List UInt8) : Shp := ⟨BytesIs xs, fun _ _ _ ⟨p, n, c, e, h⟩ hb => ⟨p, n, c, e, h.keep hb⟩⟩
def Shp.row (r : List UInt8 × List UInt8) : Shp := ⟨RowIs r, fun _ _ _ ⟨p1, n1, c1, p2, n2, c2, e, h1, h2⟩ hb => ⟨p1, n1, c1, p2, n2, c2, e, h1.keep hb, h2.keep hb⟩⟩
def Shp.rows (xss : List (List UInt8)) : Shp := ⟨RowsIs xss, fun _ _ _ ⟨p, n, c, e, h⟩ hb => ⟨p, n, c, e, h.keep hb⟩⟩
/-- the slots that the operations write are unlike -/
def distB (ops : Array Oper) : Bool := (List.range ops.size).all fun i => (List.range ops.size).all fun j => i == j || match ops[i]?, ops[j]? with
  | some oi, some oj => (match oi.dst, oj.dst with
    | some x, some y => x != y
    | _, _ => true)
  | _, _ => true
def dstOf (ops : Array Oper) (i : Nat) : Option Nat := (ops[i]?).bind (·.dst)
def InvS (ops : Array Oper) (sh : Nat → Shp) (i : Nat) (σ : Nat → Value) (w : World) : Prop := match dstOf ops i with
  | some d => (sh i).ok (σ d) w
  | none => True
/-- what is to be shown of one operation -/
def StepS (P : Program) (ops : Array Oper) (Q : Exit → Act → World → Prop) (a0 : Act) (W0 : World) (sh : Nat → Shp) (i : Nat) (o : Oper) : Prop :=
  ∀ (a : Act) (w : World), Below W0.heap.size W0 w → a.tmps.size = a0.tmps.size → (∀ k, k ∈ preds o → InvS ops sh k (sl a) w) → (∀ t, initAt ops i t = true → sl a t = sl a0 t) →
    if Region.wanted o (yielded ops a.tmps) = true then o.wp P a w (fun a' w' => ∃ v, a' = a.put o.dst v ∧ Below w.heap.size w w' ∧ (sh i).ok v w') Q
    else (sh i).ok undef w
def EachS (P : Program) (ops : Array Oper) (Q : Exit → Act → World → Prop) (a0 : Act) (W0 : World) (sh : Nat → Shp) : List Oper → Nat → Prop
  | [], _ => True
  | o :: rest, i => StepS P ops Q a0 W0 sh i o ∧ EachS P ops Q a0 W0 sh rest (i + 1)
/-- every operation writes a slot of the frame -/
def dstsB (ops : Array Oper) (n : Nat) : Bool := ops.toList.all fun o => match o.dst with
  | some d => decide (d < n)
  | none => false
theorem each_of {P : Program} {ops : Array Oper} {Q : Exit → Act → World → Prop} {a0 : Act} {W0 : World} {sh : Nat → Shp} {n : Nat} (hn : a0.tmps.size = n) : ∀ (l : List Oper) (k : Nat), (∀ j o, l[j]? = some o → ops[k + j]? = some o) → (l.all fun o => match o.dst with | some d => decide (d < n) | none => false) = true →
    EachS P ops Q a0 W0 sh l k → Each P ops Q a0 W0 (fun W w => Below W.heap.size W w) (fun _ w w' => Below w.heap.size w w') (InvS ops sh) l k := by
  intro l
  induction l with
  | nil => intro k _ _ _; trivial
  | cons o l ih =>
    intro k hk hd h
    simp only [List.all_cons, Bool.and_eq_true] at hd
    refine ⟨?_, ih (k + 1) (fun j o' hj => by have := hk (j + 1) o' (by simpa using hj); rwa [show k + (j + 1) = k + 1 + j by omega] at this) hd.2 h.2⟩
    intro a w hE hs hp hi
    have ho : ops[k]? = some o := by have := hk 0 o (by simp); simpa using this
    have hs1 := h.1 a w hE hs hp hi
    cases hdo : o.dst with
    | none => rw [hdo] at hd; simp at hd
    | some d =>
      rw [hdo] at hd
      have hd1 : d < n := of_decide_eq_true hd.1
      have hdn : d < a.tmps.size := by rw [hs, hn]; exact hd1
      have hdst : dstOf ops k = some d := by simp [dstOf, ho, hdo]
      split
      · rename_i hw
        rw [if_pos hw] at hs1
        refine Oper.wp_mono ?_ hs1
        rintro a' w' ⟨v, e, hb, hok⟩
        refine ⟨v, e.trans (by rw [hdo]), hb, ?_⟩
        unfold InvS
        rw [hdst]
        show (sh k).ok (sl a' d) w'
        rw [e, hdo, put_same _ _ _ hdn]; exact hok
      · rename_i hw
        rw [if_neg hw] at hs1
        refine ⟨Below.refl _ _, ?_⟩
        unfold InvS
        rw [hdst]
        show (sh k).ok (sl (a.put (some d) undef) d) w
        rw [put_same _ _ _ hdn]; exact hs1
theorem wp_region_shapes {P : Program} {ops : Array Oper} {Q : Exit → Act → World → Prop} {id : Nat} {a0 : Act} {w0 : World} (sh : Nat → Shp) (n : Nat) (hn : a0.tmps.size = n) (hm : P.follows .mixedOrders = true) (hback : backB ops = true) (hdist : distB ops = true) (hdsts : dstsB ops n = true)
    (each : EachS P ops Q a0 w0.drew sh ops.toList 0)
    (fin : ∀ a w, Below w0.heap.size w0 w → a.tmps.size = a0.tmps.size → a.defers = a0.defers → (∀ j, j < ops.size → InvS ops sh j (sl a) w) → (∀ t, (ops.toList.all fun o => o.dst != some t) = true → sl a t = sl a0 t) → Q .normal a w) :
    (Code.region id ops true).wp P Q a0 w0 := by
  refine wp_region_each hm hback (fun W w => Below W.heap.size W w) (fun _ w w' => Below w.heap.size w w') (InvS ops sh) (Below.refl _ _) (fun i w w' h hR => h.trans (hR.mono h.size)) ?_ (each_of hn _ 0 (fun j o hj => by simpa using hj) hdsts each) (fun a w hE hs hd hI ht => fin a w ⟨hE.os, hE.tape, hE.output, hE.size, hE.block⟩ hs hd hI ht)
  intro i j oi oj σ σ' w w' hij hoi hoj _ hI hR hσ _ _
  unfold InvS at hI ⊢
  cases hdj : dstOf ops j with
  | none => trivial
  | some d =>
    rw [hdj] at hI
    show (sh j).ok (σ' d) w'
    have hne : oi.dst ≠ some d := by
      intro e
      have hi' : i < ops.size := (Array.getElem?_eq_some_iff.1 hoi).1
      have hj' : j < ops.size := (Array.getElem?_eq_some_iff.1 hoj).1
      have := List.all_eq_true.1 (List.all_eq_true.1 hdist i (List.mem_range.2 hi')) j (List.mem_range.2 hj')
      rw [hoi, hoj] at this
      have hdj' : oj.dst = some d := by simpa [dstOf, hoj] using hdj
      simp [e, hdj', hij] at this
    rw [hσ d hne]
    exact (sh j).keep _ _ _ hI hR
/-- the guard says yes -/
theorem wanted_yes {ops : Array Oper} {o : Oper} {a : Act} {j : Nat} {b : Bool} {d : Nat} (hg : o.guard = some (j, b)) (hd : dstOf ops j = some d) (hs : d < a.tmps.size) (hv : sl a d = .bool b) : Region.wanted o (yielded ops a.tmps) = true := by
  have h1 : a.tmps[d]? = some (.bool b) := by
    have := hv
    simp only [sl, Array.getD_eq_getD_getElem?, Array.getElem?_eq_getElem hs, Option.getD_some] at this
    rw [Array.getElem?_eq_getElem hs, this]
  unfold dstOf at hd
  simp [Region.wanted, hg, yielded, hd, h1]
theorem ite_y {c : Prop} [Decidable c] {A B : Prop} (hc : c) (h : A) : if c then A else B := by rw [if_pos hc]; exact h
/-- an operation that gives a value -/
theorem wp_val {P : Program} {o : Oper} {a : Act} {w : World} {K : Act → World → Prop} {Q : Exit → Act → World → Prop} (v : Value) (hrun : (execOp a.eval o).run P w = .ok (.value v) w) (h : K (a.put o.dst v) w) : o.wp P a w K Q := by
  unfold Oper.wp; rw [hrun]; exact h
theorem wp_val' {P : Program} {o : Oper} {a : Act} {w w' : World} {K : Act → World → Prop} {Q : Exit → Act → World → Prop} (v : Value) (hrun : (execOp a.eval o).run P w = .ok (.value v) w') (h : K (a.put o.dst v) w') : o.wp P a w K Q := by
  unfold Oper.wp; rw [hrun]; exact h
/-- an operation that calls -/
theorem wp_enter {P : Program} {o : Oper} {a : Act} {w : World} {K : Act → World → Prop} {Q : Exit → Act → World → Prop} (f : FuncId) (args : Array Value) (hrun : (execOp a.eval o).run P w = .ok (.enter f args) w)
    {R : Ending → World → Prop} (hc : Calls P f args w R) (h : ∀ e w', R e w' → ∃ v, e = .returned v ∧ K (a.put o.dst v) w') : o.wp P a w K Q := by
  unfold Oper.wp; rw [hrun]
  show Calls P f args w _
  refine hc.mono ?_
  intro e w' hr
  obtain ⟨v, rfl, hk⟩ := h e w' hr
  exact hk
end Go.By
