/- A region that draws its order, with one store into a box of one cell of its own (a number): each operation has a shape that lasts. -/
import Derived.Test.YtbfmdfbnhakolaaDoorR5
import Derived.Test.YtbfmdfbnhakolaaDoorNW
namespace Go.By
open Go.RowKit
/-- a store into a block of one cell, of element type X, numbered B or more -/
structure StepN (B X : Nat) (w w' : World) : Prop where
  os : w'.os = w.os
  tape : w'.tape = w.tape
  output : w'.output = w.output
  size : w.heap.size ≤ w'.heap.size
  keep : ∀ k, k < w.heap.size → (k < B ∨ ∀ (cs : Array Value) fr, w.heap[k]? = some (Obj.cells cs X fr) → cs.size ≠ 1) → w'.heap[k]? = w.heap[k]?
  cells : ∀ (k : Nat) (cs : Array Value), w.heap[k]? = some (Obj.cells cs X (0, 0)) → ∃ cs' : Array Value, cs'.size = cs.size ∧ w'.heap[k]? = some (Obj.cells cs' X (0, 0))
structure ShN (B X : Nat) where
  ok : Value → World → Prop
  keep : ∀ (v : Value) (w w' : World), ok v w → Below w.heap.size w w' → ok v w'
  step : ∀ (v : Value) (w w' : World), ok v w → StepN B X w w' → ok v w'
def NBoxS (B X size : Nat) (v : Value) (w : World) : Prop := ∃ b cs, v = .pointer (some ⟨b, 0, none⟩) ∧ B ≤ b ∧ cs.size = size ∧ w.heap[b]? = some (.cells cs X (0, 0))
section
variable (B X : Nat)
def ShN.val (u : Value) : ShN B X := ⟨fun v _ => v = u, fun _ _ _ h _ => h, fun _ _ _ h _ => h⟩
def ShN.any : ShN B X := ⟨fun _ _ => True, fun _ _ _ h _ => h, fun _ _ _ h _ => h⟩
def ShN.box : ShN B X := ⟨NBoxS B X 1, fun _ _ _ ⟨b, cs, e, hb, hs, hh⟩ hw => ⟨b, cs, e, hb, hs, (hw.block b (lt_of_block hh)).trans hh⟩,
  fun _ _ _ ⟨b, cs, e, hb, hs, hh⟩ hw => by
    obtain ⟨cs', h1, h2⟩ := hw.cells b cs hh
    exact ⟨b, cs', e, hb, h1.trans hs, h2⟩⟩
end
/-- behind the store: the box in slot t holds a value that reads so -/
def BoxedN (B X t : Nat) (s : ShN B X) (σ : Nat → Value) (w : World) : Prop := ∃ b cs, σ t = .pointer (some ⟨b, 0, none⟩) ∧ B ≤ b ∧ w.heap[b]? = some (.cells cs X (0, 0)) ∧ s.ok (.agg cs) w
def InvN (ops : Array Oper) (B X : Nat) (sh : Nat → ShN B X) (st t : Nat) (s : ShN B X) (i : Nat) (σ : Nat → Value) (w : World) : Prop :=
  if i = st then BoxedN B X t s σ w else match dstOf ops i with
  | some d => (sh i).ok (σ d) w
  | none => True
def RelN (B X st : Nat) (i : Nat) (w w' : World) : Prop := if i = st then StepN B X w w' else Below w.heap.size w w'
/-- all that was there stays -/
def ExN (B : Nat) (W w : World) : Prop := Below B W w ∧ W.heap.size ≤ w.heap.size
def StepNS (P : Program) (ops : Array Oper) (Q : Exit → Act → World → Prop) (a0 : Act) (W0 : World) (B X : Nat) (sh : Nat → ShN B X) (st t : Nat) (s : ShN B X) (i : Nat) (o : Oper) : Prop :=
  ∀ (a : Act) (w : World), Below B W0 w → a.tmps.size = a0.tmps.size → (∀ k, k ∈ preds o → InvN ops B X sh st t s k (sl a) w) → (∀ u, initAt ops i u = true → sl a u = sl a0 u) →
    if Region.wanted o (yielded ops a.tmps) = true then o.wp P a w (fun a' w' => ∃ v, a' = a.put o.dst v ∧ RelN B X st i w w' ∧ (if i = st then BoxedN B X t s (sl a) w' else (sh i).ok v w')) Q
    else i ≠ st ∧ (sh i).ok undef w
def EachN (P : Program) (ops : Array Oper) (Q : Exit → Act → World → Prop) (a0 : Act) (W0 : World) (B X : Nat) (sh : Nat → ShN B X) (st t : Nat) (s : ShN B X) : List Oper → Nat → Prop
  | [], _ => True
  | o :: rest, i => StepNS P ops Q a0 W0 B X sh st t s i o ∧ EachN P ops Q a0 W0 B X sh st t s rest (i + 1)
/-- the store writes no slot, all others do; the box's slot is written by one that the store waits for -/
def dstsN (ops : Array Oper) (n st t : Nat) : Bool := (List.range ops.size).all fun i => match ops[i]? with
  | some o => (match o.dst with
    | some d => decide (d < n) && i != st && (d != t || (match ops[st]? with
      | some os => (preds os).contains i
      | none => false))
    | none => i == st)
  | none => true
theorem eachN_of {P : Program} {ops : Array Oper} {Q : Exit → Act → World → Prop} {a0 : Act} {W0 : World} {B X : Nat} {sh : Nat → ShN B X} {st t : Nat} {s : ShN B X} {n : Nat} (hn : a0.tmps.size = n) (hd : dstsN ops n st t = true) : ∀ (l : List Oper) (k : Nat), (∀ j o, l[j]? = some o → ops[k + j]? = some o) →
    EachN P ops Q a0 W0 B X sh st t s l k → Each P ops Q a0 W0.drew (fun W w => Below B W w) (RelN B X st) (InvN ops B X sh st t s) l k := by
  intro l
  induction l with
  | nil => intro k _ _; trivial
  | cons o l ih =>
    intro k hk h
    refine ⟨?_, ih (k + 1) (fun j o' hj => by have := hk (j + 1) o' (by simpa using hj); rwa [show k + (j + 1) = k + 1 + j by omega] at this) h.2⟩
    intro a w hE hs hp hi
    have ho : ops[k]? = some o := by have := hk 0 o (by simp); simpa using this
    have hks : k < ops.size := (Array.getElem?_eq_some_iff.1 ho).1
    have hdk := List.all_eq_true.1 hd k (List.mem_range.2 hks)
    rw [ho] at hdk
    dsimp only at hdk
    have hs1 := h.1 a w ⟨hE.os, hE.tape, hE.output, hE.size, hE.block⟩ hs hp hi
    cases hdo : o.dst with
    | none =>
      rw [hdo] at hdk
      dsimp only at hdk
      have hkst : k = st := by simpa using hdk
      split
      · rename_i hw
        rw [if_pos hw] at hs1
        refine Oper.wp_mono ?_ hs1
        rintro a' w' ⟨v, e, hb, hok⟩
        rw [if_pos hkst] at hok
        refine ⟨v, e.trans (by rw [hdo]), hb, ?_⟩
        unfold InvN
        rw [if_pos hkst, e, hdo]; exact hok
      · rename_i hw
        rw [if_neg hw] at hs1
        exact absurd hkst hs1.1
    | some d =>
      rw [hdo] at hdk
      dsimp only at hdk
      simp only [Bool.and_eq_true, decide_eq_true_eq, bne_iff_ne] at hdk
      have hkst : k ≠ st := hdk.1.2
      have hdn : d < a.tmps.size := by rw [hs, hn]; exact hdk.1.1
      have hdst : dstOf ops k = some d := by simp [dstOf, ho, hdo]
      split
      · rename_i hw
        rw [if_pos hw] at hs1
        refine Oper.wp_mono ?_ hs1
        rintro a' w' ⟨v, e, hb, hok⟩
        rw [if_neg hkst] at hok
        refine ⟨v, e.trans (by rw [hdo]), hb, ?_⟩
        unfold InvN
        rw [if_neg hkst, hdst]
        show (sh k).ok (sl a' d) w'
        rw [e, hdo, put_same _ _ _ hdn]; exact hok
      · rename_i hw
        rw [if_neg hw] at hs1
        refine ⟨?_, ?_⟩
        · unfold RelN; rw [if_neg hkst]; exact Below.refl _ _
        · unfold InvN
          rw [if_neg hkst, hdst]
          show (sh k).ok (sl (a.put (some d) undef) d) w
          rw [put_same _ _ _ hdn]; exact hs1.2
theorem stepN_below {B X : Nat} {W w w' : World} (hE : Below B W w) (h : StepN B X w w') (hB : B ≤ W.heap.size) : Below B W w' :=
  hE.trans ⟨h.os, h.tape, h.output, h.size, fun k hk => h.keep k (by have := hE.size; omega) (.inl hk)⟩
theorem wp_region_boxN {P : Program} {ops : Array Oper} {Q : Exit → Act → World → Prop} {id : Nat} {a0 : Act} {w0 : World} (X : Nat) (sh : Nat → ShN w0.heap.size X) (st t : Nat) (s : ShN w0.heap.size X) (n : Nat) (hn : a0.tmps.size = n) (hm : P.follows .mixedOrders = true) (hback : backB ops = true) (hdist : distB ops = true) (hdsts : dstsN ops n st t = true)
    (each : EachN P ops Q a0 w0 w0.heap.size X sh st t s ops.toList 0)
    (fin : ∀ a w, Below w0.heap.size w0 w → a.tmps.size = a0.tmps.size → a.defers = a0.defers → (∀ j, j < ops.size → InvN ops w0.heap.size X sh st t s j (sl a) w) → (∀ u, (ops.toList.all fun o => o.dst != some u) = true → sl a u = sl a0 u) → Q .normal a w) :
    (Code.region id ops true).wp P Q a0 w0 := by
  refine wp_region_each hm hback (fun W w => Below w0.heap.size W w) (RelN w0.heap.size X st) (InvN ops w0.heap.size X sh st t s) (Below.refl _ _) ?_ ?_ (eachN_of (W0 := w0) hn hdsts ops.toList 0 (fun j o hj => by simpa using hj) each) (fun a w hE hs hd hI ht => fin a w ⟨hE.os, hE.tape, hE.output, hE.size, hE.block⟩ hs hd hI ht)
  · intro i w w' h hR
    unfold RelN at hR
    split at hR
    · exact stepN_below h hR (Nat.le_refl _)
    · exact h.trans (hR.mono h.size)
  intro i j oi oj σ σ' w w' hij hoi hoj _ hI hR hσ _ hord
  have hi' : i < ops.size := (Array.getElem?_eq_some_iff.1 hoi).1
  have hj' : j < ops.size := (Array.getElem?_eq_some_iff.1 hoj).1
  have hdi := List.all_eq_true.1 hdsts i (List.mem_range.2 hi')
  rw [hoi] at hdi
  dsimp only at hdi
  unfold InvN at hI ⊢
  by_cases hjs : j = st
  · rw [if_pos hjs] at hI ⊢
    obtain ⟨b, cs, hb, hBb, hh, hok⟩ := hI
    have his : i ≠ st := fun e => hij (e.trans hjs.symm)
    unfold RelN at hR
    rw [if_neg his] at hR
    have hne : oi.dst ≠ some t := by
      intro e
      rw [e] at hdi
      dsimp only at hdi
      simp only [Bool.and_eq_true, decide_eq_true_eq, bne_self_eq_false, Bool.false_or] at hdi
      have h2 := hdi.2
      rw [← hjs, hoj] at h2
      exact hord t e (by simpa using h2)
    exact ⟨b, cs, by rw [hσ t hne]; exact hb, hBb, (hR.block b (lt_of_block hh)).trans hh, s.keep _ _ _ hok hR⟩
  · rw [if_neg hjs] at hI ⊢
    cases hdj : dstOf ops j with
    | none => trivial
    | some d =>
      rw [hdj] at hI
      show (sh j).ok (σ' d) w'
      have hne : oi.dst ≠ some d := by
        intro e
        have := List.all_eq_true.1 (List.all_eq_true.1 hdist i (List.mem_range.2 hi')) j (List.mem_range.2 hj')
        rw [hoi, hoj] at this
        have hdj' : oj.dst = some d := by simpa [dstOf, hoj] using hdj
        simp [e, hdj', hij] at this
      rw [hσ d hne]
      unfold RelN at hR
      by_cases his : i = st
      · rw [if_pos his] at hR; exact (sh j).step _ _ _ hI hR
      · rw [if_neg his] at hR; exact (sh j).keep _ _ _ hI hR
/-- a store of a whole value into a box is such a step -/
theorem stepN_setRow {B X b : Nat} {w : World} {cs cs' : Array Value} (hb : B ≤ b) (h : w.heap[b]? = some (.cells cs X (0, 0))) (h1 : cs.size = 1) (hs : cs'.size = cs.size) : StepN B X w (w.setRow b cs') := by
  refine ⟨rfl, rfl, rfl, by simp, ?_, ?_⟩
  · intro k hk hp
    simp only [World.setRow, Array.getElem?_modify]
    have : b ≠ k := by
      rintro rfl
      rcases hp with hp | hp
      · omega
      · exact hp _ _ h h1
    rw [if_neg this]
  · intro k cs1 h2
    by_cases e : k = b
    · subst e
      rw [h] at h2; cases h2
      exact ⟨cs', hs, hrs h⟩
    · exact ⟨cs1, rfl, hro h2 e⟩
section
variable {B X : Nat}
theorem Ws.step {T : TypeId} {w w' : World} {q : Option Addr} {n c N : Nat} (h : Ws T w q n c N) (hb : StepN B X w w') (hne : T ≠ X) : Ws T w' q n c N := by
  obtain ⟨ws, hs, hn, hv⟩ := h.ex
  have key : ∀ a, q = some a → w'.heap[a.block]? = w.heap[a.block]? := fun a ha => by
    obtain ⟨cs, fr, hc⟩ := h.lies a ha
    exact hb.keep _ (lt_of_block hc) (.inr fun cs' fr' hc' => by rw [hc] at hc'; cases hc'; exact absurd rfl hne)
  refine ⟨⟨ws, ⟨hs.len, hs.le, hs.max, hs.nil, fun i hi => ?_⟩, hn, hv⟩, h.le, fun a ha => ?_⟩
  · obtain ⟨b, o, hp, hc⟩ := hs.rs i hi
    exact ⟨b, o, hp, (World.cell?_of_block (a := ⟨b, o + i, none⟩) (key ⟨b, o, none⟩ hp)).trans hc⟩
  · obtain ⟨cs, fr, hc⟩ := h.lies a ha
    exact ⟨cs, fr, (key a ha).trans hc⟩
theorem stepN_set {b : Nat} {w : World} {u v : Value} (hb : B ≤ b) (h : w.heap[b]? = some (.cells #[u] X (0, 0))) : StepN B X w (w.setCell ⟨b, 0, none⟩ v) := by
  have hs : (w.setCell ⟨b, 0, none⟩ v).heap[b]? = some (.cells #[v] X (0, 0)) := hss h
  refine ⟨rfl, rfl, rfl, by simp, ?_, ?_⟩
  · intro k hk hp
    have : k ≠ b := by
      rintro rfl
      rcases hp with hp | hp
      · omega
      · exact hp _ _ h rfl
    rw [Below.heap_setCell _ _ _ _ this]
  · intro k cs1 h2
    by_cases e : k = b
    · subst e
      rw [h] at h2; cases h2
      exact ⟨#[v], rfl, hs⟩
    · exact ⟨cs1, rfl, hsc h2 e⟩
theorem size1 {cs : Array Value} (h : cs.size = 1) : ∃ u, cs = #[u] := ⟨cs[0], by
  apply Array.ext
  · simp [h]
  · intro i h1 h2
    have : i = 0 := by omega
    subst this; rfl⟩
/-- a number, by value -/
def IsN (T : TypeId) (N : Nat) (v : Value) (w : World) : Prop := ∃ q n c, v = .agg #[.slice q n c] ∧ Ws T w q n c N
def ShN.num (T : TypeId) (N : Nat) (hne : T ≠ X) : ShN B X := ⟨IsN T N, fun _ _ _ ⟨q, n, c, e, h⟩ hb => ⟨q, n, c, e, h.keep hb⟩, fun _ _ _ ⟨q, n, c, e, h⟩ hb => ⟨q, n, c, e, h.step hb hne⟩⟩
def ShpN (T : TypeId) (N : Nat) : Shp := ⟨IsN T N, fun _ _ _ ⟨q, n, c, e, h⟩ hb => ⟨q, n, c, e, h.keep hb⟩⟩
/-- a number, and a code -/
def IsNT (T : TypeId) (N : Nat) (code : Int) (v : Value) (w : World) : Prop := ∃ q n c, v = .tuple #[.agg #[.slice q n c], .int .i64 code] ∧ Ws T w q n c N
def ShN.numT (T : TypeId) (N : Nat) (code : Int) (hne : T ≠ X) : ShN B X := ⟨IsNT T N code, fun _ _ _ ⟨q, n, c, e, h⟩ hb => ⟨q, n, c, e, h.keep hb⟩, fun _ _ _ ⟨q, n, c, e, h⟩ hb => ⟨q, n, c, e, h.step hb hne⟩⟩
/-- a slice of two numbers -/
def IsN2 (X T : TypeId) (M N : Nat) (v : Value) (w : World) : Prop := ∃ g q1 n1 c1 q2 n2 c2, v = .slice (some ⟨g, 0, none⟩) 2 2 ∧ w.heap[g]? = some (.cells #[.slice q1 n1 c1, .slice q2 n2 c2] X (0, 0)) ∧ Ws T w q1 n1 c1 M ∧ Ws T w q2 n2 c2 N
theorem IsN2.sl {T : TypeId} {M N : Nat} {v : Value} {w : World} (h : IsN2 X T M N v w) : ∃ p, v = .slice p 2 2 ∧ Nsl T w p 2 2 [M, N] := by
  obtain ⟨g, q1, n1, c1, q2, n2, c2, e, hg, h1, h2⟩ := h
  exact ⟨_, e, Nsl.two hg h1 h2⟩
def ShN.num2 (T : TypeId) (M N : Nat) (hne : T ≠ X) : ShN B X := ⟨IsN2 X T M N,
  fun _ _ _ ⟨g, q1, n1, c1, q2, n2, c2, e, hg, h1, h2⟩ hb => ⟨g, q1, n1, c1, q2, n2, c2, e, (hb.block _ (lt_of_block hg)).trans hg, h1.keep hb, h2.keep hb⟩,
  fun _ _ _ ⟨g, q1, n1, c1, q2, n2, c2, e, hg, h1, h2⟩ hb => ⟨g, q1, n1, c1, q2, n2, c2, e, (hb.keep _ (lt_of_block hg) (.inr fun cs fr hc => by rw [hg] at hc; cases hc; simp)).trans hg, h1.step hb hne, h2.step hb hne⟩⟩
end
end Go.By
