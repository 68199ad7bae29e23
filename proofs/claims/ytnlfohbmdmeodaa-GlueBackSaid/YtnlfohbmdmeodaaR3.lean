/- A region that draws its order, with one store into a block of its own: each operation has a shape that lasts. -/
import Derived.Test.YtnlfohbmdmeodaaR2
namespace Go.By
open Go.RowKit
/-- a store into a block of element type X, numbered B or more -/
structure StepX (B X : Nat) (w w' : World) : Prop where
  os : w'.os = w.os
  tape : w'.tape = w.tape
  output : w'.output = w.output
  size : w.heap.size ≤ w'.heap.size
  keep : ∀ k, k < w.heap.size → (k < B ∨ ∀ (cs : Array Value) fr, w.heap[k]? ≠ some (Obj.cells cs X fr)) → w'.heap[k]? = w.heap[k]?
  cells : ∀ (k : Nat) (cs : Array Value), w.heap[k]? = some (Obj.cells cs X (0, 0)) → ∃ cs' : Array Value, cs'.size = cs.size ∧ w'.heap[k]? = some (Obj.cells cs' X (0, 0))
/-- a slice whose cells no such store meets -/
def Away (B X : Nat) (w : World) (p : Option Addr) (n : Nat) : Prop := ∀ a, p = some a → 0 < n → a.block < B ∨ ∀ (cs : Array Value) fr, w.heap[a.block]? ≠ some (Obj.cells cs X fr)
section
variable {B X : Nat} {w w' : World}
theorem Away.keep {α : Type} {enc : α → Value} {p : Option Addr} {n c : Nat} {xs : List α} (h : Away B X w p n) (hs : Sl enc w p n c xs) (hb : Below w.heap.size w w') : Away B X w' p n := by
  intro a ha hn
  rcases h a ha hn with h | h
  · exact .inl h
  · right
    obtain ⟨b, o, hp, hlt⟩ := hs.rs.lt (by rw [hs.len]; exact hn)
    rw [ha] at hp; cases hp
    rw [hb.block b hlt]; exact h
theorem Away.step {α : Type} {enc : α → Value} {p : Option Addr} {n c : Nat} {xs : List α} (h : Away B X w p n) (hs : Sl enc w p n c xs) (hb : StepX B X w w') : Away B X w' p n ∧ Sl enc w' p n c xs := by
  have key : ∀ a, p = some a → 0 < n → w'.heap[a.block]? = w.heap[a.block]? := by
    intro a ha hn
    obtain ⟨b, o, hp, hlt⟩ := hs.rs.lt (by rw [hs.len]; exact hn)
    rw [ha] at hp; cases hp
    exact hb.keep b hlt (h _ ha hn)
  refine ⟨?_, hs.len, hs.le, hs.max, hs.nil, ?_⟩
  · intro a ha hn
    rcases h a ha hn with h | h
    · exact .inl h
    · exact .inr (by rw [key a ha hn]; exact h)
  · intro i hi
    obtain ⟨b, o, hp, hc⟩ := hs.rs i hi
    refine ⟨b, o, hp, (World.cell?_of_block (a := ⟨b, o + i, none⟩) ?_).trans hc⟩
    exact key ⟨b, o, none⟩ hp (by rw [← hs.len]; omega)
theorem Away.old {α : Type} {enc : α → Value} {W : World} {p : Option Addr} {n c : Nat} {xs : List α} (hs : Sl enc W p n c xs) (hB : W.heap.size ≤ B) : Away B X w p n := by
  intro a ha hn
  obtain ⟨b, o, hp, hlt⟩ := hs.rs.lt (by rw [hs.len]; exact hn)
  rw [ha] at hp; cases hp
  exact .inl (by show b < B; omega)
theorem Away.own {base e n c : Nat} {p : Option Addr} {ys : List Value} (h : w.ownsRow base e 1 (.slice p n c) n ys) (he : e ≠ X) : Away B X w p n := by
  intro a ha hn
  right
  intro cs fr hcs
  rcases h.2 with ⟨h2, _⟩ | ⟨g, cap, cur, hv, _, hh, _⟩
  · simp at h2; rw [h2.1] at ha; cases ha
  · obtain ⟨rfl, _⟩ : p = some ⟨g, 0, none⟩ ∧ c = cap := by simpa using hv
    cases ha
    rw [hh] at hcs; cases hcs; exact he rfl
end
structure ShX (B X : Nat) where
  ok : Value → World → Prop
  keep : ∀ (v : Value) (w w' : World), ok v w → Below w.heap.size w w' → ok v w'
  step : ∀ (v : Value) (w w' : World), ok v w → StepX B X w w' → ok v w'
def XBytes (B X : Nat) (xs : List UInt8) (v : Value) (w : World) : Prop := ∃ p n c, v = .slice p n c ∧ Sl B8 w p n c xs ∧ Away B X w p n
def XRow (B X : Nat) (r : List UInt8 × List UInt8) (v : Value) (w : World) : Prop := ∃ p1 n1 c1 p2 n2 c2, v = .agg #[.slice p1 n1 c1, .slice p2 n2 c2] ∧ (Sl B8 w p1 n1 c1 r.1 ∧ Away B X w p1 n1) ∧ (Sl B8 w p2 n2 c2 r.2 ∧ Away B X w p2 n2)
def XRowT (B X : Nat) (r : List UInt8 × List UInt8) (code : Int) (v : Value) (w : World) : Prop := ∃ u, v = .tuple #[u, .int .i64 code] ∧ XRow B X r u w
def XBox (B X size : Nat) (v : Value) (w : World) : Prop := ∃ b cs, v = .pointer (some ⟨b, 0, none⟩) ∧ B ≤ b ∧ cs.size = size ∧ w.heap[b]? = some (.cells cs X (0, 0))
section
variable (B X : Nat)
def ShX.val (u : Value) : ShX B X := ⟨fun v _ => v = u, fun _ _ _ h _ => h, fun _ _ _ h _ => h⟩
def ShX.any : ShX B X := ⟨fun _ _ => True, fun _ _ _ h _ => h, fun _ _ _ h _ => h⟩
def ShX.bytes (xs : List UInt8) : ShX B X := ⟨XBytes B X xs, fun _ _ _ ⟨p, n, c, e, h, k⟩ hb => ⟨p, n, c, e, h.keep hb, k.keep h hb⟩, fun _ _ _ ⟨p, n, c, e, h, k⟩ hb => ⟨p, n, c, e, (k.step h hb).2, (k.step h hb).1⟩⟩
theorem XRow.keep {B X : Nat} {r : List UInt8 × List UInt8} {v : Value} {w w' : World} (h : XRow B X r v w) (hb : Below w.heap.size w w') : XRow B X r v w' := by
  obtain ⟨p1, n1, c1, p2, n2, c2, e, ⟨h1, k1⟩, ⟨h2, k2⟩⟩ := h
  exact ⟨p1, n1, c1, p2, n2, c2, e, ⟨h1.keep hb, k1.keep h1 hb⟩, ⟨h2.keep hb, k2.keep h2 hb⟩⟩
theorem XRow.step {B X : Nat} {r : List UInt8 × List UInt8} {v : Value} {w w' : World} (h : XRow B X r v w) (hb : StepX B X w w') : XRow B X r v w' := by
  obtain ⟨p1, n1, c1, p2, n2, c2, e, ⟨h1, k1⟩, ⟨h2, k2⟩⟩ := h
  exact ⟨p1, n1, c1, p2, n2, c2, e, ⟨(k1.step h1 hb).2, (k1.step h1 hb).1⟩, ⟨(k2.step h2 hb).2, (k2.step h2 hb).1⟩⟩
def ShX.row (r : List UInt8 × List UInt8) : ShX B X := ⟨XRow B X r, fun _ _ _ h hb => h.keep hb, fun _ _ _ h hb => h.step hb⟩
def ShX.rowT (r : List UInt8 × List UInt8) (code : Int) : ShX B X := ⟨XRowT B X r code, fun _ _ _ ⟨u, e, h⟩ hb => ⟨u, e, h.keep hb⟩, fun _ _ _ ⟨u, e, h⟩ hb => ⟨u, e, h.step hb⟩⟩
def ShX.box (size : Nat) : ShX B X := ⟨XBox B X size, fun _ _ _ ⟨b, cs, e, hb, hs, hh⟩ hw => ⟨b, cs, e, hb, hs, (hw.block b (lt_of_block hh)).trans hh⟩,
  fun _ _ _ ⟨b, cs, e, hb, hs, hh⟩ hw => by
    obtain ⟨cs', h1, h2⟩ := hw.cells b cs hh
    exact ⟨b, cs', e, hb, h1.trans hs, h2⟩⟩
end
/-- behind the store: the box in slot t holds a value that reads so -/
def Boxed (B X t : Nat) (s : ShX B X) (σ : Nat → Value) (w : World) : Prop := ∃ b cs, σ t = .pointer (some ⟨b, 0, none⟩) ∧ B ≤ b ∧ w.heap[b]? = some (.cells cs X (0, 0)) ∧ s.ok (.agg cs) w
def InvX (ops : Array Oper) (B X : Nat) (sh : Nat → ShX B X) (st t : Nat) (s : ShX B X) (i : Nat) (σ : Nat → Value) (w : World) : Prop :=
  if i = st then Boxed B X t s σ w else match dstOf ops i with
  | some d => (sh i).ok (σ d) w
  | none => True
def RX (B X st : Nat) (i : Nat) (w w' : World) : Prop := if i = st then StepX B X w w' else Below w.heap.size w w'
/-- all that was there stays -/
def EX (B : Nat) (W w : World) : Prop := Below B W w ∧ W.heap.size ≤ w.heap.size
def StepXS (P : Program) (ops : Array Oper) (Q : Exit → Act → World → Prop) (a0 : Act) (W0 : World) (B X : Nat) (sh : Nat → ShX B X) (st t : Nat) (s : ShX B X) (i : Nat) (o : Oper) : Prop :=
  ∀ (a : Act) (w : World), Below B W0 w → a.tmps.size = a0.tmps.size → (∀ k, k ∈ preds o → InvX ops B X sh st t s k (sl a) w) → (∀ u, initAt ops i u = true → sl a u = sl a0 u) →
    if Region.wanted o (yielded ops a.tmps) = true then o.wp P a w (fun a' w' => ∃ v, a' = a.put o.dst v ∧ RX B X st i w w' ∧ (if i = st then Boxed B X t s (sl a) w' else (sh i).ok v w')) Q
    else i ≠ st ∧ (sh i).ok undef w
def EachX (P : Program) (ops : Array Oper) (Q : Exit → Act → World → Prop) (a0 : Act) (W0 : World) (B X : Nat) (sh : Nat → ShX B X) (st t : Nat) (s : ShX B X) : List Oper → Nat → Prop
  | [], _ => True
  | o :: rest, i => StepXS P ops Q a0 W0 B X sh st t s i o ∧ EachX P ops Q a0 W0 B X sh st t s rest (i + 1)
/-- the store writes no slot, all others do; the box's slot is written by one that the store waits for -/
def dstsX (ops : Array Oper) (n st t : Nat) : Bool := (List.range ops.size).all fun i => match ops[i]? with
  | some o => (match o.dst with
    | some d => decide (d < n) && i != st && (d != t || (match ops[st]? with
      | some os => (preds os).contains i
      | none => false))
    | none => i == st)
  | none => true
theorem eachX_of {P : Program} {ops : Array Oper} {Q : Exit → Act → World → Prop} {a0 : Act} {W0 : World} {B X : Nat} {sh : Nat → ShX B X} {st t : Nat} {s : ShX B X} {n : Nat} (hn : a0.tmps.size = n) (hd : dstsX ops n st t = true) : ∀ (l : List Oper) (k : Nat), (∀ j o, l[j]? = some o → ops[k + j]? = some o) →
    EachX P ops Q a0 W0 B X sh st t s l k → Each P ops Q a0 W0.drew (fun W w => Below B W w) (RX B X st) (InvX ops B X sh st t s) l k := by
  intro l
  induction l with
  | nil => intro k _ _; trivial
  | cons o l ih =>
    intro k hk h
    refine ⟨?_, ih (k + 1) (fun j o' hj => by have := hk (j + 1) o' (by simpa using hj); rwa [show k + (j + 1) = k + 1 + j by omega] at this) h.2⟩
    intro a w hE hs hp hi
    have ho : ops[k]? = some o := by have := hk 0 o (by simp); simpa using this
    have hks : k < ops.size := (Array.getElem?_eq_some_iff.1 ho).1
    have hdk := List.all_eq_true.1 hd k (List.mem_range.2 hks)
    rw [ho] at hdk
    dsimp only at hdk
    have hs1 := h.1 a w ⟨hE.os, hE.tape, hE.output, hE.size, hE.block⟩ hs hp hi
    cases hdo : o.dst with
    | none =>
      rw [hdo] at hdk
      dsimp only at hdk
      have hkst : k = st := by simpa using hdk
      split
      · rename_i hw
        rw [if_pos hw] at hs1
        refine Oper.wp_mono ?_ hs1
        rintro a' w' ⟨v, e, hb, hok⟩
        rw [if_pos hkst] at hok
        refine ⟨v, e.trans (by rw [hdo]), hb, ?_⟩
        unfold InvX
        rw [if_pos hkst, e, hdo]; exact hok
      · rename_i hw
        rw [if_neg hw] at hs1
        exact absurd hkst hs1.1
    | some d =>
      rw [hdo] at hdk
      dsimp only at hdk
      simp only [Bool.and_eq_true, decide_eq_true_eq, bne_iff_ne] at hdk
      have hkst : k ≠ st := hdk.1.2
      have hdn : d < a.tmps.size := by rw [hs, hn]; exact hdk.1.1
      have hdst : dstOf ops k = some d := by simp [dstOf, ho, hdo]
      split
      · rename_i hw
        rw [if_pos hw] at hs1
        refine Oper.wp_mono ?_ hs1
        rintro a' w' ⟨v, e, hb, hok⟩
        rw [if_neg hkst] at hok
        refine ⟨v, e.trans (by rw [hdo]), hb, ?_⟩
        unfold InvX
        rw [if_neg hkst, hdst]
        show (sh k).ok (sl a' d) w'
        rw [e, hdo, put_same _ _ _ hdn]; exact hok
      · rename_i hw
        rw [if_neg hw] at hs1
        refine ⟨?_, ?_⟩
        · unfold RX; rw [if_neg hkst]; exact Below.refl _ _
        · unfold InvX
          rw [if_neg hkst, hdst]
          show (sh k).ok (sl (a.put (some d) undef) d) w
          rw [put_same _ _ _ hdn]; exact hs1.2
theorem stepX_below {B X : Nat} {W w w' : World} (hE : Below B W w) (h : StepX B X w w') (hB : B ≤ W.heap.size) : Below B W w' :=
  hE.trans ⟨h.os, h.tape, h.output, h.size, fun k hk => h.keep k (by have := hE.size; omega) (.inl hk)⟩
theorem wp_region_boxed {P : Program} {ops : Array Oper} {Q : Exit → Act → World → Prop} {id : Nat} {a0 : Act} {w0 : World} (X : Nat) (sh : Nat → ShX w0.heap.size X) (st t : Nat) (s : ShX w0.heap.size X) (n : Nat) (hn : a0.tmps.size = n) (hm : P.follows .mixedOrders = true) (hback : backB ops = true) (hdist : distB ops = true) (hdsts : dstsX ops n st t = true)
    (each : EachX P ops Q a0 w0 w0.heap.size X sh st t s ops.toList 0)
    (fin : ∀ a w, Below w0.heap.size w0 w → a.tmps.size = a0.tmps.size → a.defers = a0.defers → (∀ j, j < ops.size → InvX ops w0.heap.size X sh st t s j (sl a) w) → (∀ u, (ops.toList.all fun o => o.dst != some u) = true → sl a u = sl a0 u) → Q .normal a w) :
    (Code.region id ops true).wp P Q a0 w0 := by
  refine wp_region_each hm hback (fun W w => Below w0.heap.size W w) (RX w0.heap.size X st) (InvX ops w0.heap.size X sh st t s) (Below.refl _ _) ?_ ?_ (eachX_of (W0 := w0) hn hdsts ops.toList 0 (fun j o hj => by simpa using hj) each) (fun a w hE hs hd hI ht => fin a w ⟨hE.os, hE.tape, hE.output, hE.size, hE.block⟩ hs hd hI ht)
  · intro i w w' h hR
    unfold RX at hR
    split at hR
    · exact stepX_below h hR (Nat.le_refl _)
    · exact h.trans (hR.mono h.size)
  intro i j oi oj σ σ' w w' hij hoi hoj _ hI hR hσ _ hord
  have hi' : i < ops.size := (Array.getElem?_eq_some_iff.1 hoi).1
  have hj' : j < ops.size := (Array.getElem?_eq_some_iff.1 hoj).1
  have hdi := List.all_eq_true.1 hdsts i (List.mem_range.2 hi')
  rw [hoi] at hdi
  dsimp only at hdi
  unfold InvX at hI ⊢
  by_cases hjs : j = st
  · rw [if_pos hjs] at hI ⊢
    obtain ⟨b, cs, hb, hBb, hh, hok⟩ := hI
    have his : i ≠ st := fun e => hij (e.trans hjs.symm)
    unfold RX at hR
    rw [if_neg his] at hR
    have hne : oi.dst ≠ some t := by
      intro e
      rw [e] at hdi
      dsimp only at hdi
      simp only [Bool.and_eq_true, decide_eq_true_eq, bne_self_eq_false, Bool.false_or] at hdi
      have h2 := hdi.2
      rw [← hjs, hoj] at h2
      exact hord t e (by simpa using h2)
    exact ⟨b, cs, by rw [hσ t hne]; exact hb, hBb, (hR.block b (lt_of_block hh)).trans hh, s.keep _ _ _ hok hR⟩
  · rw [if_neg hjs] at hI ⊢
    cases hdj : dstOf ops j with
    | none => trivial
    | some d =>
      rw [hdj] at hI
      show (sh j).ok (σ' d) w'
      have hne : oi.dst ≠ some d := by
        intro e
        have := List.all_eq_true.1 (List.all_eq_true.1 hdist i (List.mem_range.2 hi')) j (List.mem_range.2 hj')
        rw [hoi, hoj] at this
        have hdj' : oj.dst = some d := by simpa [dstOf, hoj] using hdj
        simp [e, hdj', hij] at this
      rw [hσ d hne]
      unfold RX at hR
      by_cases his : i = st
      · rw [if_pos his] at hR; exact (sh j).step _ _ _ hI hR
      · rw [if_neg his] at hR; exact (sh j).keep _ _ _ hI hR
/-- a store of a whole value into a box is such a step -/
theorem stepX_setRow {B X b : Nat} {w : World} {cs cs' : Array Value} (hb : B ≤ b) (h : w.heap[b]? = some (.cells cs X (0, 0))) (hs : cs'.size = cs.size) : StepX B X w (w.setRow b cs') := by
  refine ⟨rfl, rfl, rfl, by simp, ?_, ?_⟩
  · intro k hk hp
    simp only [World.setRow, Array.getElem?_modify]
    have : b ≠ k := by
      rintro rfl
      rcases hp with hp | hp
      · omega
      · exact hp _ _ h
    rw [if_neg this]
  · intro k cs1 h1
    by_cases e : k = b
    · subst e
      rw [h] at h1; cases h1
      exact ⟨cs', hs, hrs h⟩
    · exact ⟨cs1, rfl, hro h1 e⟩
end Go.By
