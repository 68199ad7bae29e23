/- A region that draws its order,with one store into a block of its own: each operation has a shape that lasts. The frame behind a region that draws its order; one operation with its operands known. A guard that never ran says no. A region that draws its order,whose last operation waits for all others (a store): shapes for the others,then the last one. A region that draws its order,whose first m operations are shapes,and whose others wait each for the one ahead of it: these are walked in their order. Plain: the sum of 32 bits,half a byte at a time and bit by bit. Plain: numbers of 32 bits as four bytes; sums of parts. Chapter 4: sum.Put,Start,Sum (under way). Chapter 4: sum.Start,With,Sum,Of,Get. Chapter 4: sum.Of,Get. Small laws for packets: parts of slices,literal slices of slices,results that read. Plain: words between blanks,decimal numbers. No program in sight. Plain: bytes as digits of base 16,and back. No program in sight. Chapter 24,the reference: a digit. Bytes made,and copied into a block known whole. Chapter 5: bytes out of a seed: New,Next,Bytes,Row; a seed as eight bytes. Chapter 5: mix.New,Row; a seed as eight bytes,and of eight bytes. The contracts of the plan's functions: needed,fits,Check,Of; and of the reference's Needs and Check. The contracts of slices.Grow and Concat at bytes; of the whole of the symbols. The contracts of slices.Grow and Concat at bytes; of the whole of the symbols (G0 holds them). -/
import Derived.Test.YtccaiiigdfieoaaGreatDoorZg1
import Derived.Lib.AppendZeros
import Derived.BigFrame
import Derived.Lib.SplitLaws
import Derived.Lib.ItoaNum
import Derived.Lib.Join
import Derived.WalkLawsBesides
import Derived.BigQuiet
namespace Go.By
open Go.RowKit
structure StepX (B X : Nat) (w w' : World) : Prop where
 os : w'.os = w.os
 tape : w'.tape = w.tape
 output : w'.output = w.output
 size : w.heap.size ≤ w'.heap.size
 keep : ∀ k,k < w.heap.size → (k < B ∨ ∀ (cs : Array Value) fr,w.heap[k]? ≠ some (Obj.cells cs X fr)) → w'.heap[k]? = w.heap[k]?
 cells : ∀ (k : Nat) (cs : Array Value),w.heap[k]? = some (Obj.cells cs X (0,0)) → ∃ cs' : Array Value,cs'.size = cs.size ∧ w'.heap[k]? = some (Obj.cells cs' X (0,0))
def Away (B X : Nat) (w : World) (p : Option Addr) (n : Nat) : Prop := ∀ a,p = some a → 0 < n → a.block < B ∨ ∀ (cs : Array Value) fr,w.heap[a.block]? ≠ some (Obj.cells cs X fr)
section
variable {B X : Nat} {w w' : World}
theorem Away.keep {α : Type} {enc : α → Value} {p : Option Addr} {n c : Nat} {xs : List α} (h : Away B X w p n) (hs : Sl enc w p n c xs) (hb : Below w.heap.size w w') : Away B X w' p n := by
 intro a ha hn
 rcases h a ha hn with h | h
 ·exact .inl h
 ·right
  obtain ⟨b,o,hp,hlt⟩ := hs.rs.lt (by rw [hs.len]; exact hn)
  rw [ha] at hp; cases hp
  rw [hb.block b hlt]; exact h
theorem Away.step {α : Type} {enc : α → Value} {p : Option Addr} {n c : Nat} {xs : List α} (h : Away B X w p n) (hs : Sl enc w p n c xs) (hb : StepX B X w w') : Away B X w' p n ∧ Sl enc w' p n c xs := by
 have key : ∀ a,p = some a → 0 < n → w'.heap[a.block]? = w.heap[a.block]? := by
  intro a ha hn
  obtain ⟨b,o,hp,hlt⟩ := hs.rs.lt (by rw [hs.len]; exact hn)
  rw [ha] at hp; cases hp
  exact hb.keep b hlt (h _ ha hn)
 refine ⟨?_,hs.len,hs.le,hs.max,hs.nil,?_⟩
 ·intro a ha hn
  rcases h a ha hn with h | h
  ·exact .inl h
  ·exact .inr (by rw [key a ha hn]; exact h)
 ·intro i hi
  obtain ⟨b,o,hp,hc⟩ := hs.rs i hi
  refine ⟨b,o,hp,(World.cell?_of_block (a := ⟨b,o + i,none⟩) ?_).trans hc⟩
  exact key ⟨b,o,none⟩ hp (by rw [← hs.len]; omega)
theorem Away.old {α : Type} {enc : α → Value} {W : World} {p : Option Addr} {n c : Nat} {xs : List α} (hs : Sl enc W p n c xs) (hB : W.heap.size ≤ B) : Away B X w p n := by
 intro a ha hn
 obtain ⟨b,o,hp,hlt⟩ := hs.rs.lt (by rw [hs.len]; exact hn)
 rw [ha] at hp; cases hp
 exact .inl (by show b < B; omega)
theorem Away.own {base e n c : Nat} {p : Option Addr} {ys : List Value} (h : w.ownsRow base e 1 (.slice p n c) n ys) (he : e ≠ X) : Away B X w p n := by
 intro a ha hn
 right
 intro cs fr hcs
 rcases h.2 with ⟨h2,_⟩ | ⟨g,cap,cur,hv,_,hh,_⟩
 ·simp at h2; rw [h2.1] at ha; cases ha
 ·obtain ⟨rfl,_⟩ : p = some ⟨g,0,none⟩ ∧ c = cap := by simpa using hv
  cases ha
  rw [hh] at hcs; cases hcs; exact he rfl
end
structure ShX (B X : Nat) where
 ok : Value → World → Prop
 keep : ∀ (v : Value) (w w' : World),ok v w → Below w.heap.size w w' → ok v w'
 step : ∀ (v : Value) (w w' : World),ok v w → StepX B X w w' → ok v w'
def XBytes (B X : Nat) (xs : List UInt8) (v : Value) (w : World) : Prop := ∃ p n c,v = .slice p n c ∧ Sl B8 w p n c xs ∧ Away B X w p n
def XRow (B X : Nat) (r : List UInt8 × List UInt8) (v : Value) (w : World) : Prop := ∃ p1 n1 c1 p2 n2 c2,v = .agg #[.slice p1 n1 c1,.slice p2 n2 c2] ∧ (Sl B8 w p1 n1 c1 r.1 ∧ Away B X w p1 n1) ∧ (Sl B8 w p2 n2 c2 r.2 ∧ Away B X w p2 n2)
def XBox (B X size : Nat) (v : Value) (w : World) : Prop := ∃ b cs,v = .pointer (some ⟨b,0,none⟩) ∧ B ≤ b ∧ cs.size = size ∧ w.heap[b]? = some (.cells cs X (0,0))
section
variable (B X : Nat)
def ShX.val (u : Value) : ShX B X := ⟨fun v _ => v = u,fun _ _ _ h _ => h,fun _ _ _ h _ => h⟩
def ShX.any : ShX B X := ⟨fun _ _ => True,fun _ _ _ h _ => h,fun _ _ _ h _ => h⟩
def ShX.bytes (xs : List UInt8) : ShX B X := ⟨XBytes B X xs,fun _ _ _ ⟨p,n,c,e,h,k⟩ hb => ⟨p,n,c,e,h.keep hb,k.keep h hb⟩,fun _ _ _ ⟨p,n,c,e,h,k⟩ hb => ⟨p,n,c,e,(k.step h hb).2,(k.step h hb).1⟩⟩
theorem XRow.keep {B X : Nat} {r : List UInt8 × List UInt8} {v : Value} {w w' : World} (h : XRow B X r v w) (hb : Below w.heap.size w w') : XRow B X r v w' := by
 obtain ⟨p1,n1,c1,p2,n2,c2,e,⟨h1,k1⟩,⟨h2,k2⟩⟩ := h
 exact ⟨p1,n1,c1,p2,n2,c2,e,⟨h1.keep hb,k1.keep h1 hb⟩,⟨h2.keep hb,k2.keep h2 hb⟩⟩
theorem XRow.step {B X : Nat} {r : List UInt8 × List UInt8} {v : Value} {w w' : World} (h : XRow B X r v w) (hb : StepX B X w w') : XRow B X r v w' := by
 obtain ⟨p1,n1,c1,p2,n2,c2,e,⟨h1,k1⟩,⟨h2,k2⟩⟩ := h
 exact ⟨p1,n1,c1,p2,n2,c2,e,⟨(k1.step h1 hb).2,(k1.step h1 hb).1⟩,⟨(k2.step h2 hb).2,(k2.step h2 hb).1⟩⟩
def ShX.row (r : List UInt8 × List UInt8) : ShX B X := ⟨XRow B X r,fun _ _ _ h hb => h.keep hb,fun _ _ _ h hb => h.step hb⟩
def ShX.box (size : Nat) : ShX B X := ⟨XBox B X size,fun _ _ _ ⟨b,cs,e,hb,hs,hh⟩ hw => ⟨b,cs,e,hb,hs,(hw.block b (lt_of_block hh)).trans hh⟩,
 fun _ _ _ ⟨b,cs,e,hb,hs,hh⟩ hw => by
  obtain ⟨cs',h1,h2⟩ := hw.cells b cs hh
  exact ⟨b,cs',e,hb,h1.trans hs,h2⟩⟩
end
def Boxed (B X t : Nat) (s : ShX B X) (σ : Nat → Value) (w : World) : Prop := ∃ b cs,σ t = .pointer (some ⟨b,0,none⟩) ∧ B ≤ b ∧ w.heap[b]? = some (.cells cs X (0,0)) ∧ s.ok (.agg cs) w
def InvX (ops : Array Oper) (B X : Nat) (sh : Nat → ShX B X) (st t : Nat) (s : ShX B X) (i : Nat) (σ : Nat → Value) (w : World) : Prop :=
 if i = st then Boxed B X t s σ w else match dstOf ops i with
 | some d => (sh i).ok (σ d) w
 | none => True
def RX (B X st : Nat) (i : Nat) (w w' : World) : Prop := if i = st then StepX B X w w' else Below w.heap.size w w'
def StepXS (P : Program) (ops : Array Oper) (Q : Exit → Act → World → Prop) (a0 : Act) (W0 : World) (B X : Nat) (sh : Nat → ShX B X) (st t : Nat) (s : ShX B X) (i : Nat) (o : Oper) : Prop :=
 ∀ (a : Act) (w : World),Below B W0 w → a.tmps.size = a0.tmps.size → (∀ k,k ∈ preds o → InvX ops B X sh st t s k (sl a) w) → (∀ u,initAt ops i u = true → sl a u = sl a0 u) →
  if Region.wanted o (yielded ops a.tmps) = true then o.wp P a w (fun a' w' => ∃ v,a' = a.put o.dst v ∧ RX B X st i w w' ∧ (if i = st then Boxed B X t s (sl a) w' else (sh i).ok v w')) Q
  else i ≠ st ∧ (sh i).ok undef w
def EachX (P : Program) (ops : Array Oper) (Q : Exit → Act → World → Prop) (a0 : Act) (W0 : World) (B X : Nat) (sh : Nat → ShX B X) (st t : Nat) (s : ShX B X) : List Oper → Nat → Prop
 | [],_ => True
 | o :: rest,i => StepXS P ops Q a0 W0 B X sh st t s i o ∧ EachX P ops Q a0 W0 B X sh st t s rest (i + 1)
def dstsX (ops : Array Oper) (n st t : Nat) : Bool := (List.range ops.size).all fun i => match ops[i]? with
 | some o => (match o.dst with
  | some d => decide (d < n) && i != st && (d != t || (match ops[st]? with
   | some os => (preds os).contains i
   | none => false))
  | none => i == st)
 | none => true
theorem eachX_of {P : Program} {ops : Array Oper} {Q : Exit → Act → World → Prop} {a0 : Act} {W0 : World} {B X : Nat} {sh : Nat → ShX B X} {st t : Nat} {s : ShX B X} {n : Nat} (hn : a0.tmps.size = n) (hd : dstsX ops n st t = true) : ∀ (l : List Oper) (k : Nat),(∀ j o,l[j]? = some o → ops[k + j]? = some o) →
  EachX P ops Q a0 W0 B X sh st t s l k → Each P ops Q a0 W0.drew (fun W w => Below B W w) (RX B X st) (InvX ops B X sh st t s) l k := by
 intro l
 induction l with
 | nil => intro k _ _; trivial
 | cons o l ih =>
  intro k hk h
  refine ⟨?_,ih (k + 1) (fun j o' hj => by have := hk (j + 1) o' (by simpa using hj); rwa [show k + (j + 1) = k + 1 + j by omega] at this) h.2⟩
  intro a w hE hs hp hi
  have ho : ops[k]? = some o := by have := hk 0 o (by simp); simpa using this
  have hks : k < ops.size := (Array.getElem?_eq_some_iff.1 ho).1
  have hdk := List.all_eq_true.1 hd k (List.mem_range.2 hks)
  rw [ho] at hdk
  dsimp only at hdk
  have hs1 := h.1 a w ⟨hE.os,hE.tape,hE.output,hE.size,hE.block⟩ hs hp hi
  cases hdo : o.dst with
  | none =>
   rw [hdo] at hdk
   dsimp only at hdk
   have hkst : k = st := by simpa using hdk
   split
   ·rename_i hw
    rw [if_pos hw] at hs1
    refine Oper.wp_mono ?_ hs1
    rintro a' w' ⟨v,e,hb,hok⟩
    rw [if_pos hkst] at hok
    refine ⟨v,e.trans (by rw [hdo]),hb,?_⟩
    unfold InvX
    rw [if_pos hkst,e,hdo]; exact hok
   ·rename_i hw
    rw [if_neg hw] at hs1
    exact absurd hkst hs1.1
  | some d =>
   rw [hdo] at hdk
   dsimp only at hdk
   simp only [Bool.and_eq_true,decide_eq_true_eq,bne_iff_ne] at hdk
   have hkst : k ≠ st := hdk.1.2
   have hdn : d < a.tmps.size := by rw [hs,hn]; exact hdk.1.1
   have hdst : dstOf ops k = some d := by simp [dstOf,ho,hdo]
   split
   ·rename_i hw
    rw [if_pos hw] at hs1
    refine Oper.wp_mono ?_ hs1
    rintro a' w' ⟨v,e,hb,hok⟩
    rw [if_neg hkst] at hok
    refine ⟨v,e.trans (by rw [hdo]),hb,?_⟩
    unfold InvX
    rw [if_neg hkst,hdst]
    show (sh k).ok (sl a' d) w'
    rw [e,hdo,put_same _ _ _ hdn]; exact hok
   ·rename_i hw
    rw [if_neg hw] at hs1
    refine ⟨?_,?_⟩
    ·unfold RX; rw [if_neg hkst]; exact Below.refl _ _
    ·unfold InvX
     rw [if_neg hkst,hdst]
     show (sh k).ok (sl (a.put (some d) undef) d) w
     rw [put_same _ _ _ hdn]; exact hs1.2
theorem stepX_below {B X : Nat} {W w w' : World} (hE : Below B W w) (h : StepX B X w w') (hB : B ≤ W.heap.size) : Below B W w' :=
 hE.trans ⟨h.os,h.tape,h.output,h.size,fun k hk => h.keep k (by have := hE.size; omega) (.inl hk)⟩
theorem wp_region_boxed {P : Program} {ops : Array Oper} {Q : Exit → Act → World → Prop} {id : Nat} {a0 : Act} {w0 : World} (X : Nat) (sh : Nat → ShX w0.heap.size X) (st t : Nat) (s : ShX w0.heap.size X) (n : Nat) (hn : a0.tmps.size = n) (hm : P.follows .mixedOrders = true) (hback : backB ops = true) (hdist : distB ops = true) (hdsts : dstsX ops n st t = true)
  (each : EachX P ops Q a0 w0 w0.heap.size X sh st t s ops.toList 0)
  (fin : ∀ a w,Below w0.heap.size w0 w → a.tmps.size = a0.tmps.size → a.defers = a0.defers → (∀ j,j < ops.size → InvX ops w0.heap.size X sh st t s j (sl a) w) → (∀ u,(ops.toList.all fun o => o.dst != some u) = true → sl a u = sl a0 u) → Q .normal a w) :
  (Code.region id ops true).wp P Q a0 w0 := by
 refine wp_region_each hm hback (fun W w => Below w0.heap.size W w) (RX w0.heap.size X st) (InvX ops w0.heap.size X sh st t s) (Below.refl _ _) ?_ ?_ (eachX_of (W0 := w0) hn hdsts ops.toList 0 (fun j o hj => by simpa using hj) each) (fun a w hE hs hd hI ht => fin a w ⟨hE.os,hE.tape,hE.output,hE.size,hE.block⟩ hs hd hI ht)
 ·intro i w w' h hR
  unfold RX at hR
  split at hR
  ·exact stepX_below h hR (Nat.le_refl _)
  ·exact h.trans (hR.mono h.size)
 intro i j oi oj σ σ' w w' hij hoi hoj _ hI hR hσ _ hord
 have hi' : i < ops.size := (Array.getElem?_eq_some_iff.1 hoi).1
 have hj' : j < ops.size := (Array.getElem?_eq_some_iff.1 hoj).1
 have hdi := List.all_eq_true.1 hdsts i (List.mem_range.2 hi')
 rw [hoi] at hdi
 dsimp only at hdi
 unfold InvX at hI ⊢
 by_cases hjs : j = st
 ·rw [if_pos hjs] at hI ⊢
  obtain ⟨b,cs,hb,hBb,hh,hok⟩ := hI
  have his : i ≠ st := fun e => hij (e.trans hjs.symm)
  unfold RX at hR
  rw [if_neg his] at hR
  have hne : oi.dst ≠ some t := by
   intro e
   rw [e] at hdi
   dsimp only at hdi
   simp only [Bool.and_eq_true,decide_eq_true_eq,bne_self_eq_false,Bool.false_or] at hdi
   have h2 := hdi.2
   rw [← hjs,hoj] at h2
   exact hord t e (by simpa using h2)
  exact ⟨b,cs,by rw [hσ t hne]; exact hb,hBb,(hR.block b (lt_of_block hh)).trans hh,s.keep _ _ _ hok hR⟩
 ·rw [if_neg hjs] at hI ⊢
  cases hdj : dstOf ops j with
  | none => trivial
  | some d =>
   rw [hdj] at hI
   show (sh j).ok (σ' d) w'
   have hne : oi.dst ≠ some d := by
    intro e
    have := List.all_eq_true.1 (List.all_eq_true.1 hdist i (List.mem_range.2 hi')) j (List.mem_range.2 hj')
    rw [hoi,hoj] at this
    have hdj' : oj.dst = some d := by simpa [dstOf,hoj] using hdj
    simp [e,hdj',hij] at this
   rw [hσ d hne]
   unfold RX at hR
   by_cases his : i = st
   ·rw [if_pos his] at hR; exact (sh j).step _ _ _ hI hR
   ·rw [if_neg his] at hR; exact (sh j).keep _ _ _ hI hR
end Go.By
namespace Go.By
open Go.RowKit
theorem putAll_size (a : Act) : ∀ (ws : List Nat) (b : Act),(ws.foldl (fun b t => b.put (some t) (sl a t)) b).tmps.size = b.tmps.size := by
 intro ws
 induction ws with
 | nil => intro b; rfl
 | cons t ws ih => intro b; rw [List.foldl_cons,ih]; simp [Act.put]
theorem putAll_sl (a : Act) : ∀ (ws : List Nat) (b : Act) (n : Nat),a.tmps.size = n → b.tmps.size = n → (∀ t,t < n → t ∉ ws → sl b t = sl a t) → ∀ t,t < n → sl (ws.foldl (fun b t => b.put (some t) (sl a t)) b) t = sl a t := by
 intro ws
 induction ws with
 | nil => intro b n ha hb h t ht; exact h t ht (by simp)
 | cons u ws ih =>
  intro b n ha hb h t ht
  rw [List.foldl_cons]
  refine ih _ n ha (by simp [Act.put,hb]) ?_ t ht
  intro s hs hn
  by_cases e : s = u
  ·subst e; exact put_same _ _ _ (by rw [hb]; exact hs)
  ·have h1 := h s hs (by simp [e,hn])
   rw [← h1]
   simp [sl,Act.put,Array.getD_eq_getD_getElem?,Array.getElem?_setIfInBounds,show ¬ u = s from fun h => e h.symm]
theorem putAll_defers (a : Act) : ∀ (ws : List Nat) (b : Act),(ws.foldl (fun b t => b.put (some t) (sl a t)) b).defers = b.defers := by
 intro ws
 induction ws with
 | nil => intro b; rfl
 | cons t ws ih => intro b; rw [List.foldl_cons,ih]; rfl
theorem act_is {ops : Array Oper} {a a0 : Act} (ws : List Nat) (hs : a.tmps.size = a0.tmps.size) (hd : a.defers = a0.defers) (hrest : ∀ t,(ops.toList.all fun o => o.dst != some t) = true → sl a t = sl a0 t)
  (hws : (ops.toList.all fun o => match o.dst with | some t => ws.contains t | none => true) = true) : a = ws.foldl (fun b t => b.put (some t) (sl a t)) a0 := by
 have key := putAll_sl a ws a0 a.tmps.size rfl hs.symm (by
  intro t _ hn
  refine (hrest t ?_).symm
  refine List.all_eq_true.2 fun o ho => ?_
  have := List.all_eq_true.1 hws o ho
  cases hdo : o.dst with
  | none => simp
  | some u =>
   rw [hdo] at this
   have hu : u ∈ ws := by simpa using this
   have : u ≠ t := fun e => hn (e ▸ hu)
   simpa using this)
 have h1 := putAll_size a ws a0
 have h2 := putAll_defers a ws a0
 generalize ws.foldl (fun b t => b.put (some t) (sl a t)) a0 = b at key h1 h2
 obtain ⟨ta,da⟩ := a
 obtain ⟨tb,db⟩ := b
 simp only at h1 h2 hd key hs
 have e1 : ta = tb := by
  refine Array.ext (by omega) fun i hi hj => ?_
  have := key i hi
  simpa [sl,Array.getD_eq_getD_getElem?,hi,hj] using this.symm
 rw [e1,hd,h2]
theorem eval_tmp (a : Act) (t : Nat) : a.eval (.tmp t) = sl a t := rfl
theorem eval_const (a : Act) (v : Value) : a.eval (.const v) = v := rfl
theorem eval_func (a : Act) (f : FuncId) : a.eval (.func f) = .func (.func f) #[] #[] := rfl
theorem undrew {w W : World} (h : Below w.drew.heap.size w.drew W) : Below w.heap.size w W := ⟨h.os,h.tape,h.output,h.size,h.block⟩
theorem cells2 {w : World} {b T : Nat} {u v : Value} (h : w.heap[b]? = some (.cells #[u,v] T (0,0))) : w.cell? ⟨b,0,none⟩ = some u ∧ w.cell? ⟨b,1,none⟩ = some v :=
 ⟨cell_of_row _ _ 0 _ _ _ h,cell_of_row _ _ 1 _ _ _ h⟩
theorem XRow.of_owns {B X base e : Nat} {w : World} {r : List UInt8 × List UInt8} {q1 q2 : Option Addr} {m1 k1 m2 k2 : Nat} (he : e ≠ X) (h1 : w.ownsRow base e 1 (.slice q1 m1 k1) m1 (r.1.map B8)) (h2 : w.ownsRow base e 1 (.slice q2 m2 k2) m2 (r.2.map B8)) :
  XRow B X r (.agg #[.slice q1 m1 k1,.slice q2 m2 k2]) w := ⟨q1,m1,k1,q2,m2,k2,rfl,⟨Sl.of_owns h1,Away.own h1 he⟩,⟨Sl.of_owns h2,Away.own h2 he⟩⟩
theorem stepX_cell {B X b i : Nat} {w : World} {cs : Array Value} {v : Value} (hb : B ≤ b) (h : w.heap[b]? = some (.cells cs X (0,0))) : StepX B X w (w.setCell ⟨b,i,none⟩ v) := by
 refine ⟨rfl,rfl,rfl,by simp [World.setCell],?_,?_⟩
 ·intro k hk hp
  refine Below.heap_setCell _ _ _ _ fun e => ?_
  have e : k = b := e
  subst e
  rcases hp with hp | hp
  ·omega
  ·exact hp _ _ h
 ·intro k cs1 h1
  by_cases e : k = b
  ·subst e
   rw [h] at h1; cases h1
   exact ⟨cs.setIfInBounds i v,by simp,hss h⟩
  ·exact ⟨cs1,rfl,hsc h1 e⟩
theorem StepX.trans {B X : Nat} {w1 w2 w3 : World} (h : StepX B X w1 w2) (g : StepX B X w2 w3) : StepX B X w1 w3 := by
 refine ⟨g.os.trans h.os,g.tape.trans h.tape,g.output.trans h.output,Nat.le_trans h.size g.size,?_,?_⟩
 ·intro k hk hp
  have h1 := h.keep k hk hp
  rw [g.keep k (by have := h.size; omega) (by rcases hp with hp | hp; exact .inl hp; exact .inr (by rw [h1]; exact hp)),h1]
 ·intro k cs hc
  obtain ⟨c1,e1,h1⟩ := h.cells k cs hc
  obtain ⟨c2,e2,h2⟩ := g.cells k c1 h1
  exact ⟨c2,e2.trans e1,h2⟩
theorem stepX_set2 {B X b : Nat} {w : World} {u0 u1 v0 v1 : Value} (hb : B ≤ b) (h : w.heap[b]? = some (.cells #[u0,u1] X (0,0))) : StepX B X w ((w.setCell ⟨b,0,none⟩ v0).setCell ⟨b,1,none⟩ v1) :=
 (stepX_cell hb h).trans (stepX_cell hb (hss h))
theorem heap_set2 {X b : Nat} {w : World} {u0 u1 v0 v1 : Value} (h : w.heap[b]? = some (.cells #[u0,u1] X (0,0))) : ((w.setCell ⟨b,0,none⟩ v0).setCell ⟨b,1,none⟩ v1).heap[b]? = some (.cells #[v0,v1] X (0,0)) := hss (hss h)
theorem wp_skipX {P : Program} {o : Oper} {a : Act} {w w' : World} {K : Act → World → Prop} {Q : Exit → Act → World → Prop} (hrun : (execOp a.eval o).run P w = .ok .skip w') (h : K (a.put o.dst undef) w') : o.wp P a w K Q := by
 unfold Oper.wp; rw [hrun]; exact h
theorem ite_n {c : Prop} [Decidable c] {A B : Prop} (hc : ¬ c) (h : B) : if c then A else B := by rw [if_neg hc]; exact h
theorem wanted_no {ops : Array Oper} {o : Oper} {a : Act} {j : Nat} {b c : Bool} {d : Nat} (hg : o.guard = some (j,b)) (hd : dstOf ops j = some d) (hs : d < a.tmps.size) (hv : sl a d = .bool c) (hn : c ≠ b) : ¬ Region.wanted o (yielded ops a.tmps) = true := by
 have h1 : a.tmps[d]? = some (.bool c) := by
  have := hv
  simp only [sl,Array.getD_eq_getD_getElem?,Array.getElem?_eq_getElem hs,Option.getD_some] at this
  rw [Array.getElem?_eq_getElem hs,this]
 unfold dstOf at hd
 simp [Region.wanted,hg,yielded,hd,h1,hn]
theorem size2 {cs : Array Value} (h : cs.size = 2) : ∃ u v,cs = #[u,v] := by
 obtain ⟨l⟩ := cs
 match l,h with
 | [u,v],_ => exact ⟨u,v,rfl⟩
end Go.By
namespace Go.By
open Go.RowKit
theorem blk_lt {w : World} {b : Nat} {o : Obj} (h : w.heap[b]? = some o) : b < w.heap.size := (Array.getElem?_eq_some_iff.1 h).1
end Go.By
namespace Go.By
open Go.RowKit
theorem wpAny_done {P : Program} {ops : Array Oper} {Q : Exit → Act → World → Prop} {listed : Array Bool} {a : Act} {w : World} (fuel : Nat) (hall : ∀ j,j < ops.size → listed.getD j true = true) (h : Q .normal a w) : wpAny P .any ops Q fuel listed a w := by
 have hr : Region.ready .any ops listed = [] := by
  rw [List.eq_nil_iff_forall_not_mem]
  intro i hi
  obtain ⟨h1,h2,_⟩ := mem_ready.1 hi
  rw [hall i h1] at h2; cases h2
 cases fuel with
 | zero => exact ⟨hr,h⟩
 | succ n => exact ⟨fun _ => h,fun i hi => by rw [hr] at hi; simp at hi⟩
def lastB (ops : Array Oper) (m : Nat) : Bool := decide (ops.size = m + 1) && (match ops[m]? with
 | some o => o.guard.isNone
 | none => false) && (List.range m).all fun i => (List.range (m + 1)).any fun j => decide (i < j) && match ops[j]? with
 | some o => (preds o).contains i
 | none => false
theorem wp_region_last {P : Program} {ops : Array Oper} {Q : Exit → Act → World → Prop} {id : Nat} {a0 : Act} {w0 : World} (sh : Nat → Shp) (n m : Nat) (hn : a0.tmps.size = n) (hm : P.follows .mixedOrders = true) (hback : backB ops = true) (hdist : distB ops = true)
  (hlast : lastB ops m = true) (hdsts : dstsB (ops.extract 0 m) n = true)
  (each : EachS P ops Q a0 w0.drew sh (ops.toList.take m) 0)
  (fin : ∀ a w o,ops[m]? = some o → Below w0.heap.size w0 w → a.tmps.size = a0.tmps.size → a.defers = a0.defers → (∀ j,j < m → InvS ops sh j (sl a) w) → (∀ t,(ops.toList.all fun o => o.dst != some t) = true → sl a t = sl a0 t) → o.wp P a w (fun a' w' => Q .normal a' w') Q) :
  (Code.region id ops true).wp P Q a0 w0 := by
 unfold lastB at hlast
 rw [Bool.and_eq_true,Bool.and_eq_true] at hlast
 have hsz : ops.size = m + 1 := of_decide_eq_true hlast.1.1
 have hm' : m < ops.size := by omega
 obtain ⟨ol,hol⟩ : ∃ ol,ops[m]? = some ol := ⟨_,Array.getElem?_eq_getElem hm'⟩
 have hl2 := hlast.1.2
 rw [hol] at hl2
 have hguard : ol.guard = none := by cases hg : ol.guard <;> simp [hg] at hl2 ⊢
 have hpl : ∀ i,i < m → ∃ j o,i < j ∧ j ≤ m ∧ ops[j]? = some o ∧ i ∈ preds o := fun i hi => by
  obtain ⟨j,hj,h⟩ := List.any_eq_true.1 (List.all_eq_true.1 hlast.2 i (List.mem_range.2 hi))
  have hjm := List.mem_range.1 hj
  rw [Bool.and_eq_true] at h
  obtain ⟨oj,hoj⟩ : ∃ oj,ops[j]? = some oj := ⟨_,Array.getElem?_eq_getElem (by omega)⟩
  have h2 := h.2
  rw [hoj] at h2
  exact ⟨j,oj,of_decide_eq_true h.1,by omega,hoj,by simpa using h2⟩
 have hE := each_of (Q := Q) (P := P) (a0 := a0) (W0 := w0.drew) (sh := sh) hn (ops.toList.take m) 0 (fun j o hj => by
   rw [List.getElem?_take] at hj; split at hj
   ·simpa using hj
   ·cases hj) (by
   unfold dstsB at hdsts
   have e : (ops.extract 0 m).toList = ops.toList.take m := by simp
   rw [e] at hdsts; exact hdsts) each
 have stepAt : ∀ i o,i < m → ops[i]? = some o → StepOf P ops Q a0 w0.drew (fun W w => Below W.heap.size W w) (fun _ w w' => Below w.heap.size w w') (InvS ops sh) i o := fun i o hi ho => by
  have := Each.get _ 0 hE i o (by rw [List.getElem?_take,if_pos hi]; simpa using ho)
  rwa [Nat.zero_add] at this
 have stable : ∀ i j oi oj (σ σ' : Nat → Value) w w',i ≠ j → ops[i]? = some oi → ops[j]? = some oj → InvS ops sh j σ w → Below w.heap.size w w' → (∀ t,oi.dst ≠ some t → σ' t = σ t) → InvS ops sh j σ' w' := by
  intro i j oi oj σ σ' w w' hij hoi hoj hI hR hσ
  unfold InvS at hI ⊢
  cases hdj : dstOf ops j with
  | none => trivial
  | some d =>
   rw [hdj] at hI
   show (sh j).ok (σ' d) w'
   have hne : oi.dst ≠ some d := by
    intro e
    have hi' : i < ops.size := (Array.getElem?_eq_some_iff.1 hoi).1
    have hj' : j < ops.size := (Array.getElem?_eq_some_iff.1 hoj).1
    have := List.all_eq_true.1 (List.all_eq_true.1 hdist i (List.mem_range.2 hi')) j (List.mem_range.2 hj')
    rw [hoi,hoj] at this
    have hdj' : oj.dst = some d := by simpa [dstOf,hoj] using hdj
    simp [e,hdj',hij] at this
   rw [hσ d hne]
   exact (sh j).keep _ _ _ hI hR
 refine wp_region_any hm ?_
 show wpAny P .any ops Q ops.size (Array.replicate ops.size false) a0 w0.drew
 have main : ∀ (fuel : Nat) (listed : Array Bool) (a : Act) (w : World),unl ops.size listed ≤ fuel → listed.getD m true = false → Below w0.heap.size w0 w → a.tmps.size = a0.tmps.size → a.defers = a0.defers →
   (∀ j o,listed.getD j false = true → ops[j]? = some o → ∀ k,k ∈ preds o → listed.getD k false = true) →
   (∀ j,j < ops.size → listed.getD j true = true → listed.getD j false = true) →
   (∀ j,j < m → listed.getD j false = true → InvS ops sh j (sl a) w) →
   (∀ t,(∀ j o,j < m → listed.getD j false = true → ops[j]? = some o → o.dst ≠ some t) → sl a t = sl a0 t) → wpAny P .any ops Q fuel listed a w := by
  intro fuel
  induction fuel with
  | zero =>
   intro listed a w hu hlm
   exfalso
   have h0 : unl ops.size listed = 0 := by omega
   unfold unl at h0
   have := List.countP_eq_zero.1 h0 m (List.mem_range.2 hm')
   simp [hlm] at this
  | succ fuel ih =>
   intro listed a w hu hlm hEw hs hd hcl hlt hI ht
   refine ⟨fun hr => ?_,fun i hi => ?_⟩
   ·exfalso
    have hall : ∀ k j,j < k → j < ops.size → listed.getD j false = true := by
     intro k
     induction k with
     | zero => intro j hj; omega
     | succ k ihk =>
      intro j hj hjs
      refine hlt j hjs ?_
      cases hb : listed.getD j true with
      | true => rfl
      | false =>
       exfalso
       have ho : ops[j]? = some ops[j] := Array.getElem?_eq_getElem hjs
       have : j ∈ Region.ready .any ops listed := mem_ready.2 ⟨hjs,hb,_,ho,fun q hq => by
        have hbk := List.all_eq_true.1 hback j (List.mem_range.2 hjs)
        rw [ho] at hbk
        have hkj := of_decide_eq_true (List.all_eq_true.1 hbk q hq)
        exact ihk q (by omega) (by omega)⟩
       rw [hr] at this; cases this
    have hx := hall (m + 1) m (by omega) hm'
    rcases Nat.lt_or_ge m listed.size with h | h
    ·simp [Array.getD_eq_getD_getElem?,h] at hlm hx; rw [hlm] at hx; cases hx
    ·simp [Array.getD_eq_getD_getElem?,Array.getElem?_eq_none h] at hx
   ·obtain ⟨h1,h2,o,ho,h3⟩ := mem_ready.1 hi
    have hnl : listed.getD i false ≠ true := by
     intro hx
     rcases Nat.lt_or_ge i listed.size with h | h
     ·simp [Array.getD_eq_getD_getElem?,h] at h2 hx; rw [h2] at hx; cases hx
     ·simp [Array.getD_eq_getD_getElem?,Array.getElem?_eq_none h] at hx
    have his : i < listed.size := by
     rcases Nat.lt_or_ge i listed.size with h | h
     ·exact h
     ·simp [Array.getD_eq_getD_getElem?,Array.getElem?_eq_none h] at h2
    have gset : ∀ j (d : Bool),(listed.setIfInBounds i true).getD j d = if i = j then true else listed.getD j d := by
     intro j d
     simp only [Array.getD_eq_getD_getElem?,Array.getElem?_setIfInBounds]
     by_cases e : i = j
     ·subst e; simp [his]
     ·simp [e]
    by_cases him : i = m
    ·subst him
     rw [hol] at ho; cases ho
     have hdown : ∀ d j,i - j ≤ d → j < i → listed.getD j false = true := by
      intro d
      induction d with
      | zero => intro j h4 h5; omega
      | succ d ihd =>
       intro j h4 h5
       obtain ⟨j2,o2,g1,g2,g3,g4⟩ := hpl j h5
       by_cases e : j2 = i
       ·subst e; rw [hol] at g3; cases g3; exact h3 j g4
       ·exact hcl j2 o2 (ihd j2 (by omega) (by omega)) g3 j g4
     have hdn : ∀ j,j < i → listed.getD j false = true := fun j hj => hdown i j (by omega) hj
     have hf := fin a w ol hol hEw hs hd (fun j hj => hI j hj (hdn j hj)) (fun t htt => ht t (fun j oj hj _ hoj => by
      have := List.all_eq_true.1 htt oj (by rw [Array.mem_toList_iff]; exact Array.mem_of_getElem? hoj)
      simpa using this))
     unfold wpOp
     rw [hol]
     show if Region.wanted ol (yielded ops a.tmps) = true then _ else _
     rw [if_pos (by simp [Region.wanted,hguard])]
     refine .inl (Oper.wp_mono (fun a' w' hq => wpAny_done _ (fun j hj => ?_) hq) hf)
     rw [gset]
     by_cases e : i = j
     ·rw [if_pos e]
     ·rw [if_neg e]
      have hjl := hdn j (by omega)
      rcases Nat.lt_or_ge j listed.size with h | h
      ·simp [Array.getD_eq_getD_getElem?,h] at hjl ⊢; exact hjl
      ·simp [Array.getD_eq_getD_getElem?,Array.getElem?_eq_none h]
    ·have him' : i < m := by omega
     have hst := stepAt i o him' ho
     have hst' := hst a w ⟨hEw.os,hEw.tape,hEw.output,hEw.size,hEw.block⟩ hs (fun k hk => hI k (by
       have hbk := List.all_eq_true.1 hback i (List.mem_range.2 h1)
       rw [ho] at hbk
       have := of_decide_eq_true (List.all_eq_true.1 hbk k hk); omega) (h3 k hk)) (fun t hti => by
      refine ht t (fun j oj hj hlj hoj hdj => ?_)
      have := List.all_eq_true.1 hti j (List.mem_range.2 (by omega))
      rw [hoj] at this
      by_cases e : j = i
      ·subst e; exact hnl hlj
      ·simp [e,hdj] at this
       exact hnl (hcl j oj hlj hoj i this))
     have next : ∀ (v : Value) (w' : World),Below w.heap.size w w' → InvS ops sh i (sl (a.put o.dst v)) w' → wpAny P .any ops Q fuel (listed.setIfInBounds i true) (a.put o.dst v) w' := by
      intro v w' hR hIi
      refine ih _ _ _ (by have := unl_set (n := ops.size) h1 h2; omega) (by rw [gset,if_neg him]; exact hlm) (hEw.trans (hR.mono hEw.size)) ((put_size _ _ _).trans hs) ((put_defers _ _ _).trans hd) ?_ ?_ ?_ ?_
      ·intro j oj hj hoj k hk
       rw [gset] at hj ⊢
       by_cases e : i = k
       ·rw [if_pos e]
       ·rw [if_neg e]
        by_cases e' : i = j
        ·subst e'; rw [ho] at hoj; cases hoj; exact h3 k hk
        ·rw [if_neg e'] at hj; exact hcl j oj hj hoj k hk
      ·intro j hj hl
       rw [gset] at hl ⊢
       by_cases e : i = j
       ·rw [if_pos e]
       ·rw [if_neg e] at hl ⊢; exact hlt j hj hl
      ·intro j hj hl
       rw [gset] at hl
       by_cases e : i = j
       ·subst e; exact hIi
       ·rw [if_neg e] at hl
        have hoj : ops[j]? = some ops[j] := Array.getElem?_eq_getElem (by omega)
        exact stable i j o _ (sl a) _ w w' e ho hoj (hI j hj hl) hR (fun t h => put_sl _ _ _ _ h)
      ·intro t htt
       have hdt : o.dst ≠ some t := htt i o him' (by rw [gset,if_pos rfl]) ho
       rw [put_sl _ _ _ _ hdt]
       exact ht t (fun j oj hj hl hoj => htt j oj hj (by rw [gset]; split <;> simp [hl]) hoj)
     unfold wpOp
     rw [ho]
     show if Region.wanted o (yielded ops a.tmps) = true then _ else _
     split
     ·rename_i hw
      rw [if_pos hw] at hst'
      exact .inl (Oper.wp_mono (fun a' w' ⟨v,e,hR,hIi⟩ => by rw [e] at hIi ⊢; exact next v w' hR hIi) hst')
     ·rename_i hw
      rw [if_neg hw] at hst'
      exact next undef w hst'.1 hst'.2
 refine main ops.size _ a0 w0.drew ?_ ?_ ⟨rfl,rfl,rfl,Nat.le_refl _,fun _ _ => rfl⟩ rfl rfl ?_ ?_ ?_ ?_
 ·unfold unl; exact Nat.le_trans List.countP_le_length (by simp)
 ·simp [Array.getD_eq_getD_getElem?,Array.getElem?_replicate,hm']
 ·intro j o hj; simp [Array.getD_eq_getD_getElem?,Array.getElem?_replicate] at hj
  split at hj <;> simp at hj
 ·intro j hj hl; simp [Array.getD_eq_getD_getElem?,Array.getElem?_replicate,hj] at hl
 ·intro j hj hl; simp [Array.getD_eq_getD_getElem?,Array.getElem?_replicate,show j < ops.size by omega] at hl
 ·intro t _; rfl
theorem wp_skip_none {P : Program} {o : Oper} {a : Act} {w w' : World} {K : Act → World → Prop} {Q : Exit → Act → World → Prop} (hd : o.dst = none) (hrun : (execOp a.eval o).run P w = .ok .skip w') (h : K a w') : o.wp P a w K Q :=
 wp_skipX hrun (by rw [hd]; exact h)
end Go.By
namespace Go.By
open Go.RowKit
def tailB (ops : Array Oper) (m : Nat) : Bool := decide (m < ops.size) && ((List.range m).all fun i => (List.range (m + 1)).any fun j => decide (i < j) && match ops[j]? with
 | some o => (preds o).contains i
 | none => false) && (List.range ops.size).all fun j => !decide (m < j) || match ops[j]? with
 | some o => (preds o).contains (j - 1)
 | none => false
theorem wpOp_of_list {P : Program} {ops : Array Oper} {Q : Exit → Act → World → Prop} {k : Nat} {a : Act} {w : World} {K : Act → World → Prop} (hk : k < ops.size) (h : wpList P ops Q (ops.toList.drop k) a w) (hK : ∀ a w,wpList P ops Q (ops.toList.drop (k + 1)) a w → K a w) : wpOp P ops Q k K a w := by
 have e : ops.toList.drop k = ops[k] :: ops.toList.drop (k + 1) := by
  rw [List.drop_eq_getElem_cons (by simpa using hk)]; simp
 rw [e] at h
 unfold wpOp
 rw [Array.getElem?_eq_getElem hk]
 show if Region.wanted ops[k] (yielded ops a.tmps) = true then _ else _
 unfold wpList at h
 split at h
 ·rename_i hw; rw [if_pos hw]; exact h.imp (Oper.wp_mono hK) id
 ·rename_i hw; rw [if_neg hw]; exact hK _ _ h
theorem getD_both {listed : Array Bool} {i : Nat} (h2 : listed.getD i true = false) : listed.getD i false ≠ true ∧ i < listed.size := by
 rcases Nat.lt_or_ge i listed.size with h | h
 ·refine ⟨fun hx => ?_,h⟩
  simp [Array.getD_eq_getD_getElem?,h] at h2 hx; rw [h2] at hx; cases hx
 ·simp [Array.getD_eq_getD_getElem?,Array.getElem?_eq_none h] at h2
theorem wpAny_tail {P : Program} {ops : Array Oper} {Q : Exit → Act → World → Prop} {m : Nat} (hback : backB ops = true)
  (hchain : ∀ j o,m < j → ops[j]? = some o → (preds o).contains (j - 1) = true) :
  ∀ (fuel k : Nat) (listed : Array Bool) (a : Act) (w : World),m ≤ k → unl ops.size listed ≤ fuel → (∀ j,j < k → j < ops.size → listed.getD j false = true ∧ listed.getD j true = true) → (∀ j,k ≤ j → j < ops.size → listed.getD j true = false) →
   wpList P ops Q (ops.toList.drop k) a w → wpAny P .any ops Q fuel listed a w := by
 intro fuel
 induction fuel with
 | zero =>
  intro k listed a w hmk hu hlo hhi h
  rcases Nat.lt_or_ge k ops.size with hk | hk
  ·exfalso
   have h0 : unl ops.size listed = 0 := by omega
   unfold unl at h0
   have := List.countP_eq_zero.1 h0 k (List.mem_range.2 hk)
   simp [hhi k (Nat.le_refl _) hk] at this
  ·rw [List.drop_eq_nil_of_le (by simpa using hk)] at h
   exact wpAny_done _ (fun j hj => (hlo j (by omega) hj).2) h
 | succ fuel ih =>
  intro k listed a w hmk hu hlo hhi h
  rcases Nat.lt_or_ge k ops.size with hk | hk
  ·refine ⟨fun hr => ?_,fun i hi => ?_⟩
   ·exfalso
    have : k ∈ Region.ready .any ops listed := mem_ready.2 ⟨hk,hhi k (Nat.le_refl _) hk,_,Array.getElem?_eq_getElem hk,fun q hq => by
     have hbk := List.all_eq_true.1 hback k (List.mem_range.2 hk)
     rw [Array.getElem?_eq_getElem hk] at hbk
     have hkj := of_decide_eq_true (List.all_eq_true.1 hbk q hq)
     exact (hlo q (by omega) (by omega)).1⟩
    rw [hr] at this; cases this
   ·obtain ⟨h1,h2,o,ho,h3⟩ := mem_ready.1 hi
    obtain ⟨hnl,his⟩ := getD_both h2
    have hki : k ≤ i := by
     rcases Nat.lt_or_ge i k with hx | hx
     ·exact absurd (hlo i hx h1).1 hnl
     ·exact hx
    have hik : i = k := by
     rcases Nat.eq_or_lt_of_le hki with hx | hx
     ·exact hx.symm
     ·exfalso
      have := h3 (i - 1) (by simpa using hchain i o (by omega) ho)
      have h5 := hhi (i - 1) (by omega) (by omega)
      exact (getD_both h5).1 this
    subst hik
    have gset : ∀ j (d : Bool),(listed.setIfInBounds i true).getD j d = if i = j then true else listed.getD j d := by
     intro j d
     simp only [Array.getD_eq_getD_getElem?,Array.getElem?_setIfInBounds]
     by_cases e : i = j
     ·subst e; simp [his]
     ·simp [e]
    refine wpOp_of_list h1 h fun a' w' h' => ih (i + 1) _ a' w' (by omega) (by have := unl_set (n := ops.size) h1 h2; omega) (fun j hj hjs => ?_) (fun j hj hjs => ?_) h'
    ·rw [gset,gset]
     by_cases e : i = j
     ·rw [if_pos e,if_pos e]; exact ⟨rfl,rfl⟩
     ·rw [if_neg e,if_neg e]; exact hlo j (by omega) hjs
    ·rw [gset,if_neg (by omega)]; exact hhi j (by omega) hjs
  ·rw [List.drop_eq_nil_of_le (by simpa using hk)] at h
   exact wpAny_done _ (fun j hj => (hlo j (by omega) hj).2) h
theorem wp_region_tail {P : Program} {ops : Array Oper} {Q : Exit → Act → World → Prop} {id : Nat} {a0 : Act} {w0 : World} (sh : Nat → Shp) (n m : Nat) (hn : a0.tmps.size = n) (hm : P.follows .mixedOrders = true) (hback : backB ops = true) (hdist : distB ops = true)
  (htail : tailB ops m = true) (hdsts : dstsB (ops.extract 0 m) n = true)
  (each : EachS P ops Q a0 w0.drew sh (ops.toList.take m) 0)
  (fin : ∀ a w,Below w0.heap.size w0 w → a.tmps.size = a0.tmps.size → a.defers = a0.defers → (∀ j,j < m → InvS ops sh j (sl a) w) → (∀ t,(ops.toList.all fun o => o.dst != some t) = true → sl a t = sl a0 t) → wpList P ops Q (ops.toList.drop m) a w) :
  (Code.region id ops true).wp P Q a0 w0 := by
 unfold tailB at htail
 simp only [Bool.and_eq_true,decide_eq_true_eq] at htail
 obtain ⟨⟨hm',htl⟩,hch⟩ := htail
 have hchain : ∀ j o,m < j → ops[j]? = some o → (preds o).contains (j - 1) = true := fun j o hj ho => by
  have := List.all_eq_true.1 hch j (List.mem_range.2 (Array.getElem?_eq_some_iff.1 ho).1)
  rw [ho] at this
  simpa [hj] using this
 have hpl : ∀ i,i < m → ∃ j o,i < j ∧ j ≤ m ∧ ops[j]? = some o ∧ i ∈ preds o := fun i hi => by
  obtain ⟨j,hj,h⟩ := List.any_eq_true.1 (List.all_eq_true.1 htl i (List.mem_range.2 hi))
  have hjm := List.mem_range.1 hj
  rw [Bool.and_eq_true] at h
  obtain ⟨oj,hoj⟩ : ∃ oj,ops[j]? = some oj := ⟨_,Array.getElem?_eq_getElem (by omega)⟩
  have h2 := h.2
  rw [hoj] at h2
  exact ⟨j,oj,of_decide_eq_true h.1,by omega,hoj,by simpa using h2⟩
 have hE := each_of (Q := Q) (P := P) (a0 := a0) (W0 := w0.drew) (sh := sh) hn (ops.toList.take m) 0 (fun j o hj => by
   rw [List.getElem?_take] at hj; split at hj
   ·simpa using hj
   ·cases hj) (by
   unfold dstsB at hdsts
   have e : (ops.extract 0 m).toList = ops.toList.take m := by simp
   rw [e] at hdsts; exact hdsts) each
 have stepAt : ∀ i o,i < m → ops[i]? = some o → StepOf P ops Q a0 w0.drew (fun W w => Below W.heap.size W w) (fun _ w w' => Below w.heap.size w w') (InvS ops sh) i o := fun i o hi ho => by
  have := Each.get _ 0 hE i o (by rw [List.getElem?_take,if_pos hi]; simpa using ho)
  rwa [Nat.zero_add] at this
 have stable : ∀ i j oi oj (σ σ' : Nat → Value) w w',i ≠ j → ops[i]? = some oi → ops[j]? = some oj → InvS ops sh j σ w → Below w.heap.size w w' → (∀ t,oi.dst ≠ some t → σ' t = σ t) → InvS ops sh j σ' w' := by
  intro i j oi oj σ σ' w w' hij hoi hoj hI hR hσ
  unfold InvS at hI ⊢
  cases hdj : dstOf ops j with
  | none => trivial
  | some d =>
   rw [hdj] at hI
   show (sh j).ok (σ' d) w'
   have hne : oi.dst ≠ some d := by
    intro e
    have hi' : i < ops.size := (Array.getElem?_eq_some_iff.1 hoi).1
    have hj' : j < ops.size := (Array.getElem?_eq_some_iff.1 hoj).1
    have := List.all_eq_true.1 (List.all_eq_true.1 hdist i (List.mem_range.2 hi')) j (List.mem_range.2 hj')
    rw [hoi,hoj] at this
    have hdj' : oj.dst = some d := by simpa [dstOf,hoj] using hdj
    simp [e,hdj',hij] at this
   rw [hσ d hne]
   exact (sh j).keep _ _ _ hI hR
 refine wp_region_any hm ?_
 show wpAny P .any ops Q ops.size (Array.replicate ops.size false) a0 w0.drew
 have main : ∀ (fuel : Nat) (listed : Array Bool) (a : Act) (w : World),unl ops.size listed ≤ fuel → listed.getD m true = false → Below w0.heap.size w0 w → a.tmps.size = a0.tmps.size → a.defers = a0.defers →
   (∀ j o,listed.getD j false = true → ops[j]? = some o → ∀ k,k ∈ preds o → listed.getD k false = true) →
   (∀ j,j < ops.size → listed.getD j true = true → listed.getD j false = true) →
   (∀ j,j < m → listed.getD j false = true → InvS ops sh j (sl a) w) →
   (∀ t,(∀ j o,j < m → listed.getD j false = true → ops[j]? = some o → o.dst ≠ some t) → sl a t = sl a0 t) → wpAny P .any ops Q fuel listed a w := by
  intro fuel
  induction fuel with
  | zero =>
   intro listed a w hu hlm
   exfalso
   have h0 : unl ops.size listed = 0 := by omega
   unfold unl at h0
   have := List.countP_eq_zero.1 h0 m (List.mem_range.2 hm')
   simp [hlm] at this
  | succ fuel ih =>
   intro listed a w hu hlm hEw hs hd hcl hlt hI ht
   have hup : ∀ d j,j = m + d → j < ops.size → listed.getD j false = true → False := by
    intro d
    induction d with
    | zero => intro j e hj hl; rw [show j = m by omega] at hl; exact (getD_both hlm).1 hl
    | succ d ihd =>
     intro j e hj hl
     have hoj : ops[j]? = some ops[j] := Array.getElem?_eq_getElem hj
     exact ihd (j - 1) (by omega) (by omega) (hcl j _ hl hoj (j - 1) (by simpa using hchain j _ (by omega) hoj))
   refine ⟨fun hr => ?_,fun i hi => ?_⟩
   ·exfalso
    have hall : ∀ k j,j < k → j < ops.size → listed.getD j false = true := by
     intro k
     induction k with
     | zero => intro j hj; omega
     | succ k ihk =>
      intro j hj hjs
      refine hlt j hjs ?_
      cases hb : listed.getD j true with
      | true => rfl
      | false =>
       exfalso
       have ho : ops[j]? = some ops[j] := Array.getElem?_eq_getElem hjs
       have : j ∈ Region.ready .any ops listed := mem_ready.2 ⟨hjs,hb,_,ho,fun q hq => by
        have hbk := List.all_eq_true.1 hback j (List.mem_range.2 hjs)
        rw [ho] at hbk
        have hkj := of_decide_eq_true (List.all_eq_true.1 hbk q hq)
        exact ihk q (by omega) (by omega)⟩
       rw [hr] at this; cases this
    have hx := hall (m + 1) m (by omega) hm'
    rcases Nat.lt_or_ge m listed.size with h | h
    ·simp [Array.getD_eq_getD_getElem?,h] at hlm hx; rw [hlm] at hx; cases hx
    ·simp [Array.getD_eq_getD_getElem?,Array.getElem?_eq_none h] at hx
   ·obtain ⟨h1,h2,o,ho,h3⟩ := mem_ready.1 hi
    have hnl : listed.getD i false ≠ true := by
     intro hx
     rcases Nat.lt_or_ge i listed.size with h | h
     ·simp [Array.getD_eq_getD_getElem?,h] at h2 hx; rw [h2] at hx; cases hx
     ·simp [Array.getD_eq_getD_getElem?,Array.getElem?_eq_none h] at hx
    have his : i < listed.size := by
     rcases Nat.lt_or_ge i listed.size with h | h
     ·exact h
     ·simp [Array.getD_eq_getD_getElem?,Array.getElem?_eq_none h] at h2
    have gset : ∀ j (d : Bool),(listed.setIfInBounds i true).getD j d = if i = j then true else listed.getD j d := by
     intro j d
     simp only [Array.getD_eq_getD_getElem?,Array.getElem?_setIfInBounds]
     by_cases e : i = j
     ·subst e; simp [his]
     ·simp [e]
    by_cases him : i = m
    ·subst him
     have hol : ops[i]? = some o := ho
     have hdown : ∀ d j,i - j ≤ d → j < i → listed.getD j false = true := by
      intro d
      induction d with
      | zero => intro j h4 h5; omega
      | succ d ihd =>
       intro j h4 h5
       obtain ⟨j2,o2,g1,g2,g3,g4⟩ := hpl j h5
       by_cases e : j2 = i
       ·subst e; rw [hol] at g3; cases g3; exact h3 j g4
       ·exact hcl j2 o2 (ihd j2 (by omega) (by omega)) g3 j g4
     have hdn : ∀ j,j < i → listed.getD j false = true := fun j hj => hdown i j (by omega) hj
     have hf := fin a w hEw hs hd (fun j hj => hI j hj (hdn j hj)) (fun t htt => ht t (fun j oj hj _ hoj => by
      have := List.all_eq_true.1 htt oj (by rw [Array.mem_toList_iff]; exact Array.mem_of_getElem? hoj)
      simpa using this))
     refine wpOp_of_list h1 hf fun a' w' h' => wpAny_tail (m := i) hback hchain fuel (i + 1) _ a' w' (by omega) (by have := unl_set (n := ops.size) h1 h2; omega) (fun j hj hjs => ?_) (fun j hj hjs => ?_) h'
     ·rw [gset,gset]
      by_cases e : i = j
      ·rw [if_pos e,if_pos e]; exact ⟨rfl,rfl⟩
      ·rw [if_neg e,if_neg e]
       have hjl := hdn j (by omega)
       refine ⟨hjl,?_⟩
       cases hb : listed.getD j true with
       | true => rfl
       | false => exact absurd hjl (getD_both hb).1
     ·rw [gset,if_neg (by omega)]
      cases hb : listed.getD j true with
      | false => rfl
      | true => exact (hup (j - i) j (by omega) hjs (hlt j hjs hb)).elim
    ·have him' : i < m := by
      rcases Nat.lt_or_ge i m with hx | hx
      ·exact hx
      ·exact (hup (i - 1 - m) (i - 1) (by omega) (by omega) (h3 (i - 1) (by simpa using hchain i o (by omega) ho))).elim
     have hst := stepAt i o him' ho
     have hst' := hst a w ⟨hEw.os,hEw.tape,hEw.output,hEw.size,hEw.block⟩ hs (fun k hk => hI k (by
       have hbk := List.all_eq_true.1 hback i (List.mem_range.2 h1)
       rw [ho] at hbk
       have := of_decide_eq_true (List.all_eq_true.1 hbk k hk); omega) (h3 k hk)) (fun t hti => by
      refine ht t (fun j oj hj hlj hoj hdj => ?_)
      have := List.all_eq_true.1 hti j (List.mem_range.2 (by omega))
      rw [hoj] at this
      by_cases e : j = i
      ·subst e; exact hnl hlj
      ·simp [e,hdj] at this
       exact hnl (hcl j oj hlj hoj i this))
     have next : ∀ (v : Value) (w' : World),Below w.heap.size w w' → InvS ops sh i (sl (a.put o.dst v)) w' → wpAny P .any ops Q fuel (listed.setIfInBounds i true) (a.put o.dst v) w' := by
      intro v w' hR hIi
      refine ih _ _ _ (by have := unl_set (n := ops.size) h1 h2; omega) (by rw [gset,if_neg him]; exact hlm) (hEw.trans (hR.mono hEw.size)) ((put_size _ _ _).trans hs) ((put_defers _ _ _).trans hd) ?_ ?_ ?_ ?_
      ·intro j oj hj hoj k hk
       rw [gset] at hj ⊢
       by_cases e : i = k
       ·rw [if_pos e]
       ·rw [if_neg e]
        by_cases e' : i = j
        ·subst e'; rw [ho] at hoj; cases hoj; exact h3 k hk
        ·rw [if_neg e'] at hj; exact hcl j oj hj hoj k hk
      ·intro j hj hl
       rw [gset] at hl ⊢
       by_cases e : i = j
       ·rw [if_pos e]
       ·rw [if_neg e] at hl ⊢; exact hlt j hj hl
      ·intro j hj hl
       rw [gset] at hl
       by_cases e : i = j
       ·subst e; exact hIi
       ·rw [if_neg e] at hl
        have hoj : ops[j]? = some ops[j] := Array.getElem?_eq_getElem (by omega)
        exact stable i j o _ (sl a) _ w w' e ho hoj (hI j hj hl) hR (fun t h => put_sl _ _ _ _ h)
      ·intro t htt
       have hdt : o.dst ≠ some t := htt i o him' (by rw [gset,if_pos rfl]) ho
       rw [put_sl _ _ _ _ hdt]
       exact ht t (fun j oj hj hl hoj => htt j oj hj (by rw [gset]; split <;> simp [hl]) hoj)
     unfold wpOp
     rw [ho]
     show if Region.wanted o (yielded ops a.tmps) = true then _ else _
     split
     ·rename_i hw
      rw [if_pos hw] at hst'
      exact .inl (Oper.wp_mono (fun a' w' ⟨v,e,hR,hIi⟩ => by rw [e] at hIi ⊢; exact next v w' hR hIi) hst')
     ·rename_i hw
      rw [if_neg hw] at hst'
      exact next undef w hst'.1 hst'.2
 refine main ops.size _ a0 w0.drew ?_ ?_ ⟨rfl,rfl,rfl,Nat.le_refl _,fun _ _ => rfl⟩ rfl rfl ?_ ?_ ?_ ?_
 ·unfold unl; exact Nat.le_trans List.countP_le_length (by simp)
 ·simp [Array.getD_eq_getD_getElem?,Array.getElem?_replicate,hm']
 ·intro j o hj; simp [Array.getD_eq_getD_getElem?,Array.getElem?_replicate] at hj
  split at hj <;> simp at hj
 ·intro j hj hl; simp [Array.getD_eq_getD_getElem?,Array.getElem?_replicate,hj] at hl
 ·intro j hj hl; simp [Array.getD_eq_getD_getElem?,Array.getElem?_replicate,show j < ops.size by omega] at hl
 ·intro t _; rfl
end Go.By
namespace Go.By
def crcBit (r : Nat) : Nat := if r % 2 = 1 then (r / 2) ^^^ 3988292384 else r / 2
def crcTab : List Nat := [0x00000000,0x1DB71064,0x3B6E20C8,0x26D930AC,0x76DC4190,0x6B6B51F4,0x4DB26158,0x5005713C,0xEDB88320,0xF00F9344,0xD6D6A3E8,0xCB61B38C,0x9B64C2B0,0x86D3D2D4,0xA00AE278,0xBDBDF21C]
def crcHalf (r : Nat) : Nat := (r / 16) ^^^ (crcTab.getD (r % 16) 0)
theorem xor_mod2 (a b : Nat) : (a ^^^ b) % 2 = (a + b) % 2 := by
 have h := Nat.xor_mod_two_pow (a := a) (b := b) (n := 1)
 rw [Nat.pow_one] at h
 rw [h]
 rcases Nat.mod_two_eq_zero_or_one a with ha | ha <;> rcases Nat.mod_two_eq_zero_or_one b with hb | hb <;> rw [ha,hb] <;> simp <;> omega
theorem xor_half2 (a b : Nat) : (a ^^^ b) / 2 = a / 2 ^^^ b / 2 := by
 have h := Nat.shiftRight_xor_distrib (a := a) (b := b) (i := 1)
 rw [Nat.shiftRight_eq_div_pow,Nat.shiftRight_eq_div_pow,Nat.shiftRight_eq_div_pow,Nat.pow_one] at h
 exact h
theorem crcBit_xor (a b : Nat) : crcBit (a ^^^ b) = crcBit a ^^^ crcBit b := by
 unfold crcBit
 rw [xor_mod2,xor_half2]
 rcases Nat.mod_two_eq_zero_or_one a with ha | ha <;> rcases Nat.mod_two_eq_zero_or_one b with hb | hb
 ·rw [if_neg (by omega),if_neg (by omega),if_neg (by omega)]
 ·rw [if_pos (by omega),if_neg (by omega),if_pos (by omega),Nat.xor_assoc]
 ·rw [if_pos (by omega),if_pos (by omega),if_neg (by omega),Nat.xor_assoc,Nat.xor_assoc,Nat.xor_comm (b / 2)]
 ·rw [if_neg (by omega),if_pos (by omega),if_pos (by omega)]
  rw [Nat.xor_assoc,Nat.xor_comm 3988292384,Nat.xor_assoc,Nat.xor_self,Nat.xor_zero]
theorem crcBit_even (q : Nat) : crcBit (2 * q) = q := by
 unfold crcBit
 rw [if_neg (by omega)]; omega
theorem low_xor (q t : Nat) (h : t < 16) : 16 * q + t = (16 * q) ^^^ t := by
 have e1 : ((16 * q) ^^^ t) / 16 = q := by
  have := Nat.shiftRight_xor_distrib (a := 16 * q) (b := t) (i := 4)
  rw [Nat.shiftRight_eq_div_pow,Nat.shiftRight_eq_div_pow,Nat.shiftRight_eq_div_pow] at this
  have e2 : t / 2 ^ 4 = 0 := Nat.div_eq_of_lt h
  rw [e2,Nat.xor_zero] at this
  have e3 : 16 * q / 2 ^ 4 = q := by omega
  rw [e3] at this
  exact this
 have e4 : ((16 * q) ^^^ t) % 16 = t := by
  have := Nat.xor_mod_two_pow (a := 16 * q) (b := t) (n := 4)
  have e5 : 16 * q % 2 ^ 4 = 0 := by omega
  rw [e5,Nat.zero_xor,Nat.mod_eq_of_lt h] at this
  exact this
 omega
theorem crc_tab : ∀ t : Fin 16,crcBit (crcBit (crcBit (crcBit t.val))) = crcTab.getD t.val 0 := by decide
theorem crc_half (r : Nat) : crcHalf r = crcBit (crcBit (crcBit (crcBit r))) := by
 have ht : r % 16 < 16 := Nat.mod_lt _ (by omega)
 have e : r = (16 * (r / 16)) ^^^ (r % 16) := by rw [← low_xor _ _ ht]; omega
 conv => rhs; rw [e]
 rw [crcBit_xor,crcBit_xor,crcBit_xor,crcBit_xor]
 have e2 : crcBit (crcBit (crcBit (crcBit (16 * (r / 16))))) = r / 16 := by
  rw [show 16 * (r / 16) = 2 * (2 * (2 * (2 * (r / 16)))) by omega,crcBit_even,crcBit_even,crcBit_even,crcBit_even]
 rw [e2,crc_tab ⟨r % 16,ht⟩]
 rfl
def crcByte (r : Nat) (b : UInt8) : Nat := crcHalf (crcHalf (r ^^^ b.toNat))
def crcRun (r : Nat) (l : List UInt8) : Nat := l.foldl crcByte r
theorem crcRun_append (r : Nat) (a b : List UInt8) : crcRun r (a ++ b) = crcRun (crcRun r a) b := List.foldl_append ..
theorem crc_byte (r : Nat) (b : UInt8) : crcByte r b = (crcBit ∘ crcBit ∘ crcBit ∘ crcBit ∘ crcBit ∘ crcBit ∘ crcBit ∘ crcBit) (r ^^^ b.toNat) := by
 unfold crcByte; rw [crc_half,crc_half]; rfl
theorem crcTab_lt : ∀ t : Fin 16,crcTab.getD t.val 0 < 2 ^ 32 := by decide
theorem crcHalf_lt {r : Nat} (h : r < 2 ^ 32) : crcHalf r < 2 ^ 32 := by
 unfold crcHalf
 exact Nat.xor_lt_two_pow (by omega) (crcTab_lt ⟨r % 16,Nat.mod_lt _ (by omega)⟩)
theorem crcByte_lt {r : Nat} {b : UInt8} (h : r < 2 ^ 32) : crcByte r b < 2 ^ 32 := crcHalf_lt (crcHalf_lt (Nat.xor_lt_two_pow h (Nat.lt_trans b.toNat_lt (by decide))))
theorem crcRun_lt : ∀ {l : List UInt8} {r : Nat},r < 2 ^ 32 → crcRun r l < 2 ^ 32
 | [],_,h => h
 | b :: l,r,h => crcRun_lt (l := l) (crcByte_lt h)
def crcS (l : List UInt8) : Nat := 4294967295 - crcRun 4294967295 l
end Go.By
namespace Go.By
def put4 (n : Nat) : List UInt8 := [UInt8.ofNat n,UInt8.ofNat (n / 256),UInt8.ofNat (n / 65536),UInt8.ofNat (n / 16777216)]
def get4 : List UInt8 → Nat
 | [a,b,c,d] => a.toNat + 256 * b.toNat + 65536 * c.toNat + 16777216 * d.toNat
 | _ => 0
theorem put4_len (n : Nat) : (put4 n).length = 4 := rfl
theorem get4_put4 {n : Nat} (h : n < 4294967296) : get4 (put4 n) = n := by
 show (UInt8.ofNat n).toNat + 256 * (UInt8.ofNat (n / 256)).toNat + 65536 * (UInt8.ofNat (n / 65536)).toNat + 16777216 * (UInt8.ofNat (n / 16777216)).toNat = n
 simp only [UInt8.toNat_ofNat']
 omega
theorem put4_get4 {l : List UInt8} (h : l.length = 4) : put4 (get4 l) = l := by
 match l,h with
 | [a,b,c,d],_ =>
  have ha := a.toNat_lt; have hb := b.toNat_lt; have hc := c.toNat_lt; have hd := d.toNat_lt
  show [UInt8.ofNat (get4 [a,b,c,d]),UInt8.ofNat (get4 [a,b,c,d] / 256),UInt8.ofNat (get4 [a,b,c,d] / 65536),UInt8.ofNat (get4 [a,b,c,d] / 16777216)] = [a,b,c,d]
  have e : get4 [a,b,c,d] = a.toNat + 256 * b.toNat + 65536 * c.toNat + 16777216 * d.toNat := rfl
  rw [e]
  congr 1
  ·apply UInt8.toNat_inj.1; rw [UInt8.toNat_ofNat']; omega
  ·congr 1
   ·apply UInt8.toNat_inj.1; rw [UInt8.toNat_ofNat']; omega
   ·congr 1
    ·apply UInt8.toNat_inj.1; rw [UInt8.toNat_ofNat']; omega
    ·congr 1
     apply UInt8.toNat_inj.1; rw [UInt8.toNat_ofNat']; omega
theorem crcS_lt (l : List UInt8) : crcS l < 4294967296 := by unfold crcS; omega
end Go.By
namespace Go.Proofs.YtccaiiigdfieoaaGreatDoor
open Go.RowKit Go.By
theorem u8_of (n : Nat) : ((n : Int) % 256) = ((UInt8.ofNat n).toNat : Int) := by
 rw [UInt8.toNat_ofNat']; omega
theorem put4_cells (n : Nat) (h : n < 4294967296) : ([.int .u8 ((n : Int) % 256),.int .u8 ((n : Int) / 256 % 256),.int .u8 ((n : Int) / 65536 % 256),.int .u8 ((n : Int) / 16777216)] : List Value) = (put4 n).map B8 := by
 have e0 := u8_of n
 have e1 := u8_of (n / 256)
 have e2 := u8_of (n / 65536)
 have e3 := u8_of (n / 16777216)
 have f3 : ((n / 16777216 : Nat) : Int) % 256 = (n : Int) / 16777216 := by omega
 rw [f3] at e3
 have f1 : ((n / 256 : Nat) : Int) = (n : Int) / 256 := by omega
 have f2 : ((n / 65536 : Nat) : Int) = (n : Int) / 65536 := by omega
 rw [f1] at e1
 rw [f2] at e2
 rw [e0,e1,e2,e3]
 rfl
set_option maxHeartbeats 1000000 in
theorem SPut_any (n : Nat) (h : n < 4294967296) (w : World) :
  Calls Tryz.prog 138 #[.int .u32 (n : Int)] w fun e w' => ∃ g,e = .returned (.slice (some ⟨g,0,none⟩) 4 4) ∧ w.heap.size ≤ g ∧ w'.heap[g]? = some (.cells ((put4 n).map B8).toArray 5 (0,0)) ∧ Below w.heap.size w w' := by
 have e0 := put4_cells n h
 go_enter Tryz.func138,Tryz.ntmps138
 go_wp2
 rw [← e0]
 go_ret
 exact ⟨w.heap.size,rfl,Nat.le_refl _,hnew rfl,al (Below.refl _ _) (Nat.le_refl _)⟩
end Go.Proofs.YtccaiiigdfieoaaGreatDoor
namespace Go.By
open Go.RowKit
theorem bits_and32 {a b : Nat} (ha : a < 2 ^ 32) (hb : b < 2 ^ 32) : bits .and .u32 (a : Int) (b : Int) = ((a &&& b : Nat) : Int) :=
 (bits_nat .u32 32 (by decide) (fun n h1 h2 => by rw [IntKind.wrap_u32]; omega) a b ha hb).1
theorem bits_or32 {a b : Nat} (ha : a < 2 ^ 32) (hb : b < 2 ^ 32) : bits .or .u32 (a : Int) (b : Int) = ((a ||| b : Nat) : Int) :=
 (bits_nat .u32 32 (by decide) (fun n h1 h2 => by rw [IntKind.wrap_u32]; omega) a b ha hb).2
theorem bits_xor32 {a b : Nat} (ha : a < 2 ^ 32) (hb : b < 2 ^ 32) : bits .xor .u32 (a : Int) (b : Int) = ((a ^^^ b : Nat) : Int) :=
 bits_xor_nat .u32 32 (by decide) (fun n h1 h2 => by rw [IntKind.wrap_u32]; omega) a b ha hb
theorem or_add {a b k : Nat} (hb : b < 2 ^ k) (ha : a % 2 ^ k = 0) : a ||| b = a + b := by
 obtain ⟨q,rfl⟩ : ∃ q,a = 2 ^ k * q := ⟨a / 2 ^ k,by have := Nat.div_add_mod a (2 ^ k); rw [ha] at this; omega⟩
 exact (Nat.two_pow_add_eq_or_of_lt hb q).symm
theorem not32 {r : Nat} (h : r < 4294967296) : 4294967295 ^^^ r = 4294967295 - r := by
 apply Nat.eq_of_testBit_eq
 intro i
 rw [Nat.testBit_xor]
 have e1 := Nat.testBit_two_pow_sub_one 32 i
 have e2 := Nat.testBit_two_pow_sub_succ (n := 32) (x := r) h i
 rw [show 2 ^ 32 - (r + 1) = 4294967295 - r by omega] at e2
 rw [show 2 ^ 32 - 1 = 4294967295 by rfl] at e1
 rw [e1,e2]
 by_cases hi : i < 32
 ·simp [hi]
 ·have : r.testBit i = false := Nat.testBit_lt_two_pow (Nat.lt_of_lt_of_le h (by rw [show (4294967296 : Nat) = 2 ^ 32 by rfl]; exact Nat.pow_le_pow_right (by decide) (by omega)))
  simp [hi,this]
end Go.By
namespace Go.Proofs.YtccaiiigdfieoaaGreatDoor
open Go.RowKit Go.By
def HalfT (w : World) : Prop := ∀ i,i < 16 → w.cell? ⟨0,i,none⟩ = some (.int .u32 (crcTab.getD i 0 : Nat))
theorem HalfT.keep {w w' : World} (h : HalfT w) (hb : Below w.heap.size w w') : HalfT w' := fun i hi => (hb.cell (p := ⟨0,i,none⟩) (lt_of_cell (h i hi))).trans (h i hi)
theorem HalfT.pos {w : World} (h : HalfT w) : 0 < w.heap.size := lt_of_cell (h 0 (by decide))
theorem info_run : (Tryz.prog.info? 274).map (·.size) = some 1 := by kernel_rfl
theorem SStart_any (w : World) : Calls Tryz.prog 198 #[] w fun e w' => e = .returned (.agg #[.int .u32 (4294967295 : Nat)]) ∧ Below w.heap.size w w' := by
 have hinfo := info_run
 go_enter Tryz.func198,Tryz.ntmps198
 go_wp2
 exact bodyPost_ret (results_cell_row rfl _ _ _ 274 #[.int .u32 (4294967295 : Nat)] (0,0) _ rfl (hnew rfl) Tryz.underlying274 rfl hinfo) rfl ⟨rfl,((Below.refl _ _).alloc (Nat.le_refl _) _)⟩
theorem SSum_any (r : Nat) (h : r < 4294967296) (w : World) : Calls Tryz.prog 200 #[.agg #[.int .u32 (r : Nat)]] w fun e w' => e = .returned (.int .u32 (4294967295 - r : Nat)) ∧ Below w.heap.size w w' := by
 have e0 : bits BinOp.xor IntKind.u32 IntKind.u32.max (r : Int) = ((4294967295 - r : Nat) : Int) := by
  rw [show IntKind.u32.max = ((4294967295 : Nat) : Int) by decide,bits_xor32 (by omega) (by omega)]
  congr 1
  exact not32 h
 go_enter Tryz.func200,Tryz.ntmps200
 go_wp2
 go_ret
 exact ⟨rfl,(Below.refl _ _).alloc (Nat.le_refl _) _⟩
structure RS (T : TypeId) (w0 : World) (r : Nat) (wr : World) : Prop where
 b : wr.heap[w0.heap.size]? = some (.cells #[.int .u32 (r : Nat)] T (0,0))
 c : wr.heap[w0.heap.size + 1]? = some (.cells #[.int .u32 0] T (0,0))
 below : Below w0.heap.size w0 wr
theorem RS.set {T : TypeId} {w0 wr : World} {r : Nat} (h : RS T w0 r wr) (r' : Nat) : RS T w0 r' (wr.setCell ⟨w0.heap.size,0,none⟩ (.int .u32 (r' : Nat))) :=
 ⟨hss h.b,hsc h.c (by show w0.heap.size + 1 ≠ w0.heap.size; omega),h.below.setCell (Nat.le_refl _) _⟩
theorem RS.cells {T : TypeId} {w0 wr : World} {r : Nat} (h : RS T w0 r wr) : wr.cell? ⟨w0.heap.size,0,none⟩ = some (.int .u32 (r : Nat)) ∧ wr.frozen? ⟨w0.heap.size,0,none⟩ = false ∧ wr.cell? ⟨w0.heap.size + 1,0,none⟩ = some (.int .u32 0) ∧ wr.frozen? ⟨w0.heap.size + 1,0,none⟩ = false :=
 ⟨cell_of_row _ _ 0 _ _ _ h.b,frozen_of_row _ _ 0 _ _ h.b,cell_of_row _ _ 0 _ _ _ h.c,frozen_of_row _ _ 0 _ _ h.c⟩
theorem RS.keep {T : TypeId} {w0 w1 w2 : World} {r : Nat} (h : RS T w0 r w1) (hb : Below w1.heap.size w1 w2) : RS T w0 r w2 :=
 ⟨(hb.block _ (lt_of_block h.b)).trans h.b,(hb.block _ (lt_of_block h.c)).trans h.c,bl h.below hb h.below.size⟩
set_option maxRecDepth 100000 in
set_option maxHeartbeats 4000000 in
theorem SWith_any (r : Nat) (hr : r < 4294967296) (p : Option Addr) (n c : Nat) (xss : List (List UInt8)) (w : World) (h : Sl2 w p n c xss) (hT : HalfT w) :
  Calls Tryz.prog 199 #[.agg #[.int .u32 (r : Nat)],.slice p n c] w fun e w' => e = .returned (.agg #[.int .u32 (crcRun r xss.flatten : Nat)]) ∧ Below w.heap.size w w' := by
 have hn := h.bound
 obtain ⟨F,hF⟩ : ∃ F : Nat → Nat,F = fun k => crcRun r (xss.take k).flatten := ⟨_,rfl⟩
 have HF : Hid (∀ k xs,xss[k]? = some xs → F (k + 1) = crcRun (F k) xs) := fun k xs hx => by
  subst hF
  obtain ⟨hk,hx⟩ := List.getElem?_eq_some_iff.1 hx
  show crcRun r (xss.take (k + 1)).flatten = crcRun (crcRun r (xss.take k).flatten) xs
  rw [← crcRun_append,List.take_succ_eq_append_getElem hk,hx,List.flatten_append]; simp
 have HL : Hid (∀ k,F k < 4294967296) := fun k => by subst hF; exact crcRun_lt hr
 have HN : Hid (F n = crcRun r xss.flatten) := by subst hF; show crcRun r (xss.take n).flatten = _; rw [List.take_of_length_le (by rw [h.len]; omega)]
 have H0 : F 0 = r := by subst hF; rfl
 have H := Lib.hid h
 have HT := Lib.hid hT
 have HP : Hid (0 < w.heap.size) := hT.pos
 clear h hF hT hr
 rw [← HN.out]
 go_enter Tryz.func199,Tryz.ntmps199
 go_wp2
 go_loopw [11] (fun i wr => ∃ k : Nat,k ≤ n ∧ i = .int .i64 k ∧ Hid (RS 274 w (F k) wr)) (fun i _ => n - (intOf i).toNat)
 case atStart =>
  refine ⟨0,Nat.zero_le _,rfl,?_⟩
  rw [H0]
  refine ⟨hal (hnew rfl),hnew (by simp),al (al (Below.refl _ _) (Nat.le_refl _)) (by simp)⟩
 case round =>
  obtain ⟨k,hk,rfl,hS⟩ := hrel
  by_cases hlt : k < n
  ·obtain ⟨b,o,q,m,c',xs,rfl,hc,hs,hx⟩ := H.out.at k hlt
   have hcw := (hS.out.below.cell (p := ⟨b,o + k,none⟩) (lt_of_cell hc)).trans hc
   have hm := hs.bound
   have HS := Lib.hid hs
   have E0 : F (k + 1) = crcRun (F k) xs := HF.out k xs hx.out
   have EL := HL.out k
   obtain ⟨G,hG⟩ : ∃ G : Nat → Nat,G = fun j => crcRun (F k) (xs.take j) := ⟨_,rfl⟩
   have G0 : Hid (G 0 = F k) := by subst hG; rfl
   have GN : Hid (G m = F (k + 1)) := by subst hG; rw [E0]; show crcRun _ (xs.take m) = _; rw [List.take_of_length_le (by rw [hs.len]; omega)]
   have GS : Hid (∀ j x,xs[j]? = some x → G (j + 1) = crcHalf (crcHalf (G j ^^^ x.toNat))) := fun j x hj => by
    subst hG
    obtain ⟨hj1,hj2⟩ := List.getElem?_eq_some_iff.1 hj
    show crcRun (F k) (xs.take (j + 1)) = crcByte (crcRun (F k) (xs.take j)) x
    rw [List.take_succ_eq_append_getElem hj1,hj2,crcRun_append]; rfl
   have GL : Hid (∀ j,G j < 4294967296) := fun j => by subst hG; exact crcRun_lt EL
   clear hs hG E0 EL
   go_wp2
   go_loopw [17] (fun i wr => ∃ j : Nat,j ≤ m ∧ i = .int .i64 j ∧ Hid (RS 274 w (G j) wr)) (fun i _ => m - (intOf i).toNat)
   case atStart => exact ⟨0,Nat.zero_le _,rfl,by rw [G0.out]; exact hS⟩
   case round =>
    obtain ⟨j,hj,rfl,hS2⟩ := hrel
    by_cases hjm : j < m
    ·obtain ⟨bb,oo,x,rfl,hcx,hxx⟩ := HS.out.at j hjm
     have hcx2 := (hS2.out.below.cell (p := ⟨bb,oo + j,none⟩) (lt_of_cell hcx)).trans hcx
     have hx8 := x.toNat_lt
     have g1 := GL.out j
     have hxor := bits_xor32 (a := G j) (b := x.toNat) (by omega) (by omega)
     have hlt2 : G j ^^^ x.toNat < 4294967296 := Nat.xor_lt_two_pow (n := 32) (by omega) (by omega)
     obtain ⟨cb,zb,cr,zr⟩ := hS2.out.cells
     have hsz := hS2.out.below.size
     have HS3 := Lib.hid (hS2.out.set (G j ^^^ x.toNat))
     have GS2 := Lib.hid (GS.out j x hxx.out)
     generalize hV : G j ^^^ x.toNat = V at *
     clear hV
     go_wp2
     clear hxor
     go_loopw [27] (fun i wr => ∃ l v : Nat,l ≤ 2 ∧ i = .int .i64 l ∧ v < 4294967296 ∧ Hid (l = 0 ∧ v = V ∨ l = 1 ∧ v = crcHalf V ∨ l = 2 ∧ v = crcHalf (crcHalf V)) ∧ Hid (RS 274 w v wr)) (fun i _ => 2 - (intOf i).toNat)
     case atStart => exact ⟨0,V,by omega,rfl,hlt2,Or.inl ⟨rfl,rfl⟩,HS3⟩
     case round =>
      obtain ⟨l,v,hl,rfl,hv,hor,hS4⟩ := hrel
      clear cb zb cr zr
      obtain ⟨cb,zb,cr,zr⟩ := hS4.out.cells
      by_cases hl2 : l < 2
      ·have hst := hS4.out.below.size
       have hTc := (HT.out.keep (hS4.out.below)) (v % 16) (Nat.mod_lt _ (by omega))
       have hand : bits .and .u32 (v : Int) (15 : Int) = ((v % 16 : Nat) : Int) := by
        rw [show (15 : Int) = ((15 : Nat) : Int) by rfl,bits_and32 hv (by decide),show (15 : Nat) = 2 ^ 4 - 1 by rfl,Nat.and_two_pow_sub_one_eq_mod]
       have htl : crcTab.getD (v % 16) 0 < 2 ^ 32 := crcTab_lt ⟨v % 16,Nat.mod_lt _ (by omega)⟩
       have hxo : bits .xor .u32 ((v : Int) / 16) (crcTab.getD (v % 16) 0 : Nat) = ((crcHalf v : Nat) : Int) := by
        have := bits_xor32 (a := v / 16) (b := crcTab.getD (v % 16) 0) (by omega) htl
        rw [show ((v / 16 : Nat) : Int) = (v : Int) / 16 by omega] at this
        exact this
       have hvl := crcHalf_lt hv
       have hm16 : ¬ (16 : Int) ≤ ((v % 16 : Nat) : Int) := by omega
       generalize hM : v % 16 = M at *
       generalize hU : crcTab.getD M 0 = U at *
       generalize hX : crcHalf v = X at *
       have hXe := Lib.hid hX
       clear hX hM hU
       go_wp2_with fail
       refine wp_region_last (fun ix => ([.val (.pointer (some ⟨w.heap.size,0,none⟩)),.val (.int .u32 (v : Nat)),.val (.int .u32 ((v : Int) / 16)),.val (.pointer (some ⟨w.heap.size,0,none⟩)),.val (.int .u32 (v : Nat)),.val (.int .u32 (M : Nat)),.val (.pointer (some ⟨0,M,none⟩)),.val (.int .u32 (U : Nat)),.val (.int .u32 (X : Nat)),.val (.pointer (some ⟨w.heap.size,0,none⟩)),.any][ix]?).getD (.any)) 43 10 rfl (by kernel_rfl) (by decide) (by decide) (by decide) (by decide) ?_ ?_
       ·refine ⟨?_,?_,?_,?_,?_,?_,?_,?_,?_,?_,trivial⟩
        ·intro a W hb0 hs hp hi; have hb := undrew hb0; clear hb0
         have t2 : sl a 2 = .pointer (some ⟨w.heap.size,0,none⟩) := hi 2 (by decide)
         refine ite_y rfl (wp_val (.pointer (some ⟨w.heap.size,0,none⟩)) ?_ ?_)
         ·simp only [execOp,eval_tmp,eval_const,t2]; simp [go_sem]
         ·exact ⟨_,rfl,Below.refl _ _,rfl⟩
        ·intro a W hb0 hs hp hi; have hb := undrew hb0; clear hb0
         have tt : sl a 29 = .pointer (some ⟨w.heap.size,0,none⟩) := hp 0 (by decide)
         have dd := (hb.cell (p := ⟨w.heap.size,0,none⟩) (lt_of_cell cb)).trans cb
         refine ite_y rfl (wp_val (.int .u32 (v : Nat)) ?_ ?_)
         ·simp only [execOp,eval_tmp,tt]; simp [go_sem,dd]
         ·exact ⟨_,rfl,Below.refl _ _,rfl⟩
        ·intro a W hb0 hs hp hi; have hb := undrew hb0; clear hb0
         have t30 : sl a 30 = .int .u32 (v : Nat) := hp 1 (by decide)
         refine ite_y rfl (wp_val (.int .u32 ((v : Int) / 16)) ?_ ?_)
         ·simp only [execOp,eval_tmp,eval_const,t30]; simp [go_sem]
         ·exact ⟨_,rfl,Below.refl _ _,rfl⟩
        ·intro a W hb0 hs hp hi; have hb := undrew hb0; clear hb0
         have t2 : sl a 2 = .pointer (some ⟨w.heap.size,0,none⟩) := hi 2 (by decide)
         refine ite_y rfl (wp_val (.pointer (some ⟨w.heap.size,0,none⟩)) ?_ ?_)
         ·simp only [execOp,eval_tmp,eval_const,t2]; simp [go_sem]
         ·exact ⟨_,rfl,Below.refl _ _,rfl⟩
        ·intro a W hb0 hs hp hi; have hb := undrew hb0; clear hb0
         have tt : sl a 32 = .pointer (some ⟨w.heap.size,0,none⟩) := hp 3 (by decide)
         have dd := (hb.cell (p := ⟨w.heap.size,0,none⟩) (lt_of_cell cb)).trans cb
         refine ite_y rfl (wp_val (.int .u32 (v : Nat)) ?_ ?_)
         ·simp only [execOp,eval_tmp,tt]; simp [go_sem,dd]
         ·exact ⟨_,rfl,Below.refl _ _,rfl⟩
        ·intro a W hb0 hs hp hi; have hb := undrew hb0; clear hb0
         have t33 : sl a 33 = .int .u32 (v : Nat) := hp 4 (by decide)
         refine ite_y rfl (wp_val (.int .u32 (M : Nat)) ?_ ?_)
         ·simp only [execOp,eval_tmp,eval_const,t33]; simp [go_sem,hand]
         ·exact ⟨_,rfl,Below.refl _ _,rfl⟩
        ·intro a W hb0 hs hp hi; have hb := undrew hb0; clear hb0
         have tt : sl a 34 = .int .u32 (M : Nat) := hp 5 (by decide)
         refine ite_y rfl (wp_val (.pointer (some ⟨0,M,none⟩)) ?_ ?_)
         ·simp only [execOp,eval_tmp,BigFrame.eval_global,tt]; simp [go_sem,hm16]
         ·exact ⟨_,rfl,Below.refl _ _,rfl⟩
        ·intro a W hb0 hs hp hi; have hb := undrew hb0; clear hb0
         have tt : sl a 35 = .pointer (some ⟨0,M,none⟩) := hp 6 (by decide)
         have dd := (hb.cell (p := ⟨0,M,none⟩) (lt_of_cell hTc)).trans hTc
         refine ite_y rfl (wp_val (.int .u32 (U : Nat)) ?_ ?_)
         ·simp only [execOp,eval_tmp,tt]; simp [go_sem,dd]
         ·exact ⟨_,rfl,Below.refl _ _,rfl⟩
        ·intro a W hb0 hs hp hi; have hb := undrew hb0; clear hb0
         have t31 : sl a 31 = .int .u32 ((v : Int) / 16) := hp 2 (by decide)
         have t36 : sl a 36 = .int .u32 (U : Nat) := hp 7 (by decide)
         refine ite_y rfl (wp_val (.int .u32 (X : Nat)) ?_ ?_)
         ·simp only [execOp,eval_tmp,eval_const,t31,t36]; simp [go_sem,hxo]
         ·exact ⟨_,rfl,Below.refl _ _,rfl⟩
        ·intro a W hb0 hs hp hi; have hb := undrew hb0; clear hb0
         have t2 : sl a 2 = .pointer (some ⟨w.heap.size,0,none⟩) := hi 2 (by decide)
         refine ite_y rfl (wp_val (.pointer (some ⟨w.heap.size,0,none⟩)) ?_ ?_)
         ·simp only [execOp,eval_tmp,eval_const,t2]; simp [go_sem]
         ·exact ⟨_,rfl,Below.refl _ _,rfl⟩
       intro a w9 o ho hb hs hd hI ht
       have ha := act_is [29,30,31,32,33,34,35,36,37,38] hs hd ht (by decide)
       simp at ho; subst ho
       have t37 : sl a 37 = .int .u32 (X : Nat) := hI 8 (by decide)
       have t38 : sl a 38 = .pointer (some ⟨w.heap.size,0,none⟩) := hI 9 (by decide)
       have c9 := (hb.cell (p := ⟨w.heap.size,0,none⟩) (lt_of_cell cb)).trans cb
       have z9 : w9.frozen? ⟨w.heap.size,0,none⟩ = false := frozen_of_row _ _ 0 _ _ ((hb.block _ (lt_of_block hS4.out.b)).trans hS4.out.b)
       have HS5 : Hid (RS 274 w X (w9.setCell ⟨w.heap.size,0,none⟩ (.int .u32 (X : Nat)))) := (hS4.out.keep hb).set X
       refine wp_skip_none rfl (w' := w9.setCell ⟨w.heap.size,0,none⟩ (.int .u32 (X : Nat))) ?_ ?_
       ·simp only [execOp,eval_tmp,t37,t38]; simp [go_sem,c9,z9]
       simp only [List.foldl,t37,t38] at ha
       generalize sl a 29 = u29 at ha
       generalize sl a 30 = u30 at ha
       generalize sl a 31 = u31 at ha
       generalize sl a 32 = u32 at ha
       generalize sl a 33 = u33 at ha
       generalize sl a 34 = u34 at ha
       generalize sl a 35 = u35 at ha
       generalize sl a 36 = u36 at ha
       simp only [Act.put,List.setIfInBounds_toArray,List.set_cons_zero,List.set_cons_succ] at ha
       rw [ha]; clear ha hI ht hs hd t37 t38 c9 z9 hb
       go_wp2
       go_roundw
       case rel => exact ⟨l + 1,X,by omega,by go_num,hvl,by
        rcases hor.out with ⟨rfl,rfl⟩ | ⟨rfl,rfl⟩ | ⟨rfl,rfl⟩
        ·exact Or.inr (Or.inl ⟨rfl,hXe.out.symm⟩)
        ·exact Or.inr (Or.inr ⟨rfl,hXe.out.symm⟩)
        ·omega,HS5⟩
       case measure => simp [intOf]; omega
      ·have hl2' : l = 2 := by omega
       subst hl2'
       have HV : v = G (j + 1) := by
        rcases hor.out with ⟨h1,_⟩ | ⟨h1,_⟩ | ⟨_,h1⟩
        ·omega
        ·omega
        ·rw [GS2.out,h1]
       clear hor
       go_wp2
       go_roundw
       case rel => exact ⟨j + 1,by omega,by go_num,by rw [← HV]; exact hS4⟩
       case measure => simp [intOf]; omega
    ·have hjm' : j = m := by omega
     subst hjm'
     go_wp2
     go_roundw
     case rel => exact ⟨k + 1,by omega,by go_num,by rw [← GN.out]; exact hS2⟩
     case measure => simp [intOf]; omega
  ·have hkn : k = n := by omega
   subst hkn
   obtain ⟨cb,zb,cr,zr⟩ := hS.out.cells
   have hinfo := info_run
   go_wp2
   exact bodyPost_ret (results_cell_row rfl _ _ _ 274 #[.int .u32 (F k : Nat)] (0,0) _ rfl (hss hS.out.c) Tryz.underlying274 rfl hinfo) rfl ⟨rfl,hS.out.below.setCell (Nat.le_succ _) _⟩
end Go.Proofs.YtccaiiigdfieoaaGreatDoor
namespace Go.Proofs.YtccaiiigdfieoaaGreatDoor
open Go.RowKit Go.By
set_option maxHeartbeats 1000000 in
theorem SOf_any (p : Option Addr) (n c : Nat) (xss : List (List UInt8)) (w : World) (h : Sl2 w p n c xss) (hT : HalfT w) :
  Calls Tryz.prog 139 #[.slice p n c] w fun e w' => e = .returned (.int .u32 (crcS xss.flatten : Nat)) ∧ Below w.heap.size w w' := by
 have H := Lib.hid h
 have HT := Lib.hid hT
 have HL : Hid (crcRun 4294967295 xss.flatten < 4294967296) := crcRun_lt (by decide)
 clear h hT
 go_enter Tryz.func139,Tryz.ntmps139
 go_wp2_with fail
 refine Calls.mono (SStart_any w) ?_
 rintro e w1 ⟨rfl,hb1⟩
 go_wp2_with fail
 refine Calls.mono (SWith_any 4294967295 (by decide) p n c xss w1 (H.out.keep hb1) (HT.out.keep hb1)) ?_
 rintro e w2 ⟨rfl,hb2⟩
 have HB := Lib.hid (bl hb1 hb2 hb1.size)
 clear hb1 hb2
 go_wp2_with fail
 refine Calls.mono (SSum_any _ HL.out w2) ?_
 rintro e w3 ⟨rfl,hb3⟩
 have HB3 := Lib.hid (bl HB.out hb3 HB.out.size)
 clear hb3
 go_wp2
 go_ret
 exact ⟨rfl,HB3.out⟩
set_option maxRecDepth 100000 in
set_option maxHeartbeats 2000000 in
theorem SGet_any (p : Option Addr) (n c : Nat) (xs : List UInt8) (w : World) (h : Sl B8 w p n c xs) :
  Calls Tryz.prog 174 #[.slice p n c] w fun e w' => e = .returned (.tuple #[.int .u32 (get4 xs : Nat),.int .i64 (if n = 4 then 0 else 4)]) ∧ Below w.heap.size w w' := by
 have hn := h.bound
 by_cases h4 : n = 4
 ·subst h4
  obtain ⟨b,o,x0,rfl,k0,y0⟩ := h.at 0 (by omega)
  obtain ⟨_,_,x1,e1,k1,y1⟩ := h.at 1 (by omega)
  obtain ⟨_,_,x2,e2,k2,y2⟩ := h.at 2 (by omega)
  obtain ⟨_,_,x3,e3,k3,y3⟩ := h.at 3 (by omega)
  cases e1; cases e2; cases e3
  rw [Nat.add_zero] at k0
  have hl := h.len
  have hxs : xs = [x0,x1,x2,x3] := by
   match xs,hl,y0.out,y1.out,y2.out,y3.out with
   | [a,b,c,d],_,h0,h1,h2,h3 => simp at h0 h1 h2 h3; rw [h0,h1,h2,h3]
  subst hxs
  clear h hl y0 y1 y2 y3 hn
  rw [if_pos rfl]
  have l0 := x0.toNat_lt; have l1 := x1.toNat_lt; have l2 := x2.toNat_lt; have l3 := x3.toNat_lt
  have hG : Hid (get4 [x0,x1,x2,x3] = x0.toNat + 256 * x1.toNat + 65536 * x2.toNat + 16777216 * x3.toNat) := rfl
  have s1 : IntKind.u32.wrap ((x1.toNat : Int) * 256) = ((256 * x1.toNat : Nat) : Int) := by rw [IntKind.wrap_u32]; omega
  have s2 : IntKind.u32.wrap ((x2.toNat : Int) * 65536) = ((65536 * x2.toNat : Nat) : Int) := by rw [IntKind.wrap_u32]; omega
  have s3 : IntKind.u32.wrap ((x3.toNat : Int) * 16777216) = ((16777216 * x3.toNat : Nat) : Int) := by rw [IntKind.wrap_u32]; omega
  have o1 : bits .or .u32 (x0.toNat : Int) ((256 * x1.toNat : Nat) : Int) = ((x0.toNat + 256 * x1.toNat : Nat) : Int) := by
   rw [bits_or32 (by omega) (by omega),Nat.or_comm,or_add (k := 8) (by omega) (by omega),Nat.add_comm]
  have o2 : bits .or .u32 ((x0.toNat + 256 * x1.toNat : Nat) : Int) ((65536 * x2.toNat : Nat) : Int) = ((x0.toNat + 256 * x1.toNat + 65536 * x2.toNat : Nat) : Int) := by
   rw [bits_or32 (by omega) (by omega),Nat.or_comm,or_add (k := 16) (by omega) (by omega),Nat.add_comm]
  have o3 : bits .or .u32 ((x0.toNat + 256 * x1.toNat + 65536 * x2.toNat : Nat) : Int) ((16777216 * x3.toNat : Nat) : Int) = ((x0.toNat + 256 * x1.toNat + 65536 * x2.toNat + 16777216 * x3.toNat : Nat) : Int) := by
   rw [bits_or32 (by omega) (by omega),Nat.or_comm,or_add (k := 24) (by omega) (by omega),Nat.add_comm]
  rw [hG.out]
  generalize hA1 : 256 * x1.toNat = a1 at *
  generalize hA2 : 65536 * x2.toNat = a2 at *
  generalize hA3 : 16777216 * x3.toNat = a3 at *
  generalize hB1 : x0.toNat + a1 = b1 at *
  generalize hB2 : b1 + a2 = b2 at *
  generalize hB3 : b2 + a3 = b3 at *
  clear hA1 hA2 hA3 hB1 hB2 hB3 hG
  go_enter Tryz.func174,Tryz.ntmps174
  go_wp2_with fail
  refine wp_region_shapes (fun ix => ([.val (.slice (some ⟨b,o,none⟩) 4 c),.val (.pointer (some ⟨b,o,none⟩)),.val (B8 x0),.val (.int .u32 (x0.toNat : Nat)),.val (.slice (some ⟨b,o,none⟩) 4 c),.val (.pointer (some ⟨b,o + 1,none⟩)),.val (B8 x1),.val (.int .u32 (x1.toNat : Nat)),.val (.int .u32 (a1 : Nat)),.val (.int .u32 (b1 : Nat)),.val (.slice (some ⟨b,o,none⟩) 4 c),.val (.pointer (some ⟨b,o + 2,none⟩)),.val (B8 x2),.val (.int .u32 (x2.toNat : Nat)),.val (.int .u32 (a2 : Nat)),.val (.int .u32 (b2 : Nat)),.val (.slice (some ⟨b,o,none⟩) 4 c),.val (.pointer (some ⟨b,o + 3,none⟩)),.val (B8 x3),.val (.int .u32 (x3.toNat : Nat)),.val (.int .u32 (a3 : Nat)),.val (.int .u32 (b3 : Nat)),.val (.int .u32 (b3 : Nat)),.val (.int .i64 0)][ix]?).getD (.any)) 29 rfl (by kernel_rfl) (by decide) (by decide) (by decide) ?_ ?_
  ·refine ⟨?_,?_,?_,?_,?_,?_,?_,?_,?_,?_,?_,?_,?_,?_,?_,?_,?_,?_,?_,?_,?_,?_,?_,?_,trivial⟩
   ·intro a W hb0 hs hp hi; have hb := undrew hb0; clear hb0
    have t0 : sl a 0 = .slice (some ⟨b,o,none⟩) 4 c := hi 0 (by decide)
    exact ite_y rfl (wp_val (sl a 0) rfl ⟨_,rfl,Below.refl _ _,t0⟩)
   ·intro a W hb0 hs hp hi; have hb := undrew hb0; clear hb0
    have ti0 : sl a 7 = .slice (some ⟨b,o,none⟩) 4 c := hp 0 (by decide)
    refine ite_y rfl (wp_val (.pointer (some ⟨b,o,none⟩)) ?_ ?_)
    ·simp only [execOp,eval_tmp,eval_const,ti0]; simp [go_sem]
    ·exact ⟨_,rfl,Below.refl _ _,rfl⟩
   ·intro a W hb0 hs hp hi; have hb := undrew hb0; clear hb0
    have tt : sl a 8 = .pointer (some ⟨b,o,none⟩) := hp 1 (by decide)
    have dd := (hb.cell (p := ⟨b,o,none⟩) (lt_of_cell k0)).trans k0
    refine ite_y rfl (wp_val (B8 x0) ?_ ?_)
    ·simp only [execOp,eval_tmp,tt]; simp [go_sem,dd]
    ·exact ⟨_,rfl,Below.refl _ _,rfl⟩
   ·intro a W hb0 hs hp hi; have hb := undrew hb0; clear hb0
    have tt : sl a 9 = B8 x0 := hp 2 (by decide)
    refine ite_y rfl (wp_val (.int .u32 (x0.toNat : Nat)) ?_ ?_)
    ·simp only [execOp,eval_tmp,tt]; simp [go_sem,Tryz.underlying5,Tryz.underlying23,show IntKind.u32.wrap (x0.toNat : Int) = x0.toNat by rw [IntKind.wrap_u32]; omega]
    ·exact ⟨_,rfl,Below.refl _ _,rfl⟩
   ·intro a W hb0 hs hp hi; have hb := undrew hb0; clear hb0
    have t0 : sl a 0 = .slice (some ⟨b,o,none⟩) 4 c := hi 0 (by decide)
    exact ite_y rfl (wp_val (sl a 0) rfl ⟨_,rfl,Below.refl _ _,t0⟩)
   ·intro a W hb0 hs hp hi; have hb := undrew hb0; clear hb0
    have ti0 : sl a 11 = .slice (some ⟨b,o,none⟩) 4 c := hp 4 (by decide)
    refine ite_y rfl (wp_val (.pointer (some ⟨b,o + 1,none⟩)) ?_ ?_)
    ·simp only [execOp,eval_tmp,eval_const,ti0]; simp [go_sem]
    ·exact ⟨_,rfl,Below.refl _ _,rfl⟩
   ·intro a W hb0 hs hp hi; have hb := undrew hb0; clear hb0
    have tt : sl a 12 = .pointer (some ⟨b,o + 1,none⟩) := hp 5 (by decide)
    have dd := (hb.cell (p := ⟨b,o + 1,none⟩) (lt_of_cell k1)).trans k1
    refine ite_y rfl (wp_val (B8 x1) ?_ ?_)
    ·simp only [execOp,eval_tmp,tt]; simp [go_sem,dd]
    ·exact ⟨_,rfl,Below.refl _ _,rfl⟩
   ·intro a W hb0 hs hp hi; have hb := undrew hb0; clear hb0
    have tt : sl a 13 = B8 x1 := hp 6 (by decide)
    refine ite_y rfl (wp_val (.int .u32 (x1.toNat : Nat)) ?_ ?_)
    ·simp only [execOp,eval_tmp,tt]; simp [go_sem,Tryz.underlying5,Tryz.underlying23,show IntKind.u32.wrap (x1.toNat : Int) = x1.toNat by rw [IntKind.wrap_u32]; omega]
    ·exact ⟨_,rfl,Below.refl _ _,rfl⟩
   ·intro a W hb0 hs hp hi; have hb := undrew hb0; clear hb0
    have t14 : sl a 14 = .int .u32 (x1.toNat : Nat) := hp 7 (by decide)
    refine ite_y rfl (wp_val (.int .u32 (a1 : Nat)) ?_ ?_)
    ·simp only [execOp,eval_tmp,eval_const,t14]; simp [go_sem,s1]
    ·exact ⟨_,rfl,Below.refl _ _,rfl⟩
   ·intro a W hb0 hs hp hi; have hb := undrew hb0; clear hb0
    have t10 : sl a 10 = .int .u32 (x0.toNat : Nat) := hp 3 (by decide)
    have t15 : sl a 15 = .int .u32 (a1 : Nat) := hp 8 (by decide)
    refine ite_y rfl (wp_val (.int .u32 (b1 : Nat)) ?_ ?_)
    ·simp only [execOp,eval_tmp,eval_const,t10,t15]; simp [go_sem,o1]
    ·exact ⟨_,rfl,Below.refl _ _,rfl⟩
   ·intro a W hb0 hs hp hi; have hb := undrew hb0; clear hb0
    have t0 : sl a 0 = .slice (some ⟨b,o,none⟩) 4 c := hi 0 (by decide)
    exact ite_y rfl (wp_val (sl a 0) rfl ⟨_,rfl,Below.refl _ _,t0⟩)
   ·intro a W hb0 hs hp hi; have hb := undrew hb0; clear hb0
    have ti0 : sl a 17 = .slice (some ⟨b,o,none⟩) 4 c := hp 10 (by decide)
    refine ite_y rfl (wp_val (.pointer (some ⟨b,o + 2,none⟩)) ?_ ?_)
    ·simp only [execOp,eval_tmp,eval_const,ti0]; simp [go_sem]
    ·exact ⟨_,rfl,Below.refl _ _,rfl⟩
   ·intro a W hb0 hs hp hi; have hb := undrew hb0; clear hb0
    have tt : sl a 18 = .pointer (some ⟨b,o + 2,none⟩) := hp 11 (by decide)
    have dd := (hb.cell (p := ⟨b,o + 2,none⟩) (lt_of_cell k2)).trans k2
    refine ite_y rfl (wp_val (B8 x2) ?_ ?_)
    ·simp only [execOp,eval_tmp,tt]; simp [go_sem,dd]
    ·exact ⟨_,rfl,Below.refl _ _,rfl⟩
   ·intro a W hb0 hs hp hi; have hb := undrew hb0; clear hb0
    have tt : sl a 19 = B8 x2 := hp 12 (by decide)
    refine ite_y rfl (wp_val (.int .u32 (x2.toNat : Nat)) ?_ ?_)
    ·simp only [execOp,eval_tmp,tt]; simp [go_sem,Tryz.underlying5,Tryz.underlying23,show IntKind.u32.wrap (x2.toNat : Int) = x2.toNat by rw [IntKind.wrap_u32]; omega]
    ·exact ⟨_,rfl,Below.refl _ _,rfl⟩
   ·intro a W hb0 hs hp hi; have hb := undrew hb0; clear hb0
    have t20 : sl a 20 = .int .u32 (x2.toNat : Nat) := hp 13 (by decide)
    refine ite_y rfl (wp_val (.int .u32 (a2 : Nat)) ?_ ?_)
    ·simp only [execOp,eval_tmp,eval_const,t20]; simp [go_sem,s2]
    ·exact ⟨_,rfl,Below.refl _ _,rfl⟩
   ·intro a W hb0 hs hp hi; have hb := undrew hb0; clear hb0
    have t16 : sl a 16 = .int .u32 (b1 : Nat) := hp 9 (by decide)
    have t21 : sl a 21 = .int .u32 (a2 : Nat) := hp 14 (by decide)
    refine ite_y rfl (wp_val (.int .u32 (b2 : Nat)) ?_ ?_)
    ·simp only [execOp,eval_tmp,eval_const,t16,t21]; simp [go_sem,o2]
    ·exact ⟨_,rfl,Below.refl _ _,rfl⟩
   ·intro a W hb0 hs hp hi; have hb := undrew hb0; clear hb0
    have t0 : sl a 0 = .slice (some ⟨b,o,none⟩) 4 c := hi 0 (by decide)
    exact ite_y rfl (wp_val (sl a 0) rfl ⟨_,rfl,Below.refl _ _,t0⟩)
   ·intro a W hb0 hs hp hi; have hb := undrew hb0; clear hb0
    have ti0 : sl a 23 = .slice (some ⟨b,o,none⟩) 4 c := hp 16 (by decide)
    refine ite_y rfl (wp_val (.pointer (some ⟨b,o + 3,none⟩)) ?_ ?_)
    ·simp only [execOp,eval_tmp,eval_const,ti0]; simp [go_sem]
    ·exact ⟨_,rfl,Below.refl _ _,rfl⟩
   ·intro a W hb0 hs hp hi; have hb := undrew hb0; clear hb0
    have tt : sl a 24 = .pointer (some ⟨b,o + 3,none⟩) := hp 17 (by decide)
    have dd := (hb.cell (p := ⟨b,o + 3,none⟩) (lt_of_cell k3)).trans k3
    refine ite_y rfl (wp_val (B8 x3) ?_ ?_)
    ·simp only [execOp,eval_tmp,tt]; simp [go_sem,dd]
    ·exact ⟨_,rfl,Below.refl _ _,rfl⟩
   ·intro a W hb0 hs hp hi; have hb := undrew hb0; clear hb0
    have tt : sl a 25 = B8 x3 := hp 18 (by decide)
    refine ite_y rfl (wp_val (.int .u32 (x3.toNat : Nat)) ?_ ?_)
    ·simp only [execOp,eval_tmp,tt]; simp [go_sem,Tryz.underlying5,Tryz.underlying23,show IntKind.u32.wrap (x3.toNat : Int) = x3.toNat by rw [IntKind.wrap_u32]; omega]
    ·exact ⟨_,rfl,Below.refl _ _,rfl⟩
   ·intro a W hb0 hs hp hi; have hb := undrew hb0; clear hb0
    have t26 : sl a 26 = .int .u32 (x3.toNat : Nat) := hp 19 (by decide)
    refine ite_y rfl (wp_val (.int .u32 (a3 : Nat)) ?_ ?_)
    ·simp only [execOp,eval_tmp,eval_const,t26]; simp [go_sem,s3]
    ·exact ⟨_,rfl,Below.refl _ _,rfl⟩
   ·intro a W hb0 hs hp hi; have hb := undrew hb0; clear hb0
    have t22 : sl a 22 = .int .u32 (b2 : Nat) := hp 15 (by decide)
    have t27 : sl a 27 = .int .u32 (a3 : Nat) := hp 20 (by decide)
    refine ite_y rfl (wp_val (.int .u32 (b3 : Nat)) ?_ ?_)
    ·simp only [execOp,eval_tmp,eval_const,t22,t27]; simp [go_sem,o3]
    ·exact ⟨_,rfl,Below.refl _ _,rfl⟩
   ·intro a W hb0 hs hp hi; have hb := undrew hb0; clear hb0
    have t28 : sl a 28 = .int .u32 (b3 : Nat) := hp 21 (by decide)
    exact ite_y rfl (wp_val (sl a 28) rfl ⟨_,rfl,Below.refl _ _,t28⟩)
   ·intro a W hb0 hs hp hi; have hb := undrew hb0; clear hb0
    exact ite_y rfl (wp_val (.int .i64 0) rfl ⟨_,rfl,Below.refl _ _,rfl⟩)
  intro a w9 hb hs hd hI ht
  have ha := act_is [7,8,9,10,11,12,13,14,15,16,17,18,19,20,21,22,23,24,25,26,27,28,2,3] hs hd ht (by decide)
  have t2 : sl a 2 = .int .u32 (b3 : Nat) := hI 22 (by decide)
  have t3 : sl a 3 = .int .i64 0 := hI 23 (by decide)
  simp only [List.foldl,t2,t3] at ha
  generalize sl a 7 = u7 at ha
  generalize sl a 8 = u8 at ha
  generalize sl a 9 = u9 at ha
  generalize sl a 10 = u10 at ha
  generalize sl a 11 = u11 at ha
  generalize sl a 12 = u12 at ha
  generalize sl a 13 = u13 at ha
  generalize sl a 14 = u14 at ha
  generalize sl a 15 = u15 at ha
  generalize sl a 16 = u16 at ha
  generalize sl a 17 = u17 at ha
  generalize sl a 18 = u18 at ha
  generalize sl a 19 = u19 at ha
  generalize sl a 20 = u20 at ha
  generalize sl a 21 = u21 at ha
  generalize sl a 22 = u22 at ha
  generalize sl a 23 = u23 at ha
  generalize sl a 24 = u24 at ha
  generalize sl a 25 = u25 at ha
  generalize sl a 26 = u26 at ha
  generalize sl a 27 = u27 at ha
  generalize sl a 28 = u28 at ha
  simp only [Act.put,List.setIfInBounds_toArray,List.set_cons_zero,List.set_cons_succ] at ha
  rw [ha]
  clear ha hI ht
  go_wp2
  go_ret2
  exact ⟨rfl,hb⟩
 ·have hG : get4 xs = 0 := by
   have hl := h.len
   unfold get4; split
   ·simp at hl; omega
   ·rfl
  rw [hG,if_neg h4]
  have h4' : ¬ ((n : Int) = 4) := by omega
  clear hG h
  go_enter Tryz.func174,Tryz.ntmps174
  go_wp2
  go_ret2
  exact ⟨rfl,Below.refl _ _⟩
end Go.Proofs.YtccaiiigdfieoaaGreatDoor
namespace Go.By
open Go.RowKit
theorem sl2_three {W : World} {g T : Nat} {fr : Nat × Nat} {p1 p2 p3 : Option Addr} {n1 n2 n3 c1 c2 c3 : Nat} {xs ys zs : List UInt8} (hW : W.heap[g]? = some (.cells #[.slice p1 n1 c1,.slice p2 n2 c2,.slice p3 n3 c3] T fr)) (h1 : Sl B8 W p1 n1 c1 xs) (h2 : Sl B8 W p2 n2 c2 ys) (h3 : Sl B8 W p3 n3 c3 zs) :
  Sl2 W (some ⟨g,0,none⟩) 3 3 [xs,ys,zs] := by
 refine sl2_block [xs,ys,zs] 3 hW rfl rfl (by simp [maxLen]) ?_
 intro i u hi
 match i,hi with
 | 0,hi => simp at hi; subst hi; exact ⟨p1,n1,c1,rfl,h1⟩
 | 1,hi => simp at hi; subst hi; exact ⟨p2,n2,c2,rfl,h2⟩
 | 2,hi => simp at hi; subst hi; exact ⟨p3,n3,c3,rfl,h3⟩
theorem sl2_four {W : World} {g T : Nat} {fr : Nat × Nat} {p1 p2 p3 p4 : Option Addr} {n1 n2 n3 n4 c1 c2 c3 c4 : Nat} {xs ys zs us : List UInt8} (hW : W.heap[g]? = some (.cells #[.slice p1 n1 c1,.slice p2 n2 c2,.slice p3 n3 c3,.slice p4 n4 c4] T fr)) (h1 : Sl B8 W p1 n1 c1 xs) (h2 : Sl B8 W p2 n2 c2 ys) (h3 : Sl B8 W p3 n3 c3 zs) (h4 : Sl B8 W p4 n4 c4 us) :
  Sl2 W (some ⟨g,0,none⟩) 4 4 [xs,ys,zs,us] := by
 refine sl2_block [xs,ys,zs,us] 4 hW rfl rfl (by simp [maxLen]) ?_
 intro i u hi
 match i,hi with
 | 0,hi => simp at hi; subst hi; exact ⟨p1,n1,c1,rfl,h1⟩
 | 1,hi => simp at hi; subst hi; exact ⟨p2,n2,c2,rfl,h2⟩
 | 2,hi => simp at hi; subst hi; exact ⟨p3,n3,c3,rfl,h3⟩
 | 3,hi => simp at hi; subst hi; exact ⟨p4,n4,c4,rfl,h4⟩
theorem sl2_one {W : World} {g T : Nat} {fr : Nat × Nat} {p1 : Option Addr} {n1 c1 : Nat} {xs : List UInt8} (hW : W.heap[g]? = some (.cells #[.slice p1 n1 c1] T fr)) (h1 : Sl B8 W p1 n1 c1 xs) :
  Sl2 W (some ⟨g,0,none⟩) 1 1 [xs] := by
 refine sl2_block [xs] 1 hW rfl rfl (by simp [maxLen]) ?_
 intro i u hi
 match i,hi with
 | 0,hi => simp at hi; subst hi; exact ⟨p1,n1,c1,rfl,h1⟩
theorem cells_three {w : World} {b T : Nat} {u v x : Value} (h : w.heap[b]? = some (.cells #[u,v,x] T (0,0))) : w.cell? ⟨b,0,none⟩ = some u ∧ w.cell? ⟨b,1,none⟩ = some v ∧ w.cell? ⟨b,2,none⟩ = some x :=
 ⟨cell_of_row _ _ 0 _ _ _ h,cell_of_row _ _ 1 _ _ _ h,cell_of_row _ _ 2 _ _ _ h⟩
theorem cells_four {w : World} {b T : Nat} {u v x y : Value} (h : w.heap[b]? = some (.cells #[u,v,x,y] T (0,0))) : w.cell? ⟨b,0,none⟩ = some u ∧ w.cell? ⟨b,1,none⟩ = some v ∧ w.cell? ⟨b,2,none⟩ = some x ∧ w.cell? ⟨b,3,none⟩ = some y :=
 ⟨cell_of_row _ _ 0 _ _ _ h,cell_of_row _ _ 1 _ _ _ h,cell_of_row _ _ 2 _ _ _ h,cell_of_row _ _ 3 _ _ _ h⟩
theorem cells_five {w : World} {b T : Nat} {u v x y z : Value} (h : w.heap[b]? = some (.cells #[u,v,x,y,z] T (0,0))) : w.cell? ⟨b,0,none⟩ = some u ∧ w.cell? ⟨b,1,none⟩ = some v ∧ w.cell? ⟨b,2,none⟩ = some x ∧ w.cell? ⟨b,3,none⟩ = some y ∧ w.cell? ⟨b,4,none⟩ = some z :=
 ⟨cell_of_row _ _ 0 _ _ _ h,cell_of_row _ _ 1 _ _ _ h,cell_of_row _ _ 2 _ _ _ h,cell_of_row _ _ 3 _ _ _ h,cell_of_row _ _ 4 _ _ _ h⟩
theorem below_row {B g : Nat} {a w : World} {cs : Array Value} (h : Below B a w) (hg : B ≤ g) : Below B a (w.setRow g cs) := by
 refine ⟨h.os,h.tape,h.output,?_,fun i hi => ?_⟩
 ·have := h.size; simpa [World.setRow] using this
 ·rw [← h.block i hi]
  simp only [World.setRow,Array.getElem?_modify]
  rw [if_neg (by omega)]
theorem cell_setRow {w : World} {b o g : Nat} {v : Value} {cs : Array Value} (h : w.cell? ⟨b,o,none⟩ = some v) (hne : b ≠ g) : (w.setRow g cs).cell? ⟨b,o,none⟩ = some v := by
 refine (World.cell?_of_block (a := ⟨b,o,none⟩) ?_).trans h
 simp only [World.setRow,Array.getElem?_modify]
 rw [if_neg (by omega)]
theorem sl_setRow {α : Type} {enc : α → Value} {w : World} {p : Option Addr} {n c g : Nat} {xs : List α} {cs : Array Value} (h : Sl enc w p n c xs) (hne : ∀ a,p = some a → a.block ≠ g) : Sl enc (w.setRow g cs) p n c xs :=
 ⟨h.len,h.le,h.max,h.nil,fun i hi => by
  obtain ⟨b,o,e,hc⟩ := h.rs i hi
  exact ⟨b,o,e,cell_setRow hc (hne _ e)⟩⟩
def NewP (B : Nat) (q : Option Addr) : Prop := ∀ a,q = some a → B ≤ a.block
structure Fresh (T : TypeId) (B : Nat) (w : World) (q : Option Addr) (n c : Nat) (xs : List UInt8) : Prop where
 sl : Sl B8 w q n c xs
 new : NewP B q
 ty : ∀ a,q = some a → ∃ cs fr,w.heap[a.block]? = some (.cells cs T fr)
theorem Fresh.of_owns {T : TypeId} {B : Nat} {w : World} {q : Option Addr} {n c : Nat} {xs : List UInt8} (h : w.ownsRow B T 1 (.slice q n c) n (xs.map B8)) : Fresh T B w q n c xs := by
 refine ⟨Sl.of_owns h,fun a ha => (owns_new h a ha).1,fun a ha => ?_⟩
 rcases h.2 with ⟨h2,_⟩ | ⟨g,cap,cur,hv,_,hh,_⟩
 ·subst ha; cases h2
 ·subst ha; cases hv; exact ⟨_,_,hh⟩
theorem Fresh.none (T : TypeId) (B : Nat) (w : World) : Fresh T B w none 0 0 [] := ⟨Sl.nil0 _ _,fun a ha => (by cases ha),fun a ha => (by cases ha)⟩
theorem Fresh.keep {T : TypeId} {B : Nat} {w w' : World} {q : Option Addr} {n c : Nat} {xs : List UInt8} (h : Fresh T B w q n c xs) (hb : Below w.heap.size w w') : Fresh T B w' q n c xs :=
 ⟨h.sl.keep hb,h.new,fun a ha => by obtain ⟨cs,fr,e⟩ := h.ty a ha; exact ⟨cs,fr,(hb.block _ (lt_of_block e)).trans e⟩⟩
theorem Fresh.mono {T : TypeId} {B B' : Nat} {w : World} {q : Option Addr} {n c : Nat} {xs : List UInt8} (h : Fresh T B w q n c xs) (hB : B' ≤ B) : Fresh T B' w q n c xs := ⟨h.sl,fun a ha => Nat.le_trans hB (h.new a ha),h.ty⟩
theorem Fresh.row {T T' : TypeId} {B g : Nat} {w : World} {q : Option Addr} {n c : Nat} {xs : List UInt8} {cs old : Array Value} {fr : Nat × Nat} (h : Fresh T B w q n c xs) (hg : w.heap[g]? = some (.cells old T' fr)) (hne : T' ≠ T) : Fresh T B (w.setRow g cs) q n c xs := by
 have hd : ∀ a,q = some a → a.block ≠ g := fun a ha e => by
  obtain ⟨c2,f2,e2⟩ := h.ty a ha
  rw [e,hg] at e2
  injection e2 with e2
  injection e2 with _ e3 _
  exact hne e3
 exact ⟨sl_setRow h.sl hd,h.new,fun a ha => by obtain ⟨c2,f2,e2⟩ := h.ty a ha; exact ⟨c2,f2,hro e2 (hd a ha)⟩⟩
theorem one_of {w w1 : World} {A : Obj} (hb : Below (w.alloc A).heap.size (w.alloc A) w1) : Below w.heap.size w w1 ∧ w1.heap[w.heap.size]? = some A ∧ w.heap.size + 1 ≤ w1.heap.size :=
 ⟨(al (Below.refl _ _) (Nat.le_refl _)).trans (hb.mono (by simp)),(hb.block _ (by simp)).trans (hnew rfl),by have := hb.size; simpa using this⟩
theorem two_of {w w1 : World} {A B : Obj} (hb : Below ((w.alloc A).alloc B).heap.size ((w.alloc A).alloc B) w1) : Below w.heap.size w w1 ∧ w1.heap[w.heap.size]? = some A ∧ w1.heap[w.heap.size + 1]? = some B ∧ w.heap.size + 2 ≤ w1.heap.size :=
 ⟨(al (al (Below.refl _ _) (Nat.le_refl _)) (by simp)).trans (hb.mono (by simp; omega)),(hb.block _ (by simp; omega)).trans (hal (hnew rfl)),(hb.block _ (by simp)).trans (hnew (by simp)),by have := hb.size; simp at this; omega⟩
theorem Sl.part {α : Type} {enc : α → Value} {w : World} {b o n c k m : Nat} {xs : List α} (h : Sl enc w (some ⟨b,o,none⟩) n c xs) (hk : k + m ≤ n) : Sl enc w (some ⟨b,o + k,none⟩) m (c - k) ((xs.drop k).take m) := by
 have h1 := h.len; have h2 := h.le; have h3 := h.max
 refine ⟨by simp; omega,by omega,by omega,fun hp => (by cases hp),?_⟩
 intro i hi
 simp at hi
 obtain ⟨b',o',e,hc⟩ := h.rs (k + i) (by omega)
 cases e
 refine ⟨_,_,rfl,?_⟩
 rw [Nat.add_assoc,hc]
 simp
theorem Sl.tail {α : Type} {enc : α → Value} {w : World} {b o n c : Nat} {xs : List α} (k : Nat) (h : Sl enc w (some ⟨b,o,none⟩) n c xs) (hk : k ≤ n) : Sl enc w (if c = k then some ⟨b,o,none⟩ else some ⟨b,o + k,none⟩) (n - k) (c - k) (xs.drop k) := by
 have h1 := h.len; have h2 := h.le; have h3 := h.max
 refine ⟨by simp; omega,by omega,by omega,fun hp => (by split at hp <;> cases hp),?_⟩
 intro i hi
 simp at hi
 rw [if_neg (by omega)]
 obtain ⟨b',o',e,hc⟩ := h.rs (k + i) (by omega)
 cases e
 refine ⟨_,_,rfl,?_⟩
 rw [Nat.add_assoc,hc]
 simp
theorem Sl.read {α : Type} {enc : α → Value} {w : World} {p : Option Addr} {n c : Nat} {xs ys : List α} (h : Sl enc w p n c xs) (e : xs = ys) : Sl enc w p n c ys := e ▸ h
theorem Sl.has {α : Type} {enc : α → Value} {w : World} {p : Option Addr} {n c : Nat} {xs : List α} (h : Sl enc w p n c xs) (hn : 0 < n) : ∃ b o,p = some ⟨b,o,none⟩ ∧ b < w.heap.size := h.rs.lt (by rw [h.len]; exact hn)
def SRet (w : World) (ys : List UInt8) (code : Int) (e : Ending) (w' : World) : Prop :=
 ∃ q n c,e = .returned (.tuple #[.slice q n c,.int .i64 code]) ∧ Sl B8 w' q n c ys ∧ Below w.heap.size w w'
def SRet1 (w : World) (ys : List UInt8) (e : Ending) (w' : World) : Prop :=
 ∃ q n c,e = .returned (.slice q n c) ∧ Sl B8 w' q n c ys ∧ Below w.heap.size w w'
def SRetF (T : TypeId) (w : World) (ys : List UInt8) (code : Int) (e : Ending) (w' : World) : Prop :=
 ∃ q n c,e = .returned (.tuple #[.slice q n c,.int .i64 code]) ∧ Fresh T w.heap.size w' q n c ys ∧ Below w.heap.size w w'
theorem SRetF.ret {T : TypeId} {w w' : World} {ys : List UInt8} {code : Int} {e : Ending} (h : SRetF T w ys code e w') : SRet w ys code e w' := by
 obtain ⟨q,n,c,e,hf,hb⟩ := h
 exact ⟨q,n,c,e,hf.sl,hb⟩
theorem SRetF.nil (T : TypeId) (w w' : World) (code : Int) (hb : Below w.heap.size w w') : SRetF T w [] code (.returned (.tuple #[.slice none 0 0,.int .i64 code])) w' := ⟨none,0,0,rfl,Fresh.none _ _ _,hb⟩
theorem Fresh.block {T B g n : Nat} {w : World} {fr : Nat × Nat} {xs : List UInt8} (h : w.heap[g]? = some (.cells (xs.map B8).toArray T fr)) (hl : xs.length = n) (hn : n ≤ maxLen) (hg : B ≤ g) : Fresh T B w (some ⟨g,0,Option.none⟩) n n xs :=
 ⟨sl_block xs n h rfl hl hn,fun a ha => by cases ha; exact hg,fun a ha => by cases ha; exact ⟨_,_,h⟩⟩
theorem Fresh.read {T B n c : Nat} {w : World} {q : Option Addr} {xs ys : List UInt8} (h : Fresh T B w q n c xs) (e : xs = ys) : Fresh T B w q n c ys := e ▸ h
def FrT (T B : Nat) (ys : List UInt8) (v : Value) (w : World) : Prop := ∃ q n c,v = .slice q n c ∧ Fresh T B w q n c ys
def ShF (T B : Nat) (ys : List UInt8) : Shp := ⟨FrT T B ys,fun _ _ _ ⟨q,n,c,e,h⟩ hb => ⟨q,n,c,e,h.keep hb⟩⟩
theorem SRet.nil (w w' : World) (code : Int) (hb : Below w.heap.size w w') : SRet w [] code (.returned (.tuple #[.slice none 0 0,.int .i64 code])) w' := ⟨none,0,0,rfl,Sl.nil0 _ _,hb⟩
theorem SRet1.of {T : TypeId} {w w' : World} {ys : List UInt8} {e : Ending} (h : RetB1 T w ys e w') : SRet1 w ys e w' := by
 obtain ⟨q,m,c,_,e,ho,hb⟩ := h
 exact ⟨q,m,c,e,Sl.of_owns ho,hb⟩
theorem SRet.of {T : TypeId} {w w' : World} {ys : List UInt8} {code : Int} {e : Ending} (h : RetB T w ys code e w') : SRet w ys code e w' := by
 obtain ⟨q,m,c,_,e,ho,hb⟩ := h
 exact ⟨q,m,c,e,Sl.of_owns ho,hb⟩
theorem res_ctt {P : Program} {fn : Func} {p u u2 : Tmp} {ty : TypeId} (h : fn.results = #[.cell p ty,.tmp u,.tmp u2]) (tmps : Array Value) (w : World) (g : Nat) (t : TypeId) (cs : Array Value) (fr : Nat × Nat) (d : TypeDesc) (v v2 : Value)
  (hp : tmps.getD p undef = .pointer (some ⟨g,0,none⟩)) (hg : w.heap[g]? = some (.cells cs t fr)) (hv : tmps.getD u undef = v) (hv2 : tmps.getD u2 undef = v2)
  (hu : P.underlying ty = some d) (hd : (match d with | .struct _ | .array _ _ => true | _ => false) = true) (hi : (P.info? ty).map (·.size) = some cs.size) :
  (results fn tmps).run P w = .ok (.tuple #[.agg cs,v,v2]) w := by
 have hp' : tmps[p]?.getD undef = .pointer (some ⟨g,0,none⟩) := by simpa using hp
 have hv' : tmps[u]?.getD undef = v := by simpa using hv
 have hv2' : tmps[u2]?.getD undef = v2 := by simpa using hv2
 simp [results,h,hp',hv',hv2',asAddr,run_loadVar_row w g t ty cs fr d hg hu hd hi]
theorem res_ct {P : Program} {fn : Func} {p u : Tmp} {ty : TypeId} (h : fn.results = #[.cell p ty,.tmp u]) (tmps : Array Value) (w : World) (g : Nat) (t : TypeId) (cs : Array Value) (fr : Nat × Nat) (d : TypeDesc) (v : Value)
  (hp : tmps.getD p undef = .pointer (some ⟨g,0,none⟩)) (hg : w.heap[g]? = some (.cells cs t fr)) (hv : tmps.getD u undef = v)
  (hu : P.underlying ty = some d) (hd : (match d with | .struct _ | .array _ _ => true | _ => false) = true) (hi : (P.info? ty).map (·.size) = some cs.size) :
  (results fn tmps).run P w = .ok (.tuple #[.agg cs,v]) w := by
 have hp' : tmps[p]?.getD undef = .pointer (some ⟨g,0,none⟩) := by simpa using hp
 have hv' : tmps[u]?.getD undef = v := by simpa using hv
 simp [results,h,hp',hv',asAddr,run_loadVar_row w g t ty cs fr d hg hu hd hi]
end Go.By
namespace Go.By
open Go.Lib
end Go.By
namespace Go.Proofs.YtccaiiigdfieoaaGreatDoor
def dgt (x : Nat) : UInt8 := if x < 10 then UInt8.ofNat (48 + x) else UInt8.ofNat (87 + x)
def hexL (l : List UInt8) : List UInt8 := l.flatMap fun b => [dgt (b.toNat / 16),dgt (b.toNat % 16)]
end Go.Proofs.YtccaiiigdfieoaaGreatDoor
namespace Go.Proofs.YtccaiiigdfieoaaGreatDoor
open Go.RowKit Go.By
theorem dgt_lo {x : Nat} (h : x < 10) : Value.int .u8 (48 + x) = B8 (dgt x) := by
 unfold dgt; rw [if_pos h]
 show _ = Value.int .u8 ((UInt8.ofNat (48 + x)).toNat : Int)
 rw [UInt8.toNat_ofNat',Nat.mod_eq_of_lt (by omega)]; simp
theorem dgt_hi {x : Nat} (h : ¬ x < 10) (h2 : x < 16) : Value.int .u8 (87 + x) = B8 (dgt x) := by
 unfold dgt; rw [if_neg h]
 show _ = Value.int .u8 ((UInt8.ofNat (87 + x)).toNat : Int)
 rw [UInt8.toNat_ofNat',Nat.mod_eq_of_lt (by omega)]; simp
theorem digit_any (x : Nat) (h : x < 16) (w : World) : Calls Tryz.prog 92 #[.int .u8 (x : Nat)] w fun e w' => e = .returned (B8 (dgt x)) ∧ w = w' := by
 by_cases h1 : x < 10
 ·have e := dgt_lo h1
  have h1' : (x : Int) < 10 := by omega
  have hw : IntKind.u8.wrap (48 + (x : Int)) = 48 + (x : Int) := by rw [IntKind.wrap_u8]; omega
  rw [← e]
  clear e
  go_enter Tryz.func92,Tryz.ntmps92
  go_wp2
  go_ret
  exact ⟨rfl,rfl⟩
 ·have e := dgt_hi h1 h
  have h1' : ¬ (x : Int) < 10 := by omega
  have hw : IntKind.u8.wrap (97 + (x : Int)) = 97 + (x : Int) := by rw [IntKind.wrap_u8]; omega
  have hw2 : IntKind.u8.wrap (97 + (x : Int) - 10) = 87 + (x : Int) := by rw [IntKind.wrap_u8]; omega
  rw [← e]
  clear e
  go_enter Tryz.func92,Tryz.ntmps92
  go_wp2
  go_ret
  exact ⟨rfl,rfl⟩
end Go.Proofs.YtccaiiigdfieoaaGreatDoor
namespace Go.By
open Go.RowKit
theorem heap_of_ownsC {w : World} {base E g n : Nat} {L : List Value} (h : w.ownsRow base E 1 (.slice (some ⟨g,0,none⟩) n n) n L) : w.heap[g]? = some (.cells L.toArray E (0,0)) := by
 rcases h.2 with ⟨h1,_⟩ | ⟨g',cap,cur,hv,_,hh,_,_,hs,ht⟩
 ·cases h1
 ·cases hv
  rw [hh]
  have : cur = L.toArray := by
   rw [← ht,List.take_of_length_le (by simp [hs])]
  rw [this]
theorem wp_make_bytesC {P : Program} (w : World) {o : Oper} {a : Act} {K : Act → World → Prop} {Q : Exit → Act → World → Prop} (hg : o.guard = none) (l c : Operand) (t : TypeId) (hop : o.op = Op.makeSlice t l c)
  (e : TypeId) (i : TypeInfo) (h1 : P.underlying t = some (.slice e)) (h2 : P.info? e = some i) (h3 : i.zero = some (.int .u8 0)) (h4 : i.size = 1) (h5 : i.bytes = 1) (n : Nat) (hl : a.eval l = .int .i64 n) (hc : a.eval c = .int .i64 n) (hn : n ≤ 65536)
  (hK : ∀ w' g,g = w.heap.size → w'.heap[g]? = some (.cells ((List.replicate n (0 : UInt8)).map B8).toArray e (0,0)) → Below w.heap.size w w' → K (a.put o.dst (.slice (some ⟨g,0,none⟩) n n)) w') : o.wp P a w K Q := by
 have _ := hg
 obtain ⟨w',hrun,r1,r2⟩ := run_make_full (P := P) w w.heap.size t e i (.int .u8 0) 1 h1 h2 h3 h4 .i64 .i64 n (by rw [h5]; omega) (by unfold maxLen; omega) (Nat.le_refl _)
 unfold Oper.wp
 simp [execOp,hop,hl,hc,hrun,Result.andThen]
 refine hK w' _ rfl ?_ ((Below.refl _ _).grown r2 (Nat.le_refl _) (by simp))
 have e1 : (madeCells #[Value.int .u8 0] n).toList = List.replicate n (B8 0) := toList_madeCells_one _ _
 have r3 : w'.ownsRow w.heap.size e 1 (.slice (some ⟨w.heap.size,0,none⟩) n n) n (List.replicate n (B8 0)) := by rw [← e1]; have r4 := r1; simp only [Nat.mul_one] at r4; exact r4
 rw [List.map_replicate]
 exact heap_of_ownsC r3
end Go.By
namespace Go.By
open Go.RowKit
def mixS (s : Nat) : Nat := (s + 11400714819323198485) % 18446744073709551616
def mixX (z k : Nat) : Nat := z ^^^ (z / 2 ^ k)
def mixZ (s : Nat) : Nat := mixX (mixX (mixX s 30 * 13787848793156543929 % 18446744073709551616) 27 * 10723151780598845931 % 18446744073709551616) 31
def mixIt (s : Nat) : Nat → Nat
 | 0 => s
 | q + 1 => mixS (mixIt s q)
def mixAt (s i : Nat) : UInt8 := UInt8.ofNat (mixZ (mixIt s (i / 8 + 1)) / 256 ^ (i % 8))
def mixRow (s n : Nat) : List UInt8 := (List.range n).map (mixAt s)
theorem mixRow_len (s n : Nat) : (mixRow s n).length = n := by simp [mixRow]
theorem mixX_lt {z k : Nat} (h : z < 18446744073709551616) : mixX z k < 18446744073709551616 := by
 unfold mixX
 exact Nat.xor_lt_two_pow (n := 64) h (Nat.lt_of_le_of_lt (Nat.div_le_self _ _) h)
theorem mixS_lt (s : Nat) : mixS s < 18446744073709551616 := Nat.mod_lt _ (by decide)
theorem mixZ_lt (s : Nat) : mixZ s < 18446744073709551616 := mixX_lt (Nat.mod_lt _ (by decide))
theorem bits_xor64 {a b : Nat} (ha : a < 18446744073709551616) (hb : b < 18446744073709551616) : bits .xor .u64 (a : Int) (b : Int) = ((a ^^^ b : Nat) : Int) :=
 bits_xor_nat .u64 64 (by decide) (fun n h1 h2 => by rw [IntKind.wrap_u64]; omega) a b ha hb
theorem mixX_bits {z k : Nat} (hz : z < 18446744073709551616) : bits .xor .u64 (z : Int) ((z : Int) / ((2 ^ k : Nat) : Int)) = (mixX z k : Int) := by
 rw [← Int.natCast_ediv,bits_xor64 hz (Nat.lt_of_le_of_lt (Nat.div_le_self _ _) hz)]
 rfl
theorem wpList_make_bytesC {P : Program} (w : World) {ops : Array Oper} {rest : List Oper} {o : Oper} {a : Act} {Q : Exit → Act → World → Prop} (hg : o.guard = none) (l c : Operand) (t : TypeId) (hop : o.op = Op.makeSlice t l c)
  (e : TypeId) (i : TypeInfo) (h1 : P.underlying t = some (.slice e)) (h2 : P.info? e = some i) (h3 : i.zero = some (.int .u8 0)) (h4 : i.size = 1) (h5 : i.bytes = 1) (n : Nat) (hl : a.eval l = .int .i64 n) (hc : a.eval c = .int .i64 n) (hn : n ≤ 65536)
  (hK : ∀ w',w'.heap[w.heap.size]? = some (.cells ((List.replicate n (0 : UInt8)).map B8).toArray e (0,0)) → Below w.heap.size w w' → wpList P ops Q rest (a.put o.dst (.slice (some ⟨w.heap.size,0,none⟩) n n)) w') : wpList P ops Q (o :: rest) a w :=
 wpList_plain hg fun _ hK' => wp_make_bytesC w hg l c t hop e i h1 h2 h3 h4 h5 n hl hc hn (fun w' g e1 e2 e3 => by subst e1; exact hK' _ _ (hK w' e2 e3))
theorem set_toArray {xs : List UInt8} {j : Nat} {v : UInt8} {w : World} {g : Nat} {T : TypeId} (h : w.heap[g]? = some (.cells (xs.map B8).toArray T (0,0))) : (w.setCell ⟨g,j,none⟩ (B8 v)).heap[g]? = some (.cells ((xs.set j v).map B8).toArray T (0,0)) := by
 rw [hss h]
 simp [List.map_set]
theorem mixAt_val2 (s q i : Nat) (hi : i < 8) : (((mixZ (mixIt s (q + 1)) : Nat) : Int) / (2 ^ (8 * i) : Int)) % 256 = ((mixAt s (8 * q + i)).toNat : Int) := by
 have e1 : (8 * q + i) / 8 = q := by omega
 have e2 : (8 * q + i) % 8 = i := by omega
 unfold mixAt
 rw [e1,e2,UInt8.toNat_ofNat',show (2 : Int) ^ (8 * i) = ((256 ^ i : Nat) : Int) by rw [Int.natCast_pow,Int.pow_mul]; rfl]
 omega
end Go.By
namespace Go.Proofs.YtccaiiigdfieoaaGreatDoor
open Go.RowKit Go.By
set_option maxRecDepth 100000 in
set_option maxHeartbeats 1000000 in
theorem MNext_any (g s : Nat) (w : World) (h : w.heap[g]? = some (.cells #[.int .u64 (s : Nat)] 308 (0,0))) :
  Calls Tryz.prog 236 #[.pointer (some ⟨g,0,none⟩)] w fun e w' => e = .returned (.int .u64 (mixZ (mixS s) : Nat)) ∧ w' = w.setCell ⟨g,0,none⟩ (.int .u64 (mixS s : Nat)) := by
 have c0 := cell_of_row _ _ 0 _ _ _ h
 have z0 := frozen_of_row _ _ 0 _ _ h
 have w1 : IntKind.u64.wrap ((s : Int) + 11400714819323198485) = (mixS s : Int) := by rw [IntKind.wrap_u64]; unfold mixS; omega
 have hl := mixS_lt s
 obtain ⟨S,hS⟩ : ∃ S,S = mixS s := ⟨_,rfl⟩
 unfold mixZ
 rw [← hS] at w1 hl ⊢
 have x1 := mixX_bits (k := 30) hl
 have l1 := mixX_lt (k := 30) hl
 obtain ⟨Y,hY⟩ : ∃ Y,Y = mixX S 30 := ⟨_,rfl⟩
 rw [← hY] at x1 l1 ⊢
 have m1 : IntKind.u64.wrap ((Y : Int) * 13787848793156543929) = ((Y * 13787848793156543929 % 18446744073709551616 : Nat) : Int) := by rw [IntKind.wrap_u64]; omega
 obtain ⟨Z,hZ⟩ : ∃ Z,Z = Y * 13787848793156543929 % 18446744073709551616 := ⟨_,rfl⟩
 have lz : Z < 18446744073709551616 := by rw [hZ]; exact Nat.mod_lt _ (by decide)
 rw [← hZ] at m1 ⊢
 have x2 := mixX_bits (k := 27) lz
 have l2 := mixX_lt (k := 27) lz
 obtain ⟨Y2,hY2⟩ : ∃ Y,Y = mixX Z 27 := ⟨_,rfl⟩
 rw [← hY2] at x2 l2 ⊢
 have m2 : IntKind.u64.wrap ((Y2 : Int) * 10723151780598845931) = ((Y2 * 10723151780598845931 % 18446744073709551616 : Nat) : Int) := by rw [IntKind.wrap_u64]; omega
 obtain ⟨Z2,hZ2⟩ : ∃ Z,Z = Y2 * 10723151780598845931 % 18446744073709551616 := ⟨_,rfl⟩
 have lz2 : Z2 < 18446744073709551616 := by rw [hZ2]; exact Nat.mod_lt _ (by decide)
 rw [← hZ2] at m2 ⊢
 have x3 := mixX_bits (k := 31) lz2
 obtain ⟨Y3,hY3⟩ : ∃ Y,Y = mixX Z2 31 := ⟨_,rfl⟩
 rw [← hY3] at x3 ⊢
 simp only [Nat.reducePow,Int.cast_ofNat_Int] at x1 x2 x3
 clear hS hY hZ hY2 hZ2 hY3 hl l1 lz l2 lz2 h
 go_enter Tryz.func236,Tryz.ntmps236
 go_wp2
 go_ret
 exact ⟨rfl,rfl⟩
set_option maxRecDepth 100000 in
set_option maxHeartbeats 2000000 in
theorem MBytes_any (g s n : Nat) (w : World) (h : w.heap[g]? = some (.cells #[.int .u64 (s : Nat)] 308 (0,0))) (hn : n ≤ 65536) :
  Calls Tryz.prog 210 #[.pointer (some ⟨g,0,none⟩),.int .i64 (n : Nat)] w fun e w' => ∃ G,e = .returned (.tuple #[.slice (some ⟨G,0,none⟩) n n,.int .i64 0]) ∧ w.heap.size ≤ G ∧ w'.heap[G]? = some (.cells ((mixRow s n).map B8).toArray 5 (0,0)) ∧ ∀ B,B ≤ g → Below B w w' := by
 obtain ⟨i0,hi,hz0,hz1,hz2⟩ := info_parts info_u8
 have HN := Lib.hid hn
 have hg := lt_of_block h
 have H := Lib.hid h
 clear h
 go_enter Tryz.func210,Tryz.ntmps210
 go_wp2_with (at_make; refine wpList_make_bytesC _ rfl _ _ 22 rfl 5 i0 Tryz.underlying22 hi hz0 hz1 hz2 n rfl rfl HN.out ?_)
 intro w1 h1 hb1
 obtain ⟨G,hG⟩ : ∃ G,G = w.heap.size := ⟨_,rfl⟩
 rw [← hG] at h1 ⊢
 have HG : Hid (g < G) := by rw [hG]; exact hg
 have HS : Hid (w.heap.size ≤ G) := by rw [hG]; exact Nat.le_refl _
 have B1 : Hid (∀ B,B ≤ g → Below B w w1) := fun B hB => hb1.mono (by omega)
 have H1 := Lib.hid h1
 have H2 := Lib.hid ((hb1.block _ hg).trans H.out)
 clear h1 hb1 hG hg H
 go_wp2
 go_loopw [7] (fun v wr => ∃ q : Nat,v = .int .i64 (8 * q : Nat) ∧ 8 * q ≤ n + 7 ∧ Hid (wr.heap[g]? = some (.cells #[.int .u64 (mixIt s q : Nat)] 308 (0,0))) ∧ Hid (wr.heap[G]? = some (.cells ((prog (mixRow s n) (List.replicate n (0 : UInt8)) (min (8 * q) n)).map B8).toArray 5 (0,0))) ∧ Hid (∀ B,B ≤ g → Below B w wr)) (fun v _ => n + 8 - (intOf v).toNat)
 case atStart => exact ⟨0,rfl,by omega,H2.out,by rw [Nat.mul_zero,Nat.zero_min,prog_zero]; show w1.heap[G]? = _; simpa using H1.out,B1.out⟩
 case round =>
  obtain ⟨q,rfl,hq,R1,R2,R3⟩ := hrel
  by_cases hlt : 8 * q < n
  ·go_wp2_with fail
   refine Calls.mono (MNext_any g _ _ R1.out) ?_
   rintro e w2 ⟨rfl,rfl⟩
   have e0 : mixS (mixIt s q) = mixIt s (q + 1) := rfl
   rw [e0]
   have F1 := Lib.hid (hss (i := 0) (v := .int .u64 (mixIt s (q + 1) : Nat)) R1.out)
   have F2 := Lib.hid (hsc (a := ⟨g,0,none⟩) (v := .int .u64 (mixIt s (q + 1) : Nat)) R2.out (by have := HG.out; simp; omega))
   have F3 : Hid (∀ B,B ≤ g → Below B w (wr.setCell ⟨g,0,none⟩ (.int .u64 (mixIt s (q + 1) : Nat)))) := fun B hB => (R3.out B hB).setCell (by simpa using hB) _
   clear R1 R2 R3 e0
   generalize wr.setCell ⟨g,0,none⟩ (.int .u64 (mixIt s (q + 1) : Nat)) = w2 at *
   obtain ⟨X,hX⟩ : ∃ X,X = mixZ (mixIt s (q + 1)) := ⟨_,rfl⟩
   rw [← hX]
   have HX := Lib.hid hX
   clear hX
   rw [show min (8 * q) n = 8 * q by omega] at F2
   by_cases h8 : n < 8 * q + 8
   ·obtain ⟨m,hm⟩ : ∃ m,n = 8 * q + m := ⟨n - 8 * q,by omega⟩
    have eM : (n : Int) - 8 * (q : Int) = (m : Int) := by omega
    have HM := Lib.hid hm
    have hm8 : m < 8 := by omega
    clear hm
    go_wp2
    go_loopw [31] (fun v wr => ∃ i : Nat,v = .int .i64 (i : Nat) ∧ i ≤ m ∧ Hid (wr.heap[g]? = some (.cells #[.int .u64 (mixIt s (q + 1) : Nat)] 308 (0,0))) ∧ Hid (wr.heap[G]? = some (.cells ((prog (mixRow s n) (List.replicate n (0 : UInt8)) (8 * q + i)).map B8).toArray 5 (0,0))) ∧ Hid (∀ B,B ≤ g → Below B w wr)) (fun v _ => m - (intOf v).toNat)
    case atStart => exact ⟨0,rfl,by omega,F1.out,by rw [Nat.add_zero]; exact F2.out,F3.out⟩
    case round =>
     clear F1 F2 F3
     obtain ⟨i,rfl,hi,I1,I2,I3⟩ := hrel
     by_cases hl : i < m
     ·have hj : 8 * q + i < n := by have := HM.out; omega
      have cG : wr.cell? ⟨G,8 * q + i,none⟩ = some (B8 0) := by
       rw [cell_of_row _ _ (8 * q + i) _ _ _ I2.out]
       have := prog_at (mixRow s n) (List.replicate n (0 : UInt8)) (8 * q + i) n (mixRow_len s n) (by simp) hj
       simp [this,hj]
      have zG := frozen_of_row _ _ (8 * q + i) _ _ I2.out
      have hv := mixAt_val2 s q i (by omega)
      rw [← HX.out] at hv
      have eI : (8 * (q : Int) + (i : Int)).toNat = 8 * q + i := by omega
      have I4 := Lib.hid (set_toArray (v := mixAt s (8 * q + i)) (j := 8 * q + i) I2.out)
      have I5 := Lib.hid (hsc (a := ⟨G,8 * q + i,none⟩) (v := B8 (mixAt s (8 * q + i))) I1.out (by have := HG.out; simp; omega))
      have I6 : Hid (∀ B,B ≤ g → Below B w (wr.setCell ⟨G,8 * q + i,none⟩ (B8 (mixAt s (8 * q + i))))) := fun B hB => (I3.out B hB).setCell (by have := HG.out; simp; omega) _
      clear I1 I2 I3
      go_wp2
      go_roundw
      case rel =>
       refine ⟨i + 1,by go_num,by omega,I5.out,?_,I6.out⟩
       rw [prog_succ _ _ (8 * q + i) n (mixRow_len s n) (by simp) hj (mixAt s (8 * q + i)) (by simp [mixRow,hj])] at I4
       rw [← Nat.add_assoc]
       exact I4.out
      case measure => simp [intOf]; omega
     ·have hiM : i = m := by omega
      subst hiM
      clear hl hi
      go_wp2
      go_roundw
      case rel =>
       exact ⟨q + 1,by go_num,by omega,I1.out,by rw [show min (8 * (q + 1)) n = 8 * q + i by have := HM.out; omega]; exact I2.out,I3.out⟩
      case measure => simp [intOf]; omega
   ·have HM : Hid (8 * q + 8 ≤ n) := by show 8 * q + 8 ≤ n; omega
    go_wp2
    go_loopw [31] (fun v wr => ∃ i : Nat,v = .int .i64 (i : Nat) ∧ i ≤ 8 ∧ Hid (wr.heap[g]? = some (.cells #[.int .u64 (mixIt s (q + 1) : Nat)] 308 (0,0))) ∧ Hid (wr.heap[G]? = some (.cells ((prog (mixRow s n) (List.replicate n (0 : UInt8)) (8 * q + i)).map B8).toArray 5 (0,0))) ∧ Hid (∀ B,B ≤ g → Below B w wr)) (fun v _ => 8 - (intOf v).toNat)
    case atStart => exact ⟨0,rfl,by omega,F1.out,by rw [Nat.add_zero]; exact F2.out,F3.out⟩
    case round =>
     clear F1 F2 F3
     obtain ⟨i,rfl,hi,I1,I2,I3⟩ := hrel
     by_cases hl : i < 8
     ·have hj : 8 * q + i < n := by have := HM.out; omega
      have cG : wr.cell? ⟨G,8 * q + i,none⟩ = some (B8 0) := by
       rw [cell_of_row _ _ (8 * q + i) _ _ _ I2.out]
       have := prog_at (mixRow s n) (List.replicate n (0 : UInt8)) (8 * q + i) n (mixRow_len s n) (by simp) hj
       simp [this,hj]
      have zG := frozen_of_row _ _ (8 * q + i) _ _ I2.out
      have hv := mixAt_val2 s q i (by omega)
      rw [← HX.out] at hv
      have eI : (8 * (q : Int) + (i : Int)).toNat = 8 * q + i := by omega
      have I4 := Lib.hid (set_toArray (v := mixAt s (8 * q + i)) (j := 8 * q + i) I2.out)
      have I5 := Lib.hid (hsc (a := ⟨G,8 * q + i,none⟩) (v := B8 (mixAt s (8 * q + i))) I1.out (by have := HG.out; simp; omega))
      have I6 : Hid (∀ B,B ≤ g → Below B w (wr.setCell ⟨G,8 * q + i,none⟩ (B8 (mixAt s (8 * q + i))))) := fun B hB => (I3.out B hB).setCell (by have := HG.out; simp; omega) _
      clear I1 I2 I3
      go_wp2
      go_roundw
      case rel =>
       refine ⟨i + 1,by go_num,by omega,I5.out,?_,I6.out⟩
       rw [prog_succ _ _ (8 * q + i) n (mixRow_len s n) (by simp) hj (mixAt s (8 * q + i)) (by simp [mixRow,hj])] at I4
       rw [← Nat.add_assoc]
       exact I4.out
      case measure => simp [intOf]; omega
     ·have hiM : i = 8 := by omega
      subst hiM
      clear hl hi
      go_wp2
      go_roundw
      case rel =>
       exact ⟨q + 1,by go_num,by omega,I1.out,by rw [show min (8 * (q + 1)) n = 8 * q + 8 by have := HM.out; omega]; exact I2.out,I3.out⟩
      case measure => simp [intOf]; omega
  ·go_wp2
   go_ret2
   refine ⟨G,rfl,HS.out,?_,R3.out⟩
   have := R2.out
   rw [show min (8 * q) n = n by omega,prog_full _ _ n (mixRow_len s n) (by simp)] at this
   exact this
end Go.Proofs.YtccaiiigdfieoaaGreatDoor
namespace Go.By
open Go.RowKit
def put8At (s i : Nat) : UInt8 := UInt8.ofNat (s / 2 ^ (56 - 8 * i))
def put8 (s : Nat) : List UInt8 := (List.range 8).map (put8At s)
theorem put8_len (s : Nat) : (put8 s).length = 8 := by simp [put8]
def get8 (xs : List UInt8) : Nat := xs.foldl (fun a b => a * 256 + b.toNat) 0
theorem get8_take {xs : List UInt8} {k : Nat} {x : UInt8} (h : xs[k]? = some x) : get8 (xs.take (k + 1)) = get8 (xs.take k) * 256 + x.toNat := by
 obtain ⟨hk,h⟩ := List.getElem?_eq_some_iff.1 h
 unfold get8
 rw [foldl_take_succ _ _ _ _ hk,h]
theorem get8_lt (xs : List UInt8) (k : Nat) : get8 (xs.take k) < 256 ^ k := by
 induction k with
 | zero => simp [get8]
 | succ k ih =>
  rcases Nat.lt_or_ge k xs.length with h | h
  ·have e := get8_take (List.getElem?_eq_getElem h)
   have := xs[k].toNat_lt
   rw [e,Nat.pow_succ]; omega
  ·rw [List.take_of_length_le (by omega)]
   rw [List.take_of_length_le (by omega)] at ih
   rw [Nat.pow_succ]; omega
theorem bits_or64 {a b : Nat} (ha : a < 2 ^ 64) (hb : b < 2 ^ 64) : bits .or .u64 (a : Int) (b : Int) = ((a ||| b : Nat) : Int) :=
 (bits_nat .u64 64 (by decide) (fun n h1 h2 => by rw [IntKind.wrap_u64]; omega) a b ha hb).2
theorem put8_val (s i : Nat) (hi : i < 8) : ((s : Int) / (2 ^ (56 - 8 * i) : Int)) % 256 = ((put8At s i).toNat : Int) := by
 unfold put8At
 rw [UInt8.toNat_ofNat',show (2 : Int) ^ (56 - 8 * i) = ((2 ^ (56 - 8 * i) : Nat) : Int) by rw [Int.natCast_pow]; rfl]
 omega
end Go.By
namespace Go.Proofs.YtccaiiigdfieoaaGreatDoor
open Go.RowKit Go.By
set_option maxRecDepth 100000 in
set_option maxHeartbeats 1000000 in
theorem MRow_anyF (s n : Nat) (hn : n ≤ 65536) (w : World) :
  Calls Tryz.prog 161 #[.int .u64 (s : Nat),.int .i64 (n : Nat)] w (SRetF 5 w (mixRow s n) 0) := by
 have HN := Lib.hid hn
 have Hk : ∀ w : World,Calls Tryz.prog 209 #[.int .u64 (s : Nat)] w fun e w' => e = .returned (.pointer (some ⟨w.heap.size,0,none⟩)) ∧ w' = w.alloc (.cells #[.int .u64 (s : Nat)] 308 (0,0)) := by
  intro w
  go_enter Tryz.func209,Tryz.ntmps209
  go_wp2
  go_ret
  exact ⟨rfl,rfl⟩
 have HK := Lib.hid Hk
 clear Hk hn
 go_enter Tryz.func161,Tryz.ntmps161
 go_wp2_with fail
 refine Calls.mono (HK.out w) ?_
 rintro e w1 ⟨rfl,rfl⟩
 go_wp2_with fail
 refine Calls.mono (MBytes_any w.heap.size s n _ (hnew rfl) HN.out) ?_
 rintro e w2 ⟨G,rfl,hG,h2,hb⟩
 have HB := Lib.hid ((al (Below.refl w.heap.size w) (Nat.le_refl _)).trans (hb _ (Nat.le_refl _)))
 have H2 := Lib.hid h2
 have HG : Hid (w.heap.size ≤ G) := by have := hG; show _ ≤ _; simp at this; omega
 clear hb hG h2
 go_wp2
 go_ret2
 exact ⟨_,_,_,rfl,Fresh.block H2.out (mixRow_len s n) (by have := HN.out; unfold maxLen; omega) HG.out,HB.out⟩
set_option maxRecDepth 100000 in
set_option maxHeartbeats 2000000 in
theorem MPut_any (s : Nat) (w : World) :
  Calls Tryz.prog 196 #[.int .u64 (s : Nat)] w (SRet1 w (put8 s)) := by
 obtain ⟨i0,hi,hz0,hz1,hz2⟩ := info_parts info_u8
 go_enter Tryz.func196,Tryz.ntmps196
 go_wp2_with (at_make; refine wpList_make_bytesC _ rfl _ _ 22 rfl 5 i0 Tryz.underlying22 hi hz0 hz1 hz2 8 rfl rfl (by decide) ?_)
 intro w1 h1 hb1
 obtain ⟨G,hG⟩ : ∃ G,G = w.heap.size := ⟨_,rfl⟩
 rw [← hG] at h1 ⊢
 have HG : Hid (w.heap.size ≤ G) := by rw [hG]; exact Nat.le_refl _
 have H1 : Hid (w1.heap[G]? = some (.cells ((prog (put8 s) (List.replicate 8 (0 : UInt8)) 0).map B8).toArray 5 (0,0))) := by rw [prog_zero]; exact h1
 have B1 := Lib.hid hb1
 clear h1 hb1 hG
 go_wp2
 go_loopw [6] (fun v wr => ∃ i : Nat,v = .int .i64 (i : Nat) ∧ i ≤ 8 ∧ Hid (wr.heap[G]? = some (.cells ((prog (put8 s) (List.replicate 8 (0 : UInt8)) i).map B8).toArray 5 (0,0))) ∧ Hid (Below w.heap.size w wr)) (fun v _ => 8 - (intOf v).toNat)
 case atStart => exact ⟨0,rfl,by omega,H1.out,B1.out⟩
 case round =>
  clear H1 B1
  obtain ⟨i,rfl,hi8,I1,I2⟩ := hrel
  by_cases hl : i < 8
  ·have cG : wr.cell? ⟨G,i,none⟩ = some (B8 0) := by
    rw [cell_of_row _ _ i _ _ _ I1.out]
    have := prog_at (put8 s) (List.replicate 8 (0 : UInt8)) i 8 (put8_len s) (by simp) hl
    rw [List.getElem?_replicate,if_pos hl] at this
    simp only [List.getElem?_toArray,List.getElem?_map,this,Option.map_some]
   have zG := frozen_of_row _ _ i _ _ I1.out
   have hv := put8_val s i hl
   have I4 := Lib.hid (set_toArray (v := put8At s i) (j := i) I1.out)
   have I6 := Lib.hid (I2.out.setCell (p := ⟨G,i,none⟩) HG.out (B8 (put8At s i)))
   clear I1 I2
   go_wp2
   go_roundw
   case rel =>
    refine ⟨i + 1,by go_num,by omega,?_,I6.out⟩
    rw [prog_succ _ _ i 8 (put8_len s) (by simp) hl (put8At s i) (by simp [put8,hl])] at I4
    exact I4.out
   case measure => simp [intOf]; omega
  ·have hiM : i = 8 := by omega
   subst hiM
   clear hl hi8
   rw [prog_full _ _ 8 (put8_len s) (by simp)] at I1
   go_wp2
   go_ret
   exact ⟨_,_,_,rfl,sl_block (put8 s) 8 I1.out rfl (put8_len s) (by decide),I2.out⟩
theorem get8_or {a x : Nat} (ha : a < 72057594037927936) (hx : x < 256) : bits .or .u64 (((a * 256 : Nat) : Int)) (x : Int) = ((a * 256 + x : Nat) : Int) := by
 rw [bits_or64 (by omega) (by omega),or_add (k := 8) (by omega) (by omega)]
set_option maxRecDepth 100000 in
set_option maxHeartbeats 2000000 in
theorem MSeed_any (p : Option Addr) (n c : Nat) (xs : List UInt8) (w : World) (h : Sl B8 w p n c xs) (hn : n = 8) :
  Calls Tryz.prog 218 #[.slice p n c] w fun e w' => e = .returned (.tuple #[.int .u64 (get8 xs : Nat),.int .i64 0]) ∧ Below w.heap.size w w' := by
 subst hn
 have HL : Hid (get8 (xs.take 8) = get8 xs) := by rw [List.take_of_length_le (by rw [h.len]; omega)]; rfl
 obtain ⟨T,hT⟩ : ∃ T : Nat → Nat,T = fun k => get8 (xs.take k) := ⟨_,rfl⟩
 have HT1 : Hid (∀ k x,xs[k]? = some x → T (k + 1) = T k * 256 + x.toNat) := fun k x hx => by rw [hT]; exact get8_take hx
 have HT2 : Hid (∀ k,k < 8 → T k < 72057594037927936) := fun k hk => by rw [hT]; exact Nat.lt_of_lt_of_le (get8_lt xs k) (Nat.le_trans (Nat.pow_le_pow_right (by decide) (show k ≤ 7 by omega)) (by decide))
 have HT0 : Hid (T 0 = 0) := by rw [hT]; rfl
 have HT8 : Hid (T 8 = get8 xs) := by rw [hT]; exact HL.out
 have H := Lib.hid h
 clear hT h HL
 generalize get8 xs = V at *
 go_enter Tryz.func218,Tryz.ntmps218
 go_wp2
 go_loop [4,12] (fun v i => ∃ k : Nat,k ≤ 8 ∧ i = .int .i64 (k : Nat) ∧ v = .int .u64 (T k : Nat)) (fun _ i => 8 - (intOf i).toNat)
 case atStart => exact ⟨0,by omega,rfl,by rw [HT0.out]; rfl⟩
 case round =>
  obtain ⟨k,hk,rfl,rfl⟩ := hrel
  by_cases hl : k < 8
  ·obtain ⟨b,o,x,rfl,hc,hx⟩ := H.out.at k hl
   have t2 := HT2.out k hl
   have hx8 := x.toNat_lt
   have e1 : IntKind.u64.wrap ((T k : Int) * 256) = ((T k * 256 : Nat) : Int) := by rw [IntKind.wrap_u64]; omega
   have e3 : IntKind.u64.wrap (x.toNat : Int) = (x.toNat : Int) := by rw [IntKind.wrap_u64]; omega
   have e2 := get8_or t2 hx8
   rw [← HT1.out k x hx.out] at e2
   clear t2 hx hx8
   rw [Int.natCast_mul] at e2
   have HE := Lib.hid e2
   clear e2
   go_wp2
   go_round
   case rel => exact ⟨k + 1,by omega,by go_num,congrArg _ HE.out⟩
   case measure => simp [intOf]; omega
  ·have hk8 : k = 8 := by omega
   subst hk8
   rw [HT8.out]
   clear hl hk
   go_wp2
   go_ret2
   exact ⟨rfl,Below.refl _ _⟩
end Go.Proofs.YtccaiiigdfieoaaGreatDoor
namespace Go.Proofs.YtccaiiigdfieoaaGreatDoor
open Go.RowKit Go.By
def needS (l s : Int) : Int := if l = 0 then 1 else (l - 1) / s + 1
def fitS (l s : Int) : Int := if l < 0 then 2 else if s < 1 ∨ 65535 < s then 4 else if 4096 < needS l s then 5 else 0
def checkS (l s n : Int) : Int := if fitS l s = 0 then (if n = needS l s then 0 else 14) else fitS l s
def ofS (l s : Int) (d : Int) : Value := if fitS l s = 0 then .tuple #[.agg #[.int .i64 l,.int .i64 s,.int .i64 (needS l s),.int .u32 d],.int .i64 0] else .tuple #[.agg #[.int .i64 0,.int .i64 0,.int .i64 0,.int .u32 0],.int .i64 (fitS l s)]
theorem needS_pos {l s : Int} (hl : 0 ≤ l) (hs : 1 ≤ s) : 1 ≤ needS l s ∧ (l ≠ 0 → needS l s ≤ l) := by
 unfold needS
 split
 ·omega
 ·rename_i h0
  have h1 : 0 ≤ (l - 1) / s := Int.ediv_nonneg (by omega) (by omega)
  have h2 : (l - 1) / s ≤ l - 1 := Int.ediv_le_self _ (by omega)
  omega
theorem needS_spec {l s : Int} (hl : 0 < l) (hs : 1 ≤ s) : (needS l s - 1) * s < l ∧ l ≤ needS l s * s := by
 unfold needS
 rw [if_neg (by omega)]
 have h := Int.emod_add_mul_ediv (l - 1) s
 have h1 := Int.emod_nonneg (l - 1) (show s ≠ 0 by omega)
 have h2 := Int.emod_lt_of_pos (l - 1) (show 0 < s by omega)
 generalize (l - 1) / s = q at *
 have e1 : (q + 1 - 1) * s = s * q := by rw [Int.mul_comm]; congr 1; omega
 have e2 : (q + 1) * s = s * q + s := by rw [Int.add_mul,Int.mul_comm]; omega
 omega
theorem needS_of {l s k : Int} (hl : 0 < l) (hs : 1 ≤ s) (h1 : (k - 1) * s < l) (h2 : l ≤ k * s) : needS l s = k := by
 obtain ⟨g1,g2⟩ := needS_spec hl hs
 generalize needS l s = n at *
 have a1 : ¬ n < k := fun h => by
  have : n * s ≤ (k - 1) * s := Int.mul_le_mul_of_nonneg_right (by omega) (by omega)
  omega
 have a2 : ¬ k < n := fun h => by
  have : k * s ≤ (n - 1) * s := Int.mul_le_mul_of_nonneg_right (by omega) (by omega)
  omega
 omega
set_option maxHeartbeats 400000 in
theorem needed_any (l s : Int) (w : World) (hl : 0 ≤ l) (hl2 : l ≤ 9223372036854775807) (hs : 1 ≤ s) :
  Calls Tryz.prog 95 #[.int .i64 l,.int .i64 s] w fun e w' => e = .returned (.int .i64 (needS l s)) ∧ w = w' := by
 by_cases h0 : l = 0
 ·subst h0
  go_enter Tryz.func95,Tryz.ntmps95
  go_wp2
  go_ret
  exact ⟨rfl,rfl⟩
 ·have hz : (l == 0) = false := by simpa using h0
  have hs0 : (s == 0) = false := by simp; omega
  obtain ⟨hn,hn'⟩ := needS_pos hl hs
  have hn2 := hn' h0
  clear hn'
  have e0 : needS l s = (l - 1) / s + 1 := if_neg h0
  have hw : wrap64 ((l - 1) / s + 1) = needS l s := by
   rw [← e0]; unfold wrap64
   generalize needS l s = y at *
   clear e0
   omega
  clear e0
  go_enter Tryz.func95,Tryz.ntmps95
  go_wp2
  go_ret
  exact ⟨by rw [hw]; rfl,rfl⟩
set_option maxHeartbeats 400000 in
theorem fits_any (l s : Int) (w : World) (hl2 : l ≤ 9223372036854775807) :
  Calls Tryz.prog 94 #[.int .i64 l,.int .i64 s] w fun e w' => e = .returned (.int .i64 (fitS l s)) ∧ w = w' := by
 by_cases h0 : l < 0
 ·have HR : Hid (fitS l s = 2) := if_pos h0
  go_enter Tryz.func94,Tryz.ntmps94
  go_wp2
  go_ret
  exact ⟨by rw [HR.out]; rfl,rfl⟩
 ·by_cases h1 : s < 1
  ·have HR : Hid (fitS l s = 4) := by unfold fitS; rw [Hid,if_neg h0,if_pos (Or.inl h1)]
   go_enter Tryz.func94,Tryz.ntmps94
   go_wp2
   go_ret
   exact ⟨by rw [HR.out]; rfl,rfl⟩
  ·by_cases h2 : 65535 < s
   ·have HR : Hid (fitS l s = 4) := by unfold fitS; rw [Hid,if_neg h0,if_pos (Or.inr h2)]
    go_enter Tryz.func94,Tryz.ntmps94
    go_wp2
    go_ret
    exact ⟨by rw [HR.out]; rfl,rfl⟩
   ·have HN := Lib.hid (fun w => needed_any l s w (by omega) hl2 (by omega))
    by_cases h3 : 4096 < needS l s
    ·have HR : Hid (fitS l s = 5) := by unfold fitS; rw [Hid,if_neg h0,if_neg (by omega),if_pos h3]
     go_enter Tryz.func94,Tryz.ntmps94
     go_wp2_with fail
     refine (HN.out _).mono ?_; rintro e w' ⟨rfl,rfl⟩
     go_wp2
     go_ret
     exact ⟨by rw [HR.out]; rfl,rfl⟩
    ·have HR : Hid (fitS l s = 0) := by unfold fitS; rw [Hid,if_neg h0,if_neg (by omega),if_neg h3]
     go_enter Tryz.func94,Tryz.ntmps94
     go_wp2_with fail
     refine (HN.out _).mono ?_; rintro e w' ⟨rfl,rfl⟩
     go_wp2
     go_ret
     exact ⟨by rw [HR.out]; rfl,rfl⟩
theorem fitS_cases (l s : Int) : (fitS l s ≠ 0 ∧ (fitS l s = 2 ∨ fitS l s = 4 ∨ fitS l s = 5)) ∨ (fitS l s = 0 ∧ 0 ≤ l ∧ 1 ≤ s ∧ s ≤ 65535 ∧ needS l s ≤ 4096) := by
 unfold fitS
 split
 ·simp
 ·split
  ·simp
  ·split
   ·simp
   ·right; omega
theorem cell4 (w : World) (a b c d : Value) (T : TypeId) : ∀ i : Nat,(w.alloc (.cells #[a,b,c,d] T)).cell? ⟨w.heap.size,i,none⟩ = #[a,b,c,d][i]? := fun i => cell_of_row _ _ _ _ _ _ (hnew rfl)
set_option maxRecDepth 100000 in
set_option maxHeartbeats 1000000 in
theorem Check_any (l s n d : Int) (w : World) (hl2 : l ≤ 9223372036854775807) :
  Calls Tryz.prog 79 #[.agg #[.int .i64 l,.int .i64 s,.int .i64 n,.int .u32 d]] w fun e w' => e = .returned (.int .i64 (checkS l s n)) ∧ Below w.heap.size w w' := by
 have HF := Lib.hid (fun w => fits_any l s w hl2)
 rcases fitS_cases l s with ⟨h0,h1⟩ | ⟨h0,h1,h2,h3,h4⟩
 ·have HR : Hid (checkS l s n = fitS l s) := if_neg h0
  have hb : (fitS l s != 0) = true := by simpa using h0
  clear h1
  generalize fitS l s = f at *
  clear h0
  go_enter Tryz.func79,Tryz.ntmps79
  go_wp2_with fail
  refine (HF.out _).mono ?_; rintro e w' ⟨rfl,rfl⟩
  go_wp2
  go_ret
  exact ⟨by rw [HR.out]; rfl,al (Below.refl _ _) (Nat.le_refl _)⟩
 ·rw [h0] at HF
  have HN := Lib.hid (fun w => needed_any l s w h1 hl2 h2)
  have HR : Hid (checkS l s n = if n = needS l s then 0 else 14) := by unfold checkS; rw [Hid,if_pos h0]
  generalize needS l s = k at *
  by_cases e : n = k
  ·subst e
   have hb : (n != n) = false := by simp
   rw [if_pos rfl] at HR
   clear h0 h1 h2 h3 h4
   go_enter Tryz.func79,Tryz.ntmps79
   go_wp2_with fail
   refine (HF.out _).mono ?_; rintro e w' ⟨rfl,rfl⟩
   go_wp2
   have C0 := cell4 w (.int .i64 l) (.int .i64 s) (.int .i64 n) (.int .u32 d) 27 0
   have C1 := cell4 w (.int .i64 l) (.int .i64 s) (.int .i64 n) (.int .u32 d) 27 1
   have C2 := cell4 w (.int .i64 l) (.int .i64 s) (.int .i64 n) (.int .u32 d) 27 2
   go_quiet ((go_at_call 95; exact Calls.quiet_of_same ((HN.out _).mono fun e w' hh => ⟨hh.1,hh.2.symm⟩)))
   go_wp2
   go_ret
   exact ⟨by rw [HR.out]; rfl,bdn (al (Below.refl _ _) (Nat.le_refl _))⟩
  ·have hb : (n != k) = true := by simpa using e
   rw [if_neg e] at HR
   clear h0 h1 h2 h3 h4 e
   go_enter Tryz.func79,Tryz.ntmps79
   go_wp2_with fail
   refine (HF.out _).mono ?_; rintro e w' ⟨rfl,rfl⟩
   go_wp2
   have C0 := cell4 w (.int .i64 l) (.int .i64 s) (.int .i64 n) (.int .u32 d) 27 0
   have C1 := cell4 w (.int .i64 l) (.int .i64 s) (.int .i64 n) (.int .u32 d) 27 1
   have C2 := cell4 w (.int .i64 l) (.int .i64 s) (.int .i64 n) (.int .u32 d) 27 2
   go_quiet ((go_at_call 95; exact Calls.quiet_of_same ((HN.out _).mono fun e w' hh => ⟨hh.1,hh.2.symm⟩)))
   go_wp2
   go_ret
   exact ⟨by rw [HR.out]; rfl,bdn (al (Below.refl _ _) (Nat.le_refl _))⟩
theorem results_ct {P : Program} {fn : Func} {p u : Tmp} {ty : TypeId} (h : fn.results = #[.cell p ty,.tmp u]) (tmps : Array Value) (w : World) (g : Nat) (t : TypeId) (cs : Array Value) (fr : Nat × Nat) (d : TypeDesc) (v : Value)
  (hp : tmps.getD p undef = .pointer (some ⟨g,0,none⟩)) (hg : w.heap[g]? = some (.cells cs t fr)) (hv : tmps.getD u undef = v)
  (hu : P.underlying ty = some d) (hd : (match d with | .struct _ | .array _ _ => true | _ => false) = true) (hi : (P.info? ty).map (·.size) = some cs.size) :
  (results fn tmps).run P w = .ok (.tuple #[.agg cs,v]) w := by
 have hp' : tmps[p]?.getD undef = .pointer (some ⟨g,0,none⟩) := by simpa using hp
 have hv' : tmps[u]?.getD undef = v := by simpa using hv
 simp [results,h,hp',hv',asAddr,run_loadVar_row w g t ty cs fr d hg hu hd hi]
theorem info_plan : (Tryz.prog.info? 27).map (·.size) = some 4 := by kernel_rfl
set_option maxRecDepth 100000 in
set_option maxHeartbeats 1000000 in
theorem POf_any (l s d : Int) (w : World) (hl2 : l ≤ 9223372036854775807) :
  Calls Tryz.prog 44 #[.int .i64 l,.int .i64 s,.int .u32 d] w fun e w' => e = .returned (ofS l s d) ∧ Below w.heap.size w w' := by
 have HF := Lib.hid (fun w => fits_any l s w hl2)
 rcases fitS_cases l s with ⟨h0,h1⟩ | ⟨h0,h1,h2,h3,h4⟩
 ·have HR : Hid (ofS l s d = .tuple #[.agg #[.int .i64 0,.int .i64 0,.int .i64 0,.int .u32 0],.int .i64 (fitS l s)]) := if_neg h0
  have hb : (fitS l s != 0) = true := by simpa using h0
  clear h1
  generalize fitS l s = f at *
  clear h0
  have hi := info_plan
  go_enter Tryz.func44,Tryz.ntmps44
  go_wp2_with fail
  refine (HF.out _).mono ?_; rintro e w' ⟨rfl,rfl⟩
  go_wp2
  refine bodyPost_ret (results_ct rfl _ _ _ 27 #[.int .i64 0,.int .i64 0,.int .i64 0,.int .u32 0] (0,0) _ (.int .i64 f) rfl (hnew rfl) rfl Tryz.underlying27 rfl hi) rfl ⟨by rw [HR.out],al (Below.refl _ _) (Nat.le_refl _)⟩
 ·rw [h0] at HF
  have HN := Lib.hid (fun w => needed_any l s w h1 hl2 h2)
  have HR : Hid (ofS l s d = .tuple #[.agg #[.int .i64 l,.int .i64 s,.int .i64 (needS l s),.int .u32 d],.int .i64 0]) := if_pos h0
  generalize needS l s = k at *
  clear h0 h1 h2 h3 h4
  have hi := info_plan
  go_enter Tryz.func44,Tryz.ntmps44
  go_wp2_with fail
  refine (HF.out _).mono ?_; rintro e w' ⟨rfl,rfl⟩
  go_wp2_with fail
  refine (HN.out _).mono ?_; rintro e w' ⟨rfl,rfl⟩
  go_wp2
  refine bodyPost_ret (results_ct rfl _ _ _ 27 #[.int .i64 l,.int .i64 s,.int .i64 k,.int .u32 d] (0,0) _ (.int .i64 0) rfl (hnew rfl) rfl Tryz.underlying27 rfl hi) rfl ⟨by rw [HR.out],al (Below.refl _ _) (Nat.le_refl _)⟩
end Go.Proofs.YtccaiiigdfieoaaGreatDoor
namespace Go.Proofs.YtccaiiigdfieoaaGreatDoor
open Go.RowKit Go.By
set_option maxRecDepth 100000 in
set_option maxHeartbeats 1000000 in
theorem GrowNil_any (N : Nat) (w : World) (hN : Room N) :
  Calls Tryz.prog 197 #[.slice none 0 0,.int .i64 N] w fun e w' => ∃ q c',e = .returned (.slice q 0 c') ∧ w'.ownsRow w.heap.size 5 1 (.slice q 0 c') 0 [] ∧ Below w.heap.size w w' := by
 obtain ⟨i0,hi,hz0,hz1,hz2⟩ := info_parts info_u8
 by_cases h0 : N = 0
 ·subst h0
  go_enter Tryz.func197,Tryz.ntmps197
  go_wp2
  go_ret
  exact ⟨none,0,rfl,World.ownsRow_nil _ _ _ _,Below.refl _ _⟩
 ·have hp : 0 < N := by omega
  unfold Room at hN
  have hr := fun ty => Lib.run_append_nil_zeros (P := Tryz.prog) w 22 3 ty 5 i0 (.int .u8 0) .i64 .i64 Tryz.underlying22 Tryz.underlying3 hi hz0 N hp (by rw [hz1]; omega) (by omega) (by rw [hz2]; omega)
  have g1 := grownCap_ge w N 0 5
  have g2 := grownCap_le_maxLen w N 0 5 (by unfold maxLen; omega)
  generalize grownCap w N 0 5 = G at *
  have G2 := Lib.hid g2
  unfold maxLen at g2
  have HR := Lib.hid hr; clear hr
  clear h0
  go_enter Tryz.func197,Tryz.ntmps197
  go_wp2_with (at_builtin; refine Lib.wpList_append_run _ rfl _ _ _ _ rfl _ _ rfl rfl _ _ (HR.out _) ?_)
  go_ret
  refine ⟨_,G,rfl,⟨rfl,.inr ⟨w.heap.size,G,_,rfl,Nat.le_refl _,hnew rfl,Nat.zero_le _,G2.out,?_,by simp⟩⟩,al (w1 := w.drew) ⟨rfl,rfl,rfl,Nat.le_refl _,fun _ _ => rfl⟩ (Nat.le_refl _)⟩
  simp [size_zeroCells,Value.cells]; omega
theorem flat_take {xss : List (List UInt8)} {k : Nat} {xs : List UInt8} (h : xss[k]? = some xs) : (xss.take (k + 1)).flatten = (xss.take k).flatten ++ xs := by
 obtain ⟨hk,h⟩ := List.getElem?_eq_some_iff.1 h
 rw [List.take_succ_eq_append_getElem hk,h,List.flatten_append]; simp
theorem flat_le (xss : List (List UInt8)) (k : Nat) : (xss.take k).flatten.length ≤ xss.flatten.length := by
 have : xss.flatten = (xss.take k).flatten ++ (xss.drop k).flatten := by rw [← List.flatten_append,List.take_append_drop]
 rw [this]; simp
set_option maxRecDepth 100000 in
set_option maxHeartbeats 1000000 in
theorem Concat_any (p : Option Addr) (n c : Nat) (xss : List (List UInt8)) (w : World) (h : Sl2 w p n c xss) (hr : Room xss.flatten.length) :
  Calls Tryz.prog 137 #[.slice p n c] w (RetB1 5 w xss.flatten) := by
 obtain ⟨i0,hi,hz0,hz1,hz2⟩ := info_parts info_u8
 have hn := h.bound
 obtain ⟨F,hF⟩ : ∃ F : Nat → List UInt8,F = fun k => (xss.take k).flatten := ⟨_,rfl⟩
 have HF : Hid (∀ k xs,xss[k]? = some xs → F (k + 1) = F k ++ xs) := fun k xs hx => by subst hF; exact flat_take hx
 have HM : Hid (∀ k,(F k).length ≤ 140737488355328) := fun k => by subst hF; exact Nat.le_trans (flat_le xss k) hr
 have HN : Hid (F n = xss.flatten) := by subst hF; show (xss.take n).flatten = _; rw [List.take_of_length_le (by rw [h.len]; omega)]
 have H0 : Hid (F 0 = []) := by subst hF; rfl
 obtain ⟨T,hT⟩ : ∃ T : Nat → Nat,T = fun k => (F k).length := ⟨_,rfl⟩
 have HL : Hid (∀ k,(F k).length = T k) := fun k => by subst hT; rfl
 have HT0 : T 0 = 0 := by rw [← HL.out,H0.out]; rfl
 have H := Lib.hid h
 have HTn : Hid (∀ k,T k ≤ 140737488355328) := fun k => by rw [← HL.out]; exact HM.out k
 clear h hr hF hT
 go_enter Tryz.func137,Tryz.ntmps137
 go_wp2
 go_loop [3,11] (fun s i => ∃ k : Nat,k ≤ n ∧ i = .int .i64 k ∧ s = .int .i64 (T k)) (fun _ i => n - (intOf i).toNat)
 case atStart => exact ⟨0,Nat.zero_le _,rfl,by rw [HT0]; rfl⟩
 case round =>
  obtain ⟨k,hk,rfl,rfl⟩ := hrel
  have t1 := HTn.out k
  by_cases hlt : k < n
  ·obtain ⟨b,o,q,m,c',xs,rfl,hc,hs,hx⟩ := H.out.at k hlt
   have e1 : T (k + 1) = T k + m := by rw [← HL.out,HF.out k xs hx.out,List.length_append,HL.out,hs.len]
   have t2 := HTn.out (k + 1)
   have hm := hs.bound
   have t3 : T k + m ≤ 140737488355328 := by omega
   have E1 := Lib.hid e1
   clear e1 t2 hs
   go_wp2
   go_round
   case rel => exact ⟨k + 1,by omega,by go_num,by rw [E1.out]; go_num⟩
   case measure => simp [intOf]; omega
  ·have hkn : k = n := by omega
   subst hkn
   go_wp2_with fail
   refine (GrowNil_any (T k) w t1).mono ?_; rintro e w1 ⟨q0,c0,rfl,ho,hb⟩
   have HO := Lib.hid ho; clear ho
   go_wp2
   go_loopw [6,27] (fun v i wr => ∃ (j : Nat) (q : Option Addr) (c' : Nat),j ≤ k ∧ i = .int .i64 j ∧ v = .slice q (T j) c' ∧ Hid (wr.ownsRow w.heap.size 5 1 (.slice q (T j) c') (T j) ((F j).map B8)) ∧ Below w.heap.size w wr) (fun _ i _ => k - (intOf i).toNat)
   case atStart => exact ⟨0,q0,c0,Nat.zero_le _,rfl,by rw [HT0],by rw [HT0,H0.out]; exact HO.out,hb⟩
   case round =>
    obtain ⟨j,q,c',hj,rfl,rfl,hov,hbv⟩ := hrel
    have s1 := HTn.out j
    by_cases hjk : j < k
    ·obtain ⟨b,o,q',m,c'',xs,rfl,hc,hs,hx⟩ := H.out.at j hjk
     have hcw := (hbv.cell (p := ⟨b,o + j,none⟩) (lt_of_cell hc)).trans hc
     have e1 : T (j + 1) = T j + m := by rw [← HL.out,HF.out j xs hx.out,List.length_append,HL.out,hs.len]
     have e2 : F (j + 1) = F j ++ xs := HF.out j xs hx.out
     have t2 := HTn.out (j + 1)
     have hm := hs.bound
     have t3 : T j + m ≤ 140737488355328 := by omega
     have HS := Lib.hid hs
     have E1 := Lib.hid e1; have E2 := Lib.hid e2
     clear e1 e2 t2 hs
     go_wp2_with (at_builtin; refine wpList_append_rs _ rfl _ _ 22 rfl w.heap.size 5 i0 (.int .u8 0) 1 Tryz.underlying22 hi hz0 hz1 hz2 rfl _ (T j) _ rfl hov.out B8 _ _ _ xs (fun _ _ => rfl) rfl (HS.out.keep hbv) ?c1 ?c2 ?c3 ?_)
     case c1 => unfold maxLen; omega
     case c2 => omega
     case c3 => exact hbv.size
     intro v' w' ho' hg'
     obtain ⟨q2,c2,rfl⟩ := owns_shape ho'
     have hb' : Below w.heap.size w w' := hbv.grown hg' hbv.size (fun r hr' => (hov.out.lt r hr').1)
     clear hg'
     go_wp2
     go_roundw
     case rel => exact ⟨j + 1,q2,c2,by omega,by go_num,by rw [E1.out],by rw [E1.out,E2.out,List.map_append]; exact ho',hb'⟩
     case measure => simp [intOf]; omega
    ·have hjk' : j = k := by omega
     subst hjk'
     go_wp2
     go_ret
     refine ⟨q,T j,c',?_,rfl,?_,hbv⟩
     ·rw [← HN.out]; exact HL.out j
     ·rw [← HN.out]; exact hov.out
end Go.Proofs.YtccaiiigdfieoaaGreatDoor
namespace Go.Proofs.YtccaiiigdfieoaaGreatDoor
end Go.Proofs.YtccaiiigdfieoaaGreatDoor
