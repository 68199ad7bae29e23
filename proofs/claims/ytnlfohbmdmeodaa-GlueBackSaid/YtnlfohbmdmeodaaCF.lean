/- glue.Fill, where all that is known fits. -/
import Derived.Test.YtnlfohbmdmeodaaCE
import Derived.StillTailTactics
import Derived.Laws.CopyOwn
namespace Go.By
open Go.RowKit
/-- an object's byte, as far as its symbol is known -/
def objF (s : Nat) (P : Nat → List UInt8) (A : Nat → Bool) (a : Nat) : UInt8 := if A (a / s) then (P (a / s)).getD (a % s) 0 else 0
def objL (l s : Nat) (P : Nat → List UInt8) (A : Nat → Bool) : List UInt8 := (List.range l).map (objF s P A)
def toldT (l : Nat) (T : Nat → Bool) : List Bool := (List.range l).map T
theorem objL_at (l s : Nat) (P : Nat → List UInt8) (A : Nat → Bool) (a : Nat) : (objL l s P A)[a]? = if a < l then some (objF s P A a) else none := by
  unfold objL
  rw [List.getElem?_map]
  by_cases h : a < l
  · rw [if_pos h, List.getElem?_range h]; rfl
  · rw [if_neg h, List.getElem?_eq_none (by simpa using h)]; rfl
theorem toldT_at (l : Nat) (T : Nat → Bool) (a : Nat) : (toldT l T)[a]? = if a < l then some (T a) else none := by
  unfold toldT
  rw [List.getElem?_map]
  by_cases h : a < l
  · rw [if_pos h, List.getElem?_range h]; rfl
  · rw [if_neg h, List.getElem?_eq_none (by simpa using h)]; rfl
theorem objL_len (l s : Nat) (P : Nat → List UInt8) (A : Nat → Bool) : (objL l s P A).length = l := by simp [objL]
theorem toldT_len (l : Nat) (T : Nat → Bool) : (toldT l T).length = l := by simp [toldT]
theorem toldT_congr {l : Nat} {T U : Nat → Bool} (h : ∀ a, a < l → T a = U a) : toldT l T = toldT l U := by
  unfold toldT
  exact List.map_congr_left (fun a ha => h a (List.mem_range.1 ha))
theorem objL_congr {l s : Nat} {P : Nat → List UInt8} {A B : Nat → Bool} (h : ∀ a, a < l → A (a / s) = B (a / s)) : objL l s P A = objL l s P B := by
  unfold objL
  exact List.map_congr_left (fun a ha => by unfold objF; rw [h a (List.mem_range.1 ha)])
theorem objL_zero (l s : Nat) (P : Nat → List UInt8) : (objL l s P (fun _ => false)).map B8 = List.replicate l (B8 0) := by
  unfold objL
  rw [List.map_map, show (B8 ∘ objF s P fun _ => false) = (fun _ => B8 0) from rfl, List.map_const', List.length_range]
theorem toldT_zero (l : Nat) : (toldT l (fun _ => false)).map Value.bool = List.replicate l (Value.bool false) := by
  unfold toldT
  rw [List.map_map, show (Value.bool ∘ fun (_ : Nat) => false) = (fun _ => Value.bool false) from rfl, List.map_const', List.length_range]
theorem toldT_set {l i : Nat} {T : Nat → Bool} : (toldT l T).set i true = toldT l (fun a => T a || decide (a = i)) := by
  apply List.ext_getElem?
  intro a
  rw [List.getElem?_set, toldT_at, toldT_at, toldT_len]
  by_cases h : i = a
  · subst h; simp
  · have h2 : ¬ a = i := fun e => h e.symm
    simp [h, h2]
theorem div_eqC {a s k : Nat} (hs : 1 ≤ s) (h1 : k * s ≤ a) (h2 : a < k * s + s) : a / s = k ∧ a % s = a - k * s := by
  have e : a = (a - k * s) + k * s := by omega
  have hl : a - k * s < s := by omega
  constructor
  · conv => lhs; rw [e]
    rw [Nat.add_mul_div_right _ _ (by omega), Nat.div_eq_of_lt hl]; omega
  · conv => lhs; rw [e]
    rw [Nat.add_mul_mod_self_right, Nat.mod_eq_of_lt hl]
theorem div_neC {a s k : Nat} (hs : 1 ≤ s) (h : ¬ (k * s ≤ a ∧ a < k * s + s)) : a / s ≠ k := fun e => by
  have h1 := Nat.div_add_mod a s
  have h2 := Nat.mod_lt a (show 0 < s by omega)
  rw [e, Nat.mul_comm] at h1
  omega
/-- a symbol put where it belongs -/
theorem objL_splice {l s k : Nat} {P : Nat → List UInt8} {A : Nat → Bool} (hs : 1 ≤ s) (hk : k * s ≤ l) (hP : (P k).length = s) :
    (objL l s P A).take (k * s) ++ ((P k).take (l - k * s) ++ (objL l s P A).drop (k * s + ((P k).take (l - k * s)).length)) = objL l s P (fun i => A i || decide (i = k)) := by
  have hz : ((P k).take (l - k * s)).length = min (l - k * s) s := by rw [List.length_take, hP]
  have ht : ((objL l s P A).take (k * s)).length = k * s := by rw [List.length_take, objL_len]; omega
  apply List.ext_getElem?
  intro a
  rw [objL_at]
  by_cases h1 : a < k * s
  · rw [List.getElem?_append_left (by omega), List.getElem?_take, if_pos h1, objL_at]
    have hne := div_neC (k := k) (a := a) hs (by omega)
    unfold objF
    simp [hne]
  · rw [List.getElem?_append_right (by omega), ht]
    by_cases h2 : a - k * s < ((P k).take (l - k * s)).length
    · rw [List.getElem?_append_left h2, List.getElem?_take]
      have h3 : a < l := by omega
      obtain ⟨e1, e2⟩ := div_eqC (a := a) (k := k) hs (by omega) (by omega)
      rw [if_pos (by omega), if_pos h3]
      unfold objF
      rw [e1, e2]
      simp only [decide_true, Bool.or_true, if_true]
      rw [List.getD_eq_getElem?_getD, List.getElem?_eq_getElem (by omega)]; rfl
    · rw [List.getElem?_append_right (by omega), List.getElem?_drop, objL_at]
      have e : k * s + ((P k).take (l - k * s)).length + (a - k * s - ((P k).take (l - k * s)).length) = a := by omega
      rw [e]
      by_cases h3 : a < l
      · have hne := div_neC (k := k) (a := a) hs (by omega)
        rw [if_pos h3, if_pos h3]
        unfold objF
        simp [hne]
      · rw [if_neg h3, if_neg h3]
theorem wp_copy_rowC {P : Program} {w : World} {o : Oper} {a : Act} {K : Act → World → Prop} {Q : Exit → Act → World → Prop} (d s : Operand) (dT sT : TypeId)
    (ho : o.op = .call { callee := .builtin .copy, args := #[d, s], argTypes := #[dT, sT] }) (elem : TypeId) (hu : P.underlying dT = some (.slice elem)) (hsz : (P.info? elem).map (·.size) = some 1)
    (g off dLen dCap : Nat) (ad : Addr) (sLen sCap : Nat) (hd : a.eval d = .slice (some ⟨g, off, none⟩) dLen dCap) (hs : a.eval s = .slice (some ad) sLen sCap)
    (cur : Array Value) (t : TypeId) (hg : w.heap[g]? = some (.cells cur t (0, 0))) (cs : List Value) (hn : cs.length = Nat.min sLen dLen)
    (hsrc : ∀ j v, cs[j]? = some v → w.cell? (ad.add j) = some v) (hfit : off + cs.length ≤ cur.size) (h1 : ∀ v ∈ cs, v.oneCell' = true)
    (h : K (a.put o.dst (goInt cs.length)) (w.setRow g (cur.toList.take off ++ (cs ++ cur.toList.drop (off + cs.length))).toArray)) : o.wp P a w K Q := by
  have hrun := run_copy_row (P := P) w dT sT o.type elem g off dLen dCap ad sLen sCap cur t cs hu hsz hg hn hsrc hfit h1
  unfold Oper.wp
  simp [execOp, ho, resolve, invoke, builtin, hd, hs, hrun, Result.andThen]
  exact h
/-- a copy into a part of a block known whole -/
theorem wp_copy_atC {P : Program} (w : World) {o : Oper} {a : Act} {K : Act → World → Prop} {Q : Exit → Act → World → Prop} (d s : Operand) (dT sT : TypeId)
    (ho : o.op = .call { callee := .builtin .copy, args := #[d, s], argTypes := #[dT, sT] }) (elem : TypeId) (hu : P.underlying dT = some (.slice elem)) (hsz : (P.info? elem).map (·.size) = some 1)
    (g off n c : Nat) (dp : Option Addr) (ad : Addr) (m k : Nat) (hd : a.eval d = .slice dp n c) (hdp : n = 0 ∨ dp = some ⟨g, off, none⟩) (hs : a.eval s = .slice (some ad) m k) (bs src : List UInt8) (T : TypeId) (hg : w.heap[g]? = some (.cells (bs.map B8).toArray T (0, 0))) (hl : bs.length = off + n) (hS : Sl B8 w (some ad) m k src) (hm : 1 ≤ m)
    (h : ∀ w', w'.heap[g]? = some (.cells ((bs.take off ++ (src.take n ++ bs.drop (off + (src.take n).length))).map B8).toArray T (0, 0)) → w.grownBy w' (some g) → K (a.put o.dst (goInt (src.take n).length)) w') : o.wp P a w K Q := by
  have hml := hS.len
  by_cases h0 : n = 0
  · subst h0
    have hrun := run_copy_none (P := P) w dT sT o.type elem dp (some ad) 0 c m k hu hsz (by simp)
    have := h w (by simpa using hg) (World.grownBy.refl _ _)
    unfold Oper.wp
    simp [execOp, ho, resolve, invoke, builtin, hd, hs, hrun, Result.andThen]
    have h2 : K (a.put o.dst (goInt 0)) w := by simpa using this
    exact h2
  · have e : dp = some ⟨g, off, none⟩ := by
      rcases hdp with h1 | h1
      · exact absurd h1 h0
      · exact h1
    subst e
    obtain ⟨b, o', e, -⟩ := hS.rs 0 (by omega)
    cases e
    have key := wp_copy_rowC (K := K) (Q := Q) d s dT sT ho elem hu hsz g off n c ⟨b, o', none⟩ m k hd hs _ T hg ((src.take n).map B8) (by rw [List.length_map, List.length_take, hml, Nat.min_comm]) (fun j v hj => by
      rw [List.getElem?_map, List.getElem?_take] at hj
      have hjl : j < n ∧ j < src.length := by
        split at hj
        · rename_i hjn
          refine ⟨hjn, ?_⟩
          rcases Nat.lt_or_ge j src.length with g | g
          · exact g
          · rw [List.getElem?_eq_none g] at hj; cases hj
        · cases hj
      obtain ⟨b2, o2, e, hc⟩ := hS.rs j hjl.2
      cases e
      rw [if_pos hjl.1, List.getElem?_eq_getElem hjl.2] at hj
      rw [Addr.add_lit, hc]; exact hj) (by rw [List.length_map, List.length_take]; simp; omega) (fun v hv => by
      obtain ⟨y, _, rfl⟩ := List.mem_map.1 hv
      rfl)
    refine key ?_
    rw [List.length_map]
    refine h _ ?_ (grownBy_setRowC w g _)
    rw [hrs hg]
    congr 2
    simp
theorem told_start {l f : Nat} {T : Nat → Bool} : toldT l T = toldT l (fun x => T x || decide (f ≤ x ∧ x < f + 0)) := toldT_congr (fun a _ => by
  have : ¬ (f ≤ a ∧ a < f + 0) := by omega
  rw [decide_eq_false this, Bool.or_false])
theorem told_step {l f a0 : Nat} {T : Nat → Bool} : (((toldT l (fun x => T x || decide (f ≤ x ∧ x < f + a0))).map Value.bool).toArray).setIfInBounds (f + a0) (.bool true) = ((toldT l (fun x => T x || decide (f ≤ x ∧ x < f + (a0 + 1)))).map Value.bool).toArray := by
  rw [List.setIfInBounds_toArray, ← List.map_set, toldT_set]
  congr 2
  refine toldT_congr (fun a _ => ?_)
  rw [Bool.or_assoc]
  congr 1
  rw [← Bool.decide_or]
  exact decide_eq_decide.2 (by omega)
theorem told_end {l s f k z : Nat} {T : Nat → Bool} (hs : 1 ≤ s) (hf : f = k * s) (hz : z = min (l - f) s) : toldT l (fun x => T (x / s) || decide (f ≤ x ∧ x < f + z)) = toldT l (fun x => (T (x / s) || decide (x / s = k))) := toldT_congr (fun a ha => by
  congr 1
  by_cases h : k * s ≤ a ∧ a < k * s + s
  · have e := (div_eqC hs h.1 h.2).1
    rw [decide_eq_true e, decide_eq_true (by omega)]
  · have e := div_neC hs h
    rw [decide_eq_false e, decide_eq_false (by omega)])
theorem told_cell {l i : Nat} {T : Nat → Bool} (h : i < l) : (((toldT l T).map Value.bool).toArray)[i]? = some (.bool (T i)) := by
  rw [List.getElem?_toArray, List.getElem?_map, toldT_at, if_pos h]; rfl
theorem take_has {ks : List Nat} {j k : Nat} (h : ks[j]? = some k) (i : Nat) : (ks.take (j + 1)).contains i = ((ks.take j).contains i || decide (i = k)) := by
  rw [List.take_add_one, h]
  simp [List.contains_eq_any_beq, Bool.beq_eq_decide_eq]
/-- the object, with one symbol more; nothing else has turned -/
def CpC (T : TypeId) (gO : Nat) (bs : List UInt8) (W0 W : World) : Prop := W.heap[gO]? = some (.cells (bs.map B8).toArray T (0, 0)) ∧ W0.grownBy W (some gO)
/-- the shapes of the copy's region -/
def shC (gO l f s bm k z : Nat) (dp : Option Addr) (ad : Addr) (ck : Nat) (Ok : World → Prop) : Nat → Value → World → Prop
  | 0, v, _ => v = .slice (some ⟨gO, 0, none⟩) l l
  | 1, v, _ => v = .int .i64 (f : Int)
  | 2, v, _ => v = .slice dp (l - f) (l - f)
  | 3, v, _ => v = .map (some bm)
  | 4, v, _ => v = .int .i64 (k : Int)
  | 5, v, _ => v = .slice (some ad) s ck
  | 6, v, W => v = .int .i64 (z : Int) ∧ Ok W
  | 7, v, _ => v = .int .i64 0
  | _ + 8, _, _ => True
end Go.By
