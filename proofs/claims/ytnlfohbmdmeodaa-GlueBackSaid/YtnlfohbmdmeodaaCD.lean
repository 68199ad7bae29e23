/- A map from numbers to slices, made by the call; its keys in order. -/
import Derived.Test.YtnlfohbmdmeodaaCC
import Derived.Test.YtnlfohbmdmeodaaIter
import Derived.Maps.Own
import Derived.Maps.Views
namespace Go.By
open Go.RowKit Go.Maps Go.ChangeMaps
/-- how a slice's value reads -/
def slR : Value → Option (DataW Unit × List MemPlace)
  | .slice (some ⟨b, o, none⟩) n c => some (.agg [.lit (.int .i64 b), .lit (.int .i64 o), .lit (.int .i64 n), .lit (.int .i64 c)], [])
  | .slice none 0 0 => some (.nil, [])
  | _ => none
theorem slR_inj {u v : Value} {y z : DataW Unit × List MemPlace} (h : slR u = some y) (h2 : slR v = some z) (e : y.1 = z.1) : u = v := by
  unfold slR at h h2
  split at h <;> split at h2 <;> cases h <;> cases h2 <;> simp_all <;> omega
/-- entries: of the numbers in S, each with its own datum -/
structure OKm (m : Nat) (S : Nat → Bool) (f : Nat → DataW Unit) (es : List (Lit × DataW Unit)) : Prop where
  all : ∀ p, p ∈ es → ∃ i : Nat, i < m ∧ S i = true ∧ p = (.int .i64 (i : Int), f i)
  has : ∀ i : Nat, i < m → S i = true → ∃ p, p ∈ es ∧ p.1 = .int .i64 (i : Int)
theorem same_i64 {a b : Int} : (Lit.int .i64 a).sameKey (.int .i64 b) = decide (a = b) := by
  simp [Lit.sameKey]
theorem OKm.look {m i : Nat} {S : Nat → Bool} {f : Nat → DataW Unit} {es : List (Lit × DataW Unit)} (h : OKm m S f es) (hi : i < m) (z : DataW Unit) : (DataW.map es).atKey (.int .i64 (i : Int)) z = if S i = true then f i else z := by
  unfold DataW.atKey
  cases hf : es.find? (fun p => p.1.sameKey (.int .i64 (i : Int))) with
  | none =>
    simp only [hf]
    rw [List.find?_eq_none] at hf
    by_cases hS : S i = true
    · obtain ⟨p, hp, e⟩ := h.has i hi hS
      have := hf p hp
      rw [e, same_i64] at this
      simp at this
    · rw [if_neg hS]
  | some p =>
    simp only [hf]
    have hp := List.mem_of_find?_eq_some hf
    have hs := List.find?_some hf
    obtain ⟨j, hj, hS, rfl⟩ := h.all p hp
    rw [same_i64, decide_eq_true_eq] at hs
    obtain rfl : j = i := by omega
    rw [if_pos hS]
theorem OKm.put {m k : Nat} {S : Nat → Bool} {f : Nat → DataW Unit} {es : List (Lit × DataW Unit)} (h : OKm m S f es) (hk : k < m) : OKm m (fun i => S i || decide (i = k)) f (putKey (.int .i64 (k : Int)) (f k) es) := by
  refine ⟨fun p hp => ?_, fun i hi hS => ?_⟩
  · rcases mem_insert_iff.1 hp with rfl | hp
    · exact ⟨k, hk, by simp, rfl⟩
    · obtain ⟨i, hi, hS, rfl⟩ := h.all p (List.mem_filter.1 hp).1
      exact ⟨i, hi, by simp [hS], rfl⟩
  · by_cases e : i = k
    · subst e; exact ⟨_, mem_insert_iff.2 (.inl rfl), rfl⟩
    · have hS2 : S i = true := by simpa [e] using hS
      obtain ⟨p, hp, ep⟩ := h.has i hi hS2
      refine ⟨p, mem_insert_iff.2 (.inr (List.mem_filter.2 ⟨hp, ?_⟩)), ep⟩
      unfold notKey
      rw [ep, same_i64]
      have : ¬ ((i : Int) = (k : Int)) := by omega
      simp [this]
theorem OKm.nil {m : Nat} {f : Nat → DataW Unit} : OKm m (fun _ => false) f [] := ⟨fun p hp => (by cases hp), fun i _ h => (by cases h)⟩
theorem OKm.keys {m : Nat} {S : Nat → Bool} {f : Nat → DataW Unit} {es : List (Lit × DataW Unit)} (h : OKm m S f es) (x : Int) : x ∈ intKeys (.map es) ↔ ∃ i : Nat, i < m ∧ S i = true ∧ x = (i : Int) := by
  show x ∈ es.map (fun p => intOf p.1) ↔ _
  rw [List.mem_map]
  constructor
  · rintro ⟨p, hp, rfl⟩
    obtain ⟨i, hi, hS, rfl⟩ := h.all p hp
    exact ⟨i, hi, hS, rfl⟩
  · rintro ⟨i, hi, hS, rfl⟩
    obtain ⟨p, hp, e⟩ := h.has i hi hS
    exact ⟨p, hp, by rw [e]; rfl⟩
end Go.By
namespace Go.Proofs.Ytnlfohbmdmeodaa
open Go.RowKit Go.By Go.Maps Go.Sort Go.Shelf
/-- what a map holds: the slices of the numbers in S, out of a row of slices -/
def MapC (bm cnt m : Nat) (S : Nat → Bool) (vs : List Value) (W : World) : Prop := ∃ es, W.ownsMap Try.prog 3 slR bm cnt (.map es) ∧ OKm m S (fun i => ((slR (vs.getD i undef)).getD (.nil, [])).1) es
theorem keyedC : Keyed Try.prog 3 := int_keyed Try.underlying3
theorem keyC (i : Nat) (hi : i ≤ 9223372036854775807) : keyOf Try.prog 3 (.int .i64 (i : Int)) = some (.int .i64 (i : Int)) := keyOf_int_mk Try.underlying3 (by simp [Lit.wf, IntKind.min, IntKind.max, IntKind.signed, IntKind.bits]; omega)
theorem MapC.keep {bm cnt m : Nat} {S : Nat → Bool} {vs : List Value} {W W' : World} (h : MapC bm cnt m S vs W) (hb : Below W.heap.size W W') : MapC bm cnt m S vs W' := by
  obtain ⟨es, ho, hk⟩ := h
  refine ⟨es, ?_, hk⟩
  have hlt := ho.lt
  obtain ⟨e, clock, h1, F, hs, hD⟩ := ho
  exact ⟨e, clock, (hb.block _ hlt).trans h1, F, hs, hD⟩
theorem MapC.lt {bm cnt m : Nat} {S : Nat → Bool} {vs : List Value} {W : World} (h : MapC bm cnt m S vs W) : bm < W.heap.size := by
  obtain ⟨es, ho, _⟩ := h; exact ho.lt
theorem MapC.grown {bm cnt m : Nat} {S : Nat → Bool} {vs : List Value} {W W' : World} {row : Option Nat} (h : MapC bm cnt m S vs W) (hg : W.grownBy W' row) (hne : some bm ≠ row) : MapC bm cnt m S vs W' := by
  obtain ⟨es, ho, hk⟩ := h
  exact ⟨es, ho.kept hg hne, hk⟩
theorem MapC.set {bm cnt m b i : Nat} {v : Value} {S : Nat → Bool} {vs : List Value} {W : World} (h : MapC bm cnt m S vs W) (hne : bm ≠ b) : MapC bm cnt m S vs (W.setCell ⟨b, i, none⟩ v) := by
  obtain ⟨es, ho, hk⟩ := h
  obtain ⟨e, clock, h1, F, hs, hD⟩ := ho
  exact ⟨es, ⟨e, clock, hsc h1 hne, F, hs, hD⟩, hk⟩
theorem MapC.made {m : Nat} {vs : List Value} {W : World} : MapC W.heap.size 0 m (fun _ => false) vs (W.alloc (.map #[] 0)) := ⟨[], World.ownsMap_made _ _ _ _, OKm.nil⟩
theorem zeroB (W : World) : (zeroValue 28).run Try.prog W = .ok (.slice none 0 0) W := by simp [Try.underlying28]
/-- 'm[i]', one way or the other -/
theorem MapC.look {bm cnt m i : Nat} {S : Nat → Bool} {vs : List Value} {W : World} (h : MapC bm cnt m S vs W) (hi : i < m) (hi2 : i ≤ 9223372036854775807) (hv : ∀ j, j < m → ∃ y, slR (vs.getD j undef) = some y) (c : Bool) :
    (Instr.lookup 42 (.map (some bm)) (.int .i64 (i : Int)) c).run Try.prog W = .ok (if S i = true then (if c then .tuple #[vs.getD i undef, .bool true] else vs.getD i undef) else (if c then .tuple #[.slice none 0 0, .bool false] else .slice none 0 0)) W := by
  obtain ⟨es, ⟨e, clock, h1, F, hs, hD⟩, hk⟩ := h
  have hl := hk.look hi
  rw [hD] at hl
  rcases Maps.fit_look c keyedC Try.underlying42 (zeroB W) h1 F (keyC i hi2) with ⟨hrun, _, hat⟩ | ⟨e0, y, _, _, hrun, hR, hat, _⟩
  · have hS : ¬ S i = true := fun hS => by
      have a1 := hl .nil
      have a2 := hl (.lit (.bool true))
      rw [if_pos hS, hat] at a1 a2
      rw [← a1] at a2; cases a2
    rw [hrun, if_neg hS]
  · have hS : S i = true := by
      by_cases hS : S i = true
      · exact hS
      · have a1 := hl .nil
        have a2 := hl (.lit (.bool true))
        rw [if_neg hS, hat] at a1 a2
        rw [a1] at a2; cases a2
    have a1 := hl .nil
    rw [if_pos hS, hat] at a1
    obtain ⟨z, hz⟩ := hv i hi
    have ev : e0.val = vs.getD i undef := slR_inj hR hz (by rw [a1, hz]; rfl)
    rw [hrun, if_pos hS, ev]
/-- 'm[k] = v' -/
theorem MapC.put {bm cnt m k : Nat} {S : Nat → Bool} {vs : List Value} {W : World} (h : MapC bm cnt m S vs W) (hk : k < m) (hk2 : k ≤ 9223372036854775807) (hc : cnt < maxLen) {y : DataW Unit × List MemPlace} (hv : slR (vs.getD k undef) = some y) :
    ∃ W', (Instr.mapUpdate 42 (.map (some bm)) (.int .i64 (k : Int)) (vs.getD k undef)).run Try.prog W = .ok () W' ∧ MapC bm (cnt + 1) m (fun i => S i || decide (i = k)) vs W' ∧ W.grownBy W' (some bm) := by
  obtain ⟨es, ho, hO⟩ := h
  obtain ⟨W', h1, h2, h3⟩ := ho.update (d := y.1) (ps := y.2) keyedC Try.underlying42 hc (keyC k hk2) hv
  refine ⟨W', h1, ⟨_, ?_, hO.put hk⟩, h3⟩
  rw [DataW.put_eq] at h2
  rw [hv]
  exact h2
end Go.Proofs.Ytnlfohbmdmeodaa
