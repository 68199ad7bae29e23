/- Slices of byte slices that the call itself makes. -/
import Derived.Test.YtnlfohbmdmeodaaB4
namespace Go.By
open Go.RowKit
/-- a slice value that owns a row of byte slices, each of which owns its bytes -/
def Own2 (T2 T1 : TypeId) (w : World) (base : Nat) (v : Value) (n : Nat) (xss : List (List UInt8)) : Prop :=
  ∃ vs : List Value, w.ownsRow base T2 1 v n vs ∧ xss.length = n ∧ ∀ (j : Nat) (val : Value), vs[j]? = some val → ∃ xs q c', xss[j]? = some xs ∧ val = Value.slice q xs.length c' ∧ w.ownsRow base T1 1 (.slice q xs.length c') xs.length (xs.map B8)
section
variable {T2 T1 : TypeId} {w w' : World} {base n : Nat} {v : Value} {xss : List (List UInt8)}
theorem Own2.nil (T2 T1 : TypeId) (w : World) (base : Nat) : Own2 T2 T1 w base (.slice none 0 0) 0 [] := ⟨[], World.ownsRow_nil _ _ _ _, rfl, fun j val h => by simp at h⟩
theorem owns_kept {e size : Nat} {v : Value} {ys : List Value} {row : Option Nat} (h : w.ownsRow base e size v n ys) (hg : w.grownBy w' row) (hne : ∀ k, v.ownBlock = some k → some k ≠ row) : w'.ownsRow base e size v n ys :=
  h.kept hg (by
    cases hv : v.ownBlock with
    | none => exact .inl rfl
    | some k => exact .inr (fun e => hne k hv e))
/-- rows of unlike element types lie in unlike blocks -/
theorem owns_ne {b1 b2 e1 e2 s1 s2 n1 n2 : Nat} {v1 v2 : Value} {ys1 ys2 : List Value} (h1 : w.ownsRow b1 e1 s1 v1 n1 ys1) (h2 : w.ownsRow b2 e2 s2 v2 n2 ys2) (he : e1 ≠ e2) : ∀ k, v1.ownBlock = some k → some k ≠ v2.ownBlock := by
  intro k hk
  rcases h1.2 with ⟨rfl, _⟩ | ⟨g1, c1, cur1, rfl, _, hh1, _⟩
  · simp [Value.ownBlock] at hk
  · simp [Value.ownBlock] at hk; subst hk
    rcases h2.2 with ⟨rfl, _⟩ | ⟨g2, c2, cur2, rfl, _, hh2, _⟩
    · simp [Value.ownBlock]
    · simp only [Value.ownBlock]
      intro e
      cases e
      rw [hh1] at hh2
      cases hh2; exact he rfl
theorem owns_keepv {e size : Nat} {ys : List Value} (h : w.ownsRow base e size v n ys) (hb : Below w.heap.size w w') : w'.ownsRow base e size v n ys := by
  obtain ⟨q, c, rfl⟩ := owns_shape h
  exact owns_keep h hb
theorem Own2.keep (h : Own2 T2 T1 w base v n xss) (hb : Below w.heap.size w w') : Own2 T2 T1 w' base v n xss := by
  obtain ⟨vs, h1, h2, h3⟩ := h
  exact ⟨vs, owns_keepv h1 hb, h2, fun j val hj => by
    obtain ⟨xs, q, c', a, b, c⟩ := h3 j val hj
    exact ⟨xs, q, c', a, b, owns_keep c hb⟩⟩
theorem Own2.sl2 {p : Option Addr} {c : Nat} (h : Own2 T2 T1 w base (.slice p n c) n xss) : Sl2 w p n c xss := by
  obtain ⟨vs, h1, h2, h3⟩ := h
  have hs : Sl id w p n c vs := Sl.of_owns (by rw [List.map_id]; exact h1)
  refine ⟨h2, hs.le, hs.max, hs.nil, ?_⟩
  intro i xs hi
  have hlt : i < vs.length := by
    have := (List.getElem?_eq_some_iff.1 hi).1
    rw [hs.len]; omega
  obtain ⟨b, o, hp, hc⟩ := hs.rs i hlt
  obtain ⟨xs', q, c', a1, a2, a3⟩ := h3 i _ (List.getElem?_eq_getElem hlt)
  have e := hi.symm.trans a1
  cases e
  exact ⟨b, o, q, c', hp, by rw [hc, id, a2], Sl.of_owns a3⟩
/-- one row more: what the law on append leaves -/
theorem Own2.push {q : Option Addr} {m c : Nat} {xs : List UInt8} {vs : List Value} {v' : Value} (hT : T1 ≠ T2) (h2 : xss.length = n)
    (h3 : ∀ (j : Nat) (val : Value), vs[j]? = some val → ∃ xs q c', xss[j]? = some xs ∧ val = Value.slice q xs.length c' ∧ w.ownsRow base T1 1 (.slice q xs.length c') xs.length (xs.map B8))
    (h1 : w.ownsRow base T2 1 v n vs) (hr : w.ownsRow base T1 1 (.slice q m c) m (xs.map B8)) (ho : w'.ownsRow base T2 1 v' (n + 1) (vs ++ [.slice q m c])) (hg : w.grownBy w' v.ownBlock) : Own2 T2 T1 w' base v' (n + 1) (xss ++ [xs]) := by
  have hvl : vs.length = n := by simpa using h1.1
  have hml : m = xs.length := by have := hr.1; simp at this; exact this.symm
  refine ⟨_, ho, by simp [h2], ?_⟩
  intro j val hj
  by_cases hjn : j < n
  · rw [List.getElem?_append_left (by omega)] at hj
    obtain ⟨ys, q', c', a, b, d⟩ := h3 j val hj
    exact ⟨ys, q', c', by rw [List.getElem?_append_left (by omega)]; exact a, b, owns_kept d hg (owns_ne d h1 hT)⟩
  · rw [List.getElem?_append_right (by omega)] at hj
    have hj0 : j = n := by
      have := (List.getElem?_eq_some_iff.1 hj).1
      simp at this; omega
    subst hj0
    rw [hvl] at hj
    simp at hj
    subst hj
    refine ⟨xs, q, c, by rw [List.getElem?_append_right (by omega), h2]; simp, by rw [hml], ?_⟩
    have := owns_kept hr hg (owns_ne hr h1 hT)
    rwa [hml] at this
end
end Go.By
