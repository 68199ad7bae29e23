/- A slice of rows that the call owns. -/
import Derived.Test.YtofhdakggapahaaB7
import Derived.Deep.AppendLies
namespace Go.By
open Go.RowKit
def fl2 (vs : List (Value × Value)) : List Value := vs.flatMap fun u => [u.1, u.2]
theorem fl2_append (a b : List (Value × Value)) : fl2 (a ++ b) = fl2 a ++ fl2 b := by simp [fl2]
theorem fl2_length (vs : List (Value × Value)) : (fl2 vs).length = vs.length * 2 := by
  induction vs with
  | nil => rfl
  | cons u vs ih => show (u.1 :: u.2 :: fl2 vs).length = _; simp only [List.length_cons, ih]; omega
theorem fl2_at : ∀ {vs : List (Value × Value)} {i : Nat} {u : Value × Value}, vs[i]? = some u → (fl2 vs)[i * 2]? = some u.1 ∧ (fl2 vs)[i * 2 + 1]? = some u.2
  | v :: vs, 0, u, h => by obtain rfl : v = u := by simpa using h
                           exact ⟨rfl, rfl⟩
  | v :: vs, i + 1, u, h => by
    have ih := fl2_at (vs := vs) (i := i) (u := u) (by simpa using h)
    have e : fl2 (v :: vs) = v.1 :: v.2 :: fl2 vs := rfl
    rw [e, show (i + 1) * 2 = i * 2 + 2 by omega]
    exact ⟨by simpa using ih.1, by simpa using ih.2⟩
/-- a slice value that owns these bytes -/
def Bw (T1 : TypeId) (w : World) (base : Nat) (v : Value) (xs : List UInt8) : Prop := ∃ q m c, v = .slice q m c ∧ xs.length = m ∧ w.ownsRow base T1 1 (.slice q m c) m (xs.map B8)
/-- rows, each with bytes of its own -/
def RwL (T2 T1 : TypeId) (w : World) (base : Nat) (v : Value) (n : Nat) (K : List (List UInt8 × List UInt8)) : Prop :=
  ∃ vs : List (Value × Value), vs.length = n ∧ K.length = n ∧ w.ownsRow base T2 2 v n (fl2 vs) ∧ ∀ (j : Nat) (u : Value × Value), vs[j]? = some u → ∃ k, K[j]? = some k ∧ Bw T1 w base u.1 k.1 ∧ Bw T1 w base u.2 k.2
section
variable {T2 T1 : TypeId} {w w' : World} {base n : Nat} {v : Value} {K : List (List UInt8 × List UInt8)}
theorem Bw.keep {xs : List UInt8} (h : Bw T1 w base v xs) (hb : Below w.heap.size w w') : Bw T1 w' base v xs := by
  obtain ⟨q, m, c, e, l, o⟩ := h; exact ⟨q, m, c, e, l, owns_keep o hb⟩
theorem Bw.sl {xs : List UInt8} (h : Bw T1 w base v xs) : ∃ q m c, v = .slice q m c ∧ Sl B8 w q m c xs := by
  obtain ⟨q, m, c, e, l, o⟩ := h; exact ⟨q, m, c, e, Sl.of_owns o⟩
theorem Bw.grown {xs : List UInt8} {u : Value} {L : List Value} {m : Nat} (h : Bw T1 w base v xs) (hT : T1 ≠ T2) (ho : w.ownsRow base T2 2 u m L) (hg : w.grownBy w' u.ownBlock) : Bw T1 w' base v xs := by
  obtain ⟨q, m, c, e, l, o⟩ := h; exact ⟨q, m, c, e, l, owns_kept o hg (owns_ne o ho hT)⟩
theorem RwL.nil (T2 T1 : TypeId) (w : World) (base : Nat) : RwL T2 T1 w base (.slice none 0 0) 0 [] := ⟨[], rfl, rfl, World.ownsRow_nil _ _ _ _, fun j u h => by simp at h⟩
theorem RwL.keep (h : RwL T2 T1 w base v n K) (hb : Below w.heap.size w w') : RwL T2 T1 w' base v n K := by
  obtain ⟨vs, a, b, o, r⟩ := h
  exact ⟨vs, a, b, owns_keepv o hb, fun j u hj => by obtain ⟨k, hk, g1, g2⟩ := r j u hj; exact ⟨k, hk, g1.keep hb, g2.keep hb⟩⟩
theorem RwL.len (h : RwL T2 T1 w base v n K) : K.length = n := by obtain ⟨vs, a, b, o, r⟩ := h; exact b
theorem RwL.shape (h : RwL T2 T1 w base v n K) : ∃ q c, v = .slice q n c := by obtain ⟨vs, a, b, o, r⟩ := h; exact owns_shape o
/-- one row, in memory -/
theorem RwL.at {q : Option Addr} {c : Nat} (h : RwL T2 T1 w base (.slice q n c) n K) {j : Nat} (hj : j < n) : ∃ g k q1 m1 c1 q2 m2 c2, q = some ⟨g, 0, none⟩ ∧ w.cell? ⟨g, j * 2, none⟩ = some (.slice q1 m1 c1) ∧ w.cell? ⟨g, j * 2 + 1, none⟩ = some (.slice q2 m2 c2) ∧
    Hid (K[j]? = some k) ∧ Sl B8 w q1 m1 c1 k.1 ∧ Sl B8 w q2 m2 c2 k.2 := by
  obtain ⟨vs, a, b, o, r⟩ := h
  obtain ⟨u, hu⟩ : ∃ u, vs[j]? = some u := ⟨_, List.getElem?_eq_getElem (by omega)⟩
  obtain ⟨k, hk, g1, g2⟩ := r j u hu
  obtain ⟨q1, m1, c1, e1, s1⟩ := g1.sl
  obtain ⟨q2, m2, c2, e2, s2⟩ := g2.sl
  rcases o.2 with ⟨hv, _⟩ | ⟨g, cap, cur, hv, _⟩
  · simp at hv; omega
  · obtain ⟨rfl, rfl⟩ : q = some ⟨g, 0, none⟩ ∧ c = cap := by simpa using hv
    obtain ⟨f1, f2⟩ := fl2_at hu
    refine ⟨g, k, q1, m1, c1, q2, m2, c2, rfl, ?_, ?_, hk, s1, s2⟩
    · rw [o.cellAt _ (by omega), f1, e1]
    · rw [o.cellAt _ (by omega), f2, e2]
theorem RwL.lt (h : RwL T2 T1 w base v n K) : ∀ k, v.ownBlock = some k → base ≤ k ∧ k < w.heap.size := by
  obtain ⟨vs, a, b, o, r⟩ := h; exact fun k hk => o.lt k hk
theorem Bw.set {xs : List UInt8} {g o : Nat} {u : Value} (h : Bw T1 w base v xs) (hne : ∀ k, v.ownBlock = some k → k ≠ g) (hg : w.grownBy w' (some g)) : Bw T1 w' base v xs := by
  obtain ⟨q, m, c, rfl, l, ho⟩ := h; exact ⟨q, m, c, rfl, l, owns_kept ho hg (fun k hk e => hne k hk (by injection e))⟩
/-- what is written into a block of another type leaves them -/
theorem RwL.set {g TX : Nat} {cs : Array Value} {fr : Nat × Nat} (h : RwL T2 T1 w base v n K) (hX : w.heap[g]? = some (.cells cs TX fr)) (h1 : T1 ≠ TX) (h2 : v.ownBlock ≠ some g) (hg : w.grownBy w' (some g)) : RwL T2 T1 w' base v n K := by
  obtain ⟨vs, a, b, o, r⟩ := h
  have hB : ∀ (u : Value) (xs : List UInt8), Bw T1 w base u xs → Bw T1 w' base u xs := fun u xs hu => by
    refine hu.set (g := g) (o := 0) (u := u) (fun k hk e => ?_) hg
    obtain ⟨q, m, c, rfl, l, ho⟩ := hu
    rcases ho.2 with ⟨hv, _⟩ | ⟨g', cap, cur, hv, _, hh, _⟩
    · rw [hv] at hk; simp [Value.ownBlock] at hk
    · rw [hv] at hk; simp [Value.ownBlock] at hk
      rw [e] at hk; rw [hk, hX] at hh
      injection hh with hh; injection hh with _ hh _; exact h1 hh.symm
  exact ⟨vs, a, b, owns_kept o hg (fun k hk e => h2 (by rw [hk, e])), fun j u hj => by obtain ⟨k, hk, g1, g2⟩ := r j u hj; exact ⟨k, hk, hB _ _ g1, hB _ _ g2⟩⟩
/-- one more -/
theorem RwL.push {w1 : World} {v' : Value} {u1 u2 : Value} {k : List UInt8 × List UInt8} {vs : List (Value × Value)} (a : vs.length = n) (b : K.length = n) (o : w.ownsRow base T2 2 v n (fl2 vs))
    (r : ∀ (j : Nat) (u : Value × Value), vs[j]? = some u → ∃ k, K[j]? = some k ∧ Bw T1 w base u.1 k.1 ∧ Bw T1 w base u.2 k.2) (hT : T1 ≠ T2) (h1 : Bw T1 w base u1 k.1) (h2 : Bw T1 w base u2 k.2)
    (ho : w1.ownsRow base T2 2 v' (n + 1) (fl2 vs ++ [u1, u2])) (hg : w.grownBy w1 v.ownBlock) : RwL T2 T1 w1 base v' (n + 1) (K ++ [k]) := by
  refine ⟨vs ++ [(u1, u2)], by simp [a], by simp [b], by rw [fl2_append]; exact ho, ?_⟩
  intro j u hj
  by_cases hjn : j < vs.length
  · rw [List.getElem?_append_left hjn] at hj
    obtain ⟨k', hk, g1, g2⟩ := r j u hj
    exact ⟨k', by rw [List.getElem?_append_left (by omega)]; exact hk, g1.grown hT o hg, g2.grown hT o hg⟩
  · have hj2 := (List.getElem?_eq_some_iff.1 hj).1
    rw [List.length_append, List.length_singleton] at hj2
    obtain rfl : j = vs.length := by omega
    rw [List.getElem?_append_right (Nat.le_refl _), Nat.sub_self] at hj
    have hu : (u1, u2) = u := by simpa using hj
    subst hu
    exact ⟨k, by rw [a, ← b, List.getElem?_append_right (Nat.le_refl _), Nat.sub_self]; rfl, h1.grown hT o hg, h2.grown hT o hg⟩
end
end Go.By
