/- The plain law of VecLeads: what is normed leads with a 1, and so on. -/
import Derived.Test.YtofhdakggapahaaV7
namespace Go.Proofs.Ytofhdakggapahaa
open Go.By
theorem lead_is {v : List UInt8} {k : Nat} {x : UInt8} (h : v[k]? = some x) (hx : x ≠ 0) (hj : ∀ (j : Nat) (y : UInt8), j < k → v[j]? = some y → y = 0) : leadS v = (k : Int) := by
  rcases leadS_cases v with ⟨_, _, h3⟩ | ⟨k', x', e, h1, h2, _, h4⟩
  · exact absurd (h3 x (List.mem_of_getElem? h)) hx
  · rw [e]
    rcases Nat.lt_trichotomy k' k with g | g | g
    · exact absurd (hj k' x' g h1) h2
    · rw [g]
    · exact absurd (h4 k x g h) hx
theorem norm_cases (v d : List UInt8) : (leadS v = -1 ∧ normS (v, d) = (v, d)) ∨
    ∃ (k : Nat) (x : UInt8), leadS v = (k : Int) ∧ x ≠ 0 ∧ v[k]? = some x ∧ (∀ (j : Nat) (y : UInt8), j < k → v[j]? = some y → y = 0) ∧ normS (v, d) = (v.map (Gf.gmul (Gf.ginv x)), d.map (Gf.gmul (Gf.ginv x))) := by
  rcases leadS_cases v with ⟨h1, h2, _⟩ | ⟨k, x, e, h1, h2, h3, h4⟩
  · exact .inl ⟨h1, if_pos h2⟩
  · right
    refine ⟨k, x, e, h2, h1, h4, ?_⟩
    unfold normS
    simp only [h3, if_neg h2]
theorem norm_lead (v d : List UInt8) : leadS (normS (v, d)).1 = leadS v := by
  rcases norm_cases v d with ⟨_, h⟩ | ⟨k, x, e, hx, hk, hj, h⟩
  · rw [h]
  · rw [h, e]
    refine lead_is (x := 1) ?_ (by decide) ?_
    · simp [List.getElem?_map, hk, Gf.ginv_gmul x hx]
    · intro j y hjk hy
      simp only [List.getElem?_map, Option.map_eq_some_iff] at hy
      obtain ⟨z, hz, rfl⟩ := hy
      rw [hj j z hjk hz, Gf.gmul_zero]
theorem at_of {v : List UInt8} {k : Nat} {x : UInt8} (h : v[k]? = some x) : atS v (k : Int) = x := by
  simp [atS, List.getD_eq_getElem?_getD, h]
theorem norm_at (v d : List UInt8) (h : 0 ≤ leadS v) : atS (normS (v, d)).1 (leadS v) = 1 := by
  rcases norm_cases v d with ⟨h1, _⟩ | ⟨k, x, e, hx, hk, hj, g⟩
  · omega
  · rw [g, e]
    exact at_of (by simp [List.getElem?_map, hk, Gf.ginv_gmul x hx])
theorem norm_norm (v d : List UInt8) : normS (normS (v, d)) = normS (v, d) := by
  obtain ⟨a, b, e⟩ : ∃ a b, normS (v, d) = (a, b) := ⟨_, _, rfl⟩
  have hl := norm_lead v d
  rcases norm_cases v d with ⟨h1, g⟩ | ⟨k, x, ek, hx, hk, hj, g⟩
  · rw [g, g]
  · have ha := norm_at v d (by omega)
    rw [e] at hl ha ⊢
    simp only at hl ha
    unfold normS
    simp only [hl, ha]
    have e1 : Gf.ginv 1 = 1 := by decide +kernel
    rw [if_neg (by decide), e1]
    have : ∀ l : List UInt8, l.map (Gf.gmul 1) = l := fun l => by
      conv => rhs; rw [← List.map_id l]
      exact List.map_congr_left fun y _ => Gf.one_gmul y
    rw [this, this]
theorem norm_len (v d : List UInt8) : (normS (v, d)).1.length = v.length ∧ (normS (v, d)).2.length = d.length := by
  rcases norm_cases v d with ⟨_, h⟩ | ⟨_, _, _, _, _, _, h⟩ <;> rw [h] <;> simp
theorem axpy_back (c : UInt8) (n x : List UInt8) (h : n.length = x.length) : axpy c n (axpy c n x) = x := by
  apply List.ext_getElem?
  intro j
  simp only [axpy, List.getElem?_zipWith]
  by_cases hj : j < x.length
  · have hn : j < n.length := by omega
    simp [hj, hn, Gf.xor_cancel]
  · simp [show x.length ≤ j by omega, show n.length ≤ j by omega]
/-- what is left leads later, or is zero, and has 0 at that place -/
theorem less_later (n x : List UInt8) (k : Nat) (hn : n.length = x.length) (hl : leadS n = (k : Int)) (h1 : atS n (k : Int) = 1) (hx : leadS x = (k : Int)) :
    atS (axpy (atS x (k : Int)) n x) (k : Int) = 0 ∧ ((k : Int) < leadS (axpy (atS x (k : Int)) n x) ∨ zeroS (axpy (atS x (k : Int)) n x) = true) := by
  rcases leadS_cases n with ⟨h, _⟩ | ⟨k1, n1, e1, g1, _, _, g4⟩
  · omega
  rcases leadS_cases x with ⟨h, _⟩ | ⟨k2, x1, e2, f1, _, _, f4⟩
  · omega
  have i1 : k1 = k := by omega
  have i2 : k2 = k := by omega
  subst i1; subst i2
  rw [at_of g1] at h1
  subst h1
  rw [at_of f1]
  have z : ∀ j, j ≤ k2 → ∀ y, (axpy x1 n x)[j]? = some y → y = 0 := by
    intro j hj y hy
    simp only [axpy, List.getElem?_zipWith] at hy
    by_cases e : j = k2
    · subst e
      rw [g1, f1] at hy
      simpa [Gf.gmul_one, Gf.xor_self] using hy.symm
    · have hlt : j < k2 := by omega
      cases en : n[j]? with
      | none => rw [en] at hy; simp at hy
      | some a =>
        cases ex : x[j]? with
        | none => rw [en, ex] at hy; simp at hy
        | some b =>
          rw [en, ex, g4 j a hlt en, f4 j b hlt ex] at hy
          simpa [Gf.gmul_zero] using hy.symm
  have hk : ∃ y, (axpy x1 n x)[k2]? = some y := by
    simp only [axpy, List.getElem?_zipWith, g1, f1]; exact ⟨_, rfl⟩
  obtain ⟨y, hy⟩ := hk
  refine ⟨by rw [at_of hy]; exact z k2 (Nat.le_refl _) y hy, ?_⟩
  rcases leadS_cases (axpy x1 n x) with ⟨_, _, h3⟩ | ⟨k3, x3, e3, q1, q2, _, _⟩
  · right
    simp only [zeroS, List.all_eq_true, decide_eq_true_eq]
    exact h3
  · left
    rw [e3]
    by_cases c : k3 ≤ k2
    · exact absurd (z k3 c x3 q1) q2
    · omega
end Go.Proofs.Ytofhdakggapahaa
