/- Plain laws of GridTells: rows and what they are joined; a unit's bytes. -/
import Derived.Test.YtofhdakggapahaaG8
namespace Go.Proofs.Ytofhdakggapahaa
open Go.RowKit Go.By
theorem rowF_cons {wd : Nat} {x : List UInt8} {l : List (List UInt8)} (hx : x.length = wd) (i : Nat) : rowF wd (x :: l).flatten (i + 1) = rowF wd l.flatten i := by
  unfold rowF
  rw [List.flatten_cons, Nat.add_mul, Nat.one_mul, Nat.add_comm, ← List.drop_drop, ← hx, List.drop_left]
theorem rows_flat {wd : Nat} : ∀ {xss : List (List UInt8)}, (∀ x, x ∈ xss → x.length = wd) → (List.range xss.length).map (rowF wd xss.flatten) = xss
  | [], _ => rfl
  | x :: l, h => by
    have hx := h x (by simp)
    rw [List.length_cons, List.range_succ_eq_map, List.map_cons, List.map_map]
    congr 1
    · unfold rowF; rw [Nat.zero_mul, List.drop_zero, List.flatten_cons, ← hx, List.take_left]
    · have e : (rowF wd (x :: l).flatten ∘ Nat.succ) = rowF wd l.flatten := by funext i; exact rowF_cons hx i
      rw [e]; exact rows_flat (fun y hy => h y (by simp [hy]))
theorem flat_rows {wd : Nat} : ∀ (n : Nat) {C : List UInt8}, C.length = n * wd → ((List.range n).map (rowF wd C)).flatten = C
  | 0, C, h => by have : C = [] := List.length_eq_zero_iff.1 (by simpa using h)
                  subst this; rfl
  | n + 1, C, h => by
    rw [List.range_succ_eq_map, List.map_cons, List.map_map, List.flatten_cons]
    have e : (rowF wd C ∘ Nat.succ) = rowF wd (C.drop wd) := by
      funext i; unfold rowF; simp only [Function.comp]
      rw [List.drop_drop, Nat.succ_mul, Nat.add_comm]
    rw [e, flat_rows n (by rw [List.length_drop, h, Nat.add_mul]; omega)]
    unfold rowF
    rw [Nat.zero_mul, List.drop_zero, List.take_append_drop]
theorem unitC_at (n : Nat) : ∀ k, k ≤ n → ∀ a b, a < n → b < n → (unitC n k)[a * n + b]? = some (if a = b ∧ a < k then 1 else 0)
  | 0, _, a, b, ha, hb => by
    have hlt : a * n + b < n * n := by
      have : (a + 1) * n ≤ n * n := Nat.mul_le_mul_right _ ha
      rw [Nat.add_mul, Nat.one_mul] at this; omega
    unfold unitC; rw [List.getElem?_replicate_of_lt hlt]; simp
  | k + 1, hk, a, b, ha, hb => by
    have hlt : a * n + b < n * n := by
      have : (a + 1) * n ≤ n * n := Nat.mul_le_mul_right _ ha
      rw [Nat.add_mul, Nat.one_mul] at this; omega
    have ih := unitC_at n k (by omega) a b ha hb
    unfold unitC
    rw [List.getElem?_set]
    by_cases e : k * n + k = a * n + b
    · have h1 : k = a := by
        have d1 : (k * n + k) / n = k := by rw [Nat.mul_comm, Nat.mul_add_div (by omega), Nat.div_eq_of_lt (by omega)]; rfl
        have d2 : (a * n + b) / n = a := by rw [Nat.mul_comm, Nat.mul_add_div (by omega), Nat.div_eq_of_lt hb]; rfl
        rw [e, d2] at d1; exact d1.symm
      subst h1
      have h2 : k = b := by omega
      subst h2
      rw [if_pos rfl, unitC_len, if_pos hlt, if_pos ⟨rfl, by omega⟩]
    · rw [if_neg e, ih]
      by_cases h1 : a = b
      · subst h1
        have : a ≠ k := fun h => e (by rw [h])
        by_cases h2 : a < k
        · rw [if_pos ⟨rfl, h2⟩, if_pos ⟨rfl, by omega⟩]
        · rw [if_neg (fun h => h2 h.2), if_neg (fun h => h2 (by omega))]
      · rw [if_neg (fun h => h1 h.1), if_neg (fun h => h1 h.1)]
theorem unit_elem {N k j : Nat} {row : List UInt8} {x : UInt8} (hk : k < N) (hrow : ((List.range N).map (rowF N (unitC N N)))[k]? = some row) (hx : row[j]? = some x) (hj : j < N) : x = if k = j then 1 else 0 := by
  rw [List.getElem?_map, List.getElem?_range hk] at hrow
  have e : rowF N (unitC N N) k = row := by simpa using hrow
  rw [← e] at hx
  unfold rowF at hx
  rw [List.getElem?_take, if_pos hj, List.getElem?_drop, unitC_at N N (Nat.le_refl _) k j hk hj] at hx
  have := Option.some.inj hx
  rw [← this]
  by_cases h : k = j
  · rw [if_pos h, if_pos ⟨h, hk⟩]
  · rw [if_neg h, if_neg (fun g => h g.1)]
/-- a grid is a unit just where its rows are -/
theorem unit_same {N wd m : Nat} {xss : List (List UInt8)} (hm : xss.length = m) (h : ∀ x, x ∈ xss → x.length = wd) : decide (wd = N ∧ m = N ∧ xss.flatten = unitC N N) = (decide (wd = N) && decide (xss = (List.range N).map (rowF N (unitC N N)))) := by
  by_cases e : wd = N
  · subst e
    rw [decide_eq_true rfl, Bool.true_and, decide_eq_decide]
    constructor
    · rintro ⟨_, h2, h3⟩
      have := rows_flat h
      rw [hm, h2, h3] at this
      exact this.symm
    · intro h2
      refine ⟨rfl, ?_, ?_⟩
      · rw [← hm, h2]; simp
      · rw [h2]; exact flat_rows wd (unitC_len wd wd)
  · rw [decide_eq_false (fun h => e h.1), decide_eq_false e, Bool.false_and]
end Go.Proofs.Ytofhdakggapahaa
