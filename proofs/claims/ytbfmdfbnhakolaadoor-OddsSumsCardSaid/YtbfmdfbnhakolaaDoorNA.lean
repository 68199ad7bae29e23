/- Numbers by their digits: plain laws of layer 6. -/
import Derived.WalkKit
namespace Go.By
/-- the digits of a number, the lowest first -/
def digs (b : Nat) (n : Nat) : List Nat := if h : n = 0 ∨ b ≤ 1 then [] else n % b :: digs b (n / b)
termination_by n
decreasing_by exact Nat.div_lt_self (by omega) (by omega)
theorem digs_zero (b : Nat) : digs b 0 = [] := by unfold digs; simp
theorem digs_pos {b n : Nat} (hb : 2 ≤ b) (hn : 0 < n) : digs b n = n % b :: digs b (n / b) := by
  conv => lhs; unfold digs
  rw [dif_neg (by omega)]
/-- the number that digits are -/
def valD (b : Nat) : List Nat → Nat
  | [] => 0
  | x :: xs => x + b * valD b xs
theorem valD_append (b : Nat) : ∀ (xs ys : List Nat), valD b (xs ++ ys) = valD b xs + b ^ xs.length * valD b ys
  | [], ys => by simp [valD]
  | x :: xs, ys => by
    show x + b * valD b (xs ++ ys) = x + b * valD b xs + b ^ (xs.length + 1) * valD b ys
    rw [valD_append b xs ys, Nat.mul_add, Nat.pow_succ, Nat.add_assoc]
    congr 2
    rw [← Nat.mul_assoc, Nat.mul_comm b]
theorem valD_zeros (b : Nat) : ∀ k, valD b (List.replicate k 0) = 0
  | 0 => rfl
  | k + 1 => by rw [List.replicate_succ]; show 0 + b * valD b (List.replicate k 0) = 0; rw [valD_zeros b k]; simp
theorem valD_digs {b : Nat} (hb : 2 ≤ b) (n : Nat) : valD b (digs b n) = n := by
  induction n using Nat.strongRecOn with
  | ind n ih =>
    rcases Nat.eq_zero_or_pos n with h | h
    · subst h; rw [digs_zero]; rfl
    · rw [digs_pos hb h]
      show n % b + b * valD b (digs b (n / b)) = n
      rw [ih (n / b) (Nat.div_lt_self h hb)]
      exact Nat.mod_add_div n b
theorem digs_lt {b : Nat} (hb : 2 ≤ b) (n : Nat) : ∀ x, x ∈ digs b n → x < b := by
  induction n using Nat.strongRecOn with
  | ind n ih =>
    intro x hx
    rcases Nat.eq_zero_or_pos n with h | h
    · subst h; rw [digs_zero] at hx; cases hx
    · rw [digs_pos hb h] at hx
      rcases List.mem_cons.1 hx with rfl | hx
      · exact Nat.mod_lt _ (by omega)
      · exact ih (n / b) (Nat.div_lt_self h hb) x hx
theorem valD_lt {b : Nat} (hb : 2 ≤ b) : ∀ (xs : List Nat), (∀ x, x ∈ xs → x < b) → valD b xs < b ^ xs.length
  | [], _ => by simp [valD]
  | x :: xs, h => by
    have h1 := h x (by simp)
    have h2 := valD_lt hb xs (fun y hy => h y (by simp [hy]))
    show x + b * valD b xs < b ^ (xs.length + 1)
    rw [Nat.pow_succ, Nat.mul_comm (b ^ xs.length)]
    have h3 : b * (valD b xs + 1) ≤ b * b ^ xs.length := Nat.mul_le_mul_left b h2
    rw [Nat.mul_add] at h3
    omega
/-- digits whose last isn't 0 are those of their number -/
theorem digs_valD {b : Nat} (hb : 2 ≤ b) : ∀ (xs : List Nat), (∀ x, x ∈ xs → x < b) → xs.getLast? ≠ some 0 → digs b (valD b xs) = xs
  | [], _, _ => digs_zero b
  | x :: xs, h, hl => by
    have h1 := h x (by simp)
    have ih := digs_valD hb xs (fun y hy => h y (by simp [hy]))
    have hpos : 0 < valD b (x :: xs) := by
      show 0 < x + b * valD b xs
      cases xs with
      | nil =>
        have : x ≠ 0 := by simpa using hl
        omega
      | cons y ys =>
        have hl2 : (y :: ys).getLast? ≠ some 0 := by simpa [List.getLast?_cons_cons] using hl
        have h2 := ih hl2
        have : valD b (y :: ys) ≠ 0 := fun e => by rw [e, digs_zero] at h2; cases h2
        have : 0 < b * valD b (y :: ys) := Nat.mul_pos (by omega) (by omega)
        omega
    rw [digs_pos hb hpos]
    have e1 : valD b (x :: xs) % b = x := by
      show (x + b * valD b xs) % b = x
      rw [Nat.add_mul_mod_self_left, Nat.mod_eq_of_lt h1]
    have e2 : valD b (x :: xs) / b = valD b xs := by
      show (x + b * valD b xs) / b = _
      rw [Nat.add_mul_div_left _ _ (by omega), Nat.div_eq_of_lt h1, Nat.zero_add]
    rw [e1, e2]
    cases xs with
    | nil => rw [show valD b [] = 0 from rfl, digs_zero]
    | cons y ys => rw [ih (by simpa [List.getLast?_cons_cons] using hl)]
/-- the last digit isn't 0 -/
theorem digs_last {b : Nat} (hb : 2 ≤ b) (n : Nat) : (digs b n).getLast? ≠ some 0 := by
  induction n using Nat.strongRecOn with
  | ind n ih =>
    rcases Nat.eq_zero_or_pos n with h | h
    · subst h; rw [digs_zero]; simp
    · rw [digs_pos hb h]
      have hlt := Nat.div_lt_self h hb
      rcases Nat.eq_zero_or_pos (n / b) with h2 | h2
      · rw [h2, digs_zero]
        have : n % b = n := by have := Nat.mod_add_div n b; rw [h2] at this; omega
        simp; omega
      · have := ih _ hlt
        rw [digs_pos hb h2] at this ⊢
        simpa [List.getLast?_cons_cons] using this
theorem digs_inj {b : Nat} (hb : 2 ≤ b) {m n : Nat} (h : digs b m = digs b n) : m = n := by
  rw [← valD_digs hb m, h, valD_digs hb n]
/-- the low k digits -/
def lowD (b : Nat) : Nat → Nat → List Nat
  | 0, _ => []
  | k + 1, n => n % b :: lowD b k (n / b)
theorem lowD_len (b : Nat) : ∀ k n, (lowD b k n).length = k
  | 0, _ => rfl
  | k + 1, n => by show (lowD b k (n / b)).length + 1 = _; rw [lowD_len]
theorem lowD_zero (b : Nat) : ∀ k, lowD b k 0 = List.replicate k 0
  | 0 => rfl
  | k + 1 => by show 0 % b :: lowD b k (0 / b) = _; rw [Nat.zero_mod, Nat.zero_div, lowD_zero b k]; rfl
/-- a number below b^k, with noughts behind -/
theorem lowD_pad {b : Nat} (hb : 2 ≤ b) : ∀ k n, n < b ^ k → lowD b k n = digs b n ++ List.replicate (k - (digs b n).length) 0 ∧ (digs b n).length ≤ k
  | 0, n, h => by
    have : n = 0 := by simpa using h
    subst this
    rw [digs_zero]; exact ⟨rfl, Nat.le_refl _⟩
  | k + 1, n, h => by
    rcases Nat.eq_zero_or_pos n with h0 | h0
    · subst h0; rw [digs_zero, lowD_zero]; exact ⟨rfl, Nat.zero_le _⟩
    · have h1 : n / b < b ^ k := Nat.div_lt_of_lt_mul (by rw [Nat.pow_succ, Nat.mul_comm] at h; exact h)
      obtain ⟨e, hl⟩ := lowD_pad hb k (n / b) h1
      rw [digs_pos hb h0]
      show n % b :: lowD b k (n / b) = _ ∧ _
      rw [e]
      refine ⟨?_, by simpa using hl⟩
      simp
/-- a number of two parts -/
theorem digs_join {b : Nat} (hb : 2 ≤ b) : ∀ k w n, w < b ^ k → 0 < n → digs b (w + b ^ k * n) = lowD b k w ++ digs b n
  | 0, w, n, h, hn => by
    have : w = 0 := by simpa using h
    subst this
    simp [lowD]
  | k + 1, w, n, h, hn => by
    have hp : 0 < b ^ (k + 1) * n := Nat.mul_pos (Nat.pow_pos (by omega)) hn
    rw [digs_pos hb (by omega)]
    have h1 : w / b < b ^ k := Nat.div_lt_of_lt_mul (by rw [Nat.pow_succ, Nat.mul_comm] at h; exact h)
    have e0 : b ^ (k + 1) * n = b * (b ^ k * n) := by rw [Nat.pow_succ, Nat.mul_comm (b ^ k), Nat.mul_assoc]
    have e1 : (w + b ^ (k + 1) * n) % b = w % b := by rw [e0, Nat.add_mul_mod_self_left]
    have e2 : (w + b ^ (k + 1) * n) / b = w / b + b ^ k * n := by rw [e0, Nat.add_mul_div_left _ _ (by omega)]
    rw [e1, e2, digs_join hb k (w / b) n h1 hn]
    rfl
end Go.By
