/- Numbers by their digits: one digit more, one digit set, sums and products step by step, which is greater. -/
import Derived.Test.YtbfmdfbnhakolaaDoorNA
namespace Go.By
theorem valD_snoc (b : Nat) (xs : List Nat) (x : Nat) : valD b (xs ++ [x]) = valD b xs + b ^ xs.length * x := by
  rw [valD_append]; show _ + _ * (x + b * 0) = _; rw [Nat.mul_zero, Nat.add_zero]
theorem valD_take {b i : Nat} {xs : List Nat} {x : Nat} (h : xs[i]? = some x) : valD b (xs.take (i + 1)) = valD b (xs.take i) + b ^ i * x := by
  have hi := (List.getElem?_eq_some_iff.1 h).1
  rw [List.take_add_one, h]
  show valD b (xs.take i ++ [x]) = _
  rw [valD_snoc, List.length_take, Nat.min_eq_left (by omega)]
theorem valD_take_none {b i : Nat} {xs : List Nat} (h : xs.length ≤ i) : valD b (xs.take (i + 1)) = valD b (xs.take i) := by
  rw [List.take_of_length_le (by omega), List.take_of_length_le h]
/-- a digit, or 0 behind the end -/
def digAt (xs : List Nat) (i : Nat) : Nat := xs.getD i 0
theorem valD_takeD (b i : Nat) (xs : List Nat) : valD b (xs.take (i + 1)) = valD b (xs.take i) + b ^ i * digAt xs i := by
  unfold digAt
  rcases Nat.lt_or_ge i xs.length with h | h
  · rw [valD_take (List.getElem?_eq_getElem h), List.getD_eq_getElem?_getD, List.getElem?_eq_getElem h]; rfl
  · rw [valD_take_none h, List.getD_eq_getElem?_getD, List.getElem?_eq_none h]; simp
theorem valD_set {b : Nat} : ∀ (xs : List Nat) (i x y : Nat), xs[i]? = some y → valD b (xs.set i x) + b ^ i * y = valD b xs + b ^ i * x
  | [], i, x, y, h => by simp at h
  | a :: xs, 0, x, y, h => by
    have : a = y := by simpa using h
    subst this
    show x + b * valD b xs + 1 * a = a + b * valD b xs + 1 * x
    omega
  | a :: xs, i + 1, x, y, h => by
    have ih := valD_set (b := b) xs i x y (by simpa using h)
    show a + b * valD b (xs.set i x) + b ^ (i + 1) * y = a + b * valD b xs + b ^ (i + 1) * x
    have e1 : b ^ (i + 1) * y = b * (b ^ i * y) := by rw [Nat.pow_succ, Nat.mul_comm (b ^ i), Nat.mul_assoc]
    have e2 : b ^ (i + 1) * x = b * (b ^ i * x) := by rw [Nat.pow_succ, Nat.mul_comm (b ^ i), Nat.mul_assoc]
    rw [e1, e2, Nat.add_assoc, ← Nat.mul_add, ih, Nat.mul_add, Nat.add_assoc]
/-- one step of a sum -/
theorem add_step {b i c x y S A B c' s' : Nat} (h : S + b ^ i * c = A + B) (hs : s' = (x + y + c) % b) (hc : c' = (x + y + c) / b) : (S + b ^ i * s') + b ^ (i + 1) * c' = (A + b ^ i * x) + (B + b ^ i * y) := by
  have h1 : s' + b * c' = x + y + c := by rw [hs, hc]; exact Nat.mod_add_div _ _
  have h2 : b ^ (i + 1) * c' = b ^ i * (b * c') := by rw [Nat.pow_succ, Nat.mul_assoc]
  have h3 : b ^ i * s' + b ^ i * (b * c') = b ^ i * x + b ^ i * y + b ^ i * c := by rw [← Nat.mul_add, h1, Nat.mul_add, Nat.mul_add]
  rw [h2]; omega
/-- one step of a difference: with a borrow, or none -/
theorem sub_step {b i x y c S A B c' s' : Nat} (hi : S + B = A + b ^ i * c) (hs : s' + y + c = x + b * c') : (S + b ^ i * s') + (B + b ^ i * y) = (A + b ^ i * x) + b ^ (i + 1) * c' := by
  have h2 : b ^ (i + 1) * c' = b ^ i * (b * c') := by rw [Nat.pow_succ, Nat.mul_assoc]
  have h3 : b ^ i * s' + b ^ i * y + b ^ i * c = b ^ i * x + b ^ i * (b * c') := by rw [← Nat.mul_add, ← Nat.mul_add, hs, Nat.mul_add]
  rw [h2]; omega
/-- which is greater: the longer one -/
theorem val_len {b : Nat} (hb : 2 ≤ b) {xs ys : List Nat} (hx : ∀ x, x ∈ xs → x < b) (hl : ys.getLast? ≠ some 0) (h : xs.length < ys.length) : valD b xs < valD b ys := by
  have h1 := valD_lt hb xs hx
  have hne : ys ≠ [] := fun e => by rw [e] at h; simp at h
  obtain ⟨zs, z, rfl⟩ : ∃ zs z, ys = zs ++ [z] := ⟨ys.dropLast, ys.getLast hne, (List.dropLast_concat_getLast hne).symm⟩
  rw [List.length_append, List.length_singleton] at h
  have hz : z ≠ 0 := by simpa using hl
  rw [valD_snoc]
  have h2 : b ^ xs.length ≤ b ^ zs.length := Nat.pow_le_pow_right (by omega) (by omega)
  have h3 : b ^ zs.length * 1 ≤ b ^ zs.length * z := Nat.mul_le_mul_left _ (by omega)
  omega
/-- .. of one length: the one whose highest unlike digit is greater -/
theorem val_top {b : Nat} (hb : 2 ≤ b) {xs ys hs : List Nat} {x y : Nat} (hx : ∀ a, a ∈ xs → a < b) (hl : xs.length = ys.length) (h : x < y) : valD b (xs ++ x :: hs) < valD b (ys ++ y :: hs) := by
  rw [valD_append, valD_append, hl]
  have h1 := valD_lt hb xs hx
  rw [hl] at h1
  have h2 : b ^ ys.length * valD b (x :: hs) + b ^ ys.length ≤ b ^ ys.length * valD b (y :: hs) := by
    rw [← Nat.mul_succ]
    refine Nat.mul_le_mul_left _ ?_
    show x + b * valD b hs + 1 ≤ y + b * valD b hs
    omega
  omega
end Go.By
