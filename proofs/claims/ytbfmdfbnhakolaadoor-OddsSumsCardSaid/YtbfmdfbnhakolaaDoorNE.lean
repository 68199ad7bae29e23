/- One step of a product by hand; texts cut into words. -/
import Derived.Test.YtbfmdfbnhakolaaDoorND
namespace Go.By
/-- one step of a row of a product: digit y of the second number, p what stands there, c the carry -/
theorem mul_step {b i j a y p c V V' V0 S s' c' : Nat} (h : V + b ^ (i + j) * c = V0 + b ^ i * (a * S)) (hs : s' = (a * y + p + c) % b) (hc : c' = (a * y + p + c) / b) (hv : V' + b ^ (i + j) * p = V + b ^ (i + j) * s') : V' + b ^ (i + (j + 1)) * c' = V0 + b ^ i * (a * (S + b ^ j * y)) := by
  have h1 : s' + b * c' = a * y + p + c := by rw [hs, hc]; exact Nat.mod_add_div _ _
  have h2 : b ^ (i + (j + 1)) * c' = b ^ (i + j) * (b * c') := by rw [← Nat.add_assoc, Nat.pow_succ, Nat.mul_assoc]
  have h3 : b ^ (i + j) * s' + b ^ (i + j) * (b * c') = b ^ (i + j) * (a * y) + b ^ (i + j) * p + b ^ (i + j) * c := by rw [← Nat.mul_add, h1, Nat.mul_add, Nat.mul_add]
  have h4 : b ^ i * (a * (S + b ^ j * y)) = b ^ i * (a * S) + b ^ (i + j) * (a * y) := by
    rw [Nat.mul_add, Nat.mul_add, Nat.pow_add, Nat.mul_assoc, Nat.mul_left_comm a]
  rw [h2, h4]; omega
/-- the row's end: the carry goes where a nought stood -/
theorem mul_row {b i n a c V V' V0 S : Nat} (h : V + b ^ (i + n) * c = V0 + b ^ i * (a * S)) (hv : V' + b ^ (i + n) * 0 = V + b ^ (i + n) * c) : V' = V0 + b ^ i * (a * S) := by
  rw [Nat.mul_zero, Nat.add_zero] at hv; omega
/-- .. and the next row -/
theorem mul_next {b i a S A V : Nat} (h : V = A * S) : V + b ^ i * (a * S) = (A + b ^ i * a) * S := by
  rw [h, Nat.add_mul, Nat.mul_assoc]
/-- a digit fits -/
theorem mul_fits {a y p c : Nat} {B : Nat} (ha : a < B) (hy : y < B) (hp : p < B) (hc : c < B) : (a * y + p + c) / B < B := by
  rw [Nat.div_lt_iff_lt_mul (by omega)]
  have h1 : a * y ≤ (B - 1) * (B - 1) := Nat.mul_le_mul (by omega) (by omega)
  obtain ⟨m, rfl⟩ : ∃ m, B = m + 1 := ⟨B - 1, by omega⟩
  have h2 : (m + 1) * (m + 1) = m * m + m + m + 1 := by rw [Nat.add_mul, Nat.mul_add]; omega
  rw [h2]
  have h3 : m + 1 - 1 = m := by omega
  rw [h3] at h1
  omega
/-- a text by words: what is ahead of the last sixteen letters, and these -/
theorem valT_cut {s : List UInt8} {e : Nat} (he : e ≤ s.length) : valT s = valT (s.drop e) + 16 ^ (s.length - e) * valT (s.take e) := by
  conv => lhs; rw [← List.take_append_drop e s]
  rw [valT_append, List.length_drop]
/-- one word more, read from a text's end: V the words' number, s so much of the text is left -/
theorem parse_step {s t : List UInt8} {V k N : Nat} (h : V + 18446744073709551616 ^ k * valT (s ++ t) = N) (ht : t.length = 16) : (V + 18446744073709551616 ^ k * valT t) + 18446744073709551616 ^ (k + 1) * valT s = N := by
  rw [← h, valT_append, ht, Nat.mul_add, Nat.pow_succ, Nat.add_assoc, Nat.mul_assoc]
theorem parse_last {t : List UInt8} {V k N : Nat} (h : V + 18446744073709551616 ^ k * valT t = N) : (V + 18446744073709551616 ^ k * valT t) + 18446744073709551616 ^ (k + 1) * valT [] = N := by
  rw [← h, show valT [] = 0 from rfl, Nat.mul_zero, Nat.add_zero]
/-- a word more ahead of a text -/
theorem text_step {w n : Nat} (hw : w < 18446744073709551616) (hn : 0 < n) : hexText (w + 18446744073709551616 * n) = hexText n ++ (List.replicate (16 - (hexText w).length) 48 ++ hexText w) ∧ (hexText w).length ≤ 16 := by
  have h := hexText_join (k := 16) (w := w) (n := n) (by simpa using hw) hn
  obtain ⟨e, hl⟩ := hex_pad (k := 16) (w := w) (by decide) (by simpa using hw)
  rw [← e]
  exact ⟨by simpa using h, hl⟩
theorem valW_drop {ws : List UInt64} {i : Nat} {x : UInt64} (h : ws[i]? = some x) : valW (ws.drop i) = x.toNat + 18446744073709551616 * valW (ws.drop (i + 1)) := by
  obtain ⟨hi, e⟩ := List.getElem?_eq_some_iff.1 h
  have : ws.drop i = x :: ws.drop (i + 1) := by rw [← e, List.getElem_cons_drop hi]
  rw [this]; rfl
/-- the highest words of a number that is none are none: never 0 -/
theorem NormW.drop_pos {ws : List UInt64} (h : NormW ws) {i : Nat} (hi : i < ws.length) : 0 < valW (ws.drop i) := by
  have hn : NormW (ws.drop i) := by
    show (ws.drop i).getLast? ≠ some 0
    rw [List.getLast?_drop, if_neg (by omega)]; exact h
  rcases Nat.eq_zero_or_pos (valW (ws.drop i)) with h0 | h0
  · have h1 := hn.digs
    rw [h0, digs_zero] at h1
    have h2 : (ws.drop i).length = 0 := by have := congrArg List.length h1; simp at this ⊢; omega
    rw [List.length_drop] at h2; omega
  · exact h0
end Go.By
