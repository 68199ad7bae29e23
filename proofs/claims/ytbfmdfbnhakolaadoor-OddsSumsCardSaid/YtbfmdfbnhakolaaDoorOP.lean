/- Counts of grids by rank: plain laws. -/
import Derived.WalkKit
namespace Go.By
/-- of grids of n rows of k bytes, how many have rank r: row by row -/
def cntR (k : Nat) : Nat → Nat → Nat
  | 0, 0 => 1
  | 0, _ + 1 => 0
  | n + 1, 0 => cntR k n 0
  | n + 1, r + 1 => cntR k n (r + 1) * 256 ^ (r + 1) + cntR k n r * (256 ^ k - 256 ^ r)
theorem cnt_zero (k : Nat) : ∀ n, cntR k n 0 = 1
  | 0 => rfl
  | n + 1 => cnt_zero k n
theorem cnt_more (k : Nat) : ∀ n r, n < r → cntR k n r = 0
  | 0, r + 1, _ => rfl
  | n + 1, r + 1, h => by
    show cntR k n (r + 1) * _ + cntR k n r * _ = 0
    rw [cnt_more k n (r + 1) (by omega), cnt_more k n r (by omega), Nat.zero_mul, Nat.zero_mul]
/-- the first m of a sequence, added -/
def sumF (f : Nat → Nat) : Nat → Nat
  | 0 => 0
  | m + 1 => sumF f m + f m
theorem sumF_le {f : Nat → Nat} {m r : Nat} (h : r < m) : f r ≤ sumF f m := by
  induction m with
  | zero => omega
  | succ m ih =>
    show f r ≤ sumF f m + f m
    by_cases e : r = m
    · subst e; omega
    · have := ih (by omega); omega
theorem sumF_mono {f : Nat → Nat} {m j : Nat} (h : m ≤ j) : sumF f m ≤ sumF f j := by
  induction j with
  | zero => have : m = 0 := by omega
            subst this; exact Nat.le_refl _
  | succ j ih =>
    by_cases e : m = j + 1
    · subst e; exact Nat.le_refl _
    · have := ih (by omega)
      show _ ≤ sumF f j + f j
      omega
theorem cnt_part (k n : Nat) : ∀ m, m ≤ k → sumF (cntR k (n + 1)) (m + 1) = sumF (cntR k n) m * 256 ^ k + cntR k n m * 256 ^ m
  | 0, _ => by
    show 0 + cntR k n 0 = 0 * _ + cntR k n 0 * 1
    omega
  | m + 1, h => by
    show sumF (cntR k (n + 1)) (m + 1) + (cntR k n (m + 1) * 256 ^ (m + 1) + cntR k n m * (256 ^ k - 256 ^ m)) = (sumF (cntR k n) m + cntR k n m) * 256 ^ k + _
    rw [cnt_part k n m (by omega)]
    have hp : (256 : Nat) ^ m ≤ 256 ^ k := Nat.pow_le_pow_right (by decide) (by omega)
    obtain ⟨d, hd⟩ : ∃ d, (256 : Nat) ^ k = 256 ^ m + d := ⟨256 ^ k - 256 ^ m, by omega⟩
    rw [hd, Nat.add_sub_cancel_left]
    generalize (256 : Nat) ^ m = q
    generalize (256 : Nat) ^ (m + 1) = q2
    grind
/-- grids of all ranks are all -/
theorem cnt_sum (k : Nat) : ∀ n, sumF (cntR k n) (k + 1) = 256 ^ (n * k)
  | 0 => by
    have : ∀ m, sumF (cntR k 0) (m + 1) = 1 := by
      intro m
      induction m with
      | zero => rfl
      | succ m ih => show sumF (cntR k 0) (m + 1) + 0 = 1; rw [ih]
    rw [this, Nat.zero_mul, Nat.pow_zero]
  | n + 1 => by
    rw [cnt_part k n k (Nat.le_refl _), Nat.succ_mul, Nat.pow_add, ← cnt_sum k n]
    show _ = (sumF (cntR k n) k + cntR k n k) * _
    rw [Nat.add_mul]
theorem cnt_le {k n r : Nat} (h : r ≤ k) : cntR k n r ≤ 256 ^ (n * k) := by
  rw [← cnt_sum k n]; exact sumF_le (by omega)
/-- the product of 256^m - 256^i, for the first r -/
def prI (m : Nat) : Nat → Int
  | 0 => 1
  | r + 1 => prI m r * ((256 : Int) ^ m - 256 ^ r)
theorem prI_zero {m : Nat} : ∀ {r}, m < r → prI m r = 0
  | r + 1, h => by
    show prI m r * _ = 0
    by_cases e : m = r
    · subst e; rw [Int.sub_self, Int.mul_zero]
    · rw [prI_zero (show m < r by omega), Int.zero_mul]
theorem prI_up (m : Nat) : ∀ r, prI (m + 1) (r + 1) = ((256 : Int) ^ (m + 1) - 1) * 256 ^ r * prI m r
  | 0 => by
    show 1 * ((256 : Int) ^ (m + 1) - 256 ^ 0) = (256 ^ (m + 1) - 1) * 256 ^ 0 * 1
    grind
  | r + 1 => by
    have ih := prI_up m r
    show prI (m + 1) (r + 1) * ((256 : Int) ^ (m + 1) - 256 ^ (r + 1)) = _ * _ * (prI m r * ((256 : Int) ^ m - 256 ^ r))
    rw [ih, Int.pow_succ, Int.pow_succ]
    grind
theorem prI_pos {m : Nat} : ∀ {r}, r ≤ m → 0 < prI m r
  | 0, _ => by show (0 : Int) < 1; decide
  | r + 1, h => by
    refine Int.mul_pos (prI_pos (by omega)) ?_
    have h2 : ((256 ^ r : Nat) : Int) < ((256 ^ m : Nat) : Int) := Int.ofNat_lt.2 (Nat.pow_lt_pow_right (by decide) (show r < m by omega))
    rw [Int.natCast_pow, Int.natCast_pow] at h2
    have h3 : (256 : Int) ^ r < 256 ^ m := h2
    generalize (256 : Int) ^ r = a at *
    generalize (256 : Int) ^ m = b at *
    omega
theorem cnt_pr (k : Nat) : ∀ n r, r ≤ k → (cntR k n r : Int) * prI r r = prI n r * prI k r
  | 0, 0, _ => rfl
  | 0, r + 1, _ => by rw [prI_zero (show 0 < r + 1 by omega)]; show ((0 : Nat) : Int) * _ = _; simp
  | n + 1, 0, _ => by rw [cnt_zero]; rfl
  | n + 1, r + 1, h => by
    have i1 := cnt_pr k n (r + 1) h
    have i2 := cnt_pr k n r (by omega)
    have hp : (256 : Nat) ^ r ≤ 256 ^ k := Nat.pow_le_pow_right (by decide) (by omega)
    have e : ((cntR k (n + 1) (r + 1) : Nat) : Int) = (cntR k n (r + 1) : Int) * 256 ^ (r + 1) + (cntR k n r : Int) * ((256 : Int) ^ k - 256 ^ r) := by
      show ((cntR k n (r + 1) * 256 ^ (r + 1) + cntR k n r * (256 ^ k - 256 ^ r) : Nat) : Int) = _
      rw [Int.natCast_add, Int.natCast_mul, Int.natCast_mul, Int.ofNat_sub hp, Int.natCast_pow, Int.natCast_pow, Int.natCast_pow]; rfl
    have u1 : prI (r + 1) (r + 1) = ((256 : Int) ^ (r + 1) - 1) * 256 ^ r * prI r r := prI_up r r
    have u2 : prI (n + 1) (r + 1) = ((256 : Int) ^ (n + 1) - 1) * 256 ^ r * prI n r := prI_up n r
    have u3 : prI n (r + 1) = prI n r * ((256 : Int) ^ n - 256 ^ r) := rfl
    have u4 : prI k (r + 1) = prI k r * ((256 : Int) ^ k - 256 ^ r) := rfl
    rw [e, u2, u4]
    rw [u3, u4] at i1
    rw [u1] at i1 ⊢
    rw [Int.pow_succ] at i1 ⊢
    rw [Int.pow_succ]
    generalize prI r r = A at *
    generalize prI n r = B at *
    generalize prI k r = D at *
    generalize (256 : Int) ^ r = q at *
    generalize (256 : Int) ^ n = N at *
    generalize (256 : Int) ^ k = Kq at *
    generalize (cntR k n (r + 1) : Int) = c1 at *
    generalize (cntR k n r : Int) = c0 at *
    have h2 : c0 * A * ((Kq - q) * ((q * 256 - 1) * q)) = B * D * ((Kq - q) * ((q * 256 - 1) * q)) := by rw [i2]
    grind
/-- full ones: 256^n - 256^i, for each column -/
def fullN (n : Nat) : Nat → Nat
  | 0 => 1
  | r + 1 => fullN n r * (256 ^ n - 256 ^ r)
theorem fullN_pr {n : Nat} : ∀ {r}, r ≤ n → (fullN n r : Int) = prI n r
  | 0, _ => rfl
  | r + 1, h => by
    have hp : (256 : Nat) ^ r ≤ 256 ^ n := Nat.pow_le_pow_right (by decide) (by omega)
    show ((fullN n r * (256 ^ n - 256 ^ r) : Nat) : Int) = prI n r * _
    rw [Int.natCast_mul, fullN_pr (show r ≤ n by omega), Int.ofNat_sub hp, Int.natCast_pow, Int.natCast_pow]; rfl
theorem cnt_full {n k : Nat} (h : k ≤ n) : cntR k n k = fullN n k := by
  have e := cnt_pr k n k (Nat.le_refl _)
  rw [← fullN_pr h] at e
  have hp := prI_pos (Nat.le_refl k)
  have := Int.eq_of_mul_eq_mul_right (by omega) e
  exact_mod_cast this
/-- those that fail -/
theorem cnt_fails {n k : Nat} : sumF (cntR k n) k = 256 ^ (n * k) - (if k ≤ n then fullN n k else 0) := by
  have h := cnt_sum k n
  have h : sumF (cntR k n) k + cntR k n k = 256 ^ (n * k) := h
  by_cases hk : k ≤ n
  · rw [if_pos hk, ← cnt_full hk]; omega
  · rw [if_neg hk]; rw [cnt_more k n k (by omega)] at h; omega
/-- those that a further row leaves as they are -/
theorem cnt_stay (k n : Nat) : ∀ r, cntR k n r * 256 ^ r ≤ cntR k (n + 1) r
  | 0 => by rw [cnt_zero, cnt_zero]; decide
  | r + 1 => Nat.le_add_right _ _
end Go.By
