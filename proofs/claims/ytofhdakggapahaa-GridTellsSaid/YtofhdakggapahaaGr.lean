/- Plain mathematics: the reference's product of two bytes is the field's. -/
import Derived.Test.YtofhdakggapahaaGf
namespace Gf
def rm1 (a b : Nat) : Nat → Nat
  | 0 => 0
  | k + 1 => rm1 a b k ^^^ (if b.testBit k then a <<< k else 0)
def rm2 (s : Nat) : Nat → Nat
  | 0 => s
  | j + 1 => rm2 s j ^^^ (if (rm2 s j).testBit (14 - j) then 285 <<< (6 - j) else 0)
def refmul (a b : UInt8) : UInt8 := UInt8.ofNat (rm2 (rm1 a.toNat b.toNat 8) 7)
theorem nxor4 (a b c d : Nat) : (a ^^^ b) ^^^ (c ^^^ d) = (a ^^^ c) ^^^ (b ^^^ d) := by
  rw [Nat.xor_assoc, ← Nat.xor_assoc b c d, Nat.xor_comm b c, Nat.xor_assoc c b d, ← Nat.xor_assoc]
theorem sel_nxor (p q : Bool) (v : Nat) : (if (p ^^ q) then v else 0) = (if p then v else 0) ^^^ (if q then v else 0) := by
  cases p <;> cases q <;> simp
theorem rm1_left (a a' b : Nat) : ∀ k, rm1 (a ^^^ a') b k = rm1 a b k ^^^ rm1 a' b k := by
  intro k
  induction k with
  | zero => simp [rm1]
  | succ k ih =>
    simp only [rm1, ih, Nat.shiftLeft_xor_distrib]
    by_cases h : b.testBit k = true
    · simp only [if_pos h]; rw [nxor4]
    · simp [h]
theorem rm1_right (a b b' : Nat) : ∀ k, rm1 a (b ^^^ b') k = rm1 a b k ^^^ rm1 a b' k := by
  intro k
  induction k with
  | zero => simp [rm1]
  | succ k ih => simp only [rm1, ih, Nat.testBit_xor, sel_nxor]; rw [nxor4]
theorem rm2_lin (s t : Nat) : ∀ j, rm2 (s ^^^ t) j = rm2 s j ^^^ rm2 t j := by
  intro j
  induction j with
  | zero => simp [rm2]
  | succ j ih => simp only [rm2, ih, Nat.testBit_xor, sel_nxor]; rw [nxor4]
theorem ofNat_xor (m n : Nat) : UInt8.ofNat (m ^^^ n) = UInt8.ofNat m ^^^ UInt8.ofNat n := by
  apply UInt8.eq_of_toBitVec_eq
  simp
theorem refmul_left (a a' b : UInt8) : refmul (a ^^^ a') b = refmul a b ^^^ refmul a' b := by
  unfold refmul; rw [UInt8.toNat_xor, rm1_left, rm2_lin, ofNat_xor]
theorem refmul_right (a b b' : UInt8) : refmul a (b ^^^ b') = refmul a b ^^^ refmul a b' := by
  unfold refmul; rw [UInt8.toNat_xor, rm1_right, rm2_lin, ofNat_xor]
theorem refmul_eq (a b : UInt8) : refmul a b = gmul a b := by
  refine lin_ext (f := fun a => refmul a b) (g := fun a => gmul a b) (fun x y => refmul_left x y b) (fun x y => gmul_xor_left x y b) (fun k hk => ?_) a
  refine lin_ext (f := fun b => refmul (1 <<< UInt8.ofNat k) b) (g := fun b => gmul (1 <<< UInt8.ofNat k) b) (fun x y => refmul_right _ x y) (fun x y => gmul_xor_right _ x y) (fun j hj => ?_) b
  revert j k; decide +kernel
theorem rm1_lt (a b : Nat) (ha : a < 256) : ∀ k, k ≤ 8 → rm1 a b k < 2 ^ 15 := by
  intro k
  induction k with
  | zero => intro _; simp [rm1]
  | succ k ih =>
    intro hk
    simp only [rm1]
    refine Nat.xor_lt_two_pow (ih (by omega)) ?_
    split
    · rw [Nat.shiftLeft_eq]
      have : 2 ^ k ≤ 2 ^ 7 := Nat.pow_le_pow_right (by decide) (by omega)
      calc a * 2 ^ k ≤ 255 * 2 ^ 7 := Nat.mul_le_mul (by omega) this
        _ < 2 ^ 15 := by decide
    · decide
theorem rm2_lt (s : Nat) (hs : s < 2 ^ 15) : ∀ j, j ≤ 7 → rm2 s j < 2 ^ 15 := by
  intro j
  induction j with
  | zero => intro _; simpa [rm2] using hs
  | succ j ih =>
    intro hj
    simp only [rm2]
    refine Nat.xor_lt_two_pow (ih (by omega)) ?_
    split
    · rw [Nat.shiftLeft_eq]
      have : 2 ^ (6 - j) ≤ 2 ^ 6 := Nat.pow_le_pow_right (by decide) (by omega)
      calc 285 * 2 ^ (6 - j) ≤ 285 * 2 ^ 6 := Nat.mul_le_mul (by omega) this
        _ < 2 ^ 15 := by decide
    · decide
theorem testBit_div (n k : Nat) : ((n : Int) / 2 ^ k % 2 == 1) = n.testBit k := by
  have e : ((n : Int) / 2 ^ k % 2) = ((n / 2 ^ k % 2 : Nat) : Int) := by simp
  rw [e, Nat.testBit_eq_decide_div_mod_eq]
  by_cases h : n / 2 ^ k % 2 = 1
  · simp [h]
  · simp only [h, decide_false]
    exact beq_eq_false_iff_ne.2 (by omega)
theorem testBit_tmod (n k : Nat) : (((n : Int) / 2 ^ k).tmod 2 == 1) = n.testBit k := by
  rw [← testBit_div, Int.tmod_eq_emod_of_nonneg]
  exact Int.ediv_nonneg (by omega) (Int.le_of_lt (Int.pow_pos (by decide)))
end Gf
