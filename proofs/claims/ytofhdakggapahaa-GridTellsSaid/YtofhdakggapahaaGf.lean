/- Plain mathematics: the field of 256 elements, as polynomials over two bits modulo x^8+x^4+x^3+x^2+1. Nothing of the program. -/
namespace Gf
/-- multiply by x -/
def xt (a : UInt8) : UInt8 := (a <<< 1) ^^^ (if a &&& 128 = 0 then 0 else 29)
def gmulN : Nat → UInt8 → UInt8 → UInt8
  | 0, _, _ => 0
  | n + 1, a, b => (if b &&& 1 = 0 then 0 else a) ^^^ gmulN n (xt a) (b >>> 1)
def gmul (a b : UInt8) : UInt8 := gmulN 8 a b

theorem toNat_lt (x : UInt8) : x.toNat < 256 := x.toNat_lt

theorem all8 {p : UInt8 → Prop} (h : ∀ n, n < 256 → p (UInt8.ofNat n)) (x : UInt8) : p x := by
  have := h x.toNat (toNat_lt x)
  rwa [UInt8.ofNat_toNat] at this

theorem xor_and (a b c : UInt8) : (a ^^^ b) &&& c = (a &&& c) ^^^ (b &&& c) := by
  apply UInt8.eq_of_toBitVec_eq; apply BitVec.eq_of_getLsbD_eq; intro i _; simp [Bool.and_xor_distrib_right]
theorem and_bit (k : Nat) (hk : k < 8) (a : UInt8) : a &&& (1 <<< UInt8.ofNat k) = 0 ∨ a &&& (1 <<< UInt8.ofNat k) = (1 <<< UInt8.ofNat k) := by
  revert a; refine all8 ?_
  revert k; decide +kernel
theorem and1 (a : UInt8) : a &&& 1 = 0 ∨ a &&& 1 = 1 := and_bit 0 (by decide) a
theorem and128 (a : UInt8) : a &&& 128 = 0 ∨ a &&& 128 = 128 := and_bit 7 (by decide) a
theorem xor_shl (a b : UInt8) : (a ^^^ b) <<< 1 = (a <<< 1) ^^^ (b <<< 1) := by
  apply UInt8.eq_of_toBitVec_eq; simp [BitVec.shiftLeft_xor_distrib]
theorem xor_shr (a b : UInt8) : (a ^^^ b) >>> 1 = (a >>> 1) ^^^ (b >>> 1) := by
  apply UInt8.eq_of_toBitVec_eq; simp [BitVec.ushiftRight_xor_distrib]
theorem xor_comm (a b : UInt8) : a ^^^ b = b ^^^ a := UInt8.xor_comm a b
theorem xor_assoc (a b c : UInt8) : a ^^^ b ^^^ c = a ^^^ (b ^^^ c) := UInt8.xor_assoc a b c
theorem xor_self (a : UInt8) : a ^^^ a = 0 := UInt8.xor_self
theorem xor_zero (a : UInt8) : a ^^^ 0 = a := UInt8.xor_zero
theorem zero_xor (a : UInt8) : 0 ^^^ a = a := UInt8.zero_xor
theorem xor_left_comm (a b c : UInt8) : a ^^^ (b ^^^ c) = b ^^^ (a ^^^ c) := by rw [← xor_assoc, xor_comm a b, xor_assoc]
theorem xor4 (a b c d : UInt8) : (a ^^^ b) ^^^ (c ^^^ d) = (a ^^^ c) ^^^ (b ^^^ d) := by rw [xor_assoc, xor_left_comm b c d, ← xor_assoc]
theorem xor_cancel (a b : UInt8) : (a ^^^ b) ^^^ b = a := by rw [xor_assoc, xor_self, xor_zero]
theorem xor_eq_zero {a b : UInt8} (h : a ^^^ b = 0) : a = b := by
  have := xor_cancel a b; rw [h, zero_xor] at this; exact this.symm

theorem sel_xor (m : UInt8) (hm : m ≠ 0) (hb : ∀ a : UInt8, a &&& m = 0 ∨ a &&& m = m) (b b' v : UInt8) :
    (if (b ^^^ b') &&& m = 0 then 0 else v) = (if b &&& m = 0 then 0 else v) ^^^ (if b' &&& m = 0 then 0 else v) := by
  rw [xor_and]
  rcases hb b with h | h <;> rcases hb b' with h' | h' <;> simp [h, h', hm]

theorem xt_xor (a b : UInt8) : xt (a ^^^ b) = xt a ^^^ xt b := by
  unfold xt
  rw [xor_shl, sel_xor 128 (by decide) and128, xor4]

theorem gmulN_xor_left (n : Nat) : ∀ a a' b, gmulN n (a ^^^ a') b = gmulN n a b ^^^ gmulN n a' b := by
  induction n with
  | zero => intro a a' b; exact (xor_self 0).symm
  | succ n ih =>
    intro a a' b
    simp only [gmulN, xt_xor, ih]
    by_cases h : b &&& 1 = 0
    · simp [h]
    · simp only [if_neg h]; rw [xor4]

theorem gmulN_xor_right (n : Nat) : ∀ a b b', gmulN n a (b ^^^ b') = gmulN n a b ^^^ gmulN n a b' := by
  induction n with
  | zero => intro a b b'; exact (xor_self 0).symm
  | succ n ih =>
    intro a b b'
    simp only [gmulN, xor_shr, ih]
    rw [sel_xor 1 (by decide) and1, xor4]

theorem gmul_xor_left (a a' b : UInt8) : gmul (a ^^^ a') b = gmul a b ^^^ gmul a' b := gmulN_xor_left 8 a a' b
theorem gmul_xor_right (a b b' : UInt8) : gmul a (b ^^^ b') = gmul a b ^^^ gmul a b' := gmulN_xor_right 8 a b b'

/-- a map that respects addition -/
def Lin (f : UInt8 → UInt8) : Prop := ∀ a b, f (a ^^^ b) = f a ^^^ f b
theorem Lin.zero {f : UInt8 → UInt8} (h : Lin f) : f 0 = 0 := by
  have := h 0 0; rw [xor_self] at this
  have h2 := xor_self (f 0); rw [← this] at h2; exact h2

def bit (k : Nat) (a : UInt8) : UInt8 := a &&& (1 <<< UInt8.ofNat k)
theorem bits_eq (a : UInt8) : a = bit 0 a ^^^ (bit 1 a ^^^ (bit 2 a ^^^ (bit 3 a ^^^ (bit 4 a ^^^ (bit 5 a ^^^ (bit 6 a ^^^ bit 7 a)))))) := by
  revert a; refine all8 ?_; decide +kernel

theorem lin_ext {f g : UInt8 → UInt8} (hf : Lin f) (hg : Lin g) (h : ∀ k, k < 8 → f (1 <<< UInt8.ofNat k) = g (1 <<< UInt8.ofNat k)) (a : UInt8) : f a = g a := by
  have hb : ∀ k, k < 8 → f (bit k a) = g (bit k a) := by
    intro k hk
    unfold bit
    rcases and_bit k hk a with e | e <;> rw [e]
    · rw [hf.zero, hg.zero]
    · exact h k hk
  rw [bits_eq a]
  simp only [hf _ _, hg _ _]
  rw [hb 0 (by decide), hb 1 (by decide), hb 2 (by decide), hb 3 (by decide), hb 4 (by decide), hb 5 (by decide), hb 6 (by decide), hb 7 (by decide)]

theorem gmul_comm (a b : UInt8) : gmul a b = gmul b a := by
  refine lin_ext (f := fun a => gmul a b) (g := fun a => gmul b a) (fun x y => gmul_xor_left x y b) (fun x y => gmul_xor_right b x y) (fun k hk => ?_) a
  refine lin_ext (f := fun b => gmul (1 <<< UInt8.ofNat k) b) (g := fun b => gmul b (1 <<< UInt8.ofNat k)) (fun x y => gmul_xor_right _ x y) (fun x y => gmul_xor_left x y _) (fun j hj => ?_) b
  revert j k; decide +kernel

theorem gmul_assoc (a b c : UInt8) : gmul (gmul a b) c = gmul a (gmul b c) := by
  refine lin_ext (f := fun a => gmul (gmul a b) c) (g := fun a => gmul a (gmul b c)) (fun x y => by simp only [gmul_xor_left]) (fun x y => by simp only [gmul_xor_left]) (fun k hk => ?_) a
  refine lin_ext (f := fun b => gmul (gmul (1 <<< UInt8.ofNat k) b) c) (g := fun b => gmul (1 <<< UInt8.ofNat k) (gmul b c)) (fun x y => by simp only [gmul_xor_right, gmul_xor_left]) (fun x y => by simp only [gmul_xor_right, gmul_xor_left]) (fun j hj => ?_) b
  refine lin_ext (f := fun c => gmul (gmul (1 <<< UInt8.ofNat k) (1 <<< UInt8.ofNat j)) c) (g := fun c => gmul (1 <<< UInt8.ofNat k) (gmul (1 <<< UInt8.ofNat j) c)) (fun x y => by simp only [gmul_xor_right]) (fun x y => by simp only [gmul_xor_right]) (fun i hi => ?_) c
  revert i j k; decide +kernel

theorem gmul_zero (a : UInt8) : gmul a 0 = 0 := Lin.zero (f := fun b => gmul a b) (fun x y => gmul_xor_right a x y)
theorem zero_gmul (a : UInt8) : gmul 0 a = 0 := by rw [gmul_comm, gmul_zero]
theorem gmul_one (a : UInt8) : gmul a 1 = a := by
  refine lin_ext (f := fun a => gmul a 1) (g := fun a => a) (fun x y => gmul_xor_left x y 1) (fun _ _ => rfl) ?_ a
  decide +kernel
theorem one_gmul (a : UInt8) : gmul 1 a = a := by rw [gmul_comm, gmul_one]

def gpow (a : UInt8) : Nat → UInt8
  | 0 => 1
  | n + 1 => gmul (gpow a n) a
theorem gpow_add (a : UInt8) (m n : Nat) : gpow a (m + n) = gmul (gpow a m) (gpow a n) := by
  induction n with
  | zero => simp [gpow, gmul_one]
  | succ n ih => rw [← Nat.add_assoc]; simp only [gpow, ih, gmul_assoc]

def ginv (a : UInt8) : UInt8 := gpow a 254
def sq (a : UInt8) : UInt8 := gmul a a
/-- the 254th power by squares -/
def inv2 (a : UInt8) : UInt8 :=
  let a2 := sq a; let a4 := sq a2; let a8 := sq a4; let a16 := sq a8; let a32 := sq a16; let a64 := sq a32; let a128 := sq a64
  gmul a128 (gmul a64 (gmul a32 (gmul a16 (gmul a8 (gmul a4 a2)))))
theorem gpow_two_mul (a : UInt8) (n : Nat) : gpow a (n + n) = sq (gpow a n) := gpow_add a n n
theorem gpow_one (a : UInt8) : gpow a 1 = a := one_gmul a
theorem ginv_eq (a : UInt8) : ginv a = inv2 a := by
  have h2 : gpow a 2 = sq a := by rw [show 2 = 1 + 1 from rfl, gpow_two_mul, gpow_one]
  have h4 : gpow a 4 = sq (sq a) := by rw [show 4 = 2 + 2 from rfl, gpow_two_mul, h2]
  have h8 : gpow a 8 = sq (sq (sq a)) := by rw [show 8 = 4 + 4 from rfl, gpow_two_mul, h4]
  have h16 : gpow a 16 = sq (sq (sq (sq a))) := by rw [show 16 = 8 + 8 from rfl, gpow_two_mul, h8]
  have h32 : gpow a 32 = sq (sq (sq (sq (sq a)))) := by rw [show 32 = 16 + 16 from rfl, gpow_two_mul, h16]
  have h64 : gpow a 64 = sq (sq (sq (sq (sq (sq a))))) := by rw [show 64 = 32 + 32 from rfl, gpow_two_mul, h32]
  have h128 : gpow a 128 = sq (sq (sq (sq (sq (sq (sq a)))))) := by rw [show 128 = 64 + 64 from rfl, gpow_two_mul, h64]
  unfold ginv inv2
  rw [show 254 = 128 + (64 + (32 + (16 + (8 + (4 + 2))))) from rfl]
  simp only [gpow_add]
  rw [h128, h64, h32, h16, h8, h4, h2]

theorem gmul_ginv (a : UInt8) (h : a ≠ 0) : gmul a (ginv a) = 1 := by
  rw [ginv_eq]
  revert h; revert a; refine all8 ?_; decide +kernel
theorem ginv_gmul (a : UInt8) (h : a ≠ 0) : gmul (ginv a) a = 1 := by rw [gmul_comm, gmul_ginv a h]
theorem ginv_ne (a : UInt8) (h : a ≠ 0) : ginv a ≠ 0 := by
  intro e; have := gmul_ginv a h; rw [e, gmul_zero] at this; exact absurd this (by decide)
theorem gmul_eq_zero {a b : UInt8} (h : gmul a b = 0) : a = 0 ∨ b = 0 := by
  by_cases ha : a = 0
  · exact .inl ha
  · right
    have := congrArg (gmul (ginv a)) h
    rwa [← gmul_assoc, ginv_gmul a ha, one_gmul, gmul_zero] at this
end Gf
