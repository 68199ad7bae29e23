/- The contracts of the field's functions. -/
import Derived.Test.YtofhdakggapahaaProg
import Derived.Test.YtofhdakggapahaaGf
import Derived.Test.YtofhdakggapahaaB
import Derived.WalkKit
import Derived.WalkLawsBesides
import Derived.WalkSpells
import Derived.Lib.Hide
namespace Go.Proofs.Ytofhdakggapahaa
open Go.RowKit Go.By
theorem and_t (m : UInt8) (y : UInt8) (c : Int) (hc : c = m.toNat) : (bits .and .u8 (y.toNat : Int) c != 0) = !decide (y &&& m = 0) := by
  rw [hc, bits_and, nat_ne_zero]; simp
theorem times_step {p x y G : UInt8} {k : Nat} (h : Hid (p ^^^ Gf.gmulN (8 - k) x y = G)) (hk : k < 8) :
    (p ^^^ (if y &&& 1 = 0 then 0 else x)) ^^^ Gf.gmulN (8 - (k + 1)) (Gf.xt x) (y >>> 1) = G := by
  have h := h.out
  rw [show 8 - k = (8 - (k + 1)) + 1 by omega] at h
  simp only [Gf.gmulN] at h
  rw [Gf.xor_assoc]; exact h
set_option maxHeartbeats 400000 in
theorem times_any (a b : UInt8) (w : World) :
    Calls Try.prog 106 #[B8 a, B8 b] w fun e w' => e = .returned (B8 (Gf.gmul a b)) ∧ w = w' := by
  go_enter Try.func106, Try.ntmps106
  go_wp2
  go_loop [0, 1, 5, 7] (fun x y p i => ∃ (k : Nat) (x' y' p' : UInt8), k ≤ 8 ∧ x = B8 x' ∧ y = B8 y' ∧ p = B8 p' ∧ i = .int .i64 k ∧ p' ^^^ Gf.gmulN (8 - k) x' y' = Gf.gmul a b)
    (fun _ _ _ i => 8 - (intOf i).toNat)
  case atStart => exact ⟨0, a, b, 0, by omega, rfl, rfl, rfl, rfl, by simp [Gf.gmul]⟩
  case round =>
    obtain ⟨k, x', y', p', hk, rfl, rfl, rfl, rfl, hp⟩ := hrel
    have HP := Lib.hid hp; clear hp
    by_cases hlt : k < 8
    · have HS := Lib.hid (times_step HP hlt)
      by_cases h1 : y' &&& 1 = 0 <;> by_cases h2 : x' &&& 128 = 0
      all_goals
        have t1 := and_t 1 y' 1 rfl
        have t2 := and_t 128 x' 128 rfl
        simp only [h1, h2, decide_true, decide_false, Bool.not_true, Bool.not_false] at t1 t2
        have HT := Lib.hid h1; have HU := Lib.hid h2; clear h1 h2
        go_wp2
        go_round
        case rel =>
          refine ⟨k + 1, Gf.xt x', y' >>> 1, p' ^^^ (if y' &&& 1 = 0 then 0 else x'), by omega, ?_, ?_, ?_, by go_num, HS.out⟩
          · refine B8_congr ?_
            unfold Gf.xt
            first | rw [if_pos HU.out] | rw [if_neg HU.out]
            first | (rw [Gf.xor_zero]; exact shl1 _) | (rw [← bits_xor, ← shl1]; rfl)
          · exact B8_congr (shr1 _)
          · refine B8_congr ?_
            first | rw [if_pos HT.out] | rw [if_neg HT.out]
            first | (rw [Gf.xor_zero]; done) | (rw [← bits_xor]; done)
        case measure => simp [intOf]; omega
    · go_wp2
      go_ret
      have := HP.out
      obtain rfl : k = 8 := by omega
      simp only [Nat.sub_self, Gf.gmulN, Gf.xor_zero] at this
      exact ⟨by rw [this]; rfl, rfl⟩
set_option maxHeartbeats 400000 in
theorem Mul_any (p : Option Addr) (c : Nat) (xs : List UInt8) (w : World) (h : Rs B8 w p xs) (hl : xs.length ≤ 9223372036854775807) :
    Calls Try.prog 104 #[.slice p xs.length c] w fun e w' => e = .returned (B8 (xs.foldl Gf.gmul 1)) ∧ w = w' := by
  go_enter Try.func104, Try.ntmps104
  go_wp2
  go_loop [3, 8] (fun q i => ∃ k : Nat, k ≤ xs.length ∧ i = .int .i64 k ∧ q = B8 ((xs.take k).foldl Gf.gmul 1)) (fun _ i => xs.length - (intOf i).toNat)
  case atStart => exact ⟨0, Nat.zero_le _, rfl, rfl⟩
  case round =>
    obtain ⟨k, hk, rfl, rfl⟩ := hrel
    by_cases hlt : k < xs.length
    · obtain ⟨b, o, x, rfl, hc, hx⟩ := h.at k hlt
      generalize hq : (xs.take k).foldl Gf.gmul 1 = q
      have HS := Lib.hid ((foldl_take_succ Gf.gmul 1 xs k hlt).trans (by rw [hq, ← hx.out]))
      clear hq h
      go_wp2_with (go_at_call 106; refine (times_any _ _ _).mono ?_; rintro e w' ⟨rfl, rfl⟩)
      go_round
      case rel => exact ⟨k + 1, by omega, by go_num, by rw [HS.out]⟩
      case measure => simp [intOf]; omega
    · go_wp2
      go_ret
      exact ⟨by rw [List.take_of_length_le (by omega)]; rfl, rfl⟩
set_option maxHeartbeats 400000 in
theorem power_any (a : UInt8) (n : Nat) (hn : n ≤ 9223372036854775807) (w : World) :
    Calls Try.prog 100 #[B8 a, .int .i64 n] w fun e w' => e = .returned (B8 (Gf.gpow a n)) ∧ w = w' := by
  go_enter Try.func100, Try.ntmps100
  go_wp2
  go_loop [5, 7] (fun q i => ∃ k : Nat, k ≤ n ∧ i = .int .i64 k ∧ q = B8 (Gf.gpow a k)) (fun _ i => n - (intOf i).toNat)
  case atStart => exact ⟨0, Nat.zero_le _, rfl, rfl⟩
  case round =>
    obtain ⟨k, hk, rfl, rfl⟩ := hrel
    by_cases hlt : k < n
    · generalize hq : Gf.gpow a k = q
      have HS := Lib.hid (show Gf.gpow a (k + 1) = Gf.gmul q a by rw [← hq]; rfl)
      clear hq
      go_wp2_with (go_at_call 106; refine (times_any _ _ _).mono ?_; rintro e w' ⟨rfl, rfl⟩)
      go_round
      case rel => exact ⟨k + 1, by omega, by go_num, by rw [HS.out]⟩
      case measure => simp [intOf]; omega
    · go_wp2
      go_ret
      exact ⟨by rw [show n = k by omega]; rfl, rfl⟩
/-- the byte and the code -/
def invRes (a : UInt8) : Value × Int := if a = 0 then (B8 0, 3) else (B8 (Gf.ginv a), 0)
set_option maxHeartbeats 400000 in
theorem Inv_any (a : UInt8) (w : World) :
    Calls Try.prog 89 #[B8 a] w fun e w' => e = .returned (.tuple #[(invRes a).1, .int .i64 (invRes a).2]) ∧ w = w' := by
  by_cases ha : a = 0
  · subst ha
    go_enter Try.func89, Try.ntmps89
    go_wp2
    go_ret2
    exact ⟨rfl, rfl⟩
  · have h0 : ((a.toNat : Int) == 0) = false := by rw [nat_eq_zero]; simp [ha]
    have HR := Lib.hid (show invRes a = (B8 (Gf.gpow a 254), 0) by simp [invRes, ha, Gf.ginv])
    clear ha
    go_enter Try.func89, Try.ntmps89
    go_wp2_with (go_at_call 100; refine (power_any a 254 (by omega) _).mono ?_; rintro e w' ⟨rfl, rfl⟩)
    go_ret2
    exact ⟨by rw [HR.out]; rfl, rfl⟩
end Go.Proofs.Ytofhdakggapahaa
