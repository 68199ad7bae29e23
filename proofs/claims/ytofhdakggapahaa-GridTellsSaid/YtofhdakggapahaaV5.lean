/- The contracts of the reference's functions of layer 3, and its inverse. -/
import Derived.Test.YtofhdakggapahaaV4
import Derived.Test.YtofhdakggapahaaWb
import Derived.Test.YtofhdakggapahaaLa
namespace Go.Proofs.Ytofhdakggapahaa
open Go.RowKit Go.By
def invOf (a : UInt8) : UInt8 := if a = 0 then 0 else Gf.ginv a
theorem inv_unique {a b : UInt8} (h : Gf.gmul a b = 1) : b = invOf a := by
  have ha : a ≠ 0 := by rintro rfl; rw [Gf.zero_gmul] at h; exact absurd h (by decide)
  rw [invOf, if_neg ha]
  have := congrArg (Gf.gmul (Gf.ginv a)) h
  rwa [← Gf.gmul_assoc, Gf.ginv_gmul a ha, Gf.one_gmul, Gf.gmul_one] at this
theorem inv_none {a : UInt8} (h : ∀ j : Nat, 1 ≤ j → j < 256 → Gf.gmul a (UInt8.ofNat j) ≠ 1) : invOf a = 0 := by
  by_cases ha : a = 0
  · simp [invOf, ha]
  · exfalso
    have h1 := Gf.ginv_ne a ha
    refine h (Gf.ginv a).toNat ?_ (Gf.ginv a).toNat_lt ?_
    · have : (Gf.ginv a).toNat ≠ 0 := fun e => h1 (UInt8.toNat_inj.1 e)
      omega
    · rw [UInt8.ofNat_toNat]; exact Gf.gmul_ginv a ha
set_option maxRecDepth 100000 in
set_option maxHeartbeats 400000 in
theorem RInv_any (a : UInt8) (w : World) : Calls Try.prog 101 #[B8 a] w fun e w' => e = .returned (B8 (invOf a)) ∧ w = w' := by
  go_enter Try.func101, Try.ntmps101
  go_wp2
  go_loop [3] (fun i => ∃ k : Nat, 1 ≤ k ∧ k ≤ 256 ∧ i = .int .i64 k ∧ Hid (∀ j : Nat, 1 ≤ j → j < k → Gf.gmul a (UInt8.ofNat j) ≠ 1)) (fun i => 256 - (intOf i).toNat)
  case atStart => exact ⟨1, by omega, by omega, rfl, fun j h1 h2 => by omega⟩
  case round =>
    obtain ⟨k, hk1, hk, rfl, hj⟩ := hrel
    by_cases hlt : k < 256
    · have C := fun W => RefMul_any a (UInt8.ofNat k) W
      rw [← byte_nat hlt] at C
      have HC := Lib.hid C; clear C
      by_cases h1 : Gf.gmul a (UInt8.ofNat k) = 1
      · have HU := Lib.hid (inv_unique h1)
        rw [h1] at HC
        clear h1
        go_wp2_with fail
        refine (HC.out _).mono ?_; rintro e w' ⟨rfl, rfl⟩
        go_wp2
        go_ret
        refine ⟨?_, rfl⟩
        rw [← HU.out, ← byte_nat hlt]; rfl
      · have ht : (((Gf.gmul a (UInt8.ofNat k)).toNat : Int) == 1) = false := by
          rw [beq_eq_false_iff_ne]; intro e; exact h1 (UInt8.toNat_inj.1 (by have : (1 : UInt8).toNat = 1 := rfl; omega))
        have HN := Lib.hid h1; clear h1
        generalize Gf.gmul a (UInt8.ofNat k) = g at HC ht
        go_wp2_with fail
        refine (HC.out _).mono ?_; rintro e w' ⟨rfl, rfl⟩
        go_wp2
        go_round
        case rel => exact ⟨k + 1, by omega, by omega, by go_num, fun j h1 h2 => by
          by_cases e : j = k
          · subst e; exact HN.out
          · exact hj.out j h1 (by omega)⟩
        case measure => simp [intOf]; omega
    · go_wp2
      go_ret
      exact ⟨by rw [inv_none (fun j h1 h2 => hj.out j h1 (by omega))]; rfl, rfl⟩
end Go.Proofs.Ytofhdakggapahaa
