/- The contract of the reference's product. -/
import Derived.Test.YtofhdakggapahaaProg
import Derived.Test.YtofhdakggapahaaGr
import Derived.Test.YtofhdakggapahaaW1
namespace Go.Proofs.Ytofhdakggapahaa
open Go.RowKit Go.By
theorem wraps_u64 (n : Int) (h₀ : 0 ≤ n) (h₁ : n < 2 ^ 64) : IntKind.u64.wrap n = n := by
  simp [IntKind.wrap, IntKind.bits, IntKind.signed]; omega
theorem shl_bound {a k : Nat} (ha : a < 256) (hk : k < 8) : a * 2 ^ k < 2 ^ 15 := by
  have : 2 ^ k ≤ 2 ^ 7 := Nat.pow_le_pow_right (by decide) (by omega)
  calc a * 2 ^ k ≤ 255 * 2 ^ 7 := Nat.mul_le_mul (by omega) this
    _ < 2 ^ 15 := by decide
theorem xor_shl64 {q a k c : Nat} (hq : q < 2 ^ 15) (hb : a * 2 ^ k < 2 ^ 15) (hc : c = a) :
    bits .xor .u64 (q : Int) (IntKind.u64.wrap (IntKind.u64.wrap (c : Int) * 2 ^ k)) = ((q ^^^ (a <<< k) : Nat) : Int) := by
  subst hc
  have ha : c ≤ c * 2 ^ k := Nat.le_mul_of_pos_right _ (Nat.two_pow_pos k)
  have e : ((c : Int) * 2 ^ k) = ((c * 2 ^ k : Nat) : Int) := by simp
  rw [wraps_u64 (c : Int) (by omega) (by omega), e, wraps_u64 _ (by omega) (by omega), Nat.shiftLeft_eq]
  exact bits_xor_nat .u64 64 (by decide) wraps_u64 _ _ (by omega) (by omega)
theorem xor_shl64' {q a k : Nat} (hq : q < 2 ^ 15) (hb : a * 2 ^ k < 2 ^ 15) :
    bits .xor .u64 (q : Int) (IntKind.u64.wrap ((a : Int) * 2 ^ k)) = ((q ^^^ (a <<< k) : Nat) : Int) := by
  have := xor_shl64 hq hb rfl
  have ha : a ≤ a * 2 ^ k := Nat.le_mul_of_pos_right _ (Nat.two_pow_pos k)
  rwa [wraps_u64 (a : Int) (by omega) (by omega)] at this
theorem ret_int {k : IntKind} {a b : Int} (h : a = b) : Ending.returned (.int k a) = .returned (.int k b) := by rw [h]
set_option maxHeartbeats 400000 in
theorem RefMul_any (a b : UInt8) (w : World) :
    Calls Try.prog 65 #[B8 a, B8 b] w fun e w' => e = .returned (B8 (Gf.gmul a b)) ∧ w = w' := by
  go_enter Try.func65, Try.ntmps65
  go_wp2
  go_loop [5, 6] (fun s i => ∃ k : Nat, k ≤ 8 ∧ i = .int .i64 k ∧ s = .int .u64 (Gf.rm1 a.toNat b.toNat k)) (fun _ i => 8 - (intOf i).toNat)
  case atStart => exact ⟨0, Nat.zero_le _, rfl, rfl⟩
  case round =>
    obtain ⟨k, hk, rfl, rfl⟩ := hrel
    have hql := Gf.rm1_lt a.toNat b.toNat a.toNat_lt k hk
    by_cases hlt : k < 8
    · have HS := Lib.hid (show Gf.rm1 a.toNat b.toNat (k + 1) = Gf.rm1 a.toNat b.toNat k ^^^ (if b.toNat.testBit k then a.toNat <<< k else 0) from rfl)
      generalize Gf.rm1 a.toNat b.toNat k = q at HS hql
      have hx := Lib.hid (xor_shl64 hql (shl_bound a.toNat_lt hlt) rfl)
      have hbt := Gf.testBit_tmod b.toNat k
      cases hb : b.toNat.testBit k
      all_goals
        rw [hb] at hbt HS
        clear hb
        go_wp2
        go_round
        case rel => exact ⟨k + 1, by omega, by go_num, by rw [HS.out]; simp [← hx.out]⟩
        case measure => simp [intOf]; omega
    · obtain rfl : k = 8 := by omega
      generalize hq : Gf.rm1 a.toNat b.toNat 8 = q at hql
      have Hq := Lib.hid hq
      clear hq hk hlt
      go_wp2
      go_loop [5, 7] (fun s i => ∃ j m : Nat, j + m = 14 ∧ 7 ≤ m ∧ i = .int .i64 m ∧ s = .int .u64 (Gf.rm2 q j)) (fun _ i => (intOf i).toNat)
      case atStart => exact ⟨0, 14, rfl, by omega, rfl, rfl⟩
      case round =>
        obtain ⟨j, m, hjm, hm, rfl, rfl⟩ := hrel
        have hsl := Gf.rm2_lt q hql j (by omega)
        have HJ := Lib.hid hjm
        by_cases hlt : 8 ≤ m
        · have HS := Lib.hid (show Gf.rm2 q (j + 1) = Gf.rm2 q j ^^^ (if (Gf.rm2 q j).testBit (14 - j) then 285 <<< (6 - j) else 0) from rfl)
          generalize Gf.rm2 q j = s at HS hsl
          have hx := Lib.hid (xor_shl64' (q := s) (a := 285) (k := m - 8) hsl (by
            have : 2 ^ (m - 8) ≤ 2 ^ 6 := Nat.pow_le_pow_right (by decide) (by omega)
            calc 285 * 2 ^ (m - 8) ≤ 285 * 2 ^ 6 := Nat.mul_le_mul (by omega) this
              _ < 2 ^ 15 := by decide))
          have hbt := Gf.testBit_tmod s m
          have hbt' := Gf.testBit_div s m
          rw [show 14 - j = m by omega, show 6 - j = m - 8 by omega] at HS
          have e1 : ((m : Int) - 8).toNat = m - 8 := by omega
          have hm14 : m ≤ 14 := by omega
          clear hjm
          cases hb : s.testBit m
          all_goals
            rw [hb] at hbt hbt' HS
            clear hb
            go_wp2
            go_round
            case rel => exact ⟨j + 1, m - 1, by have := HJ.out; omega, by omega, by go_num, by rw [HS.out]; simp [← hx.out]⟩
            case measure => simp [intOf]; omega
        · go_wp2
          go_ret
          refine ⟨ret_int ?_, rfl⟩
          have hj7 : j = 7 := by omega
          rw [hj7, ← Gf.refmul_eq, Gf.refmul, Hq.out]
          simp
end Go.Proofs.Ytofhdakggapahaa
