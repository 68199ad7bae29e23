/- The contracts of the reference's Needs and Check. -/
import Derived.Test.YtnlfohbmdmeodaaP1
namespace Go.Proofs.Ytnlfohbmdmeodaa
open Go.RowKit Go.By
def rneedsS (l s : Int) : Int := if needS l s ≤ 4096 then needS l s else 4097
theorem rneeds_done {l s : Int} {k : Nat} {m : Int} (hl : 0 ≤ l) (hs : 1 ≤ s) (hm : m + k * s = l) (h0 : (k = 0 ∧ m = 0) ∨ 0 < m) (h1 : m ≤ s) : needS l s = (k : Int) + 1 := by
  rcases h0 with ⟨rfl, rfl⟩ | h0
  · have : l = 0 := by simpa using hm.symm
    subst this; rfl
  · have hk : 0 ≤ (k : Int) * s := Int.mul_nonneg (by omega) (by omega)
    refine needS_of (by omega) hs ?_ ?_
    · rw [show (k : Int) + 1 - 1 = k by omega]; omega
    · rw [Int.add_mul]; omega
theorem rneeds_more {l s : Int} {k : Nat} {m : Int} (hs : 1 ≤ s) (hm : m + k * s = l) (h0 : 0 < m) : (k : Int) < needS l s := by
  have hk : 0 ≤ (k : Int) * s := Int.mul_nonneg (by omega) (by omega)
  obtain ⟨g1, g2⟩ := needS_spec (l := l) (s := s) (by omega) hs
  generalize needS l s = n at *
  have : ¬ n ≤ (k : Int) := fun h => by
    have : n * s ≤ (k : Int) * s := Int.mul_le_mul_of_nonneg_right h (by omega)
    omega
  omega
set_option maxRecDepth 100000 in
set_option maxHeartbeats 1000000 in
theorem RNeeds_any (l s : Int) (w : World) (hl : 0 ≤ l) (hl2 : l ≤ 9223372036854775807) (hs : 1 ≤ s) :
    Calls Try.prog 30 #[.int .i64 l, .int .i64 s] w fun e w' => e = .returned (.int .i64 (rneedsS l s)) ∧ w = w' := by
  have HS := Lib.hid hs; have HL := Lib.hid hl
  go_enter Try.func30, Try.ntmps30
  go_wp2
  go_loop [0, 5] (fun a b => ∃ (m : Int) (k : Nat), a = .int .i64 m ∧ b = .int .i64 k ∧ k ≤ 4097 ∧ 0 ≤ m ∧ m ≤ l ∧ (k = 0 ∨ 0 < m) ∧ Hid (m + k * s = l)) (fun _ b => 4097 - (intOf b).toNat)
  case atStart => exact ⟨l, 0, rfl, rfl, by omega, hl, by omega, .inl rfl, by simp [Hid]⟩
  case round =>
    obtain ⟨m, k, rfl, rfl, hk, hm0, hml, hkm, hm⟩ := hrel
    have HK := Lib.hid hkm; clear hkm
    by_cases hlt : k ≤ 4096
    · have g1 : (k : Int) ≤ 4096 := by omega
      by_cases hms : m ≤ s
      · have hR : Hid (rneedsS l s = (k : Int) + 1) := by
          have hd : needS l s = (k : Int) + 1 := rneeds_done HL.out HS.out hm.out (by have := HK.out; omega) hms
          rw [Hid, rneedsS, hd]; split <;> omega
        by_cases hz : k = 0
        · subst hz
          go_wp2
          go_ret
          exact ⟨by rw [hR.out]; rfl, rfl⟩
        · have hkz : ((k : Int) == 0) = false := by simp; omega
          have hmp : 0 < m := by have := HK.out; omega
          clear hz
          go_wp2
          go_ret
          exact ⟨by rw [hR.out]; rfl, rfl⟩
      · have hlt' : s < m := by omega
        have hlow : 0 < m - s := by omega
        have hw : wrap64 (m - s) = m - s := by unfold wrap64; omega
        clear hms
        by_cases hz : k = 0
        · subst hz
          go_wp2
          go_round
          case rel => exact ⟨m - s, 1, by simp [hw], rfl, by omega, by omega, by omega, .inr hlow, by have := hm.out; simp [Hid] at *; omega⟩
          case measure => simp [intOf]
        · have hkz : ((k : Int) == 0) = false := by simp; omega
          have hmp : 0 < m := by have := HK.out; omega
          clear hz
          go_wp2
          go_round
          case rel => exact ⟨m - s, k + 1, by simp [hw], by go_num, by omega, by omega, by omega, .inr hlow, by have := hm.out; simp only [Hid, Int.natCast_add, Int.add_mul]; simp; omega⟩
          case measure => simp [intOf]; omega
    · have hk' : k = 4097 := by omega
      subst hk'
      have hR : Hid (rneedsS l s = 4097) := by
        have := rneeds_more HS.out hm.out (by have := HK.out; omega)
        rw [Hid, rneedsS, if_neg (by omega)]
      go_wp2
      go_ret
      exact ⟨by rw [hR.out]; rfl, rfl⟩
set_option maxRecDepth 100000 in
set_option maxHeartbeats 1000000 in
theorem RCheck_any (l s n d : Int) (w : World) (hl2 : l ≤ 9223372036854775807) :
    Calls Try.prog 19 #[.agg #[.int .i64 l, .int .i64 s, .int .i64 n, .int .u32 d]] w fun e w' => e = .returned (.int .i64 (checkS l s n)) ∧ Below w.heap.size w w' := by
  by_cases h0 : l < 0
  · have HR : Hid (checkS l s n = 2) := by unfold checkS fitS; simp [Hid, h0]
    go_enter Try.func19, Try.ntmps19
    go_wp2
    go_ret
    exact ⟨by rw [HR.out]; rfl, al (Below.refl _ _) (Nat.le_refl _)⟩
  · by_cases h1 : s < 1
    · have HR : Hid (checkS l s n = 4) := by unfold checkS fitS; simp [Hid, h0, h1]
      go_enter Try.func19, Try.ntmps19
      go_wp2
      go_ret
      exact ⟨by rw [HR.out]; rfl, al (Below.refl _ _) (Nat.le_refl _)⟩
    · by_cases h2 : 65535 < s
      · have HR : Hid (checkS l s n = 4) := by unfold checkS fitS; simp [Hid, h0, h2]
        go_enter Try.func19, Try.ntmps19
        go_wp2
        go_ret
        exact ⟨by rw [HR.out]; rfl, al (Below.refl _ _) (Nat.le_refl _)⟩
      · have HN := Lib.hid (fun w => RNeeds_any l s w (by omega) hl2 (by omega))
        by_cases h3 : needS l s ≤ 4096
        · rw [rneedsS, if_pos h3] at HN
          have HF : fitS l s = 0 := by unfold fitS; rw [if_neg h0, if_neg (by omega), if_neg (by omega)]
          have HR : Hid (checkS l s n = if n = needS l s then 0 else 14) := by unfold checkS; rw [Hid, if_pos HF]
          clear HF
          generalize needS l s = k at *
          have h3' : ¬ (4096 < k) := by omega
          by_cases e : n = k
          · subst e
            have hb : (n != n) = false := by simp
            rw [if_pos rfl] at HR
            have C0 := cell4 w (.int .i64 l) (.int .i64 s) (.int .i64 n) (.int .u32 d) 34 0
            have C1 := cell4 w (.int .i64 l) (.int .i64 s) (.int .i64 n) (.int .u32 d) 34 1
            have C2 := cell4 w (.int .i64 l) (.int .i64 s) (.int .i64 n) (.int .u32 d) 34 2
            go_enter Try.func19, Try.ntmps19
            go_wp2_with fail
            refine (HN.out _).mono ?_; rintro e w' ⟨rfl, rfl⟩
            go_wp2
            go_quiet ((go_at_call 30; exact Calls.quiet_of_same ((HN.out _).mono fun e w' hh => ⟨hh.1, hh.2.symm⟩)))
            go_wp2
            go_ret
            exact ⟨by rw [HR.out]; rfl, bdn (al (Below.refl _ _) (Nat.le_refl _))⟩
          · have hb : (n != k) = true := by simpa using e
            rw [if_neg e] at HR
            clear e
            have C0 := cell4 w (.int .i64 l) (.int .i64 s) (.int .i64 n) (.int .u32 d) 34 0
            have C1 := cell4 w (.int .i64 l) (.int .i64 s) (.int .i64 n) (.int .u32 d) 34 1
            have C2 := cell4 w (.int .i64 l) (.int .i64 s) (.int .i64 n) (.int .u32 d) 34 2
            go_enter Try.func19, Try.ntmps19
            go_wp2_with fail
            refine (HN.out _).mono ?_; rintro e w' ⟨rfl, rfl⟩
            go_wp2
            go_quiet ((go_at_call 30; exact Calls.quiet_of_same ((HN.out _).mono fun e w' hh => ⟨hh.1, hh.2.symm⟩)))
            go_wp2
            go_ret
            exact ⟨by rw [HR.out]; rfl, bdn (al (Below.refl _ _) (Nat.le_refl _))⟩
        · rw [rneedsS, if_neg h3] at HN
          have HR : Hid (checkS l s n = 5) := by
            have : fitS l s = 5 := by unfold fitS; rw [if_neg h0, if_neg (by omega), if_pos (by omega)]
            unfold checkS; rw [Hid, this]; rfl
          clear h3
          go_enter Try.func19, Try.ntmps19
          go_wp2_with fail
          refine (HN.out _).mono ?_; rintro e w' ⟨rfl, rfl⟩
          go_wp2
          go_ret
          exact ⟨by rw [HR.out]; rfl, al (Below.refl _ _) (Nat.le_refl _)⟩
end Go.Proofs.Ytnlfohbmdmeodaa
