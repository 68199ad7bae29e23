/- The walk of the law VecTells. -/
import Derived.Test.YthekakfddhgpcaaV8
namespace Go.Proofs.Ythekakfddhgpcaa
open Go.RowKit Go.By
theorem unitS_bad {n i : Int} (h : n < 0 ∨ 65536 < n ∨ i < 0 ∨ n ≤ i) : unitS n i = ([], 2) := if_pos h
theorem unitS_good {n i : Int} (h : ¬ (n < 0 ∨ 65536 < n ∨ i < 0 ∨ n ≤ i)) : unitS n i = ((List.replicate n.toNat 0).set i.toNat 1, 0) := if_neg h
set_option maxRecDepth 100000 in
set_option maxHeartbeats 1000000 in
theorem Unit_any (n i : Int) (w : World) : Calls Try.prog 34 #[.int .i64 n, .int .i64 i] w (RetB 5 w (unitS n i).1 (unitS n i).2) := by
  by_cases h : n < 0 ∨ 65536 < n ∨ i < 0 ∨ n ≤ i
  · have HR := Lib.hid (unitS_bad h)
    by_cases a1 : n < 0
    · clear h
      go_enter Try.func34, Try.ntmps34
      go_wp2
      go_ret2
      rw [HR.out]
      exact RetB.nil _ _ _ _ (Below.refl _ _)
    · by_cases a2 : 65536 < n
      · clear h
        go_enter Try.func34, Try.ntmps34
        go_wp2
        go_ret2
        rw [HR.out]
        exact RetB.nil _ _ _ _ (Below.refl _ _)
      · by_cases a3 : i < 0
        · clear h
          go_enter Try.func34, Try.ntmps34
          go_wp2
          go_ret2
          rw [HR.out]
          exact RetB.nil _ _ _ _ (Below.refl _ _)
        · have a4 : n ≤ i := by omega
          clear h
          go_enter Try.func34, Try.ntmps34
          go_wp2
          go_ret2
          rw [HR.out]
          exact RetB.nil _ _ _ _ (Below.refl _ _)
  · have HR := Lib.hid (unitS_good h)
    obtain ⟨i0, hi, hz0, hz1, hz2⟩ := info_parts info_u8
    obtain ⟨m, rfl⟩ := Int.eq_ofNat_of_zero_le (show 0 ≤ n by omega)
    obtain ⟨k, rfl⟩ := Int.eq_ofNat_of_zero_le (show 0 ≤ i by omega)
    have hk : k < m := by omega
    have hm : m ≤ 65536 := by omega
    have m1 := Lib.hid (show m ≤ maxLen by unfold maxLen; omega); have m2 := Lib.hid (show 1 * m ≤ 281474976710656 by omega)
    have q1 : ¬ ((m : Int) < 0) := by omega
    have q2 : ¬ ((65536 : Int) < (m : Int)) := by omega
    have q3 : ¬ ((k : Int) < 0) := by omega
    have q4 : ¬ ((m : Int) ≤ (k : Int)) := by omega
    have q5 : (k : Int) < (m : Int) := by omega
    clear h
    go_enter Try.func34, Try.ntmps34
    go_wp2_with (at_make; refine wpList_make_full _ rfl _ _ 44 rfl w.heap.size 5 i0 (.int .u8 0) 1 Try.underlying44 hi hz0 hz1 .i64 .i64 _ _ m rfl rfl rfl rfl (by rw [hz2]; exact m2.out) m1.out (Nat.le_refl _) ?_)
    intro w1 ho hg
    have ho' : w1.ownsRow w.heap.size 5 1 (.slice (some ⟨w.heap.size, 0, none⟩) m m) m ((List.replicate m (0 : UInt8)).map B8) := by
      have e : (madeCells #[Value.int .u8 0] m).toList = (List.replicate m (0 : UInt8)).map B8 := by
        rw [List.map_replicate]; exact toList_madeCells_one _ _
      rw [← e]; exact ho
    have hcs : w1.cell? ⟨w.heap.size, k, none⟩ = some (B8 0) := by
      rw [ho'.cellAt k (by omega)]; simp [hk]
    have hfs : w1.frozen? ⟨w.heap.size, k, none⟩ = false := ho'.frozenAt k
    have HO := Lib.hid ho'; clear ho ho'
    have hw1 : Below w.heap.size w w1 := (Below.refl _ _).grown hg (Nat.le_refl _) (by simp)
    clear hg
    go_wp2
    go_ret2
    rw [HR.out]
    have st := HO.out.stored k (B8 1)
    rw [← List.map_set] at st
    exact ⟨_, m, m, by simp [Hid], rfl, by rw [Int.toNat_natCast, Int.toNat_natCast]; exact st.1, hw1.setCell (p := ⟨w.heap.size, k, none⟩) (Nat.le_refl _) _⟩
theorem unit_lead (n i : Int) : (unitS n i = ([], 2) ∧ (n < 0 ∨ 65536 < n ∨ i < 0 ∨ n ≤ i)) ∨ ∃ (m k : Nat), n = m ∧ i = k ∧ k < m ∧ m ≤ 65536 ∧ unitS n i = ((List.replicate m 0).set k 1, 0) ∧ leadS ((List.replicate m 0).set k 1) = k := by
  by_cases h : n < 0 ∨ 65536 < n ∨ i < 0 ∨ n ≤ i
  · exact .inl ⟨unitS_bad h, h⟩
  · right
    obtain ⟨m, rfl⟩ := Int.eq_ofNat_of_zero_le (show 0 ≤ n by omega)
    obtain ⟨k, rfl⟩ := Int.eq_ofNat_of_zero_le (show 0 ≤ i by omega)
    refine ⟨m, k, rfl, rfl, by omega, by omega, unitS_good h, ?_⟩
    refine idxf_found (x := 1) ?_ (by decide) ?_
    · rw [List.getElem?_set]; simp; omega
    · intro j y hj hy
      rw [List.getElem?_set, if_neg (by omega), List.getElem?_replicate] at hy
      split at hy
      · cases hy; decide
      · cases hy
set_option maxRecDepth 100000 in
set_option maxHeartbeats 4000000 in
theorem VT_main (p : Option Addr) (m c : Nat) (v : List UInt8) (n i : Int) (w : World) (h : Sl B8 w p m c v) (hm : m ≤ 100) (hn : ¬ (1000 < n ∧ n ≤ 65536)) :
    Calls Try.prog 6 #[.slice p m c, .int .i64 n, .int .i64 i] w fun e w' => e = .returned (.bool true) ∧ Below w.heap.size w w' := by
  have g1 : ¬ (100 : Int) < (m : Int) := by omega
  have H := Lib.hid h
  have hL : Hid ((leadS v = -1 ∧ zeroS v = true) ∨ (0 ≤ leadS v ∧ zeroS v = false)) := by
    rcases leadS_cases v with ⟨e1, e2, e3⟩ | ⟨k, x, e1, e2, e3, e4, e5⟩
    · left; exact ⟨e1, by unfold zeroS; rw [List.all_eq_true]; exact fun x hx => decide_eq_true (e3 x hx)⟩
    · right; exact ⟨by rw [e1]; omega, by unfold zeroS; rw [List.all_eq_false]; exact ⟨x, List.mem_of_getElem? e2, by simpa using e3⟩⟩
  have CL := Lib.hid (fun W a => Lead_any p m c v W a)
  have CR := Lib.hid (fun W a => RLead_any p m c v W a)
  have CZ := Lib.hid (fun W a => VZero_any p m c v W a)
  obtain ⟨L, eL⟩ : ∃ L, L = leadS v := ⟨_, rfl⟩
  obtain ⟨Z, eZ⟩ : ∃ Z, Z = zeroS v := ⟨_, rfl⟩
  rw [← eL] at hL CL CR
  rw [← eZ] at hL CZ
  have HAT : Hid (∀ (k : Nat) x, v[k]? = some x → atS v (k : Int) = x) := fun k x hx => by simp [atS, List.getD, hx]
  have HA0 : Hid (∀ k : Int, (k < 0 ∨ (m : Int) ≤ k) → atS v k = 0) := fun k hk => by
    rcases hk with hk | hk
    · simp [atS, show ¬ (0 ≤ k) by omega]
    · by_cases h0 : 0 ≤ k
      · simp only [atS, if_pos h0, List.getD]
        rw [List.getElem?_eq_none (by have := h.len; omega)]; rfl
      · simp [atS, h0]
  clear h eL eZ
  have hn2 : n ≤ 1000 ∨ 65536 < n := by omega
  have HN2 := Lib.hid hn2
  have hu := unit_lead n i
  clear hn hn2
  rcases hu with ⟨eu, hbad⟩ | ⟨m', k', rfl, rfl, hkm, hm6, eu, el⟩
  · rcases HN2.out with hn2 | hn2 <;> rcases hL.out with ⟨e1, e2⟩ | ⟨e1, e2⟩
    all_goals
      subst e2
      first | subst e1 | skip
      clear hL
      go_enter Try.func6, Try.ntmps6
      go_wp2_with fail
      refine (awake03 _).mono ?_; rintro e w1 ⟨rfl, hw1⟩
      go_wp2_with (first
        | (go_at_call 30; refine (CL.out _ (H.out.keep hw1)).mono ?_; rintro e w' ⟨rfl, rfl⟩)
        | (go_at_call 31; refine (CR.out _ (H.out.keep hw1)).mono ?_; rintro e w' ⟨rfl, rfl⟩)
        | (go_at_call 32; refine (CZ.out _ (H.out.keep hw1)).mono ?_; rintro e w' ⟨rfl, rfl⟩))
      go_loop [8] (fun k' => ∃ k : Int, -1 ≤ k ∧ k ≤ m + 1 ∧ k' = .int .i64 k) (fun k' => ((m : Int) + 1 - intOf k').toNat)
      case atStart => exact ⟨-1, by omega, by omega, rfl⟩
      case round =>
        obtain ⟨k, hk1, hk2, rfl⟩ := hrel
        by_cases hlt : k ≤ (m : Int)
        · have CA := Lib.hid (fun W a => At_any p m c v k W a)
          by_cases hin : 0 ≤ k ∧ k < (m : Int)
          · obtain ⟨j, rfl⟩ := Int.eq_ofNat_of_zero_le hin.1
            obtain ⟨b, o, x, rfl, hc, hx⟩ := (H.out.keep hw1).at j (by omega)
            rw [HAT.out j x hx.out] at CA
            have i1 : (j : Int) < (m : Int) := by omega
            have i0 : (0 : Int) ≤ (j : Int) := by omega
            have ht := u8_eq x
            clear hin
            go_wp2_with (go_at_call 33; refine (CA.out _ (H.out.keep hw1)).mono ?_; rintro e w' ⟨rfl, rfl⟩)
            go_round
            case rel => exact ⟨(j : Int) + 1, by omega, by omega, rfl⟩
            case measure => simp [intOf]; omega
          · rw [HA0.out k (by omega)] at CA
            by_cases h0 : 0 ≤ k
            · have h1 : ¬ k < (m : Int) := by omega
              clear hin
              go_wp2_with (go_at_call 33; refine (CA.out _ (H.out.keep hw1)).mono ?_; rintro e w' ⟨rfl, rfl⟩)
              go_round
              case rel => exact ⟨k + 1, by omega, by omega, rfl⟩
              case measure => simp [intOf]; omega
            · clear hin
              go_wp2_with (go_at_call 33; refine (CA.out _ (H.out.keep hw1)).mono ?_; rintro e w' ⟨rfl, rfl⟩)
              go_round
              case rel => exact ⟨k + 1, by omega, by omega, rfl⟩
              case measure => simp [intOf]; omega
        · have hkm : k = m + 1 := by omega
          clear hkm
          have CU := fun W => Unit_any n i W
          rw [eu] at CU
          have HCU := Lib.hid CU
          have HB := Lib.hid hbad
          clear CU
          go_wp2_with fail
          refine (HCU.out w1).mono ?_; rintro e w2 ⟨q, m2, c2, hm2, rfl, ho, hw2⟩
          have hm0 : m2 = 0 := hm2.out.symm
          subst hm0
          clear ho
          have k2 := bl hw1 hw2 hw1.size
          by_cases a1 : n < 0
          · go_wp2
            go_ret
            exact ⟨by simp, k2⟩
          · by_cases a2 : 65536 < n
            · go_wp2
              go_ret
              exact ⟨by simp, k2⟩
            · by_cases a3 : i < 0
              · go_wp2
                go_ret
                exact ⟨by simp, k2⟩
              · have a4 : n ≤ i := by have := HB.out; omega
                go_wp2
                go_ret
                exact ⟨by simp, k2⟩
  · have hn2 : (m' : Int) ≤ 1000 := by have := HN2.out; omega
    rcases hL.out with ⟨e1, e2⟩ | ⟨e1, e2⟩
    all_goals
      subst e2
      first | subst e1 | skip
      clear hL
      go_enter Try.func6, Try.ntmps6
      go_wp2_with fail
      refine (awake03 _).mono ?_; rintro e w1 ⟨rfl, hw1⟩
      go_wp2_with (first
        | (go_at_call 30; refine (CL.out _ (H.out.keep hw1)).mono ?_; rintro e w' ⟨rfl, rfl⟩)
        | (go_at_call 31; refine (CR.out _ (H.out.keep hw1)).mono ?_; rintro e w' ⟨rfl, rfl⟩)
        | (go_at_call 32; refine (CZ.out _ (H.out.keep hw1)).mono ?_; rintro e w' ⟨rfl, rfl⟩))
      go_loop [8] (fun k' => ∃ k : Int, -1 ≤ k ∧ k ≤ m + 1 ∧ k' = .int .i64 k) (fun k' => ((m : Int) + 1 - intOf k').toNat)
      case atStart => exact ⟨-1, by omega, by omega, rfl⟩
      case round =>
        obtain ⟨k, hk1, hk2, rfl⟩ := hrel
        by_cases hlt : k ≤ (m : Int)
        · have CA := Lib.hid (fun W a => At_any p m c v k W a)
          by_cases hin : 0 ≤ k ∧ k < (m : Int)
          · obtain ⟨j, rfl⟩ := Int.eq_ofNat_of_zero_le hin.1
            obtain ⟨b, o, x, rfl, hc, hx⟩ := (H.out.keep hw1).at j (by omega)
            rw [HAT.out j x hx.out] at CA
            have i1 : (j : Int) < (m : Int) := by omega
            have i0 : (0 : Int) ≤ (j : Int) := by omega
            have ht := u8_eq x
            clear hin
            go_wp2_with (go_at_call 33; refine (CA.out _ (H.out.keep hw1)).mono ?_; rintro e w' ⟨rfl, rfl⟩)
            go_round
            case rel => exact ⟨(j : Int) + 1, by omega, by omega, rfl⟩
            case measure => simp [intOf]; omega
          · rw [HA0.out k (by omega)] at CA
            by_cases h0 : 0 ≤ k
            · have h1 : ¬ k < (m : Int) := by omega
              clear hin
              go_wp2_with (go_at_call 33; refine (CA.out _ (H.out.keep hw1)).mono ?_; rintro e w' ⟨rfl, rfl⟩)
              go_round
              case rel => exact ⟨k + 1, by omega, by omega, rfl⟩
              case measure => simp [intOf]; omega
            · clear hin
              go_wp2_with (go_at_call 33; refine (CA.out _ (H.out.keep hw1)).mono ?_; rintro e w' ⟨rfl, rfl⟩)
              go_round
              case rel => exact ⟨k + 1, by omega, by omega, rfl⟩
              case measure => simp [intOf]; omega
        · have hkm : k = m + 1 := by omega
          clear hkm
          have CU := fun W => Unit_any (m' : Int) (k' : Int) W
          rw [eu] at CU
          have HCU := Lib.hid CU
          have HEL := Lib.hid el
          have HLen : Hid (((List.replicate m' (0 : UInt8)).set k' 1).length = m') := by simp [Hid]
          have HGet : Hid (∀ (j : Nat) x, ((List.replicate m' (0 : UInt8)).set k' 1)[j]? = some x → x = if j = k' then 1 else 0) := fun j x hx => by
            rw [List.getElem?_set] at hx
            by_cases e : k' = j
            · subst e; rw [if_pos rfl] at hx; rw [if_pos rfl]; split at hx <;> simp_all
            · rw [if_neg e, List.getElem?_replicate] at hx
              rw [if_neg (fun h => e h.symm)]
              split at hx
              · cases hx; rfl
              · cases hx
          clear CU
          generalize (List.replicate m' (0 : UInt8)).set k' 1 = U at *
          go_wp2_with fail
          refine (HCU.out w1).mono ?_; rintro e w2 ⟨q, m2, c2, hm2, rfl, ho, hw2⟩
          have hm0 : m2 = m' := hm2.out.symm.trans HLen.out
          subst hm0
          have S2 := Lib.hid (Sl.of_owns ho)
          clear ho
          have k2 := bl hw1 hw2 hw1.size
          have z1 : ¬ ((m2 : Int) < 0) := by omega
          have z2 : ¬ ((65536 : Int) < (m2 : Int)) := by omega
          have z3 : ¬ ((k' : Int) < 0) := by omega
          have z4 : ¬ ((m2 : Int) ≤ (k' : Int)) := by omega
          go_wp2
          go_loop [94] (fun x' => ∃ j : Nat, j ≤ m2 ∧ x' = .int .i64 j) (fun x' => m2 - (intOf x').toNat)
          case atStart => exact ⟨0, Nat.zero_le _, rfl⟩
          case round =>
            obtain ⟨j, hj, rfl⟩ := hrel
            by_cases hjl : j < m2
            · obtain ⟨b, o, x, rfl, hc, hx⟩ := S2.out.at j hjl
              have hxe := HGet.out j x hx.out
              by_cases hjk : j = k'
              · rw [if_pos hjk] at hxe
                subst hxe
                subst hjk
                have t1 : ((((1 : UInt8).toNat : Nat) : Int) != 0) = true := by decide
                have t2 : ((j : Int) == (j : Int)) = true := by simp
                have t3 : ¬ ((1 : Int) < (((1 : UInt8).toNat : Nat) : Int)) := by decide
                go_wp2
                go_round
                case rel => exact ⟨j + 1, by omega, by go_num⟩
                case measure => simp [intOf]; omega
              · rw [if_neg hjk] at hxe
                subst hxe
                have t2 : ((j : Int) == (k' : Int)) = false := by simp; omega
                have HJ := Lib.hid hjk; clear hjk
                go_wp2
                go_round
                case rel => exact ⟨j + 1, by omega, by go_num⟩
                case measure => simp [intOf]; omega
            · have CUL := Lib.hid (fun W a => Lead_any q m2 c2 U W a)
              rw [HEL.out] at CUL
              have hjm : j = m2 := by omega
              go_wp2_with (go_at_call 30; refine (CUL.out _ S2.out).mono ?_; rintro e w' ⟨rfl, rfl⟩)
              go_ret
              exact ⟨by simp, k2⟩
end Go.Proofs.Ythekakfddhgpcaa
