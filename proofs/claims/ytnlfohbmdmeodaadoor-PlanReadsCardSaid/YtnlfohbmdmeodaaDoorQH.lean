/- The plan's number. -/
import Derived.Test.YtnlfohbmdmeodaaDoorQF
namespace Go.Proofs.YtnlfohbmdmeodaaDoor
open Go.RowKit Go.By
theorem ParseUint_bits (l : List UInt8) (bs : Int) (M : Nat) (hb : (bs = 32 ∧ M = 4294967295) ∨ (bs = 31 ∧ M = 2147483647)) (hne : l ≠ []) (hl : l.length ≤ 1000000) (hx : ∀ c ∈ l, isDig c = true) (w : World) (hE : ErrI w) :
    Calls Tryd.prog 32 #[.string (strB l), .int .i64 10, .int .i64 bs] w fun e w' => ∃ v, e = .returned v ∧ PuRes M l v ∧ Below w.heap.size w w' := by
  rcases hb with ⟨rfl, rfl⟩ | ⟨rfl, rfl⟩
  · exact ParseUint_of l 32 4294967295 w hl hE (ParseUint_in32 l hne hl hx w)
  · exact ParseUint_of l 31 2147483647 w hl hE (ParseUint_in31 l hne hl hx w)
set_option maxRecDepth 100000 in
set_option maxHeartbeats 4000000 in
theorem number_any (l : List UInt8) (bs : Int) (M : Nat) (hb : (bs = 32 ∧ M = 4294967295) ∨ (bs = 31 ∧ M = 2147483647)) (w : World) (hl : l.length ≤ 1000000) (hE : ErrI w) :
    Calls Tryd.prog 23 #[.string (strB l), .int .i64 bs] w fun e w' => ∃ v, e = .returned v ∧ NumRes .u64 M l v ∧ Below w.heap.size w w' := by
  obtain ⟨n, hn⟩ : ∃ n, n = l.length := ⟨_, rfl⟩
  have hsz : (strB l).size = n := by rw [strB_size, hn]
  by_cases hne : l = []
  · subst hne
    have hemp : (strB []).toList.isEmpty = true := by rw [txt_emp]; rfl
    have H0 : Hid (numB M [] = none) := rfl
    obtain ⟨S, hS⟩ : ∃ S, S = strB [] := ⟨_, rfl⟩
    rw [← hS] at hsz hemp ⊢
    clear hS hb hE
    go_enter Tryd.func23, Tryd.ntmps23
    go_wp2
    go_ret2
    exact ⟨_, rfl, NumRes.no H0.out 0, Below.refl _ _⟩
  have hemp : (strB l).toList.isEmpty = false := by rw [txt_emp]; simpa using hne
  have hixk : Hid (∀ (k : Nat) (d : UInt8), l[k]? = some d → ∀ w, (Instr.index 9 (.string (strB l)) (.int .i64 (k : Int))).run Tryd.prog w = .ok (B8 d) w) := fun k d hd w => txt_idx _ Tryd.underlying9 hd _ _ rfl w
  have hn0 : 0 < n := by rw [hn]; exact List.length_pos_iff.2 hne
  obtain ⟨c0, hc0⟩ : ∃ c, l[0]? = some c := ⟨l[0]'(by omega), List.getElem?_eq_getElem _⟩
  have hix0 : ∀ w, (Instr.index 9 (.string (strB l)) (.int .i64 0)).run Tryd.prog w = .ok (B8 c0) w := hixk.out 0 c0 hc0
  have HN := Lib.hid hn
  have hcs := head_cases hc0
  have HPU : Hid (numG l = true → Calls Tryd.prog 32 #[.string (strB l), .int .i64 10, .int .i64 bs] w fun e w' => ∃ v, e = .returned v ∧ PuRes M l v ∧ Below w.heap.size w w') := fun hg => ParseUint_bits l bs M hb hne hl (numG_dig hg) w hE
  obtain ⟨S, hS⟩ : ∃ S, S = strB l := ⟨_, rfl⟩
  rw [← hS] at hsz hixk hemp hix0 HPU ⊢
  rw [← hn] at hl hcs
  clear hS hn hc0 hne hb hE
  rcases hcs with ⟨e1, e2, e3⟩ | ⟨e2, e3⟩
  · have h8 : B8 c0 = .int .u8 48 := by rw [e1]; rfl
    rw [h8] at hix0
    have H0 : Hid (numB M l = none) := numB_none e3
    have h1n : (1 : Int) < (n : Int) := by omega
    clear e1 e2 e3 h8
    go_enter Tryd.func23, Tryd.ntmps23
    go_wp2_with (simp only [hix0])
    go_ret2
    exact ⟨_, rfl, NumRes.no H0.out 0, Below.refl _ _⟩
  · have HG := Lib.hid e3
    have hhx : (∃ v : Int, (∀ w, (Instr.index 9 (.string S) (.int .i64 0)).run Tryd.prog w = .ok (.int .u8 v) w) ∧ (v == 48) = false) ∨ ((∀ w, (Instr.index 9 (.string S) (.int .i64 0)).run Tryd.prog w = .ok (.int .u8 48) w) ∧ ¬ (1 : Int) < (n : Int)) := by
      by_cases hc : c0 = 48
      · rcases e2 with h | h
        · exact absurd hc h
        · refine .inr ⟨?_, by omega⟩
          have h8 : B8 c0 = .int .u8 48 := by rw [hc]; rfl
          rw [h8] at hix0; exact hix0
      · exact .inl ⟨_, hix0, by rw [beq_eq_false_iff_ne]; intro e; exact hc (UInt8.toNat_inj.1 (by show c0.toNat = 48; omega))⟩
    clear e2 e3 hix0
    rcases hhx with ⟨v0, hix0, hv0⟩ | ⟨hix0, hv0⟩
    all_goals
      go_enter Tryd.func23, Tryd.ntmps23
      go_wp2_with (simp only [hix0])
      clear hix0 hv0
      go_loop [23] (fun i => ∃ (k : Nat), k ≤ n ∧ i = .int .i64 k ∧ Hid (∀ (j : Nat) (d : UInt8), j < k → l[j]? = some d → isDig d = true)) (fun i => n - (intOf i).toNat)
      case atStart => exact ⟨0, Nat.zero_le _, rfl, fun j d hj => by omega⟩
      case round =>
        obtain ⟨k, hk, rfl, hr⟩ := hrel
        by_cases hlt : k < n
        · obtain ⟨d, hd⟩ : ∃ d, l[k]? = some d := ⟨l[k]'(by have := HN.out; omega), List.getElem?_eq_getElem _⟩
          have hix := hixk.out k d hd
          have HD := Lib.hid hd
          have hlt' : (k : Int) < (n : Int) := by omega
          have hd256 : d.toNat < 256 := d.toNat_lt
          clear hd hlt
          by_cases hlo : d.toNat < 48
          · have H0 : Hid (numB M l = none) := numB_none (not_dig HD.out (by unfold isDig; simp; omega))
            have hlo' : (d.toNat : Int) < 48 := by omega
            clear hr HD hlo
            go_wp2_with (simp only [hix])
            go_ret2
            exact ⟨_, rfl, NumRes.no H0.out 0, Below.refl _ _⟩
          · by_cases hhi : 57 < d.toNat
            · have H0 : Hid (numB M l = none) := numB_none (not_dig HD.out (by unfold isDig; simp; omega))
              have hlo' : ¬ (d.toNat : Int) < 48 := by omega
              have hhi' : (57 : Int) < (d.toNat : Int) := by omega
              clear hr HD hlo hhi
              go_wp2_with (simp only [hix])
              go_ret2
              exact ⟨_, rfl, NumRes.no H0.out 0, Below.refl _ _⟩
            · have hlo' : ¬ (d.toNat : Int) < 48 := by omega
              have hhi' : ¬ (57 : Int) < (d.toNat : Int) := by omega
              have HQ : Hid (isDig d = true) := by show _ = _; unfold isDig; simp; omega
              clear hlo hhi
              go_wp2_with (simp only [hix])
              go_round
              case rel => exact ⟨k + 1, by omega, by go_num, fun j d' hj hd' => by
                rcases Nat.lt_or_ge j k with h | h
                · exact hr.out j d' h hd'
                · obtain rfl : j = k := by omega
                  have := HD.out
                  rw [hd'] at this; cases this; exact HQ.out⟩
              case measure => simp [intOf]; omega
        · obtain rfl : k = n := by omega
          have HD : Hid (numG l = true) := HG.out.trans (all_dig HN.out.symm hr.out)
          clear hr hlt
          go_wp2_with fail
          refine Calls.mono (HPU.out HD.out) ?_
          rintro e w' ⟨v, rfl, hv, hb⟩
          have HB := Lib.hid hb; clear hb
          rcases hv with ⟨h1, rfl⟩ | ⟨h1, t, p, rfl⟩
          · have H1 : Hid (numB M l = some (decV 0 l)) := by
              show _ = _
              unfold numB; rw [if_pos ⟨HD.out, h1⟩]
            clear h1
            generalize decV 0 l = x at *
            go_wp2
            go_quiet (fail)
            go_wp2
            go_ret2
            exact ⟨_, rfl, NumRes.yes H1.out, bdn HB.out⟩
          · have H1 : Hid (numB M l = none) := by
              show _ = _
              unfold numB; rw [if_neg (fun h => h1 h.2)]
            clear h1
            go_wp2
            go_quiet (fail)
            go_wp2
            go_ret2
            exact ⟨_, rfl, NumRes.no H1.out M, bdn HB.out⟩
end Go.Proofs.YtnlfohbmdmeodaaDoor
