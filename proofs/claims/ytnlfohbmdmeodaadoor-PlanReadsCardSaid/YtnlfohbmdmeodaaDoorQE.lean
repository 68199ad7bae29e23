/- The reference's word and Number. -/
import Derived.Test.YtnlfohbmdmeodaaDoorQS
import Derived.Test.YtnlfohbmdmeodaaDoorQA
import Derived.Test.YtnlfohbmdmeodaaDoorP1
import Derived.Lib.Walk
import Derived.OwnWalk
import Derived.Laws.Strings3
namespace Go.By
open Go.RowKit
theorem cutW_free {c : UInt8} : ∀ {l : List UInt8}, (∀ (j : Nat) (d : UInt8), l[j]? = some d → d ≠ c) → cutW c l = (l, none)
  | l, h => cutW_all (fun b hb => by
    obtain ⟨j, hj, e⟩ := List.getElem_of_mem hb
    exact h j b (by rw [List.getElem?_eq_getElem hj, e]))
theorem cutW_split {c : UInt8} {l : List UInt8} {k : Nat} (h : l[k]? = some c) (hf : ∀ (j : Nat) (d : UInt8), j < k → l[j]? = some d → d ≠ c) : cutW c l = (l.take k, some (l.drop (k + 1))) := by
  obtain ⟨hk, e⟩ := List.getElem?_eq_some_iff.1 h
  have e2 : l = l.take k ++ c :: l.drop (k + 1) := by
    conv => lhs; rw [← List.take_append_drop k l, List.drop_eq_getElem_cons hk, e]
  conv => lhs; rw [e2]
  exact cutW_app (fun b hb => by
    obtain ⟨j, hj, e⟩ := List.getElem_of_mem hb
    rw [List.getElem_take] at e
    have hj' : j < k := by rw [List.length_take] at hj; omega
    exact hf j b hj' (by rw [List.getElem?_eq_getElem (by omega), e])) _
theorem decV_snoc {l : List UInt8} {k : Nat} {c : UInt8} (h : l[k]? = some c) : decV 0 (l.take (k + 1)) = 10 * decV 0 (l.take k) + (c.toNat - 48) := by
  rw [List.take_add_one, h, decV_append]; rfl
theorem not_dig {l : List UInt8} {k : Nat} {c : UInt8} (h : l[k]? = some c) (hc : isDig c = false) : numG l = false := by
  have : l.all isDig = false := by
    rw [List.all_eq_false]
    exact ⟨c, List.mem_of_getElem? h, by rw [hc]; decide⟩
  unfold numG; rw [this]; simp
theorem all_dig {l : List UInt8} {n : Nat} (hn : l.length = n) (h : ∀ (j : Nat) (d : UInt8), j < n → l[j]? = some d → isDig d = true) : l.all isDig = true := List.all_eq_true.2 (fun b hb => by
  obtain ⟨j, hj, e⟩ := List.getElem_of_mem hb
  exact h j b (by omega) (by rw [List.getElem?_eq_getElem hj, e]))
theorem numB_none {M : Nat} {l : List UInt8} (h : numG l = false) : numB M l = none := by unfold numB; rw [if_neg (by rw [h]; simp)]
/-- what comes behind: a number, and whether it is one -/
def NumRes (K : IntKind) (M : Nat) (l : List UInt8) (v : Value) : Prop := ∃ x : Nat, v = .tuple #[.int K (x : Int), .bool (numB M l).isSome] ∧ ∀ y, numB M l = some y → x = y
theorem NumRes.no {K : IntKind} {M : Nat} {l : List UInt8} (h : numB M l = none) (x : Nat) : NumRes K M l (.tuple #[.int K (x : Int), .bool false]) := ⟨x, by rw [h]; rfl, fun y hy => by rw [h] at hy; cases hy⟩
theorem NumRes.yes {K : IntKind} {M : Nat} {l : List UInt8} {x : Nat} (h : numB M l = some x) : NumRes K M l (.tuple #[.int K (x : Int), .bool true]) := ⟨x, by rw [h]; rfl, fun y hy => by rw [h] at hy; exact Option.some.inj hy⟩
/-- what a first letter and a length say -/
theorem head_cases {l : List UInt8} {c : UInt8} (h : l[0]? = some c) : (c = 48 ∧ 1 < l.length ∧ numG l = false) ∨ ((c ≠ 48 ∨ l.length ≤ 1) ∧ numG l = l.all isDig) := by
  have hne : l ≠ [] := fun e => by subst e; cases h
  have hh : l.head? = some c := by rw [← h]; cases l <;> rfl
  unfold numG
  rw [hh, decide_eq_true hne]
  by_cases h1 : c = 48
  · by_cases h2 : 1 < l.length
    · exact .inl ⟨h1, h2, by rw [h1]; simp [h2]⟩
    · exact .inr ⟨.inr (by omega), by simp [h2]⟩
  · exact .inr ⟨.inl h1, by simp [h1]⟩
end Go.By
namespace Go.Proofs.YtnlfohbmdmeodaaDoor
open Go.RowKit Go.By
set_option maxRecDepth 100000 in
set_option maxHeartbeats 2000000 in
theorem Word_any (l : List UInt8) (w : World) (hl : l.length ≤ 1000000) :
    Calls Tryd.prog 24 #[.string (strB l)] w fun e w' => e = .returned (.tuple #[.string (strB (cutW 32 l).1), .string (strB ((cutW 32 l).2.getD [])), .bool (cutW 32 l).2.isSome]) ∧ Below w.heap.size w w' := by
  obtain ⟨n, hn⟩ : ∃ n, n = l.length := ⟨_, rfl⟩
  have hsz : (strB l).size = n := by rw [strB_size, hn]
  have hixk : Hid (∀ (k : Nat) (d : UInt8), l[k]? = some d → ∀ w, (Instr.index 9 (.string (strB l)) (.int .i64 (k : Int))).run Tryd.prog w = .ok (B8 d) w) := fun k d hd w => txt_idx _ Tryd.underlying9 hd _ _ rfl w
  have hsl : Hid (∀ (i j : Nat), (strB l).extract i j = strB ((l.take j).drop i)) := fun i j => txt_ext l i j
  have HN := Lib.hid hn
  obtain ⟨S, hS⟩ : ∃ S, S = strB l := ⟨_, rfl⟩
  have HS := Lib.hid hS
  rw [← hS] at hsz hixk hsl ⊢
  rw [← hn] at hl
  clear hS hn
  go_enter Tryd.func24, Tryd.ntmps24
  go_wp2
  go_loop [5] (fun i => ∃ k : Nat, k ≤ n ∧ i = .int .i64 k ∧ Hid (∀ (j : Nat) (d : UInt8), j < k → l[j]? = some d → d ≠ 32)) (fun i => n - (intOf i).toNat)
  case atStart => exact ⟨0, Nat.zero_le _, rfl, fun j d hj => by omega⟩
  case round =>
    obtain ⟨k, hk, rfl, hr⟩ := hrel
    by_cases hlt : k < n
    · obtain ⟨d, hd⟩ : ∃ d, l[k]? = some d := ⟨l[k]'(by have := HN.out; omega), List.getElem?_eq_getElem _⟩
      have hix := hixk.out k d hd
      have HD := Lib.hid hd
      have hlt' : (k : Int) < (n : Int) := by omega
      clear hd
      by_cases h32 : d = 32
      · have h8 : B8 d = .int .u8 32 := by rw [h32]; rfl
        rw [h8] at hix
        have HE : Hid (cutW 32 l = (l.take k, some (l.drop (k + 1)))) := cutW_split (by rw [HD.out, h32]) hr.out
        have hk1 : (k : Int) + 1 ≤ (n : Int) := by omega
        have hx1 : S.extract 0 k = strB (l.take k) := by rw [hsl.out]; rfl
        have hx2 : S.extract (k + 1) n = strB (l.drop (k + 1)) := by
          rw [hsl.out, HN.out, List.take_length]
        clear h32 h8 hr HD hlt
        go_wp2_with (first | simp only [hix] | fail)
        go_quiet (fail)
        go_wp2
        go_ret3
        exact ⟨by rw [HE.out]; simp [hx1, hx2], bdn (Below.refl _ _)⟩
      · have hv : ((d.toNat : Int) == 32) = false := by
          rw [beq_eq_false_iff_ne]; intro e; exact h32 (UInt8.toNat_inj.1 (by show d.toNat = 32; omega))
        have HQ := Lib.hid h32
        clear h32 hlt
        go_wp2_with (simp only [hix])
        go_round
        case rel => exact ⟨k + 1, by omega, by go_num, fun j d' hj hd' => by
          rcases Nat.lt_or_ge j k with h | h
          · exact hr.out j d' h hd'
          · obtain rfl : j = k := by omega
            have := HD.out
            rw [hd'] at this; cases this; exact HQ.out⟩
        case measure => simp [intOf]; omega
    · obtain rfl : k = n := by omega
      have HE : Hid (cutW 32 l = (l, none)) := cutW_free (fun j d hd => by
        have hj : j < l.length := (List.getElem?_eq_some_iff.1 hd).1
        exact hr.out j d (by have := HN.out; omega) hd)
      clear hr hlt
      go_wp2
      go_ret3
      exact ⟨by rw [HE.out, HS.out]; rfl, Below.refl _ _⟩
set_option maxRecDepth 100000 in
set_option maxHeartbeats 4000000 in
theorem RNumber_any (l : List UInt8) (M : Nat) (z : Int) (hz : z = (M : Int) + 1) (hM : M < 4294967296) (w : World) (hl : l.length ≤ 1000000) :
    Calls Tryd.prog 25 #[.string (strB l), .int .i64 z] w fun e w' => ∃ v, e = .returned v ∧ NumRes .i64 M l v ∧ Below w.heap.size w w' := by
  subst hz
  obtain ⟨n, hn⟩ : ∃ n, n = l.length := ⟨_, rfl⟩
  have hsz : (strB l).size = n := by rw [strB_size, hn]
  by_cases hne : l = []
  · subst hne
    have hemp : (strB []).toList.isEmpty = true := by rw [txt_emp]; rfl
    have H0 : Hid (numB M [] = none) := rfl
    obtain ⟨S, hS⟩ : ∃ S, S = strB [] := ⟨_, rfl⟩
    rw [← hS] at hsz hemp ⊢
    clear hS
    go_enter Tryd.func25, Tryd.ntmps25
    go_wp2
    go_ret2
    exact ⟨_, rfl, NumRes.no H0.out 0, Below.refl _ _⟩
  have hemp : (strB l).toList.isEmpty = false := by rw [txt_emp]; simpa using hne
  have hixk : Hid (∀ (k : Nat) (d : UInt8), l[k]? = some d → ∀ w, (Instr.index 9 (.string (strB l)) (.int .i64 (k : Int))).run Tryd.prog w = .ok (B8 d) w) := fun k d hd w => txt_idx _ Tryd.underlying9 hd _ _ rfl w
  have hn0 : 0 < n := by rw [hn]; exact List.length_pos_iff.2 hne
  obtain ⟨c0, hc0⟩ : ∃ c, l[0]? = some c := ⟨l[0]'(by omega), List.getElem?_eq_getElem _⟩
  have hix0 : ∀ w, (Instr.index 9 (.string (strB l)) (.int .i64 0)).run Tryd.prog w = .ok (B8 c0) w := hixk.out 0 c0 hc0
  have HN := Lib.hid hn
  have hcs := head_cases hc0
  obtain ⟨S, hS⟩ : ∃ S, S = strB l := ⟨_, rfl⟩
  rw [← hS] at hsz hixk hemp hix0 ⊢
  rw [← hn] at hl hcs
  clear hS hn hc0 hne
  rcases hcs with ⟨e1, e2, e3⟩ | ⟨e2, e3⟩
  · have h8 : B8 c0 = .int .u8 48 := by rw [e1]; rfl
    rw [h8] at hix0
    have H0 : Hid (numB M l = none) := numB_none e3
    have h1n : (1 : Int) < (n : Int) := by omega
    have h1m : 1 < n := e2
    clear e1 e2 e3 h8
    go_enter Tryd.func25, Tryd.ntmps25
    go_wp2_with (simp only [hix0])
    go_ret2
    exact ⟨_, rfl, NumRes.no H0.out 0, Below.refl _ _⟩
  · have HG := Lib.hid e3
    have hh : (1 : Int) < (n : Int) ∧ ((c0.toNat : Int) == 48) = false ∨ ¬ (1 : Int) < (n : Int) := by
      rcases e2 with h | h
      · by_cases h1 : (1 : Int) < (n : Int)
        · exact .inl ⟨h1, by rw [beq_eq_false_iff_ne]; intro e; exact h (UInt8.toNat_inj.1 (by show c0.toNat = 48; omega))⟩
        · exact .inr h1
      · exact .inr (by omega)
    clear e2 e3
    have hhx : (∃ v : Int, (∀ w, (Instr.index 9 (.string S) (.int .i64 0)).run Tryd.prog w = .ok (.int .u8 v) w) ∧ (1 : Int) < (n : Int) ∧ (v == 48) = false) ∨ ¬ (1 : Int) < (n : Int) := by
      rcases hh with ⟨a, b⟩ | a
      · exact .inl ⟨_, hix0, a, b⟩
      · exact .inr a
    clear hh hix0
    rcases hhx with ⟨v0, hix0, h1n, hv0⟩ | h1n
    all_goals
      go_enter Tryd.func25, Tryd.ntmps25
      go_wp2_with (first | simp only [hix0] | fail)
      try clear hix0 hv0
      clear h1n
      go_loop [6, 7] (fun nv i => ∃ (k a : Nat), k ≤ n ∧ i = .int .i64 k ∧ nv = .int .i64 (a : Int) ∧ a ≤ 4294967296 ∧ Hid (a = min (decV 0 (l.take k)) 4294967296 ∧ ∀ (j : Nat) (d : UInt8), j < k → l[j]? = some d → isDig d = true)) (fun _ i => n - (intOf i).toNat)
      case atStart => exact ⟨0, 0, Nat.zero_le _, rfl, rfl, by omega, by rw [List.take_zero]; rfl, fun j d hj => by omega⟩
      case round =>
        obtain ⟨k, a, hk, rfl, rfl, ha, hr⟩ := hrel
        by_cases hlt : k < n
        · obtain ⟨d, hd⟩ : ∃ d, l[k]? = some d := ⟨l[k]'(by have := HN.out; omega), List.getElem?_eq_getElem _⟩
          have hix := hixk.out k d hd
          have HD := Lib.hid hd
          have hlt' : (k : Int) < (n : Int) := by omega
          have hd256 : d.toNat < 256 := d.toNat_lt
          clear hd hlt
          by_cases hlo : d.toNat < 48
          · have H0 : Hid (numB M l = none) := numB_none (not_dig HD.out (by unfold isDig; simp; omega))
            have hlo' : (d.toNat : Int) < 48 := by omega
            clear hr HD hlo
            go_wp2_with (simp only [hix])
            go_ret2
            exact ⟨_, rfl, NumRes.no H0.out 0, Below.refl _ _⟩
          · by_cases hhi : 57 < d.toNat
            · have H0 : Hid (numB M l = none) := numB_none (not_dig HD.out (by unfold isDig; simp; omega))
              have hlo' : ¬ (d.toNat : Int) < 48 := by omega
              have hhi' : (57 : Int) < (d.toNat : Int) := by omega
              clear hr HD hlo hhi
              go_wp2_with (simp only [hix])
              go_ret2
              exact ⟨_, rfl, NumRes.no H0.out 0, Below.refl _ _⟩
            · have hlo' : ¬ (d.toNat : Int) < 48 := by omega
              have hlo2 : (48 : Int) ≤ (d.toNat : Int) := by omega
              have hhi' : ¬ (57 : Int) < (d.toNat : Int) := by omega
              have HQ : Hid (isDig d = true) := by show _ = _; unfold isDig; simp; omega
              obtain ⟨a2, ha2⟩ : ∃ a2, a2 = min (10 * a + (d.toNat - 48)) 4294967296 := ⟨_, rfl⟩
              have hmin : min (10 * (a : Int) + ((d.toNat : Int) - 48)) 4294967296 = (a2 : Int) := by omega
              have HS2 : Hid (a2 = min (decV 0 (l.take (k + 1))) 4294967296) := by
                show _ = _
                rw [ha2, decV_snoc HD.out, hr.out.1]; omega
              have ha2' : a2 ≤ 4294967296 := by omega
              clear ha2 hlo hhi
              go_wp2_with (first | simp only [hix] | simp only [hmin])
              go_round
              case rel => exact ⟨k + 1, a2, by omega, by go_num, by simp [hmin], ha2', HS2.out, fun j d' hj hd' => by
                rcases Nat.lt_or_ge j k with h | h
                · exact hr.out.2 j d' h hd'
                · obtain rfl : j = k := by omega
                  have := HD.out
                  rw [hd'] at this; cases this; exact HQ.out⟩
              case measure => simp [intOf]; omega
        · obtain rfl : k = n := by omega
          have HA : Hid (a = min (decV 0 l) 4294967296) := by
            have := hr.out.1
            rw [List.take_of_length_le (by have := HN.out; omega)] at this
            exact this
          have HD : Hid (numG l = true) := HG.out.trans (all_dig HN.out.symm hr.out.2)
          clear hr hlt
          by_cases hb : decV 0 l ≤ M
          · have H1 : Hid (numB M l = some a) := by
              show _ = _
              unfold numB; rw [if_pos ⟨HD.out, hb⟩, HA.out]; congr 1; omega
            have hlt : (a : Int) < (M : Int) + 1 := by have := HA.out; omega
            clear hb HA
            go_wp2
            go_ret2
            refine ⟨_, rfl, ?_, Below.refl _ _⟩
            have e := NumRes.yes (K := .i64) H1.out
            simpa [hlt] using e
          · have H1 : Hid (numB M l = none) := by
              show _ = _
              unfold numB; rw [if_neg (fun h => hb h.2)]
            have hlt : ¬ (a : Int) < (M : Int) + 1 := by have := HA.out; omega
            clear hb HA
            go_wp2
            go_ret2
            refine ⟨_, rfl, ?_, Below.refl _ _⟩
            have e := NumRes.no (K := .i64) H1.out a
            simpa [hlt] using e
end Go.Proofs.YtnlfohbmdmeodaaDoor
