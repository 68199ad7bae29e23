/- The library: ParseUint of base 16, of texts that are numbers of at most sixteen letters. -/
import Derived.Test.YtmcehghbcjhkdaaDoorNP
import Derived.Lib.AtoiAllMem
import Derived.Lib.ConvBytes
import Derived.Lib.Walk
import Derived.Laws.Strings3
import Derived.Laws.Closers25
import Derived.Laws.Closers25b
import Derived.BigCall
import Derived.BigGuard
namespace Go.By
open Go.RowKit
theorem low_or : ∀ x : Fin 256, 97 ≤ x.val → x.val ≤ 102 → bits .or .u8 (x.val : Int) 32 = (x.val : Int) := by decide +kernel
theorem valT_take {l : List UInt8} {k : Nat} {c : UInt8} (h : l[k]? = some c) : valT (l.take (k + 1)) = hexd c + 16 * valT (l.take k) := by
  rw [List.take_add_one, h]; exact valT_snoc _ _
theorem isHex_iff {c : UInt8} : isHex c = true ↔ (48 ≤ c.toNat ∧ c.toNat ≤ 57) ∨ (97 ≤ c.toNat ∧ c.toNat ≤ 102) := by
  unfold isHex; rw [Bool.or_eq_true, decide_eq_true_eq, decide_eq_true_eq]
end Go.By
namespace Go.Proofs.YtmcehghbcjhkdaaDoor
open Go.RowKit Go.By
set_option maxHeartbeats 8000000 in
set_option maxRecDepth 100000 in
theorem ParseUint_in (l : List UInt8) (hne : l ≠ []) (hl : l.length ≤ 16) (hx : ∀ c, c ∈ l → isHex c = true) (w : World) :
    Calls Tryd.prog 41 #[.string (strB l), .int .i64 16, .int .i64 64] w fun e w' => e = .returned (.tuple #[.int .u64 (valT l : Nat), .nilIface]) ∧ Below w.heap.size w w' := by
  have hemp : (strB l).toList.isEmpty = false := by
    rw [← decide_eq_emptyBytes]
    exact decide_eq_false (fun h => hne (by have := congrArg (fun s : ByteArray => s.data.toList) h; simpa [strB_data] using this))
  have hcv := Lib.run_convert_string_bytes (P := Tryd.prog) w 9 34 5 (strB l) (u := .string) Tryd.underlying9 Tryd.underlying34 Tryd.underlying5
  have hB : ∀ j, j < (strB l).size → (Lib.bytesWorld w 5 (strB l)).cell? ⟨w.heap.size, j, none⟩ = some (.int .u8 ((strB l).data.toList.getD j 0).toNat) := fun j hj => Lib.bytesWorld_cell w 5 (strB l) j hj
  have HW : Hid (Below w.heap.size w (Lib.bytesWorld w 5 (strB l))) := ⟨rfl, rfl, rfl, by rw [Lib.bytesWorld_size]; omega, fun j hj => Lib.bytesWorld_at_old w 5 (strB l) j hj⟩
  obtain ⟨W1, hW1⟩ : ∃ W1, W1 = Lib.bytesWorld w 5 (strB l) := ⟨_, rfl⟩
  rw [← hW1] at hcv hB HW
  clear hW1
  rw [strB_data, strB_size] at hB
  obtain ⟨n, hn⟩ : ∃ n, l.length = n := ⟨_, rfl⟩
  have hsz : (strB l).size = n := by rw [strB_size, hn]
  rw [hn] at hB hl
  have HN := Lib.hid hn
  have HX := Lib.hid hx
  obtain ⟨S, hS⟩ : ∃ S, S = strB l := ⟨_, rfl⟩
  rw [← hS] at hemp hcv hsz ⊢
  clear hS hn hx hne
  have hmv : IntKind.u64.wrap (IntKind.u64.wrap 18446744073709551616 - 1) = 18446744073709551615 := by
    rw [IntKind.wrap_u64, IntKind.wrap_u64]
    decide
  go_enter Tryd.func41, Tryd.ntmps41
  go_wp2
  go_loop [12, 13, 101] (fun vu vn vi => ∃ (k : Nat) (a : Int), vu = .bool false ∧ vn = .int .u64 a ∧ vi = .int .i64 k ∧ k ≤ n ∧ 0 ≤ a ∧ Hid (a = (valT (l.take k) : Nat) ∧ valT (l.take k) < 16 ^ k))
    (fun _ _ vi => n - (intOf vi).toNat)
  case atStart => exact ⟨0, 0, rfl, rfl, rfl, by omega, by omega, rfl, by show valT (l.take 0) < _; rw [List.take_zero]; decide⟩
  case round =>
    obtain ⟨k, a, rfl, rfl, rfl, hk, a0, hh⟩ := hrel
    by_cases hkn : k < n
    · have hc := hB k hkn
      obtain ⟨c, hcl⟩ : ∃ c, l[k]? = some c := ⟨l[k]'(by have := HN.out; omega), List.getElem?_eq_getElem _⟩
      rw [List.getD_eq_getElem?_getD, hcl] at hc
      simp only [Option.getD_some] at hc
      have hhex := isHex_iff.1 (HX.out c (List.mem_of_getElem? hcl))
      have h15 : 16 ^ k ≤ 16 ^ 15 := Nat.pow_le_pow_right (by decide) (by omega)
      have icut : a < 1152921504606846976 := by have := hh.out.1; have := hh.out.2; omega
      have hstep : Hid (valT (l.take (k + 1)) = hexd c + 16 * valT (l.take k) ∧ valT (l.take (k + 1)) < 16 ^ (k + 1)) := by
        have e := valT_take hcl
        refine ⟨e, ?_⟩
        have h1 := hexd_lt (HX.out c (List.mem_of_getElem? hcl))
        have h2 := hh.out.2
        rw [e, Nat.pow_succ]; omega
      have hc256 : c.toNat < 256 := c.toNat_lt
      clear hB h15 hcl
      rcases hhex with ⟨d0, d1⟩ | ⟨d0, d1⟩
      · have HD : Hid (hexd c = c.toNat - 48) := by show _ = _; unfold hexd; rw [if_pos (by omega)]
        have iov : a * 16 + ((c.toNat : Int) - 48) < 18446744073709551616 := by omega
        go_wp2
        refine ⟨⟨k + 1, a * 16 + ((c.toNat : Int) - 48), rfl, rfl, by go_num, by omega, by omega, by have h1 := hstep.out.1; have h2 := hh.out.1; have h3 := HD.out; omega, hstep.out.2⟩, by simp [intOf]; omega⟩
      · have HD : Hid (hexd c = c.toNat - 87) := by show _ = _; unfold hexd; rw [if_neg (by omega)]
        have hor : bits .or .u8 (c.toNat : Int) 32 = (c.toNat : Int) := low_or ⟨c.toNat, hc256⟩ d0 d1
        have iov : a * 16 + ((c.toNat : Int) - 97 + 10) < 18446744073709551616 := by omega
        have dn : ¬ (c.toNat : Int) ≤ 57 := by omega
        have d97 : (97 : Int) ≤ (c.toNat : Int) := by omega
        have hlow : ∀ w, Calls Tryd.prog 49 #[.int .u8 (c.toNat : Int)] w fun e w' => e = .returned (.int .u8 (c.toNat : Int)) ∧ w' = w := fun w => by
          have := Tryd.internal_strconv_lower (c.toNat : Int) w
          rwa [hor] at this
        clear hor
        go_wp2_with fail
        refine Calls.mono (hlow _) ?_
        rintro e w' ⟨rfl, rfl⟩
        go_wp2_with fail
        refine Calls.mono (hlow _) ?_
        rintro e w' ⟨rfl, rfl⟩
        go_wp2_with fail
        refine Calls.mono (hlow _) ?_
        rintro e w' ⟨rfl, rfl⟩
        go_wp2
        refine ⟨⟨k + 1, a * 16 + ((c.toNat : Int) - 97 + 10), rfl, rfl, by go_num, by omega, by omega, by have h1 := hstep.out.1; have h2 := hh.out.1; have h3 := HD.out; omega, hstep.out.2⟩, by simp [intOf]; omega⟩
    · obtain rfl : k = n := by omega
      have HE : Hid (a = (valT l : Nat)) := by
        have := hh.out.1
        rw [List.take_of_length_le (by have := HN.out; omega)] at this
        exact this
      clear hB hh hkn
      go_wp2
      go_ret2
      exact ⟨by rw [← HE.out]; rfl, HW.out⟩
theorem ParseUint_s (l : List UInt8) (hne : l ≠ []) (hl : l.length ≤ 16) (hx : ∀ c, c ∈ l → isHex c = true) (w : World) :
    Calls Tryd.prog 32 #[.string (strB l), .int .i64 16, .int .i64 64] w fun e w' => e = .returned (.tuple #[.int .u64 (valT l : Nat), .nilIface]) ∧ Below w.heap.size w w' := by
  have HF := Lib.hid (ParseUint_in l hne hl hx w)
  obtain ⟨S, hS⟩ : ∃ S, S = strB l := ⟨_, rfl⟩
  rw [← hS] at HF ⊢
  clear hS
  go_enter Tryd.func32, Tryd.ntmps32
  go_wp2_with fail
  refine Calls.mono HF.out ?_
  rintro e w' ⟨rfl, hb⟩
  have HB := Lib.hid hb; clear hb
  go_wp2
  go_ret2
  exact ⟨rfl, HB.out⟩
end Go.Proofs.YtmcehghbcjhkdaaDoor
