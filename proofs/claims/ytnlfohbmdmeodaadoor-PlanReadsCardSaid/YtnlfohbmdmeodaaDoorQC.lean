/- The library: ParseUint of base 10, of 31 and of 32 bits, of texts of digits alone. -/
import Derived.Test.YtnlfohbmdmeodaaDoorQB
import Derived.Lib.AtoiAllMem
import Derived.Lib.ConvBytes
import Derived.Lib.Walk
import Derived.Laws.Strings3
import Derived.Laws.Closers25
import Derived.Laws.Closers25b
namespace Go.By
open Go.RowKit
theorem decV_take {l : List UInt8} {k : Nat} {c : UInt8} (h : l[k]? = some c) : decV 0 (l.take (k + 1)) = 10 * decV 0 (l.take k) + (c.toNat - 48) := by
  rw [List.take_add_one, h, decV_append]; rfl
theorem decV_take_le (l : List UInt8) (k : Nat) : decV 0 (l.take k) ≤ decV 0 l := by
  conv => rhs; rw [← List.take_append_drop k l, decV_append]
  exact decV_le _ _
/-- what ParseUint answers -/
def puR (T : TypeId) (M : Nat) (l : List UInt8) : Value := if decV 0 l ≤ M then .tuple #[.int .u64 (decV 0 l : Nat), .nilIface] else .tuple #[.int .u64 (M : Nat), .iface T (.int .i64 1)]
end Go.By
namespace Go.Proofs.YtnlfohbmdmeodaaDoor
open Go.RowKit Go.By
set_option maxHeartbeats 8000000 in
set_option maxRecDepth 100000 in
theorem ParseUint_in32 (l : List UInt8) (hne : l ≠ []) (hl : l.length ≤ 1000000) (hx : ∀ c ∈ l, isDig c = true) (w : World) :
    Calls Tryd.prog 43 #[.string (strB l), .int .i64 10, .int .i64 32] w fun e w' => e = .returned (puR 94 4294967295 l) ∧ Below w.heap.size w w' := by
  have hemp : (strB l).toList.isEmpty = false := by
    rw [← decide_eq_emptyBytes]
    exact decide_eq_false (fun h => hne (by have := congrArg (fun s : ByteArray => s.data.toList) h; simpa [strB_data] using this))
  have hcv := Lib.run_convert_string_bytes (P := Tryd.prog) w 9 59 5 (strB l) (u := .string) Tryd.underlying9 Tryd.underlying59 Tryd.underlying5
  have hB : ∀ j, j < (strB l).size → (Lib.bytesWorld w 5 (strB l)).cell? ⟨w.heap.size, j, none⟩ = some (.int .u8 ((strB l).data.toList.getD j 0).toNat) := fun j hj => Lib.bytesWorld_cell w 5 (strB l) j hj
  have HW : Hid (Below w.heap.size w (Lib.bytesWorld w 5 (strB l))) := ⟨rfl, rfl, rfl, by rw [Lib.bytesWorld_size]; omega, fun j hj => Lib.bytesWorld_at_old w 5 (strB l) j hj⟩
  obtain ⟨W1, hW1⟩ : ∃ W1, W1 = Lib.bytesWorld w 5 (strB l) := ⟨_, rfl⟩
  rw [← hW1] at hcv hB HW
  clear hW1
  rw [strB_data, strB_size] at hB
  obtain ⟨n, hn⟩ : ∃ n, l.length = n := ⟨_, rfl⟩
  have hsz : (strB l).size = n := by rw [strB_size, hn]
  rw [hn] at hB hl
  have HN := Lib.hid hn
  have HX := Lib.hid hx
  obtain ⟨S, hS⟩ : ∃ S, S = strB l := ⟨_, rfl⟩
  rw [← hS] at hemp hcv hsz ⊢
  clear hS hn hx hne
  have hmv : IntKind.u64.wrap (IntKind.u64.wrap 4294967296 - 1) = 4294967295 := by
    rw [IntKind.wrap_u64, IntKind.wrap_u64]
    decide
  go_enter Tryd.func43, Tryd.ntmps43
  go_wp2
  go_loop [12, 13, 101] (fun vu vn vi => ∃ (k : Nat) (a : Int), vu = .bool false ∧ vn = .int .u64 a ∧ vi = .int .i64 k ∧ k ≤ n ∧ 0 ≤ a ∧ a ≤ 4294967295 ∧ Hid (a = (decV 0 (l.take k) : Nat)))
    (fun _ _ vi => n - (intOf vi).toNat)
  case atStart => exact ⟨0, 0, rfl, rfl, rfl, by omega, by omega, by omega, by show (0 : Int) = ((decV 0 (l.take 0) : Nat) : Int); rw [List.take_zero]; rfl⟩
  case round =>
    obtain ⟨k, a, rfl, rfl, rfl, hk, a0, a1, hh⟩ := hrel
    by_cases hkn : k < n
    · have hc := hB k hkn
      obtain ⟨c, hcl⟩ : ∃ c, l[k]? = some c := ⟨l[k]'(by have := HN.out; omega), List.getElem?_eq_getElem _⟩
      rw [List.getD_eq_getElem?_getD, hcl] at hc
      simp only [Option.getD_some] at hc
      obtain ⟨d0, d1⟩ := isDig_le (HX.out c (List.mem_of_getElem? hcl))
      have icut : a < 1844674407370955162 := by omega
      have hstep : Hid (decV 0 (l.take (k + 1)) = 10 * decV 0 (l.take k) + (c.toNat - 48)) := decV_take hcl
      have hle : Hid (decV 0 (l.take (k + 1)) ≤ decV 0 l) := decV_take_le l (k + 1)
      have hc256 : c.toNat < 256 := c.toNat_lt
      have iov : a * 10 + ((c.toNat : Int) - 48) < 18446744073709551616 := by omega
      have ilo : a * 10 ≤ a * 10 + ((c.toNat : Int) - 48) := by omega
      clear hB hcl
      by_cases hM : a * 10 + ((c.toNat : Int) - 48) ≤ 4294967295
      · go_wp2
        refine ⟨⟨k + 1, a * 10 + ((c.toNat : Int) - 48), rfl, rfl, by go_num, by omega, by omega, by omega, by have h1 := hstep.out; have h2 := hh.out; show _ = _; omega⟩, by simp [intOf]; omega⟩
      · have hM' : 4294967295 < a * 10 + ((c.toNat : Int) - 48) := by omega
        have HE : Hid (puR 94 4294967295 l = .tuple #[.int .u64 (4294967295 : Nat), .iface 94 (.int .i64 1)]) := by
          show _ = _
          unfold puR
          rw [if_neg (by have h1 := hstep.out; have h2 := hh.out; have h3 := hle.out; omega)]
        clear hM hstep hh hle
        go_wp2
        go_ret2
        exact ⟨by rw [HE.out]; rfl, HW.out⟩
    · obtain rfl : k = n := by omega
      have HE : Hid (puR 94 4294967295 l = .tuple #[.int .u64 a, .nilIface]) := by
        have := hh.out
        rw [List.take_of_length_le (by have := HN.out; omega)] at this
        show _ = _
        unfold puR
        rw [if_pos (by omega), ← this]
      clear hB hh hkn
      go_wp2
      go_ret2
      exact ⟨by rw [HE.out]; rfl, HW.out⟩
set_option maxHeartbeats 8000000 in
set_option maxRecDepth 100000 in
theorem ParseUint_in31 (l : List UInt8) (hne : l ≠ []) (hl : l.length ≤ 1000000) (hx : ∀ c ∈ l, isDig c = true) (w : World) :
    Calls Tryd.prog 43 #[.string (strB l), .int .i64 10, .int .i64 31] w fun e w' => e = .returned (puR 94 2147483647 l) ∧ Below w.heap.size w w' := by
  have hemp : (strB l).toList.isEmpty = false := by
    rw [← decide_eq_emptyBytes]
    exact decide_eq_false (fun h => hne (by have := congrArg (fun s : ByteArray => s.data.toList) h; simpa [strB_data] using this))
  have hcv := Lib.run_convert_string_bytes (P := Tryd.prog) w 9 59 5 (strB l) (u := .string) Tryd.underlying9 Tryd.underlying59 Tryd.underlying5
  have hB : ∀ j, j < (strB l).size → (Lib.bytesWorld w 5 (strB l)).cell? ⟨w.heap.size, j, none⟩ = some (.int .u8 ((strB l).data.toList.getD j 0).toNat) := fun j hj => Lib.bytesWorld_cell w 5 (strB l) j hj
  have HW : Hid (Below w.heap.size w (Lib.bytesWorld w 5 (strB l))) := ⟨rfl, rfl, rfl, by rw [Lib.bytesWorld_size]; omega, fun j hj => Lib.bytesWorld_at_old w 5 (strB l) j hj⟩
  obtain ⟨W1, hW1⟩ : ∃ W1, W1 = Lib.bytesWorld w 5 (strB l) := ⟨_, rfl⟩
  rw [← hW1] at hcv hB HW
  clear hW1
  rw [strB_data, strB_size] at hB
  obtain ⟨n, hn⟩ : ∃ n, l.length = n := ⟨_, rfl⟩
  have hsz : (strB l).size = n := by rw [strB_size, hn]
  rw [hn] at hB hl
  have HN := Lib.hid hn
  have HX := Lib.hid hx
  obtain ⟨S, hS⟩ : ∃ S, S = strB l := ⟨_, rfl⟩
  rw [← hS] at hemp hcv hsz ⊢
  clear hS hn hx hne
  have hmv : IntKind.u64.wrap (IntKind.u64.wrap 2147483648 - 1) = 2147483647 := by
    rw [IntKind.wrap_u64, IntKind.wrap_u64]
    decide
  go_enter Tryd.func43, Tryd.ntmps43
  go_wp2
  go_loop [12, 13, 101] (fun vu vn vi => ∃ (k : Nat) (a : Int), vu = .bool false ∧ vn = .int .u64 a ∧ vi = .int .i64 k ∧ k ≤ n ∧ 0 ≤ a ∧ a ≤ 2147483647 ∧ Hid (a = (decV 0 (l.take k) : Nat)))
    (fun _ _ vi => n - (intOf vi).toNat)
  case atStart => exact ⟨0, 0, rfl, rfl, rfl, by omega, by omega, by omega, by show (0 : Int) = ((decV 0 (l.take 0) : Nat) : Int); rw [List.take_zero]; rfl⟩
  case round =>
    obtain ⟨k, a, rfl, rfl, rfl, hk, a0, a1, hh⟩ := hrel
    by_cases hkn : k < n
    · have hc := hB k hkn
      obtain ⟨c, hcl⟩ : ∃ c, l[k]? = some c := ⟨l[k]'(by have := HN.out; omega), List.getElem?_eq_getElem _⟩
      rw [List.getD_eq_getElem?_getD, hcl] at hc
      simp only [Option.getD_some] at hc
      obtain ⟨d0, d1⟩ := isDig_le (HX.out c (List.mem_of_getElem? hcl))
      have icut : a < 1844674407370955162 := by omega
      have hstep : Hid (decV 0 (l.take (k + 1)) = 10 * decV 0 (l.take k) + (c.toNat - 48)) := decV_take hcl
      have hle : Hid (decV 0 (l.take (k + 1)) ≤ decV 0 l) := decV_take_le l (k + 1)
      have hc256 : c.toNat < 256 := c.toNat_lt
      have iov : a * 10 + ((c.toNat : Int) - 48) < 18446744073709551616 := by omega
      have ilo : a * 10 ≤ a * 10 + ((c.toNat : Int) - 48) := by omega
      clear hB hcl
      by_cases hM : a * 10 + ((c.toNat : Int) - 48) ≤ 2147483647
      · go_wp2
        refine ⟨⟨k + 1, a * 10 + ((c.toNat : Int) - 48), rfl, rfl, by go_num, by omega, by omega, by omega, by have h1 := hstep.out; have h2 := hh.out; show _ = _; omega⟩, by simp [intOf]; omega⟩
      · have hM' : 2147483647 < a * 10 + ((c.toNat : Int) - 48) := by omega
        have HE : Hid (puR 94 2147483647 l = .tuple #[.int .u64 (2147483647 : Nat), .iface 94 (.int .i64 1)]) := by
          show _ = _
          unfold puR
          rw [if_neg (by have h1 := hstep.out; have h2 := hh.out; have h3 := hle.out; omega)]
        clear hM hstep hh hle
        go_wp2
        go_ret2
        exact ⟨by rw [HE.out]; rfl, HW.out⟩
    · obtain rfl : k = n := by omega
      have HE : Hid (puR 94 2147483647 l = .tuple #[.int .u64 a, .nilIface]) := by
        have := hh.out
        rw [List.take_of_length_le (by have := HN.out; omega)] at this
        show _ = _
        unfold puR
        rw [if_pos (by omega), ← this]
      clear hB hh hkn
      go_wp2
      go_ret2
      exact ⟨by rw [HE.out]; rfl, HW.out⟩
end Go.Proofs.YtnlfohbmdmeodaaDoor
