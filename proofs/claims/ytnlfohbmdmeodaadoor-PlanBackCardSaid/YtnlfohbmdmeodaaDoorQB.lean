/- The library: FormatUint of base 10; Itoa; Join. -/
import Derived.Test.YtnlfohbmdmeodaaDoorQS
import Derived.Test.YtnlfohbmdmeodaaDoorQA
import Derived.Test.YtnlfohbmdmeodaaDoorS1
import Derived.Test.YtnlfohbmdmeodaaDoorShelf
import Derived.Lib.ItoaMem
import Derived.Lib.Join
import Derived.BigCall
import Derived.BigGuard
namespace Go.By
open Go.RowKit
theorem below_growN (w : World) (k : Nat) (os : Array Obj) : Below w.heap.size w (Sort.grow (w.drewN k) os) :=
  ⟨rfl, rfl, rfl, by rw [Sort.size_grow]; simp, fun i hi => by
    show (Sort.grow (w.drewN k) os).heap[i]? = w.heap[i]?
    rw [Sort.heap_grow_old (w.drewN k) os (by simpa using hi)]; simp⟩
theorem fin_pos0 (w : World) (o : Obj) (dk : Array UInt8) (k : Nat) : ∃ os, (Sort.putRow (fun (b : UInt8) => Value.int .u8 (b.toNat : Int)) (w.alloc o) w.heap.size 0 dk).drewN k = Sort.grow (w.drewN k) os := by
  rw [Sort.alloc_eq_grow]
  obtain ⟨os', _, e⟩ := Sort.putRow_grow_new (fun (b : UInt8) => Value.int .u8 (b.toNat : Int)) w #[o] w.heap.size 0 dk (Nat.le_refl _)
  exact ⟨os', by rw [e]; rfl⟩
theorem holds_zero0 (w : World) (T : TypeId) (nd : Nat) (hs : nd ≤ 24) : Sort.Holds (fun (b : UInt8) => Value.int .u8 (b.toNat : Int)) (w.alloc (.cells Lib.zeros24 T)) w.heap.size 0 (Array.replicate nd (0 : UInt8)) := fun j hj => by
  have hj' : j < nd := by simpa using hj
  rw [cell_of_row _ _ _ _ _ _ (hnew rfl), Nat.zero_add, Lib.zeros24_at j (by omega)]
  have e : (Array.replicate nd (0 : UInt8))[j]! = 0 := by
    rw [getElem!_pos (Array.replicate nd (0 : UInt8)) j hj]; exact Array.getElem_replicate ..
  rw [e]
  exact ⟨rfl, frozen_of_row _ _ j _ _ (hnew rfl)⟩
end Go.By
namespace Go.Proofs.YtnlfohbmdmeodaaDoor
open Go.RowKit Go.By
/-- the library's table of powers of ten -/
def Tab10 (w : World) : Prop := Lib.TabIs Tryd.prog w "internal/strconv.uint64pow10" .u64 Lib.pow10Tab
theorem Tab10.keep {w w' : World} (h : Tab10 w) (hb : Below w.heap.size w w') : Tab10 w' := by
  unfold Tab10 Lib.TabIs World.var? at *
  cases hg : Tryd.prog.globalNamed "internal/strconv.uint64pow10" with
  | none => rw [hg] at h; exact h
  | some g =>
    rw [hg] at h
    simp only [Option.bind_some] at h ⊢
    cases hh : w.heap[g]? with
    | none => rw [hh] at h; cases h
    | some o => rw [hb.block g (lt_of_block hh), hh]; rw [hh] at h; exact h
theorem Itoa_any (u : Nat) (h : u ≤ 9223372036854775807) (w : World) (hT : Tab10 w) : Calls Tryd.prog 21 #[.int .i64 u] w fun e w' => e = .returned (.string (strB (Lib.decDigits u))) ∧ Below w.heap.size w w' := by
  refine (Tryd.strconv_Itoa u (by omega) (by omega) w hT).mono ?_
  rintro e w' ⟨rfl, k, os, rfl⟩
  exact ⟨by rw [Lib.itoa_nonneg]; rfl, below_growN _ _ _⟩
theorem Join_s (b : Nat) (T : TypeId) (xs : List (List UInt8)) (sep : List UInt8) (n : Nat) (w : World) (hn : xs.length = n) (h : w.heap[b]? = some (.cells (xs.map fun x => Value.string (strB x)).toArray T (0, 0))) (hN : n ≤ 100000) (hlen : (Lib.join xs sep).length ≤ 100000000) :
    Calls Tryd.prog 19 #[.slice (some ⟨b, 0, none⟩) n n, .string (strB sep)] w fun e w' => e = .returned (.string (strB (Lib.join xs sep))) ∧ Below w.heap.size w w' := by
  subst hn
  have e1 : (xs.map strB).map (fun x => x.data.toList) = xs := by rw [List.map_map]; conv => rhs; rw [← List.map_id xs]
                                                                  apply List.map_congr_left; intro x _; exact strB_data x
  have := Tryd.strings_Join b 0 xs.length (xs.map strB) (strB sep) w (fun j x hj => ?_) (lt_of_block h) (by rw [List.length_map]; omega) (by simp) (by rw [e1, strB_data]; omega)
  · rw [e1, strB_data, List.length_map] at this
    exact this
  · rw [cell_of_row _ _ _ _ _ _ h, Nat.zero_add]
    rw [List.getElem?_map] at hj
    obtain ⟨y, hy, rfl⟩ := Option.map_eq_some_iff.1 hj
    simp [hy]
set_option maxRecDepth 100000 in
set_option maxHeartbeats 4000000 in
theorem FormatUint_in10 (u : Nat) (h : u < 18446744073709551616) (w : World) (hT : Tab10 w) :
    Calls Tryd.prog 29 #[.int .u64 u, .int .i64 10] w fun e w' => e = .returned (.string (strB (Lib.decDigits u))) ∧ Below w.heap.size w w' := by
  by_cases hs : u < 100
  · have hs' : (u : Int) < 100 := by omega
    go_enter Tryd.func29, Tryd.ntmps29
    go_wp2_with fail
    refine Calls.mono (Tryd.internal_strconv_small u hs _) ?_
    rintro e w' ⟨rfl, rfl⟩
    go_wp2
    go_ret
    exact ⟨rfl, Below.refl _ _⟩
  · have hu1 : 1 ≤ u := by omega
    have hs' : ¬ (u : Int) < 100 := by omega
    have hnd20 : Lib.nDigits u ≤ 20 := by have := Lib.numDigits_eq u hu1 h; split at this <;> omega
    have hal : Tryd.prog.arrayLen 71 = 24 := by simp [Program.arrayLen, Tryd.underlying71]
    have hsl1 : ∀ W, (Instr.sliceAt 71 (.pointer (some ⟨w.heap.size, 0, none⟩)) none (some (.int .i64 (Lib.nDigits u : Int))) none).run Tryd.prog W = .ok (.slice (some ⟨w.heap.size, 0, none⟩) (Lib.nDigits u) 24) W := fun W => by
      rw [run_sliceAt_array_h W 71 ⟨w.heap.size, 0, none⟩ (by simp [Program.arrayLen, Program.elem, Tryd.underlying71]) .i64 (Lib.nDigits u : Int) (by omega) (by rw [hal]; omega)]
      go_simp
    have hH0 := holds_zero0 w 71 (Lib.nDigits u) (by omega)
    have hfmt := Tryd.internal_strconv_formatBase10 w.heap.size 0 24 u (Array.replicate (Lib.nDigits u) 0) (w.alloc (.cells Lib.zeros24 71)) hH0 (by rw [Array.size_replicate]; exact Lib.lt_pow_nDigits u) h (by rw [Array.size_replicate]; omega)
    rw [Array.size_replicate] at hfmt
    have HH0 := Lib.hid hH0
    have HF := Lib.hid hfmt
    have HT := Lib.hid hT
    clear hH0 hal hfmt hT
    have hs2 : (100 : Int) ≤ (u : Int) := by omega
    clear hs' hs
    go_enter Tryd.func29, Tryd.ntmps29
    go_wp2_with fail
    refine Calls.mono (Tryd.internal_strconv_numDigits u hu1 h _ (Lib.tabIs_alloc HT.out _)) ?_
    rintro e w' ⟨rfl, rfl⟩
    go_wp2_with (first | simp only [hsl1])
    refine Calls.mono HF.out ?_
    rintro e w' ⟨rfl, k, v', dk, rfl, hF⟩
    have hcv : (convert 59 9 (.slice (some ⟨w.heap.size, 0, none⟩) (Lib.nDigits u) 24)).run Tryd.prog ((Sort.putRow (fun (b : UInt8) => Value.int .u8 (b.toNat : Int)) (w.alloc (.cells Lib.zeros24 71)) w.heap.size 0 dk).drewN k) = .ok (.string ⟨(Lib.decDigits u).toArray⟩) ((Sort.putRow (fun (b : UInt8) => Value.int .u8 (b.toNat : Int)) (w.alloc (.cells Lib.zeros24 71)) w.heap.size 0 dk).drewN k) := by
      have h := run_convert_bytes_back (P := Tryd.prog) ((Sort.putRow (fun (b : UInt8) => Value.int .u8 (b.toNat : Int)) (w.alloc (.cells Lib.zeros24 71)) w.heap.size 0 dk).drewN k) 59 9 5 ⟨w.heap.size, 0, none⟩ 24 (Lib.decDigits u) Tryd.underlying59 Tryd.underlying5 Tryd.underlying9 (fun j hj => by
        rw [Lib.row_is_numeral hF j hj, Lib.add_plain, World.cell?_drewN]
        exact Sort.cell?_putRow (fun (b : UInt8) => Value.int .u8 (b.toNat : Int)) _ w.heap.size 0 _ dk HH0.out (by rw [hF.size, Array.size_replicate]) j (by rw [hF.size]; rw [Lib.decDigits_length] at hj; exact hj))
      rw [Lib.decDigits_length] at h
      exact h
    go_wp2_with (first | simp only [hsl1] | simp only [hcv])
    go_ret
    obtain ⟨os, eo⟩ := fin_pos0 w (.cells Lib.zeros24 71) dk k
    exact ⟨rfl, by rw [eo]; exact below_growN _ _ _⟩
theorem FormatUint_10 (u : Nat) (h : u < 18446744073709551616) (w : World) (hT : Tab10 w) :
    Calls Tryd.prog 20 #[.int .u64 u, .int .i64 10] w fun e w' => e = .returned (.string (strB (Lib.decDigits u))) ∧ Below w.heap.size w w' := by
  have HF := Lib.hid (FormatUint_in10 u h w hT)
  clear h hT
  go_enter Tryd.func20, Tryd.ntmps20
  go_wp2_with fail
  refine Calls.mono HF.out ?_
  rintro e w' ⟨rfl, hb⟩
  have HB := Lib.hid hb; clear hb
  go_wp2
  go_ret
  exact ⟨rfl, HB.out⟩
end Go.Proofs.YtnlfohbmdmeodaaDoor
