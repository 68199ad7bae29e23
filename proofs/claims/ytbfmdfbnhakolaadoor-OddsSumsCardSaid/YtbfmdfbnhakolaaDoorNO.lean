/- The library: FormatUint of base 16. -/
import Derived.Test.YtbfmdfbnhakolaaDoorNH
import Derived.Lib.ItoaWalk
import Derived.Laws.IdiomStrings
namespace Go.By
open Go.RowKit
theorem idx_hex {P : Program} (t : TypeId) (ht : P.underlying t = some .string) (z : Int) (d : Nat) (hz : z = (d : Int)) (hd : d < 16) (w : World) :
    (Instr.index t (.string Lib.digits36) (.int .u64 z)).run P w = .ok (B8 (hexc d)) w := by
  subst hz
  rw [run_index_string w t Lib.digits36 _ _ ht, dif_pos ⟨by omega, by rw [Lib.digits36_size]; omega⟩]
  have e : ((d : Int)).toNat = d := by omega
  simp only [e]
  have key : ∀ d : Fin 16, Lib.digits36.data.toList[d.val]? = some (hexc d.val) := by decide +kernel
  have k := key ⟨d, hd⟩
  have hsz : d < Lib.digits36.size := by rw [Lib.digits36_size]; omega
  have : Lib.digits36[d]'hsz = hexc d := by
    rw [Array.getElem?_toList] at k
    have h2 : Lib.digits36.data[d]? = some (Lib.digits36[d]'hsz) := Array.getElem?_eq_getElem hsz
    rw [h2] at k
    exact Option.some.inj k
  rw [this]
theorem hexText_small {u : Nat} (h : u < 16) : hexText u = [hexc u] := by
  unfold hexText
  by_cases h0 : u = 0
  · subst h0; rfl
  · rw [if_neg h0, digs_pos (by decide) (by omega), Nat.div_eq_of_lt h, digs_zero, Nat.mod_eq_of_lt h]; rfl
theorem hexText_big {u : Nat} (h : 16 ≤ u) : hexText u = hexText (u / 16) ++ [hexc (u % 16)] := by
  have h1 : u / 16 ≠ 0 := by omega
  unfold hexText
  rw [if_neg (by omega), if_neg h1, digs_pos (by decide) (by omega), List.reverse_cons, List.map_append]; rfl
theorem hexText_pos (u : Nat) : 1 ≤ (hexText u).length := by
  have := hexText_ne u
  cases h : hexText u with
  | nil => exact absurd h this
  | cons _ _ => simp
theorem wr_u64 (n : Int) (h0 : 0 ≤ n) (h1 : n < 2 ^ 64) : IntKind.u64.wrap n = n := by
  rw [IntKind.wrap_u64]
  have : (2 : Int) ^ 64 = 18446744073709551616 := by decide
  omega
theorem and15 (u : Nat) (h : u < 18446744073709551616) : bits .and .u64 (u : Int) 15 = ((u % 16 : Nat) : Int) := by
  have h1 := (bits_nat .u64 64 (by decide) wr_u64 u 15 (by simpa using h) (by decide)).1
  rw [show ((15 : Int)) = ((15 : Nat) : Int) from rfl, h1]
  congr 1
  exact Nat.and_two_pow_sub_one_eq_mod u 4
end Go.By
namespace Go.Proofs.YtbfmdfbnhakolaaDoor
open Go.RowKit Go.By
/-- the one cell of the table that is read -/
def Tab (w : World) : Prop := w.cell? ⟨3, 15, none⟩ = some (.int .u8 4)
theorem Tab.keep {w w' : World} (h : Tab w) (hb : Below w.heap.size w w') : Tab w' := (hb.cell (p := ⟨3, 15, none⟩) (lt_of_cell h)).trans h
theorem Tz64 (w : World) (h : Tab w) : Calls Tryd.prog 125 #[.int .u64 16] w fun e w' => e = .returned (.int .i64 4) ∧ w' = w := by
  have hc : w.cell? ⟨3, 15, none⟩ = some (.int .u8 4) := h
  have key : IntKind.u64.wrap (bits BinOp.and IntKind.u64 16 (IntKind.u64.wrap (-16)) * 285870213051353865) / 288230376151711744 = 15 := by decide
  clear h
  go_enter Tryd.func125, Tryd.ntmps125
  go_wp2_with (simp only [key])
  go_ret
  exact ⟨rfl, rfl⟩
theorem Tz (w : World) (h : Tab w) : Calls Tryd.prog 120 #[.int .u64 16] w fun e w' => e = .returned (.int .i64 4) ∧ w' = w := by
  go_enter Tryd.func120, Tryd.ntmps120
  go_wp2_with fail
  refine Calls.mono (Tz64 w h) ?_
  rintro e w' ⟨rfl, rfl⟩
  go_wp2
  go_ret
  exact ⟨rfl, rfl⟩
theorem Pow2 (w : World) : Calls Tryd.prog 119 #[.int .i64 16] w fun e w' => e = .returned (.bool true) ∧ w' = w := by
  have key : bits BinOp.and IntKind.i64 16 15 = 0 := by decide
  go_enter Tryd.func119, Tryd.ntmps119
  go_wp2_with (simp only [key])
  go_ret
  exact ⟨rfl, rfl⟩
set_option maxRecDepth 100000 in
set_option maxHeartbeats 4000000 in
theorem formatBits_16 (n : UInt64) (w : World) (hT : Tab w) :
    Calls Tryd.prog 106 #[.slice none 0 0, W64 n, .int .i64 16, .bool false, .bool false] w fun e w' => e = .returned (.tuple #[.slice none 0 0, .string ⟨(hexText n.toNat).toArray⟩]) ∧ Below w.heap.size w w' := by
  have hA : ∀ o, Below w.heap.size w (w.alloc o) := fun o => al (Below.refl _ _) (Nat.le_refl _)
  have T1 : Hid (∀ o, Tab (w.alloc o)) := fun o => hT.keep (hA o)
  have HA := Lib.hid hA; clear hA
  have hn16 : Hid ((hexText n.toNat).length ≤ 16) := (hex_pad (k := 16) (by decide) (by have := n.toNat_lt; simpa using this)).2
  go_enter Tryd.func106, Tryd.ntmps106
  go_name_bytes_deep 40 PM hPM
  clear hPM
  go_name_bytes_deep 30 DG hDG
  have eDG : DG = Lib.digits36 := by rw [← hDG]; decide +kernel
  subst eDG
  clear hDG
  go_wp2_with fail
  refine Calls.mono (Pow2 _) ?_
  rintro e w' ⟨rfl, rfl⟩
  go_wp2_with fail
  refine Calls.mono (Tz _ (T1.out _)) ?_
  rintro e w' ⟨rfl, rfl⟩
  go_wp2
  go_loopw [1, 13] (fun uv iv wr => ∃ (u i : Nat) (L : List UInt8) (C : Array Value), uv = .int .u64 u ∧ iv = .int .i64 i ∧ u < 18446744073709551616 ∧ Hid (L.length + i = 65 ∧ C.size = 65 ∧ C.toList.drop i = L.map B8 ∧ hexText n.toNat = hexText u ++ L) ∧ Hid (wr.heap[w.heap.size]? = some (.cells C 161 (0, 0))) ∧ Hid (Below w.heap.size w wr)) (fun uv _ _ => (intOf uv).toNat)
  case atStart =>
    have h65 : Tryd.zeroCells161.size = 65 := by kernel_rfl
    exact ⟨n.toNat, 65, [], Tryd.zeroCells161, rfl, rfl, n.toNat_lt, ⟨rfl, h65, List.drop_of_length_le (by simp [h65]), by simp⟩, hnew rfl, HA.out _⟩
  case round =>
    obtain ⟨u, i, L, C, rfl, rfl, hu, hL, hh, hB⟩ := hrel
    obtain ⟨j, rfl⟩ : ∃ j, i = j + 1 := ⟨i - 1, by
      have h1 := hL.out.1; have h2 := congrArg List.length hL.out.2.2.2; have h3 := hexText_pos u; have h4 := hn16.out
      rw [List.length_append] at h2; omega⟩
    have hj65 : (j : Int) < 65 := by have := hL.out.1; omega
    have hjn : j < C.size := by have := hL.out.1; have := hL.out.2.1; omega
    obtain ⟨z, hz⟩ : ∃ z, wr.cell? ⟨w.heap.size, j, none⟩ = some z := ⟨_, by rw [cell_of_row _ _ j _ _ _ hh.out, Array.getElem?_eq_getElem hjn]⟩
    have hzf : wr.frozen? ⟨w.heap.size, j, none⟩ = false := frozen_of_row _ _ j _ _ hh.out
    have fin : Hid (∀ c : UInt8, (C.setIfInBounds j (B8 c)).size = 65 ∧ (C.setIfInBounds j (B8 c)).toList.drop j = (c :: L).map B8) := fun c => by
      refine ⟨by rw [Array.size_setIfInBounds]; exact hL.out.2.1, ?_⟩
      rw [Array.toList_setIfInBounds, List.drop_eq_getElem_cons (by simpa using hjn)]
      rw [List.getElem_set_self, List.drop_set_of_lt (by omega), hL.out.2.2.1]; rfl
    clear hjn
    by_cases h16 : 16 ≤ u
    · have hd := and15 u hu
      have hx : ∀ w, (Instr.index 9 (.string Lib.digits36) (.int .u64 ((u % 16 : Nat) : Int))).run Tryd.prog w = .ok (B8 (hexc (u % 16))) w := fun w => idx_hex _ Tryd.underlying9 _ (u % 16) rfl (Nat.mod_lt _ (by decide)) w
      have h16' : (16 : Int) ≤ (u : Int) := by omega
      obtain ⟨m, hm⟩ : ∃ m, m = u % 16 := ⟨_, rfl⟩
      rw [← hm] at hd hx
      have F : Hid ((hexc m :: L).length + j = 65 ∧ hexText n.toNat = hexText (u / 16) ++ (hexc m :: L)) := ⟨by have := hL.out.1; rw [List.length_cons]; omega, by rw [hL.out.2.2.2, hexText_big h16, hm, List.append_assoc]; rfl⟩
      obtain ⟨C', hC'⟩ : ∃ C', C' = C.setIfInBounds j (B8 (hexc m)) := ⟨_, rfl⟩
      have F2 : Hid (C'.size = 65 ∧ C'.toList.drop j = (hexc m :: L).map B8 ∧ (wr.setCell ⟨w.heap.size, j, none⟩ (B8 (hexc m))).heap[w.heap.size]? = some (.cells C' 161 (0, 0)) ∧ Below w.heap.size w (wr.setCell ⟨w.heap.size, j, none⟩ (B8 (hexc m)))) := ⟨by rw [hC']; exact (fin.out _).1, by rw [hC']; exact (fin.out _).2, by rw [hC']; exact hss hh.out, hB.out.setCell (Nat.le_refl _) _⟩
      clear hL hh hB hm h16 hC' fin
      go_wp2_with (first | simp only [hd] | simp only [hx])
      go_roundw
      case rel => exact ⟨u / 16, j, _, _, by go_num, rfl, by omega, ⟨F.out.1, F2.out.1, F2.out.2.1, F.out.2⟩, F2.out.2.2.1, F2.out.2.2.2⟩
      case measure => simp [intOf]; omega
    · have hx : ∀ w, (Instr.index 9 (.string Lib.digits36) (.int .u64 (u : Int))).run Tryd.prog w = .ok (B8 (hexc u)) w := fun w => idx_hex _ Tryd.underlying9 _ u rfl (by omega) w
      have h16' : ¬ (16 : Int) ≤ (u : Int) := by omega
      have hText : Hid (hexText n.toNat = hexc u :: L) := by show _ = _; rw [hL.out.2.2.2, hexText_small (by omega)]; rfl
      have hlen : j + (L.length + 1) = 65 := by have := hL.out.1; omega
      obtain ⟨C', hC'⟩ : ∃ C', C' = C.setIfInBounds j (B8 (hexc u)) := ⟨_, rfl⟩
      have hal : Tryd.prog.arrayLen 161 = 65 := by simp [Program.arrayLen, Tryd.underlying161]
      have hsl : ∀ W, (Instr.sliceAt 161 (.pointer (some ⟨w.heap.size, 0, none⟩)) (some (.int .i64 (j : Int))) none none).run Tryd.prog W = .ok (.slice (some ⟨w.heap.size, j, none⟩) (hexc u :: L).length (65 - j)) W := fun W => by
        rw [run_sliceAt_array_l W 161 ⟨w.heap.size, 0, none⟩ (by simp [Program.arrayLen, Program.elem, Tryd.underlying161]) .i64 (j : Int) (by omega) (by rw [hal]; omega)]
        go_simp
        omega
      have hcv : (convert 24 9 (.slice (some ⟨w.heap.size, j, none⟩) (hexc u :: L).length (65 - j))).run Tryd.prog (wr.setCell ⟨w.heap.size, j, none⟩ (B8 (hexc u))) = .ok (.string ⟨(hexc u :: L).toArray⟩) (wr.setCell ⟨w.heap.size, j, none⟩ (B8 (hexc u))) :=
        run_convert_bytes_back _ 24 9 5 ⟨w.heap.size, j, none⟩ (65 - j) (hexc u :: L) Tryd.underlying24 Tryd.underlying5 Tryd.underlying9 (fun t ht => by
          rw [Addr.add_lit, cell_of_row _ _ _ _ _ _ (hss hh.out)]
          have h2 := (fin.out (hexc u)).2
          have h3 := congrArg (fun l => l[t]?) h2
          simp only [List.getElem?_drop, List.getElem?_map] at h3
          rw [Array.getElem?_toList] at h3
          rw [h3, List.getElem?_eq_getElem ht]; rfl)
      have F2 : Hid (Below w.heap.size w (wr.setCell ⟨w.heap.size, j, none⟩ (B8 (hexc u)))) := hB.out.setCell (Nat.le_refl _) _
      obtain ⟨m, hm⟩ : ∃ m, (hexc u :: L).length = m := ⟨_, rfl⟩
      rw [hm] at hsl hcv
      obtain ⟨Z, hZ⟩ : ∃ Z, (hexc u :: L).toArray = Z := ⟨_, rfl⟩
      rw [hZ] at hcv
      have HZ : Hid ((hexText n.toNat).toArray = Z) := by show _ = _; rw [hText.out]; exact hZ
      clear hL hh hB h16 hC' fin hal hlen hm hZ hText
      go_wp2_with (first | simp only [hx] | simp only [hsl] | simp only [hcv])
      go_ret2
      exact ⟨by rw [HZ.out]; rfl, F2.out⟩
theorem FormatUint_in (n : UInt64) (w : World) (hT : Tab w) :
    Calls Tryd.prog 83 #[W64 n, .int .i64 16] w fun e w' => e = .returned (.string ⟨(hexText n.toNat).toArray⟩) ∧ Below w.heap.size w w' := by
  obtain ⟨Z, hZ⟩ : ∃ Z, (hexText n.toNat).toArray = Z := ⟨_, rfl⟩
  have HF := formatBits_16 n w hT
  rw [hZ] at HF ⊢
  clear hZ
  have HF := Lib.hid HF
  go_enter Tryd.func83, Tryd.ntmps83
  go_wp2_with fail
  refine Calls.mono HF.out ?_
  rintro e w' ⟨rfl, hb⟩
  have HB := Lib.hid hb; clear hb
  go_wp2
  go_ret
  exact ⟨rfl, HB.out⟩
theorem FormatUint_16 (n : UInt64) (w : World) (hT : Tab w) :
    Calls Tryd.prog 58 #[W64 n, .int .i64 16] w fun e w' => e = .returned (.string ⟨(hexText n.toNat).toArray⟩) ∧ Below w.heap.size w w' := by
  have HF := FormatUint_in n w hT
  obtain ⟨Z, hZ⟩ : ∃ Z, (hexText n.toNat).toArray = Z := ⟨_, rfl⟩
  rw [hZ] at HF ⊢
  clear hZ
  have HF := Lib.hid HF
  go_enter Tryd.func58, Tryd.ntmps58
  go_wp2_with fail
  refine Calls.mono HF.out ?_
  rintro e w' ⟨rfl, hb⟩
  have HB := Lib.hid hb; clear hb
  go_wp2
  go_ret
  exact ⟨rfl, HB.out⟩
end Go.Proofs.YtbfmdfbnhakolaaDoor
